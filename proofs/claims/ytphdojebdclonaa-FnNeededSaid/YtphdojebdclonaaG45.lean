/- Plain: the deeds that are needed. Walks: slices.Concat of rows, the program's Needed. No condition. -/
import Derived.Test.YtphdojebdclonaaG21
import Derived.Test.YtphdojebdclonaaG12
import Derived.Lib.AppendZerosOnto
import Derived.Lib.AppendZeros
namespace Go.Proofs.Ytphdojebdclonaa
open Go.RowKit

/-- a task without one of its deeds -/
def Sp.drop (t : Sp.Task) (k : Nat) : Sp.Task := ⟨t.start, t.goal, t.deeds.take k ++ t.deeds.drop (k + 1)⟩
/-- the deeds up to one without which there is no plan -/
def Sp.neededUp (t : Sp.Task) : Nat → List Int
  | 0 => []
  | m + 1 => if Sp.planThere (Sp.drop t m) = true then Sp.neededUp t m else Sp.neededUp t m ++ [(m : Int)]
def Sp.needed (t : Sp.Task) : List Int := if Sp.planThere t = true then Sp.neededUp t t.deeds.length else []
theorem neededUp_yes {t : Sp.Task} {m : Nat} (h : Sp.planThere (Sp.drop t m) = true) : Sp.neededUp t (m + 1) = Sp.neededUp t m := by
  show (if _ then _ else _) = _
  rw [if_pos h]
theorem neededUp_no {t : Sp.Task} {m : Nat} (h : Sp.planThere (Sp.drop t m) = false) : Sp.neededUp t (m + 1) = Sp.neededUp t m ++ [(m : Int)] := by
  show (if _ then _ else _) = _
  rw [if_neg (by rw [h]; decide)]
theorem neededUp_len (t : Sp.Task) (m : Nat) : (Sp.neededUp t m).length ≤ m := by
  induction m with
  | zero => exact Nat.le_refl _
  | succ m ih =>
    cases h : Sp.planThere (Sp.drop t m)
    · rw [neededUp_no h, List.length_append]; simp only [List.length_cons, List.length_nil]; omega
    · rw [neededUp_yes h]; omega
theorem neededUp_mem (t : Sp.Task) (m : Nat) : ∀ x ∈ Sp.neededUp t m, ∃ k : Nat, x = (k : Int) ∧ k < m ∧ Sp.planThere (Sp.drop t k) = false := by
  induction m with
  | zero => intro x hx; cases hx
  | succ m ih =>
    intro x hx
    cases h : Sp.planThere (Sp.drop t m)
    · rw [neededUp_no h, List.mem_append] at hx
      rcases hx with hx | hx
      · obtain ⟨k, h1, h2, h3⟩ := ih x hx; exact ⟨k, h1, by omega, h3⟩
      · rw [List.mem_singleton] at hx; exact ⟨m, hx, by omega, h⟩
    · rw [neededUp_yes h] at hx
      obtain ⟨k, h1, h2, h3⟩ := ih x hx; exact ⟨k, h1, by omega, h3⟩
theorem taskOk_parts {t : Sp.Task} : Sp.taskOk t = true ↔ Sp.stOk t.start = true ∧ Sp.codeOk t.goal = true ∧ t.deeds.length ≤ 6 ∧ ∀ d ∈ t.deeds, Sp.deedOk d = true := by
  unfold Sp.taskOk
  rw [Bool.and_eq_true, Bool.and_eq_true, Bool.and_eq_true, decide_eq_true_eq, List.all_eq_true, and_assoc, and_assoc]
theorem drop_ok {t : Sp.Task} (h : Sp.taskOk t = true) (k : Nat) : Sp.taskOk (Sp.drop t k) = true := by
  obtain ⟨h1, h2, h3, h4⟩ := taskOk_parts.1 h
  refine taskOk_parts.2 ⟨h1, h2, ?_, fun d hd => ?_⟩
  · show (t.deeds.take k ++ t.deeds.drop (k + 1)).length ≤ 6
    rw [List.length_append, List.length_take, List.length_drop]; omega
  · have hd2 : d ∈ t.deeds.take k ++ t.deeds.drop (k + 1) := hd
    rw [List.mem_append] at hd2
    rcases hd2 with h | h
    · exact h4 d (List.mem_of_mem_take h)
    · exact h4 d (List.mem_of_mem_drop h)
theorem drop_len {t : Sp.Task} {k r : Nat} (h : t.deeds.length = k + r + 1) : (Sp.drop t k).deeds.length = k + r := by
  show (t.deeds.take k ++ t.deeds.drop (k + 1)).length = _
  rw [List.length_append, List.length_take, List.length_drop]; omega
/-- a row left out of the rows -/
def Sp.dropF (k : Nat) (F : Nat → Int) (p : Nat) : Int := if p < k * 32 then F p else F (p + 32)
theorem flat_drop (t : Sp.Task) {k : Nat} (hk : k < t.deeds.length) (p : Nat) : Sp.flat (Sp.drop t k).deeds p = Sp.dropF k (Sp.flat t.deeds) p := by
  have h1 : ∀ q, (t.deeds.take k ++ t.deeds.drop (k + 1)).getD q default = if q < k then t.deeds.getD q default else t.deeds.getD (q + 1) default := by
    intro q
    rw [List.getD_eq_getElem?_getD, List.getD_eq_getElem?_getD, List.getD_eq_getElem?_getD]
    by_cases hq : q < k
    · rw [if_pos hq, List.getElem?_append_left (by rw [List.length_take]; omega), List.getElem?_take, if_pos hq]
    · rw [if_neg hq, List.getElem?_append_right (by rw [List.length_take]; omega), List.getElem?_drop, List.length_take, Nat.min_eq_left (by omega)]
      congr 2; omega
  show Sp.stepI ((t.deeds.take k ++ t.deeds.drop (k + 1)).getD (p / 32) default) (p % 32) = _
  unfold Sp.dropF
  rw [h1]
  by_cases hp : p < k * 32
  · rw [if_pos hp, if_pos (by omega)]; rfl
  · rw [if_neg hp, if_neg (by omega)]
    show _ = Sp.stepI (t.deeds.getD ((p + 32) / 32) default) ((p + 32) % 32)
    rw [show (p + 32) / 32 = p / 32 + 1 by omega, show (p + 32) % 32 = p % 32 by omega]
theorem edge_congr {n : Nat} {F F' : Nat → Int} (h : ∀ p, p < n * 32 → F p = F' p) : ∀ s u, s < 32 → Sp.edge n F s u = Sp.edge n F' s u := by
  intro s u hs
  apply Bool.eq_iff_iff.2
  rw [edge_iff, edge_iff]
  constructor
  · rintro ⟨k, hk, he⟩; exact ⟨k, hk, by rw [← h _ (by omega)]; exact he⟩
  · rintro ⟨k, hk, he⟩; exact ⟨k, hk, by rw [h _ (by omega)]; exact he⟩
theorem RowsF.congr {w : World} {g n : Nat} {F F' : Nat → Int} (h : RowsF w g n F) (he : ∀ p, p < n * 32 → F p = F' p) : RowsF w g n F' :=
  ⟨h.1, fun p hp => by rw [← he p hp]; exact h.2.1 p hp, fun p hp => by rw [← he p hp]; exact h.2.2 p hp⟩

/-- rows of one's own, or none -/
def NewRows (n : Nat) (F : Nat → Int) (v : Value) (w' : World) : Prop := ∃ A c g, v = .slice A n c ∧ (0 < n → A = some ⟨g, 0, none⟩) ∧ RowsF w' g n F

set_option maxHeartbeats 2000000 in
set_option maxRecDepth 100000 in
theorem c_growRows (n : Nat) (w : World) (hn : n ≤ 6) : Calls Try.prog 72 #[.slice none 0 0, .int .i64 (n : Int)] w
    (fun e w' => ∃ A c, e = .returned (.slice A 0 c) ∧ w'.ownsRow w.heap.size 64 32 (.slice A 0 c) 0 [] ∧ Kept w w') := by
  obtain ⟨i0, hi0, hz0, hz1, hz2⟩ := info_parts info_row
  by_cases h0 : n = 0
  · subst h0
    clear hi0 hz0 hz1 hz2
    go_enter Try.func72, Try.ntmps72
    go_wp2_with fail
    go_ret
    exact ⟨_, _, rfl, World.ownsRow_nil _ _ _ _, Kept.refl _⟩
  obtain ⟨G, hG⟩ : ∃ G, G = grownCap w n 0 64 := ⟨_, rfl⟩
  have hGn : n ≤ G := by rw [hG]; exact grownCap_ge w _ _ _
  have hGm : G ≤ maxLen := by rw [hG]; exact grownCap_le_maxLen w n 0 _ (by unfold maxLen; omega)
  have hG63 : G ≤ 9223372036854775807 := by unfold maxLen at hGm; omega
  have HGm := Lib.hid hGm
  have hrz : ∃ cur : Array Value, cur.size = G * 32 ∧ ∀ ty, (Builtin.append_ #[58, 3] ty #[.slice none 0 0, .int .i64 (n : Int)]).run Try.prog w = .ok (.slice (some ⟨w.heap.size, 0, none⟩) n G) (w.drew.alloc (.cells cur 64)) := by
    have hfit := growslice_fits (need := 0 + n) (old := 0) (bytes := 256) (by omega) (by omega)
    refine ⟨([] : List Value).toArray ++ Builtin.zeroCells (Value.agg zeros32).cells n ++ Builtin.zeroCells (Value.agg zeros32).cells (grownCap w n 0 64 - n), ?_, fun ty => ?_⟩
    rotate_left
    · have h := Lib.run_append_grow_zeros (P := Try.prog) w 58 3 ty 64 i0 _ .i64 .i64 Try.underlying58 Try.underlying3 hi0 hz0 none 0 0 [] (run_firstCells_none w.drew i0.size 0 0 0) n (by omega) (by rw [hz1]; decide) (by omega) (by omega) (by rw [hz2]; omega) (by rw [hz2]; exact hfit)
      rw [show 0 + n = n by omega] at h
      rw [hG]
      exact h
    · rw [← hG]
      have hzs : (Value.agg zeros32).cells.size = 32 := zeros_size
      simp only [Array.size_append, size_zeroCells, hzs]
      show 0 + n * 32 + (G - n) * 32 = G * 32
      omega
  obtain ⟨cur, hcur, hrun⟩ := hrz
  have HC := Lib.hid hcur
  have h1 : ¬ ((n : Int) < 0) := by omega
  have h4 : (0 : Int) < (n : Int) := by omega
  have h5 : IntKind.i64.wrap (n : Int) = (n : Int) := by rw [IntKind.wrap_i64]; omega
  clear hG hcur hi0 hz0 hz1 hz2 hGm
  go_enter Try.func72, Try.ntmps72
  go_wp2_with (at_builtin; refine Lib.wpList_append_run _ rfl _ _ _ _ rfl _ _ rfl rfl _ _ (hrun _) ?_)
  all_goals (go_ret; exact ⟨_, _, rfl, World.ownsRow_made w.drew cur G (Nat.le_refl _) HGm.out HC.out, ((Kept.refl w).drew).alloc _⟩)

theorem addr_add (g o j : Nat) : (⟨g, o, none⟩ : Addr).add j = ⟨g, o + j, none⟩ := by
  unfold Addr.add
  split
  · rename_i h; subst h; rfl
  · rfl
/-- the cells of some rows -/
def rowVals (F : Nat → Int) (a m : Nat) : List Value := (List.range (m * 32)).map fun p => .int .i64 (F (a * 32 + p))
theorem rowVals_len (F : Nat → Int) (a m : Nat) : (rowVals F a m).length = m * 32 := by unfold rowVals; simp
theorem rowVals_at (F : Nat → Int) (a m p : Nat) (h : p < m * 32) : (rowVals F a m)[p]? = some (.int .i64 (F (a * 32 + p))) := by unfold rowVals; simp [h]
theorem rowVals_one (F : Nat → Int) (a m : Nat) : ∀ u ∈ rowVals F a m, u.oneCell' = true := by
  intro u hu
  unfold rowVals at hu
  rw [List.mem_map] at hu
  obtain ⟨p, _, rfl⟩ := hu
  rfl
theorem rowVals_cell {w : World} {g n a m off : Nat} {F : Nat → Int} (h : RowsF w g n F) (ha : a + m ≤ n) (ho : 0 < m → off = a * 32) :
    ∀ j u, (rowVals F a m)[j]? = some u → w.cell? ((⟨g, off, none⟩ : Addr).add j) = some u := by
  intro j u hj
  have hl : j < m * 32 := by have := (List.getElem?_eq_some_iff.1 hj).1; rw [rowVals_len] at this; exact this
  rw [rowVals_at _ _ _ _ hl] at hj
  injection hj with hj
  subst hj
  have := h.2.1 (a * 32 + j) (by have : a * 32 + m * 32 ≤ n * 32 := by omega
                                 omega)
  rw [ho (by omega), addr_add]
  exact this
theorem concat_rows {w0 w w' : World} {g k r E : Nat} {A : Option Addr} {c : Nat} {F : Nat → Int} (h : RowsF w0 g (k + r + 1) F) (hown : w'.ownsRow w.heap.size 64 32 (.slice A (k + r) c) (k + r) (rowVals F 0 k ++ rowVals F (k + 1) r)) (hE : E < w'.heap.size) :
    NewRows (k + r) (Sp.dropF k F) (.slice A (k + r) c) w' := by
  have hb : ∀ p, p < (k + r) * 32 → -1 ≤ Sp.dropF k F p ∧ Sp.dropF k F p ≤ 31 := by
    intro p hp
    unfold Sp.dropF
    split
    · exact h.2.2 p (by omega)
    · exact h.2.2 (p + 32) (by omega)
  by_cases h0 : 0 < k + r
  · obtain ⟨_, g', rfl, _, hgl, _⟩ := own_some hown h0
    have hc := hown.cells (g := g') rfl
    refine ⟨_, c, g', rfl, fun _ => rfl, hgl, fun p hp => ?_, hb⟩
    have hx : (rowVals F 0 k ++ rowVals F (k + 1) r)[p]? = some (.int .i64 (Sp.dropF k F p)) := by
      unfold Sp.dropF
      by_cases hpk : p < k * 32
      · rw [if_pos hpk, List.getElem?_append_left (by rw [rowVals_len]; exact hpk), rowVals_at _ _ _ _ hpk, Nat.zero_mul, Nat.zero_add]
      · rw [if_neg hpk, List.getElem?_append_right (by rw [rowVals_len]; omega), rowVals_len, rowVals_at _ _ _ _ (by omega), show (k + 1) * 32 + (p - k * 32) = p + 32 by omega]
    have := hc p _ hx
    rw [addr_add, Nat.zero_add] at this
    exact this
  · exact ⟨A, c, E, rfl, fun h => absurd h h0, hE, fun p hp => by omega, hb⟩

set_option maxHeartbeats 2000000 in
set_option maxRecDepth 100000 in
theorem c_concatRows (g c1 c2 k r E off : Nat) (F : Nat → Int) (w : World) (h : RowsF w g (k + r + 1) F) (hn : k + r + 1 ≤ 6) (hE : E < w.heap.size)
    (h0 : w.cell? ⟨E, 0, none⟩ = some (.slice (some ⟨g, 0, none⟩) k c1)) (h1 : w.cell? ⟨E, 1, none⟩ = some (.slice (some ⟨g, off, none⟩) r c2)) (hoff : 0 < r → off = (k + 1) * 32) :
    Calls Try.prog 41 #[.slice (some ⟨E, 0, none⟩) 2 2] w (RetS (NewRows (k + r) (Sp.dropF k F)) w) := by
  obtain ⟨i0, hi0, hz0, hz1, hz2⟩ := info_parts info_row
  have HI := Lib.hid (And.intro hi0 (And.intro hz0 (And.intro hz1 hz2)))
  have HX1 := Lib.hid (rowVals_len F 0 k)
  have HX2 := Lib.hid (rowVals_len F (k + 1) r)
  clear hi0 hz0 hz1 hz2
  have hw1 : IntKind.i64.wrap (k : Int) = (k : Int) := by rw [IntKind.wrap_i64]; omega
  have hw2 : IntKind.i64.wrap ((k : Int) + (r : Int)) = ((k + r : Nat) : Int) := by rw [IntKind.wrap_i64]; omega
  have hp1 : ¬ (k : Int) < 0 := by omega
  have hp2 : ¬ ((k + r : Nat) : Int) < 0 := by omega
  go_enter Try.func41, Try.ntmps41
  go_wp2_with fail
  go_loop [11, 3] (fun i s => (i = .int .i64 0 ∧ s = .int .i64 0) ∨ (i = .int .i64 1 ∧ s = .int .i64 (k : Int)) ∨ (i = .int .i64 2 ∧ s = .int .i64 ((k + r : Nat) : Int))) (fun i _ => 2 - (intOf i).toNat)
  case atStart => exact .inl ⟨rfl, rfl⟩
  case round =>
    rcases hrel with ⟨rfl, rfl⟩ | ⟨rfl, rfl⟩ | ⟨rfl, rfl⟩
    · go_wp2_with fail
      exact ⟨.inr (.inl ⟨rfl, rfl⟩), by simp [intOf]⟩
    · go_wp2_with fail
      exact ⟨.inr (.inr ⟨rfl, rfl⟩), by simp [intOf]⟩
    · go_wp2_with fail
      refine (c_growRows (k + r) _ (by omega)).mono ?_; rintro e w1 ⟨A0, c0, rfl, hown0, hk0⟩
      have hE0 := Nat.lt_of_lt_of_le hE hk0.size
      go_wp2_with fail
      go_loopw [27, 6] (fun i v wr => ∃ (j m : Nat) (A : Option Addr) (c : Nat) (xs : List Value), i = .int .i64 (j : Int) ∧ v = .slice A m c ∧ wr.ownsRow w.heap.size 64 32 (.slice A m c) m xs ∧ Kept w wr ∧ Hid ((j = 0 ∧ 0 = m ∧ xs = []) ∨ (j = 1 ∧ k = m ∧ xs = rowVals F 0 k) ∨ (j = 2 ∧ k + r = m ∧ xs = rowVals F 0 k ++ rowVals F (k + 1) r))) (fun i _ _ => 2 - (intOf i).toNat)
      case atStart => exact ⟨0, 0, A0, c0, [], rfl, rfl, hown0, hk0, .inl ⟨rfl, rfl, rfl⟩⟩
      case round =>
        clear hown0 hk0
        obtain ⟨j, m, A, c, xs, rfl, rfl, hown, hkp, HJ⟩ := hrel
        have hsz := hkp.size
        have hR := h.keep hkp
        have d0 := hkp.at_ h0
        have d1 := hkp.at_ h1
        rcases HJ.out with ⟨rfl, rfl, rfl⟩ | ⟨rfl, rfl, rfl⟩ | ⟨rfl, rfl, rfl⟩
        · have HC := Lib.hid (rowVals_cell (off := 0) (a := 0) (m := k) hR (by omega) (fun _ => by omega))
          clear HJ hR
          go_wp2_with (at_builtin; refine wpList_append_own _ rfl (.tmp 31) (.tmp 32) 58 rfl w.heap.size 64 i0 (.agg zeros32) 32 256 Try.underlying58 HI.out.1 HI.out.2.1 HI.out.2.2.1 HI.out.2.2.2 zeros_size (by decide) (.slice A 0 c) 0 [] rfl hown ⟨g, 0, none⟩ k c1 (rowVals F 0 k) rfl HX1.out HC.out (rowVals_one F 0 k) (by unfold maxLen; omega) (by omega) hsz ?_; intro v' w2 hown2 hg2 _)
          obtain ⟨A3, c3, rfl⟩ := own_form hown2
          rw [Nat.zero_add, List.nil_append] at hown2
          exact ⟨⟨1, k, A3, c3, _, by trivial, by rw [Nat.zero_add], hown2, hkp.grown hg2 (fun k e => (hown.lt k e).1), .inr (.inl ⟨rfl, rfl, rfl⟩)⟩, by simp [intOf]⟩
        · have HC := Lib.hid (rowVals_cell (off := off) (a := k + 1) (m := r) hR (by omega) hoff)
          clear HJ hR
          go_wp2_with (at_builtin; refine wpList_append_own _ rfl (.tmp 31) (.tmp 32) 58 rfl w.heap.size 64 i0 (.agg zeros32) 32 256 Try.underlying58 HI.out.1 HI.out.2.1 HI.out.2.2.1 HI.out.2.2.2 zeros_size (by decide) (.slice A k c) k (rowVals F 0 k) rfl hown ⟨g, off, none⟩ r c2 (rowVals F (k + 1) r) rfl HX2.out HC.out (rowVals_one F (k + 1) r) (by unfold maxLen; omega) (by omega) hsz ?_; intro v' w2 hown2 hg2 _)
          obtain ⟨A3, c3, rfl⟩ := own_form hown2
          exact ⟨⟨2, k + r, A3, c3, _, by trivial, rfl, hown2, hkp.grown hg2 (fun k e => (hown.lt k e).1), .inr (.inr ⟨rfl, rfl, rfl⟩)⟩, by simp [intOf]⟩
        · have HN := Lib.hid (concat_rows h hown (Nat.lt_of_lt_of_le hE hsz))
          clear HJ hR
          go_wp2_with fail
          go_ret
          exact ⟨_, rfl, HN.out, hkp⟩

set_option maxHeartbeats 2000000 in
set_option maxRecDepth 100000 in
theorem c_iNeeded (v : Value) (t : Sp.Task) (w : World) (h : TaskV w v t) : Calls Try.prog 12 #[v] w (RetS (OutInts w (Sp.needed t)) w) := by
  obtain ⟨i0, hi0, hz0, hz1, hz2⟩ := info_parts info_int
  have HI := Lib.hid (And.intro hi0 (And.intro hz0 (And.intro hz1 hz2)))
  clear hi0 hz0 hz1 hz2
  obtain ⟨A, n, c, A', n', c', rfl⟩ := h.form
  have hk0 := (Kept.refl w).alloc (.cells #[.int .i64 t.start, .slice A n c, .slice A' n' c'] 30)
  have B0 := Blk.new w 30 #[.int .i64 t.start, .slice A n c, .slice A' n' c']
  have hT := h.keep hk0
  go_enter Try.func12, Try.ntmps12
  go_wp2_with fail
  refine (c_iTaskValid _ t _ hT).mono ?_; rintro e w2 ⟨rfl, hk2⟩
  replace hk0 := hk0.trans hk2
  replace B0 := B0.kept hk2
  replace hT := hT.keep hk2
  clear hk2
  have c0 := B0.cell
  cases ht : Sp.taskOk t
  · have HE : Hid (Sp.planThere t = false) := by show _ = _; unfold Sp.planThere; rw [ht]; rfl
    have HN : Hid (Sp.needed t = []) := by show _ = _; unfold Sp.needed; rw [if_neg (by rw [HE.out]; decide)]
    clear ht
    go_wp2_with fail
    go_ret
    exact ⟨_, rfl, by rw [HN.out]; exact OutInts.none _ _ _ _, hk0⟩
  have HK := Lib.hid ht
  have HL := Lib.hid (stepsLeast_yes ht)
  have HC : Hid (Sp.codeTruth t.goal = (Sp.truth t.goal : Nat)) := by show _ = _; exact truth_codeTruth (Sp.taskOk_goal ht)
  have hS : Sp.truth t.goal < 2 ^ 32 := truth_bd t.goal
  obtain ⟨hs0, hs1⟩ := Sp.taskOk_start ht
  obtain ⟨st, hst⟩ := Int.eq_ofNat_of_zero_le hs0
  have HST := Lib.hid hst
  have hn6 := Sp.taskOk_len ht
  have HSL : Hid (Sp.stepsLeast t = Sp.distList (Sp.relB t) (Sp.truth t.goal)) := by show _ = _; unfold Sp.stepsLeast; rw [if_pos ht]
  clear ht hst
  go_wp2_with fail
  have hdz := (Kept.refl w2).drew
  replace B0 := B0.kept hdz
  replace hk0 := hk0.trans hdz
  replace hT := hT.keep hdz
  rw [HST.out] at B0 hT hs1
  rw [HST.out]
  clear c0 hdz
  refine wp_region_held_drew (S := fun w' => w'.cell? ⟨w.heap.size, 0, none⟩ = some (.int .i64 (st : Int)) ∧ w'.cell? ⟨w.heap.size, 1, none⟩ = some (.slice A n c) ∧ w'.cell? ⟨w.heap.size, 2, none⟩ = some (.slice A' n' c')) (by kernel_rfl) ⟨B0.cell 0, B0.cell 1, B0.cell 2⟩ (fun hHeld => ?_)
  (refine take_val (i := 0) (v := .agg #[.int .i64 (st : Int), .slice A n c, .slice A' n' c']) rfl rfl (by kernel_rfl) (by kernel_rfl) (by kernel_rfl) (fun _ _ _ h => h) rfl (by intro wq hq; (try go_split_ands); go_simp; try with_reducible rfl) (hHeld) ?_; simp only [List.setIfInBounds_toArray, List.set_cons_zero, List.set_cons_succ])
  (refine take_val (i := 2) (v := .pointer (some ⟨w.heap.size, 1, none⟩)) rfl rfl (by kernel_rfl) (by kernel_rfl) (by kernel_rfl) (fun _ _ _ h => h) rfl (by intro wq hq; (try go_split_ands); go_simp; try with_reducible rfl) (hHeld) ?_; simp only [List.setIfInBounds_toArray, List.set_cons_zero, List.set_cons_succ])
  (refine take_val (i := 3) (v := .slice A n c) rfl rfl (by kernel_rfl) (by kernel_rfl) (by kernel_rfl) (fun _ _ _ h => h) rfl (by intro wq hq; (try go_split_ands); go_simp; try with_reducible rfl) (hHeld) ?_; simp only [List.setIfInBounds_toArray, List.set_cons_zero, List.set_cons_succ])
  (refine wpAnyH_ready (rs := [1]) (by kernel_rfl) (by simp) ?_; refine AllReadyH.cons rfl (fun K hK => ?_) AllReadyH.nil; go_simp)
  refine (c_behindAll _ t _ hT HK.out).mono ?_; rintro e w3 ⟨v, rfl, ⟨g, rfl, hg, hRw⟩, hk3⟩
  have hRow := RowsF.of hRw (fun k hk => Sp.taskOk_deed HK.out hk)
  replace hk0 := hk0.trans hk3
  replace B0 := B0.kept hk3
  replace hT := hT.keep hk3
  clear hk3 hRw hHeld
  have hHeld : w3.cell? ⟨w.heap.size, 0, none⟩ = some (.int .i64 (st : Int)) ∧ w3.cell? ⟨w.heap.size, 1, none⟩ = some (.slice A n c) ∧ w3.cell? ⟨w.heap.size, 2, none⟩ = some (.slice A' n' c') := ⟨B0.cell 0, B0.cell 1, B0.cell 2⟩
  (refine hK.out _ _ (hHeld) (fun _ => ?_); clear hK K; try simp only [Act.put, List.setIfInBounds_toArray, List.set_cons_zero, List.set_cons_succ])
  (refine wpAnyH_ready (rs := [4]) (by kernel_rfl) (by simp) ?_; refine AllReadyH.cons rfl (fun K hK => ?_) AllReadyH.nil; go_simp)
  have hTG : TaskV w3 (.agg #[.int .i64 t.start, .slice A n c, .slice A' n' c']) t := by rw [HST.out]; exact hT
  refine (c_iCodeTruth _ _ _ _ _ hTG.goal).mono ?_; rintro e w4 ⟨rfl, hk4⟩
  rw [HC.out]
  replace hk0 := hk0.trans hk4
  replace B0 := B0.kept hk4
  replace hRow := hRow.keep hk4
  clear hk4 hHeld hT hTG
  have hHeld : w4.cell? ⟨w.heap.size, 0, none⟩ = some (.int .i64 (st : Int)) ∧ w4.cell? ⟨w.heap.size, 1, none⟩ = some (.slice A n c) ∧ w4.cell? ⟨w.heap.size, 2, none⟩ = some (.slice A' n' c') := ⟨B0.cell 0, B0.cell 1, B0.cell 2⟩
  (refine hK.out _ _ (hHeld) (fun _ => ?_); clear hK K; try simp only [Act.put, List.setIfInBounds_toArray, List.set_cons_zero, List.set_cons_succ])
  (refine take_val (i := 5) (v := .slice (some ⟨g, 0, none⟩) t.deeds.length t.deeds.length) rfl rfl (by kernel_rfl) (by kernel_rfl) (by kernel_rfl) (fun _ _ _ h => h) rfl (by intro wq hq; (try go_split_ands); go_simp; try with_reducible rfl) (hHeld) ?_; simp only [List.setIfInBounds_toArray, List.set_cons_zero, List.set_cons_succ])
  (refine take_val (i := 6) (v := .int .i64 ((Sp.truth t.goal : Nat) : Int)) rfl rfl (by kernel_rfl) (by kernel_rfl) (by kernel_rfl) (fun _ _ _ h => h) rfl (by intro wq hq; (try go_split_ands); go_simp; try with_reducible rfl) (hHeld) ?_; simp only [List.setIfInBounds_toArray, List.set_cons_zero, List.set_cons_succ])
  refine wpAnyH_done (by kernel_rfl) ?_ _
  clear hHeld
  have c0 := B0.cell
  go_wp2_with fail
  have hdz := (Kept.refl w4).drew
  replace B0 := B0.kept hdz
  replace hk0 := hk0.trans hdz
  replace hRow := hRow.keep hdz
  clear c0 hdz
  refine wp_region_held_drew (S := fun w' => w'.cell? ⟨w.heap.size, 0, none⟩ = some (.int .i64 (st : Int))) (by kernel_rfl) (B0.cell 0) (fun hHeld => ?_)
  (refine take_val (i := 0) (v := .slice (some ⟨g, 0, none⟩) t.deeds.length t.deeds.length) rfl rfl (by kernel_rfl) (by kernel_rfl) (by kernel_rfl) (fun _ _ _ h => h) rfl (by intro wq hq; (try go_split_ands); go_simp; try with_reducible rfl) (hHeld) ?_; simp only [List.setIfInBounds_toArray, List.set_cons_zero, List.set_cons_succ])
  (refine take_val (i := 1) (v := .int .i64 ((Sp.truth t.goal : Nat) : Int)) rfl rfl (by kernel_rfl) (by kernel_rfl) (by kernel_rfl) (fun _ _ _ h => h) rfl (by intro wq hq; (try go_split_ands); go_simp; try with_reducible rfl) (hHeld) ?_; simp only [List.setIfInBounds_toArray, List.set_cons_zero, List.set_cons_succ])
  (refine take_val (i := 3) (v := .pointer (some ⟨w.heap.size, 0, none⟩)) rfl rfl (by kernel_rfl) (by kernel_rfl) (by kernel_rfl) (fun _ _ _ h => h) rfl (by intro wq hq; (try go_split_ands); go_simp; try with_reducible rfl) (hHeld) ?_; simp only [List.setIfInBounds_toArray, List.set_cons_zero, List.set_cons_succ])
  (refine take_val (i := 4) (v := .int .i64 (st : Int)) rfl rfl (by kernel_rfl) (by kernel_rfl) (by kernel_rfl) (fun _ _ _ h => h) rfl (by intro wq hq; (try go_split_ands); go_simp; try with_reducible rfl) (hHeld) ?_; simp only [List.setIfInBounds_toArray, List.set_cons_zero, List.set_cons_succ])
  (refine wpAnyH_ready (rs := [2]) (by kernel_rfl) (by simp) ?_; refine AllReadyH.cons rfl (fun K hK => ?_) AllReadyH.nil; go_simp)
  refine (c_stepsBack _ _ _ _ _ _ hRow hn6 hS).mono ?_; rintro e w5 ⟨v, rfl, ⟨G, rfl, hG, hO⟩, hk5⟩
  have hR : IntRow w5 G 32 (Sp.toGo t) := by
    have h32 := distList_len (Sp.rev (Sp.edge t.deeds.length (Sp.flat t.deeds))) (Sp.truth t.goal)
    have := hO.row (by rw [h32]; omega)
    rw [h32] at this
    exact this.congr fun s hs => distList_at _ _ s hs
  rw [distList_len]
  replace hk0 := hk0.trans hk5
  replace B0 := B0.kept hk5
  replace hRow := hRow.keep hk5
  clear hk5 hO hG hHeld
  clear hs0
  have hb0 : (0 : Int) ≤ (st : Int) := by omega
  have hb1 : (st : Int) < 32 := by omega
  have hS5 := B0.cell 0
  have c1 := hR.2.2 st (by omega)
  have hsb := toGo_bd t (s := st) (by omega)
  (refine hK.out _ _ (hS5) (fun _ => ?_); clear hK K; try simp only [Act.put, List.setIfInBounds_toArray, List.set_cons_zero, List.set_cons_succ])
  (refine take_val (i := 5) (v := .pointer (some ⟨G, st, none⟩)) rfl rfl (by kernel_rfl) (by kernel_rfl) (by kernel_rfl) (fun _ _ _ h => h) rfl (by intro wq hq; (try go_split_ands); go_simp; try with_reducible rfl) (hS5) ?_; simp only [List.setIfInBounds_toArray, List.set_cons_zero, List.set_cons_succ])
  (refine wpAnyH_ready (rs := [6]) (by kernel_rfl) (by simp) ?_; refine AllReadyH.cons rfl (fun K hK => ?_) AllReadyH.nil; go_simp)
  (refine hK.out _ _ (hS5) (fun _ => ?_); clear hK K; try simp only [Act.put, List.setIfInBounds_toArray, List.set_cons_zero, List.set_cons_succ])
  by_cases hneg : Sp.toGo t st < 0
  · have HE : Hid (Sp.planThere t = false) := by show _ = _; unfold Sp.planThere; rw [HK.out, HST.out, Int.toNat_natCast, decide_eq_false (by omega)]; rfl
    have HN : Hid (Sp.needed t = []) := by show _ = _; unfold Sp.needed; rw [if_neg (by rw [HE.out]; decide)]
    (refine take_val (i := 7) (v := .bool true) rfl rfl (by kernel_rfl) (by kernel_rfl) (by kernel_rfl) (fun _ _ _ h => h) rfl (by intro wq hq; (try go_split_ands); go_simp; try with_reducible rfl) (hS5) ?_; simp only [List.setIfInBounds_toArray, List.set_cons_zero, List.set_cons_succ])
    refine wpAnyH_done (by kernel_rfl) ?_ _
    go_wp2_with fail
    go_ret
    exact ⟨_, rfl, by rw [HN.out]; exact OutInts.none _ _ _ _, hk0⟩
  (refine take_val (i := 7) (v := .bool false) rfl rfl (by kernel_rfl) (by kernel_rfl) (by kernel_rfl) (fun _ _ _ h => h) rfl (by intro wq hq; (try go_split_ands); go_simp; try with_reducible rfl) (hS5) ?_; simp only [List.setIfInBounds_toArray, List.set_cons_zero, List.set_cons_succ])
  refine wpAnyH_done (by kernel_rfl) ?_ _
  have HY : Hid (Sp.planThere t = true) := by show _ = _; unfold Sp.planThere; rw [HK.out, HST.out, Int.toNat_natCast, decide_eq_true (by omega)]; rfl
  have HND : Hid (Sp.needed t = Sp.neededUp t t.deeds.length) := by show _ = _; unfold Sp.needed; rw [if_pos HY.out]
  have HSZ := Lib.hid hk0.size
  go_wp2_with fail
  clear c1 hR hS5
  go_loopw [26, 5] (fun i o wr => ∃ (k m : Nat) (A5 : Option Addr) (c5 : Nat), k ≤ t.deeds.length ∧ i = .int .i64 (k : Int) ∧ o = .slice A5 m c5 ∧ Hid (m = (Sp.neededUp t k).length) ∧ wr.ownsRow w5.heap.size 3 1 (.slice A5 m c5) m ((Sp.neededUp t k).map (Value.int .i64)) ∧ Kept w5 wr) (fun i _ _ => t.deeds.length - (intOf i).toNat)
  case atStart => exact ⟨0, 0, none, 0, Nat.zero_le _, rfl, rfl, rfl, World.ownsRow_nil _ _ _ _, Kept.refl _⟩
  case round =>
    obtain ⟨k, m, A5, c5, hk, rfl, rfl, HM, hown, hkp⟩ := hrel
    have B1 := B0.kept hkp
    by_cases hlt : k < t.deeds.length
    · have HRw := hRow.keep hkp
      obtain ⟨r, hr⟩ : ∃ r, t.deeds.length = k + r + 1 := ⟨t.deeds.length - k - 1, by omega⟩
      have HLen := Lib.hid (neededUp_len t k)
      have HYes := Lib.hid (@neededUp_yes t k)
      have HNo := Lib.hid (@neededUp_no t k)
      have HDO := Lib.hid (drop_ok HK.out k)
      have HDL := Lib.hid (drop_len hr)
      have HCong : Hid (∀ g w, RowsF w g (k + r) (Sp.dropF k (Sp.flat t.deeds)) → RowsF w g (k + r) (Sp.flat (Sp.drop t k).deeds)) := by
        intro g w h
        exact h.congr fun p _ => (flat_drop t hlt p).symm
      rw [hr] at HRw
      have HR1 := Lib.hid hr
      have hkn : (k : Int) < (t.deeds.length : Int) := by omega
      have hkr : k + r + 1 ≤ 6 := by omega
      clear hr hlt
      go_wp2_with fail
      have hdz := (Kept.refl wr).drew
      have B2 := B1.kept hdz
      have hkp2 := hdz
      have HR2 := HRw.keep hdz
      have hw1 : IntKind.i64.wrap ((k : Int) + 1) = (k : Int) + 1 := by rw [IntKind.wrap_i64]; omega
      have hNk : t.deeds.length = k + r + 1 := HR1.out
      have q1 : ¬ t.deeds.length < k := by omega
      have q2 : (0 : Int) ≤ (k : Int) + 1 := by omega
      have q3 : (k : Int) + 1 ≤ (t.deeds.length : Int) := by omega
      have q4 : t.deeds.length - (k + 1) = r := by omega
      obtain ⟨off, hoff, q5⟩ : ∃ off : Nat, (0 < r → off = (k + 1) * 32) ∧ (if t.deeds.length = k + 1 then (some ⟨g, 0, none⟩ : Option Addr) else some ⟨g, (k + 1) * 32, none⟩) = some ⟨g, off, none⟩ := by
        by_cases e : t.deeds.length = k + 1
        · exact ⟨0, fun h => by omega, by rw [if_pos e]⟩
        · exact ⟨(k + 1) * 32, fun _ => rfl, by rw [if_neg e]⟩
      have HNk := Lib.hid hNk
      have HOff := Lib.hid hoff
      clear hdz hNk hoff
      refine wp_region_held_drew (S := fun w' => w'.cell? ⟨w.heap.size, 0, none⟩ = some (.int .i64 (st : Int))) (by kernel_rfl) (B2.cell 0) (fun hHeld => ?_)
      (refine take_val (i := 0) (v := .slice (some ⟨g, 0, none⟩) t.deeds.length t.deeds.length) rfl rfl (by kernel_rfl) (by kernel_rfl) (by kernel_rfl) (fun _ _ _ h => h) rfl (by intro wq hq; (try go_split_ands); go_simp; try with_reducible rfl) (hHeld) ?_; simp only [List.setIfInBounds_toArray, List.set_cons_zero, List.set_cons_succ])
      (refine take_val (i := 1) (v := .int .i64 (k : Int)) rfl rfl (by kernel_rfl) (by kernel_rfl) (by kernel_rfl) (fun _ _ _ h => h) rfl (by intro wq hq; (try go_split_ands); go_simp; try with_reducible rfl) (hHeld) ?_; simp only [List.setIfInBounds_toArray, List.set_cons_zero, List.set_cons_succ])
      (refine take_val (i := 2) (v := .slice (some ⟨g, 0, none⟩) k t.deeds.length) rfl rfl (by kernel_rfl) (by kernel_rfl) (by kernel_rfl) (fun _ _ _ h => h) rfl (by intro wq hq; (try go_split_ands); go_simp; try with_reducible rfl) (hHeld) ?_; simp only [List.setIfInBounds_toArray, List.set_cons_zero, List.set_cons_succ])
      (refine take_val (i := 3) (v := .slice (some ⟨g, 0, none⟩) t.deeds.length t.deeds.length) rfl rfl (by kernel_rfl) (by kernel_rfl) (by kernel_rfl) (fun _ _ _ h => h) rfl (by intro wq hq; (try go_split_ands); go_simp; try with_reducible rfl) (hHeld) ?_; simp only [List.setIfInBounds_toArray, List.set_cons_zero, List.set_cons_succ])
      (refine take_val (i := 4) (v := .int .i64 (k : Int)) rfl rfl (by kernel_rfl) (by kernel_rfl) (by kernel_rfl) (fun _ _ _ h => h) rfl (by intro wq hq; (try go_split_ands); go_simp; try with_reducible rfl) (hHeld) ?_; simp only [List.setIfInBounds_toArray, List.set_cons_zero, List.set_cons_succ])
      (refine take_val (i := 5) (v := .int .i64 ((k : Int) + 1)) rfl rfl (by kernel_rfl) (by kernel_rfl) (by kernel_rfl) (fun _ _ _ h => h) rfl (by intro wq hq; (try go_split_ands); go_simp; try with_reducible rfl) (hHeld) ?_; simp only [List.setIfInBounds_toArray, List.set_cons_zero, List.set_cons_succ])
      (refine take_val (i := 6) (v := .slice (some ⟨g, off, none⟩) r r) rfl rfl (by kernel_rfl) (by kernel_rfl) (by kernel_rfl) (fun _ _ _ h => h) rfl (by intro wq hq; (try go_split_ands); go_simp; try with_reducible rfl) (hHeld) ?_; simp only [List.setIfInBounds_toArray, List.set_cons_zero, List.set_cons_succ])
      clear q1 q2 q3 q4 q5
      (refine wpAnyH_ready (rs := [7]) (by kernel_rfl) (by simp) ?_; refine AllReadyH.cons rfl (fun K hK => ?_) AllReadyH.nil; go_simp)
      have hkL := (Kept.refl wr.drew).alloc (.cells #[.slice (some ⟨g, 0, none⟩) k t.deeds.length, .slice (some ⟨g, off, none⟩) r r] 58)
      have BL := Blk.new wr.drew 58 #[.slice (some ⟨g, 0, none⟩) k t.deeds.length, .slice (some ⟨g, off, none⟩) r r]
      have B3 := B2.kept hkL
      have hkp3 := hkp2.trans hkL
      have HR3 := HR2.keep hkL
      clear hHeld
      (refine hK.out _ _ (B3.cell 0) (fun _ => ?_); clear hK K; try simp only [Act.put, List.setIfInBounds_toArray, List.set_cons_zero, List.set_cons_succ])
      (refine wpAnyH_ready (rs := [8]) (by kernel_rfl) (by simp) ?_; refine AllReadyH.cons rfl (fun K hK => ?_) AllReadyH.nil; go_simp)
      refine (c_concatRows g t.deeds.length r k r _ off _ _ HR3 hkr BL.lt (BL.cell 0) (BL.cell 1) HOff.out).mono ?_; rintro e w6 ⟨v, rfl, ⟨A6, c6, g6, rfl, HA6, HR6⟩, hk6⟩
      have hS6 := (B3.kept hk6).cell 0
      have B4 := B3.kept hk6
      have hkp4 := hkp3.trans hk6
      have HR7 := HCong.out _ _ HR6
      have HE6 := Lib.hid HA6
      clear hk6 HR6 HCong HR3 HR2 HRw BL hkL B3 hkp3 HA6
      (refine hK.out _ _ (hS6) (fun _ => ?_); clear hK K; try simp only [Act.put, List.setIfInBounds_toArray, List.set_cons_zero, List.set_cons_succ])
      (refine take_val (i := 9) (v := .slice A6 (k + r) c6) rfl rfl (by kernel_rfl) (by kernel_rfl) (by kernel_rfl) (fun _ _ _ h => h) rfl (by intro wq hq; (try go_split_ands); go_simp; try with_reducible rfl) (hS6) ?_; simp only [List.setIfInBounds_toArray, List.set_cons_zero, List.set_cons_succ])
      refine wpAnyH_done (by kernel_rfl) ?_ _
      go_wp2_with fail
      have hdz := (Kept.refl w6).drew
      have B5 := B4.kept hdz
      have hkp5 := hkp4.trans hdz
      have HR8 := HR7.keep hdz
      have hkr6 : k + r ≤ 6 := by omega
      have hT2 : Sp.truth t.goal < 2 ^ 32 := hS
      clear hdz HR7 hkp4 B4 hS6
      refine wp_region_held_drew (S := fun w' => w'.cell? ⟨w.heap.size, 0, none⟩ = some (.int .i64 (st : Int))) (by kernel_rfl) (B5.cell 0) (fun hHeld => ?_)
      (refine take_val (i := 0) (v := .slice A6 (k + r) c6) rfl rfl (by kernel_rfl) (by kernel_rfl) (by kernel_rfl) (fun _ _ _ h => h) rfl (by intro wq hq; (try go_split_ands); go_simp; try with_reducible rfl) (hHeld) ?_; simp only [List.setIfInBounds_toArray, List.set_cons_zero, List.set_cons_succ])
      (refine take_val (i := 1) (v := .int .i64 ((Sp.truth t.goal : Nat) : Int)) rfl rfl (by kernel_rfl) (by kernel_rfl) (by kernel_rfl) (fun _ _ _ h => h) rfl (by intro wq hq; (try go_split_ands); go_simp; try with_reducible rfl) (hHeld) ?_; simp only [List.setIfInBounds_toArray, List.set_cons_zero, List.set_cons_succ])
      (refine take_val (i := 3) (v := .pointer (some ⟨w.heap.size, 0, none⟩)) rfl rfl (by kernel_rfl) (by kernel_rfl) (by kernel_rfl) (fun _ _ _ h => h) rfl (by intro wq hq; (try go_split_ands); go_simp; try with_reducible rfl) (hHeld) ?_; simp only [List.setIfInBounds_toArray, List.set_cons_zero, List.set_cons_succ])
      (refine take_val (i := 4) (v := .int .i64 (st : Int)) rfl rfl (by kernel_rfl) (by kernel_rfl) (by kernel_rfl) (fun _ _ _ h => h) rfl (by intro wq hq; (try go_split_ands); go_simp; try with_reducible rfl) (hHeld) ?_; simp only [List.setIfInBounds_toArray, List.set_cons_zero, List.set_cons_succ])
      (refine wpAnyH_ready (rs := [2]) (by kernel_rfl) (by simp) ?_; refine AllReadyH.cons rfl (fun K hK => ?_) AllReadyH.nil; go_simp)
      refine (c_stepsBackO _ _ _ _ _ _ _ HR8 hkr6 hT2 HE6.out).mono ?_; rintro e w7 ⟨v, rfl, ⟨G7, rfl, hG7, hO7⟩, hk7⟩
      have hR7 : IntRow w7 G7 32 (Sp.toGo (Sp.drop t k)) := by
        have h32 := distList_len (Sp.rev (Sp.edge (k + r) (Sp.flat (Sp.drop t k).deeds))) (Sp.truth t.goal)
        have := hO7.row (by rw [h32]; omega)
        rw [h32] at this
        exact this.congr fun s hs => by
          rw [distList_at _ _ s hs, ← HDL.out]; rfl
      rw [distList_len]
      have B6 := B5.kept hk7
      have hkp6 := hkp5.trans hk7
      clear hk7 hO7 hG7 hHeld HR8 B5 hkp5
      have hS7 := B6.cell 0
      have c1 := hR7.2.2 st (by omega)
      (refine hK.out _ _ (hS7) (fun _ => ?_); clear hK K; try simp only [Act.put, List.setIfInBounds_toArray, List.set_cons_zero, List.set_cons_succ])
      (refine take_val (i := 5) (v := .pointer (some ⟨G7, st, none⟩)) rfl rfl (by kernel_rfl) (by kernel_rfl) (by kernel_rfl) (fun _ _ _ h => h) rfl (by intro wq hq; (try go_split_ands); go_simp; try with_reducible rfl) (hS7) ?_; simp only [List.setIfInBounds_toArray, List.set_cons_zero, List.set_cons_succ])
      (refine wpAnyH_ready (rs := [6]) (by kernel_rfl) (by simp) ?_; refine AllReadyH.cons rfl (fun K hK => ?_) AllReadyH.nil; go_simp)
      (refine hK.out _ _ (hS7) (fun _ => ?_); clear hK K; try simp only [Act.put, List.setIfInBounds_toArray, List.set_cons_zero, List.set_cons_succ])
      have HPl : Hid (Sp.planThere (Sp.drop t k) = decide (0 ≤ Sp.toGo (Sp.drop t k) st)) := by
        show _ = _
        unfold Sp.planThere
        rw [HDO.out, show (Sp.drop t k).start = t.start from rfl, HST.out, Int.toNat_natCast, Bool.true_and]
      have hown7 := own_keep hown hkp6
      have hkp7 := hkp.trans hkp6
      have hsz7 := hkp7.size
      have hmk : m ≤ k := by rw [HM.out]; exact HLen.out
      by_cases hneg : Sp.toGo (Sp.drop t k) st < 0
      · have HE2 : Hid (Sp.neededUp t (k + 1) = Sp.neededUp t k ++ [(k : Int)]) := HNo.out (by rw [HPl.out, decide_eq_false (by omega)])
        have HM2 : Hid (m + 1 = (Sp.neededUp t (k + 1)).length) := by show _ = _; rw [HE2.out, HM.out, List.length_append]; rfl
        have HMap : Hid ((Sp.neededUp t (k + 1)).map (Value.int .i64) = (Sp.neededUp t k).map (Value.int .i64) ++ [.int .i64 (k : Int)]) := by show _ = _; rw [HE2.out, List.map_append]; rfl
        generalize (Sp.neededUp t k).map (Value.int .i64) = ks at *
        (refine take_val (i := 7) (v := .bool true) rfl rfl (by kernel_rfl) (by kernel_rfl) (by kernel_rfl) (fun _ _ _ h => h) rfl (by intro wq hq; (try go_split_ands); go_simp; try with_reducible rfl) (hS7) ?_; simp only [List.setIfInBounds_toArray, List.set_cons_zero, List.set_cons_succ])
        refine wpAnyH_done (by kernel_rfl) ?_ _
        clear hS7 c1 hR7
        go_wp2_with (first | (at_builtin; refine wpList_append_own _ rfl (.tmp 46) (.tmp 48) 22 rfl (w5.heap.size) 3 i0 (.int .i64 0) 1 8 Try.underlying22 HI.out.1 HI.out.2.1 HI.out.2.2.1 HI.out.2.2.2 rfl (by decide) (.slice A5 m c5) m _ rfl (hown7.alloc _) ⟨w7.heap.size, 0, none⟩ 1 1 [.int .i64 ((k : Int))] rfl rfl (one_new _ _ _) (by simp [Value.oneCell']) (by unfold maxLen; omega) (by omega) (by simp; omega) ?_; intro v' wapp hown2 hg2 _))
        obtain ⟨A8, c8, rfl⟩ := own_form hown2
        rw [← HMap.out] at hown2
        have hkp8 : Kept w5 wapp := (hkp7.alloc _).grown hg2 (fun k e => (hown7.lt k e).1)
        exact ⟨⟨k + 1, m + 1, A8, c8, by omega, by go_num, rfl, HM2, hown2, hkp8⟩, by simp [intOf]; omega⟩
      · have HE2 : Hid (Sp.neededUp t (k + 1) = Sp.neededUp t k) := HYes.out (by rw [HPl.out, decide_eq_true (by omega)])
        (refine take_val (i := 7) (v := .bool false) rfl rfl (by kernel_rfl) (by kernel_rfl) (by kernel_rfl) (fun _ _ _ h => h) rfl (by intro wq hq; (try go_split_ands); go_simp; try with_reducible rfl) (hS7) ?_; simp only [List.setIfInBounds_toArray, List.set_cons_zero, List.set_cons_succ])
        refine wpAnyH_done (by kernel_rfl) ?_ _
        clear hS7 c1 hR7
        rw [← HE2.out] at hown7 HM
        go_wp2_with fail
        exact ⟨⟨k + 1, m, A5, c5, by omega, by go_num, rfl, HM, hown7, hkp7⟩, by simp [intOf]; omega⟩
    · obtain rfl : k = t.deeds.length := by omega
      have HO : Hid (OutInts w (Sp.needed t) (.slice A5 m c5) wr) := by
        show OutInts _ _ _ _
        have := outInts_own (w := w) (w1 := w5) (l := Sp.neededUp t t.deeds.length) (n := m) (c := c5) (A := A5) (wr := wr) HM.out (by rw [HM.out, List.take_length]; rw [← HM.out]; exact hown) (by have := neededUp_len t t.deeds.length; rw [HM.out]; unfold maxLen; omega) HSZ.out (fun x hx => by
          obtain ⟨j, rfl, hj, _⟩ := neededUp_mem t _ x (List.mem_of_mem_take hx)
          unfold Sp.inI; omega)
        rw [HND.out]
        rw [HM.out, List.take_length] at this
        rw [HM.out]
        exact this
      go_wp2_with fail
      go_ret
      exact ⟨_, rfl, HO.out, hk0.trans hkp⟩

end Go.Proofs.Ytphdojebdclonaa
