/- Walks: StepsFrom. No condition. -/
import Derived.Test.YtjmpfemlihjibaaG3
import Derived.Test.YtjmpfemlihjibaaHar
namespace Go.Proofs.Ytjmpfemlihjibaa
open Go.RowKit

/-- n integers in a block of their own, which may be written -/
def IntRow (w : World) (g n : Nat) (f : Nat → Int) : Prop := g < w.heap.size ∧ (∀ i, w.frozen? ⟨g, i, none⟩ = false) ∧ ∀ s, s < n → w.cell? ⟨g, s, none⟩ = some (.int .i64 (f s))
section
variable {w w' : World} {g n : Nat} {f f' : Nat → Int}
theorem IntRow.keep (h : IntRow w g n f) (hk : Kept w w') : IntRow w' g n f :=
  ⟨Nat.lt_of_lt_of_le h.1 hk.size, fun i => hk.fr h.1 (h.2.1 i), fun s hs => by rw [hk.cell h.1]; exact h.2.2 s hs⟩
theorem IntRow.congr (h : IntRow w g n f) (he : ∀ s, s < n → f s = f' s) : IntRow w g n f' := ⟨h.1, h.2.1, fun s hs => by rw [← he s hs]; exact h.2.2 s hs⟩
theorem IntRow.set (h : IntRow w g n f) {s : Nat} (hs : s < n) (x : Int) : IntRow (w.setCell ⟨g, s, none⟩ (.int .i64 x)) g n (fun j => if j = s then x else f j) := by
  refine ⟨by simpa using h.1, fun i => by simpa using h.2.1 i, fun j hj => ?_⟩
  by_cases e : j = s
  · subst e; simp only [if_true]; exact World.cell?_setCell_same _ _ _ (h.2.2 j hs)
  · simp only [if_neg e]
    rw [World.cell?_setCell_other _ _ _ _ (by intro e2; simp only [Addr.mk.injEq] at e2; exact e e2.2.1.symm)]
    exact h.2.2 j hj
theorem IntRow.own (h : IntRow w g n f) {l : List Int} (hl : l.length = n) (hm : n ≤ maxLen) (hi : ∀ x ∈ l, Sp.inI x) (he : ∀ s, s < n → f s = l.getD s default) : Own w g n l :=
  ⟨h.1, h.2.1, hl, hm, hi, fun _ => ⟨_, _, rfl, h.1, fun k hk => by rw [Nat.zero_add, ← he k hk]; exact h.2.2 k hk⟩⟩
theorem own_keep {B : Nat} {T : TypeId} {sz : Nat} {v : Value} {xs : List Value} (h : w.ownsRow B T sz v n xs) (hk : Kept w w') : w'.ownsRow B T sz v n xs := by
  refine ⟨h.1, ?_⟩
  rcases h.2 with hn | ⟨g, cap, cur, hv, hb, hg, rest⟩
  · exact .inl hn
  · refine .inr ⟨g, cap, cur, hv, hb, ?_, rest⟩
    have hlt : g < w.heap.size := by
      rcases Nat.lt_or_ge g w.heap.size with h | h
      · exact h
      · rw [Array.getElem?_eq_none h] at hg; cases hg
    exact (Below.block hk g hlt).trans hg
theorem own_row {B : Nat} {T : TypeId} {A : Option Addr} {m c : Nat} {l : List Int} (h : w.ownsRow B T 1 (.slice A m c) n (l.map (Value.int .i64))) (hn : 0 < n) :
    m = n ∧ ∃ g, A = some ⟨g, 0, none⟩ ∧ B ≤ g ∧ n ≤ c ∧ IntRow w g n (fun s => l.getD s default) := by
  obtain ⟨rfl, g, rfl, h1, h2, h3, h4⟩ := own_some h hn
  refine ⟨rfl, g, rfl, h1, h3, h2, h4, fun s hs => ?_⟩
  have hl : s < l.length := by have := h.1; simp at this; omega
  refine own_cell h ?_
  simp [hl]
end

section
variable {rel : Nat → Nat → Bool} {S : Nat}
/-- the steps that are known when they are fewer than m -/
def Sp.dlt (rel : Nat → Nat → Bool) (S m s : Nat) : Int := if 0 ≤ Sp.dist rel S s ∧ Sp.dist rel S s < m then Sp.dist rel S s else -1
theorem dlt_zero (s : Nat) : Sp.dlt rel S 0 s = -1 := by unfold Sp.dlt; rw [if_neg (by omega)]
theorem dlt_new (hS : S < 2 ^ 32) {m s : Nat} (hs : s < 32) (h : (Sp.fr rel S m).testBit s = true) : Sp.dlt rel S (m + 1) s = (m : Int) := by
  have := Sp.dist_yes hS hs h
  unfold Sp.dlt; rw [if_pos (by omega), this]
theorem dlt_old (hS : S < 2 ^ 32) {m s : Nat} (hs : s < 32) (h : (Sp.fr rel S m).testBit s = false) : Sp.dlt rel S (m + 1) s = Sp.dlt rel S m s := by
  unfold Sp.dlt
  rcases Sp.dist_cases (rel := rel) hS s hs with ⟨h1, _⟩ | ⟨n, _, h1, h2⟩
  · rw [h1]; rfl
  · have : n ≠ m := by rintro rfl; rw [h] at h2; cases h2
    rw [h1]
    by_cases e : n < m
    · rw [if_pos (by omega), if_pos (by omega)]
    · rw [if_neg (by omega), if_neg (by omega)]
theorem dlt_neg (hS : S < 2 ^ 32) {m s : Nat} (hs : s < 32) : decide (Sp.dlt rel S (m + 1) s < 0) = !(Sp.rch rel S m).testBit s := by
  have := Sp.rch_dist (rel := rel) hS m s hs
  unfold Sp.dlt
  cases e : (Sp.rch rel S m).testBit s
  · rw [e] at this
    rw [if_neg (fun h => by have := this.2 ⟨h.1, by omega⟩; cases this)]; rfl
  · have := this.1 e
    rw [if_pos (by omega)]; simp; omega
theorem dlt_end (hS : S < 2 ^ 32) {m : Nat} (h : Sp.fr rel S m = 0) (s : Nat) (hs : s < 32) : Sp.dlt rel S m s = Sp.dist rel S s := by
  unfold Sp.dlt
  rcases Sp.dist_cases (rel := rel) hS s hs with ⟨h1, _⟩ | ⟨n, _, h1, h2⟩
  · rw [h1]; rfl
  · rw [h1]
    by_cases e : n < m
    · rw [if_pos (by omega)]
    · rw [Sp.fr_zero_all hS h (show m ≤ n by omega)] at h2; simp at h2
theorem dlt_bd (hS : S < 2 ^ 32) {m s : Nat} (hs : s < 32) : -1 ≤ Sp.dlt rel S m s ∧ Sp.dlt rel S m s ≤ 31 := by
  have := dist_bd (rel := rel) hS s hs
  unfold Sp.dlt; split <;> omega
/-- the next front, as the reference lays it -/
def Sp.nextF (rel : Nat → Nat → Bool) (S m s : Nat) : Bool := (Sp.img rel (Sp.fr rel S m)).testBit s && !(Sp.rch rel S m).testBit s
theorem nextF_all (hS : S < 2 ^ 32) (m : Nat) : Sp.setOf 32 (Sp.nextF rel S m) = Sp.fr rel S (m + 1) := by
  refine Sp.set_ext (Sp.setOf_lt _ _) (Sp.fr_lt hS _) fun s hs => ?_
  rw [Sp.testBit_setOf, Sp.fr_front hS m s hs]
  simp only [hs, decide_true, Bool.true_and, Sp.nextF, Bool.and_eq_true, Bool.not_eq_true']
end

def Sp.stepsFrom (t : Sp.Task) : List Int := if Sp.taskOk t = true then Sp.distList (Sp.rel t) (2 ^ t.start.toNat) else []

/-- a list of integers that a call made -/
def OutInts (w : World) (l : List Int) (v : Value) (w' : World) : Prop := ∃ A c, v = .slice A l.length c ∧ OI w.heap.size w'.heap.size w' A l
theorem OutInts.of {w w' : World} {l : List Int} {g c : Nat} (h : Own w' g l.length l) (hg : w.heap.size ≤ g) : OutInts w l (.slice (some ⟨g, 0, none⟩) l.length c) w' := ⟨_, _, rfl, h.ints, fun _ => ⟨g, rfl, hg, h.1, h⟩⟩
theorem OutInts.none (w w' : World) (A : Option Addr) (c : Nat) : OutInts w [] (.slice A 0 c) w' := ⟨A, c, rfl, ⟨rfl, Nat.zero_le _, fun x hx => (by cases hx), fun h => absurd h (Nat.lt_irrefl 0)⟩, fun h => absurd h (Nat.lt_irrefl 0)⟩

theorem stepsFrom_len (t : Sp.Task) : (Sp.stepsFrom t).length ≤ 1073741824 := by
  unfold Sp.stepsFrom
  split
  · rw [distList_len]; omega
  · simp

theorem RowsF.of {w : World} {g : Nat} {ds : List Sp.Deed} (h : Rows w g ds) (hok : ∀ k, k < ds.length → Sp.deedOk (ds.getD k default) = true) : RowsF w g ds.length (Sp.flat ds) :=
  ⟨h.1, h.2, fun p hp => by unfold Sp.flat; exact stepI_bd (by omega) (hok _ (by omega))⟩

theorem c_iStepsFrom (v : Value) (t : Sp.Task) (w : World) (h : TaskV w v t) : Calls Try.prog 22 #[v] w (RetS (OutInts w (Sp.stepsFrom t)) w) := by
  obtain ⟨A, n, c, A', n', c', rfl⟩ := h.form
  have hk0 := (Kept.refl w).alloc (.cells #[.int .i64 t.start, .slice A n c, .slice A' n' c'] 26)
  have B0 := Blk.new w 26 #[.int .i64 t.start, .slice A n c, .slice A' n' c']
  have hT := h.keep hk0
  go_enter Try.func22, Try.ntmps22
  go_wp2_with fail
  refine (c_iTaskValid _ t _ hT).mono ?_; rintro e w2 ⟨rfl, hk2⟩
  replace hk0 := hk0.trans hk2
  replace B0 := B0.kept hk2
  replace hT := hT.keep hk2
  clear hk2
  have c0 := B0.cell
  cases ht : Sp.taskOk t
  · have HE : Hid (Sp.stepsFrom t = []) := by show _ = _; unfold Sp.stepsFrom; rw [ht]; simp
    clear ht
    go_wp2_with fail
    go_ret
    exact ⟨_, rfl, by rw [HE.out]; exact OutInts.none _ _ _ _, hk0⟩
  have HK := Lib.hid ht
  have HE : Hid (Sp.stepsFrom t = Sp.distList (Sp.rel t) (2 ^ t.start.toNat)) := by show _ = _; unfold Sp.stepsFrom; rw [ht]; simp
  obtain ⟨hs0, hs1⟩ := Sp.taskOk_start ht
  have hn6 := Sp.taskOk_len ht
  clear ht
  have HS : Hid (∀ w', Kept w2 w' → (w'.cell? ⟨w.heap.size, 0, none⟩ = some (.int .i64 t.start) ∧ w'.cell? ⟨w.heap.size, 1, none⟩ = some (.slice A n c) ∧ w'.cell? ⟨w.heap.size, 2, none⟩ = some (.slice A' n' c') ∧ Kept w2 w')) :=
    fun w' hk => ⟨(B0.kept hk).cell 0, (B0.kept hk).cell 1, (B0.kept hk).cell 2, hk⟩
  clear c0
  go_wp2_with fail
  go_region_held3 (fun w' => w'.cell? ⟨w.heap.size, 0, none⟩ = some (.int .i64 t.start) ∧ w'.cell? ⟨w.heap.size, 1, none⟩ = some (.slice A n c) ∧ w'.cell? ⟨w.heap.size, 2, none⟩ = some (.slice A' n' c') ∧ Kept w2 w')
    (first | exact HS.out _ (Kept.refl _) | exact HS.out _ (Kept.refl _).drew | exact HS.out _ (Kept.trans (by assumption) hk6) | exact HS.out _ (Kept.trans (by assumption) hk7))
    (first | (go_at_call 60; go_split_ands; refine (c_behindAll _ t _ (hT.keep (by assumption)) HK.out).mono ?_; rintro e w6 ⟨v, rfl, ⟨g, rfl, hg, hR⟩, hk6⟩) | (go_at_call 69; go_split_ands; refine (c_stepsOn _ _ _ _ _ _ (RowsF.of hR (fun k hk => Sp.taskOk_deed HK.out hk)) hn6 hs0 hs1).mono ?_; rintro e w7 ⟨v, rfl, ⟨g2, rfl, hg2, hO⟩, hk7⟩))
  have hsz := hk0.size
  all_goals
    have hsz6 := hk6.size
    go_split_ands
    go_wp2_with fail
    go_ret
    exact ⟨_, rfl, by rw [HE.out]; exact OutInts.of hO (by simp at hsz6; omega), hk0.trans (by assumption)⟩

set_option maxHeartbeats 1000000 in
theorem c_sStepsFrom (v : Value) (t : Sp.Task) (w : World) (h : TaskV w v t) : Calls Try.prog 23 #[v] w (RetS (OutInts w (Sp.stepsFrom t)) w) := by
  obtain ⟨i0, hi0, hz0, hz1, hz2⟩ := info_parts info_int
  have HI := Lib.hid (And.intro hi0 (And.intro hz0 (And.intro hz1 hz2)))
  clear hi0 hz0 hz1 hz2
  obtain ⟨A, n, c, A', n', c', rfl⟩ := h.form
  have hk0 := (Kept.refl w).alloc (.cells #[.int .i64 t.start, .slice A n c, .slice A' n' c'] 26)
  have B0 := Blk.new w 26 #[.int .i64 t.start, .slice A n c, .slice A' n' c']
  have hT := h.keep hk0
  go_enter Try.func23, Try.ntmps23
  go_wp2_with fail
  obtain ⟨w1, HW1⟩ : ∃ w1, Hid (w1 = w.alloc (.cells #[.int .i64 t.start, .slice A n c, .slice A' n' c'] 26)) := ⟨w.alloc (.cells #[.int .i64 t.start, .slice A n c, .slice A' n' c'] 26), rfl⟩
  have hz1 : w1.heap.size = w.heap.size + 1 := by rw [HW1.out]; simp
  rw [← HW1.out, ← hz1]
  have HZ1 := Lib.hid hz1
  clear hz1
  rw [← HW1.out] at hk0 hT B0
  have hO0 := World.ownsRow_made (e := 3) (size := 1) w1 #[] 0 (Nat.le_refl _) (by unfold maxLen; omega) rfl
  have hk1 := (Kept.refl w1).alloc (.cells #[] 3)
  refine (c_sTaskValid _ t _ (hT.keep hk1)).mono ?_; rintro e w2 ⟨rfl, hk2⟩
  replace hO0 := own_keep hO0 hk2
  replace hk1 := hk1.trans hk2
  clear hk2
  have B1 := B0.kept hk1
  cases ht : Sp.taskOk t
  · have HE : Hid (Sp.stepsFrom t = []) := by show _ = _; unfold Sp.stepsFrom; rw [ht]; simp
    clear ht
    go_wp2_with fail
    go_ret
    exact ⟨_, rfl, by rw [HE.out]; exact OutInts.none _ _ _ _, hk0.trans hk1⟩
  have HK := Lib.hid ht
  have HE : Hid (Sp.stepsFrom t = Sp.distList (Sp.rel t) (2 ^ t.start.toNat)) := by show _ = _; unfold Sp.stepsFrom; rw [ht]; simp
  obtain ⟨hs0, hs1⟩ := Sp.taskOk_start ht
  clear ht
  go_wp2_with fail
  go_loopw [4, 3] (fun i v wr => ∃ (k : Nat) (A2 : Option Addr) (c2 : Nat), k ≤ 32 ∧ i = .int .i64 k ∧ v = .slice A2 k c2 ∧ wr.ownsRow w1.heap.size 3 1 (.slice A2 k c2) k ((List.replicate k (-1)).map (Value.int .i64)) ∧ Kept w1 wr) (fun i _ _ => 32 - (intOf i).toNat)
  case atStart => exact ⟨0, _, _, Nat.zero_le _, rfl, rfl, hO0, hk1⟩
  case round =>
    obtain ⟨k, A2, c2, hk, rfl, rfl, hown, hkp⟩ := hrel
    by_cases hlt : k < 32
    · go_wp2_with (first | (at_builtin; refine wpList_append_own _ rfl (.tmp 19) (.tmp 20) 23 rfl (w1.heap.size) 3 i0 (.int .i64 0) 1 8 Try.underlying23 HI.out.1 HI.out.2.1 HI.out.2.2.1 HI.out.2.2.2 rfl (by decide) (.slice A2 k c2) k _ rfl (hown.alloc _) ⟨wr.heap.size, 0, none⟩ 1 1 [.int .i64 (-1)] rfl rfl (one_new _ _ _) (by simp [Value.oneCell']) (by unfold maxLen; omega) (by omega) (by have := hkp.size; (try simp at this ⊢); omega) ?_; intro v' w2 hown2 hg2 _))
      obtain ⟨A3, c3, rfl⟩ := own_form hown2
      exact ⟨⟨k + 1, A3, c3, by omega, by go_num, rfl, by rw [List.replicate_succ', List.map_append]; exact hown2, own_more hown hkp hg2⟩, by simp [intOf]; omega⟩
    · have B2 := B0.kept hkp
      have c0 := B2.cell
      obtain ⟨st, hst⟩ := Int.eq_ofNat_of_zero_le hs0
      obtain ⟨_, g, rfl, hg, _, hR⟩ := own_row (n := k) hown (by omega)
      have hk32 : 32 ≤ k := by omega
      have hS : 2 ^ t.start.toNat < 2 ^ 32 := Nat.pow_lt_pow_right (by decide) (by omega)
      obtain ⟨S, HSd⟩ : ∃ S, Hid (S = 2 ^ t.start.toNat) := ⟨2 ^ t.start.toNat, rfl⟩
      have hsh : ∀ T, binOp .shl T (.int .i64 1) (.int .i64 t.start) = pure (.int .i64 (S : Int)) := fun T => by
        rw [HSd.out, hst, Int.toNat_natCast]
        have := bin_shl_one st (by omega) T
        rwa [p2_nat] at this
      rw [← HSd.out] at hS HE
      have hR0 : IntRow wr g 32 (Sp.dlt (Sp.rel t) S 0) := by
        refine IntRow.congr ⟨hR.1, hR.2.1, fun s hs => hR.2.2 s (by omega)⟩ (fun s hs => ?_)
        rw [dlt_zero]
        simp [show s < k by omega]
      clear hst hown hR
      obtain ⟨rel, HRel⟩ : ∃ rel, Hid (Sp.rel t = rel) := ⟨Sp.rel t, rfl⟩
      rw [HRel.out] at HE hR0
      go_wp2_with fail
      rw [show decide ((k : Int) < 32) = false from decide_eq_false (by omega)]
      clear hsh hlt c0
      go_loopw [5, 6] (fun o y wr => ∃ m : Nat, m ≤ 32 ∧ o = .int .i64 (Sp.fr rel S m : Nat) ∧ y = .int .i64 (m : Int) ∧ Kept w1 wr ∧ IntRow wr g 32 (Sp.dlt rel S m)) (fun _ y _ => 40 - (intOf y).toNat)
      case atStart => exact ⟨0, by omega, rfl, rfl, hkp, hR0⟩
      case round =>
        obtain ⟨m, hm, rfl, rfl, hkp, hR⟩ := hrel
        by_cases hf0 : Sp.fr rel S m = 0
        · have HEnd := Lib.hid (dlt_end (rel := rel) hS hf0)
          rw [hf0]
          clear hf0
          go_wp2_with fail
          go_ret
          obtain rfl : k = 32 := by omega
          have hz1 := HZ1.out
          refine ⟨_, rfl, ?_, hk0.trans hkp⟩
          rw [HE.out]
          have := (hR.congr HEnd.out).own (distList_len rel S) (by unfold maxLen; omega) (distList_in _ _ hS) (fun s hs => (distList_at rel S s hs).symm)
          rw [← distList_len rel S] at this
          have := OutInts.of (c := c2) this (w := w) (by omega)
          rw [distList_len] at this
          exact this
        · have hm1 : m ≤ 31 := Sp.fr_bound hS m hf0
          have hf := Sp.fr_lt (rel := rel) hS m
          have HNew := Lib.hid (fun s hs => @dlt_new rel S hS m s hs)
          have HOld := Lib.hid (fun s hs => @dlt_old rel S hS m s hs)
          have HNeg := Lib.hid (fun s hs => @dlt_neg rel S hS m s hs)
          have HAll := Lib.hid (nextF_all (rel := rel) hS m)
          have HNx : Hid (Sp.statesNext t (Sp.fr rel S m : Nat) = (Sp.img rel (Sp.fr rel S m) : Nat)) := by
            show _ = _
            unfold Sp.statesNext
            rw [if_pos ⟨HK.out, by unfold Sp.setOk; simp; omega⟩, Int.toNat_natCast, HRel.out]
          have HNF := Lib.hid (show ∀ s, Sp.nextF rel S m s = ((Sp.img rel (Sp.fr rel S m)).testBit s && !(Sp.rch rel S m).testBit s) from fun s => rfl)
          have hI := Sp.img_lt rel (Sp.fr rel S m)
          generalize Sp.img rel (Sp.fr rel S m) = I at *
          generalize Sp.fr rel S m = f at *
          go_wp2_with fail
          rw [show decide (0 < f) = true from decide_eq_true (by omega)]
          go_loopw [7] (fun i wr => ∃ j : Nat, j ≤ 32 ∧ i = .int .i64 j ∧ Kept w1 wr ∧ IntRow wr g 32 (fun s => if s < j then Sp.dlt rel S (m + 1) s else Sp.dlt rel S m s)) (fun i _ => 32 - (intOf i).toNat)
          case atStart => exact ⟨0, by omega, rfl, hkp, hR.congr fun s _ => by rw [if_neg (by omega)]⟩
          case round =>
            obtain ⟨j, hj, rfl, hkp, hR⟩ := hrel
            by_cases hlt : j < 32
            · have HN2 := Lib.hid (HNew.out j hlt)
              have HO2 := Lib.hid (HOld.out j hlt)
              cases hev : f.testBit j
              · have HV := Lib.hid hev
                clear hev
                have hR2 := hR.congr (f' := fun s => if s < j + 1 then Sp.dlt rel S (m + 1) s else Sp.dlt rel S m s) fun s hs => by
                  by_cases e : s = j
                  · subst e; rw [if_neg (by omega), if_pos (by omega), HO2.out HV.out]
                  · by_cases e2 : s < j
                    · rw [if_pos e2, if_pos (by omega)]
                    · rw [if_neg e2, if_neg (by omega)]
                go_wp2_with (first | (go_at_call 70; refine (c_bitN f j _ hf hlt).mono ?_; rintro e w3 ⟨rfl, rfl⟩; rw [HV.out]))
                exact ⟨⟨j + 1, by omega, by go_num, hkp, hR2⟩, by simp [intOf]; omega⟩
              · have HV := Lib.hid hev
                clear hev
                have c0 := hR.2.2 j hlt
                have f0 := hR.2.1 j
                have hR2 := (hR.set hlt (m : Int)).congr (f' := fun s => if s < j + 1 then Sp.dlt rel S (m + 1) s else Sp.dlt rel S m s) fun s hs => by
                  by_cases e : s = j
                  · subst e; rw [if_pos rfl, if_pos (by omega), HN2.out HV.out]
                  · rw [if_neg e]
                    by_cases e2 : s < j
                    · rw [if_pos e2, if_pos (by omega)]
                    · rw [if_neg e2, if_neg (by omega)]
                go_wp2_with (first | (go_at_call 70; refine (c_bitN f j _ hf hlt).mono ?_; rintro e w3 ⟨rfl, rfl⟩; rw [HV.out]))
                exact ⟨⟨j + 1, by omega, by go_num, hkp.setCell (p := ⟨g, j, none⟩) hg _, hR2⟩, by simp [intOf]; omega⟩
            · have hR2 := hR.congr (f' := Sp.dlt rel S (m + 1)) fun s hs => by rw [if_pos (by omega)]
              have c0 := (B0.kept hkp).cell
              go_wp2_with fail
              refine (c_sStatesNext _ t _ _ (hT.keep hkp)).mono ?_; rintro e w4 ⟨rfl, hk4⟩
              rw [HNx.out]
              replace hkp := hkp.trans hk4
              replace hR2 := hR2.keep hk4
              clear hk4 c0 hR
              go_wp2_with fail
              rw [show decide ((j : Int) < 32) = false from decide_eq_false (by omega)]
              go_loop [9, 5] (fun i o => ∃ j : Nat, j ≤ 32 ∧ i = .int .i64 j ∧ o = .int .i64 (Sp.setOf j (Sp.nextF rel S m) : Nat)) (fun i _ => 32 - (intOf i).toNat)
              case atStart => exact ⟨0, by omega, rfl, rfl⟩
              case round =>
                obtain ⟨q, hq, rfl, rfl⟩ := hrel
                by_cases hlt3 : q < 32
                · have HNF2 := Lib.hid (HNF.out q)
                  have HNeg2 := Lib.hid (HNeg.out q hlt3)
                  have c9 := hR2.2.2 q hlt3
                  have hbd := setOf_bd q (Sp.nextF rel S m) (by omega)
                  have hp2 := p2_bd32 q (by omega)
                  have HST := Lib.hid (setOf_step q (Sp.nextF rel S m) hlt3)
                  have hsh := bin_shl_one q (by omega)
                  generalize Sp.dlt rel S (m + 1) q = y at *
                  cases hev : I.testBit q
                  · have HV := Lib.hid hev
                    have HX : Hid (Sp.setOf (q + 1) (Sp.nextF rel S m) = Sp.setOf q (Sp.nextF rel S m)) := HST.out.2.2 (by rw [HNF2.out, hev]; rfl)
                    clear hev
                    go_wp2_with (first | (go_at_call 70; refine (c_bitN I q _ (by omega) hlt3).mono ?_; rintro e w3 ⟨rfl, rfl⟩; rw [HV.out]))
                    exact ⟨⟨q + 1, by omega, by go_num, by rw [HX.out]⟩, by simp [intOf]; omega⟩
                  · have HV := Lib.hid hev
                    cases hrc : (Sp.rch rel S m).testBit q
                    · have hy : y < 0 := by have := HNeg2.out; rw [hrc] at this; simpa using this
                      have HX : Hid ((Sp.setOf q (Sp.nextF rel S m) : Int) + p2 q = (Sp.setOf (q + 1) (Sp.nextF rel S m) : Nat)) := (HST.out.1 (by rw [HNF2.out, hev, hrc]; rfl)).symm
                      clear hev hrc
                      go_wp2_with (first | (go_at_call 70; refine (c_bitN I q _ (by omega) hlt3).mono ?_; rintro e w3 ⟨rfl, rfl⟩; rw [HV.out]))
                      exact ⟨⟨q + 1, by omega, by go_num, by rw [← HX.out]⟩, by simp [intOf]; omega⟩
                    · have hy : 0 ≤ y := by have := HNeg2.out; rw [hrc] at this; simpa using this
                      have HX : Hid (Sp.setOf (q + 1) (Sp.nextF rel S m) = Sp.setOf q (Sp.nextF rel S m)) := HST.out.2.2 (by rw [HNF2.out, hev, hrc]; rfl)
                      clear hev hrc
                      go_wp2_with (first | (go_at_call 70; refine (c_bitN I q _ (by omega) hlt3).mono ?_; rintro e w3 ⟨rfl, rfl⟩; rw [HV.out]))
                      exact ⟨⟨q + 1, by omega, by go_num, by rw [HX.out]⟩, by simp [intOf]; omega⟩
                · have HF : Hid (Sp.setOf q (Sp.nextF rel S m) = Sp.fr rel S (m + 1)) := by show _ = _; rw [show q = 32 by omega]; exact HAll.out
                  go_wp2_with fail
                  exact ⟨⟨m + 1, by omega, by rw [HF.out], by go_num, hkp, hR2⟩, by simp [intOf]; omega⟩

end Go.Proofs.Ytjmpfemlihjibaa
