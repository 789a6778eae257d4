/- The program's conditionOf: a code as a condition; its CodeText. -/
import Derived.Test.YtphdojebdclonaaT4
import Derived.Test.YtphdojebdclonaaG52
import Derived.StillTailTactics
import Derived.Laws.OwnMore
namespace Go.Proofs.Ytphdojebdclonaa
open Go.RowKit

/-- one step of a code upon the trees so far -/
theorem step_cases {l : List Int} (h : Sp.codeOk l = true) {k : Nat} (hk : k < l.length) : (∀ d ∈ Sp.treesOf (l.take k), d.ok) ∧
    ((l.getD k default = 7 ∧ ∃ x xs, Sp.treesOf (l.take k) = x :: xs ∧ Sp.treesOf (l.take (k + 1)) = .neg x :: xs) ∨
     ((l.getD k default = 8 ∨ l.getD k default = 9) ∧ ∃ x y xs, Sp.treesOf (l.take k) = x :: y :: xs ∧ Sp.treesOf (l.take (k + 1)) = .two (l.getD k default) y x :: xs) ∨
     (0 ≤ l.getD k default ∧ l.getD k default ≤ 6 ∧ Sp.treesOf (l.take (k + 1)) = .one (l.getD k default) :: Sp.treesOf (l.take k))) := by
  obtain ⟨q, hq, h1, _, _⟩ := (Sp.codeOk_iff l).1 h
  have hnn : ∀ j, Sp.depthOf (l.take j) ≠ none := fun j e => by rw [Sp.depth_take_none l j e] at hq; cases hq
  cases hp : Sp.depthOf (l.take k) with
  | none => exact absurd hp (hnn k)
  | some p =>
    obtain ⟨i1, i2, _, _⟩ := trees_at l k p hp
    have hn := hnn (k + 1)
    rw [Sp.depth_snoc l k hk, hp] at hn
    have hc : 0 ≤ l.getD k default ∧ l.getD k default ≤ 9 ∧ Sp.takes (l.getD k default) ≤ p.1 := by
      simp only [Sp.dstep] at hn
      split at hn
      · assumption
      · exact absurd rfl hn
    rw [trees_snoc l k hk]
    generalize Sp.treesOf (l.take k) = st at *
    generalize l.getD k default = c at *
    obtain ⟨c1, c2, c3⟩ := hc
    refine ⟨i2, ?_⟩
    unfold Sp.takes at c3
    by_cases e7 : c = 7
    · subst e7
      rw [if_pos rfl] at c3
      match st, i1 with
      | x :: xs, _ => exact .inl ⟨rfl, x, xs, rfl, rfl⟩
      | [], i1 => simp at i1; omega
    · by_cases e89 : c = 8 ∨ c = 9
      · rw [if_neg e7, if_pos e89] at c3
        match st, i1 with
        | x :: y :: xs, _ => exact .inr (.inl ⟨e89, x, y, xs, rfl, by unfold Sp.tstep; rw [if_neg e7, if_pos e89]; rfl⟩)
        | [_], i1 => simp at i1; omega
        | [], i1 => simp at i1; omega
      · exact .inr (.inr ⟨c1, by omega, by unfold Sp.tstep; rw [if_neg e7, if_neg e89]⟩)

theorem info_cond : (Try.prog.info? 111).map (fun i => (i.zero, i.size, i.bytes)) = some (some .nilIface, 1, 16) := by kernel_rfl
/-- a row of conditions of the call's own: the trees, the last one first -/
def OwnC (w : World) (B : Nat) (v : Value) (st : List Sp.Cond) : Prop := w.ownsRow B 111 1 v st.length (st.reverse.map condV)
theorem OwnC.nil (w : World) (B : Nat) : OwnC w B (.slice none 0 0) [] := World.ownsRow_nil _ _ _ _
theorem own_cell1 {w : World} {B n m c : Nat} {T : TypeId} {A : Option Addr} {xs : List Value} (h : w.ownsRow B T 1 (.slice A m c) n xs) (hn : 0 < n) :
    ∃ g, A = some ⟨g, 0, none⟩ ∧ m = n ∧ B ≤ g ∧ g < w.heap.size ∧ n ≤ c ∧ c ≤ maxLen ∧ (∀ j, w.frozen? ⟨g, j, none⟩ = false) ∧ ∀ j, j < n → w.cell? ⟨g, j, none⟩ = xs[j]? := by
  rcases h.2 with ⟨_, h0⟩ | ⟨g, cap, cur, e, hg, hh, h1, h2, hc, ht⟩
  · omega
  · injection e with e1 e2 e3
    subst e1 e2 e3
    refine ⟨g, rfl, rfl, hg, ?_, h1, h2, Lib.frozen_of_heap hh, fun j hj => ?_⟩
    · rcases Nat.lt_or_ge g w.heap.size with h' | h'
      · exact h'
      · simp [Array.getElem?_eq_none h'] at hh
    · rw [Lib.cell_of_heap hh, ← ht, List.getElem?_take, if_pos (by omega), Array.getElem?_toList]
theorem top_at (x : Sp.Cond) (xs : List Sp.Cond) : ((x :: xs).reverse.map condV)[xs.length]? = some (condV x) := by simp
theorem top_set (x y : Sp.Cond) (xs : List Sp.Cond) : ((x :: xs).reverse.map condV).set xs.length (condV y) = (y :: xs).reverse.map condV := by simp
theorem next_at (x y : Sp.Cond) (xs : List Sp.Cond) : ((x :: y :: xs).reverse.map condV)[xs.length]? = some (condV y) := by simp
theorem next_set (x y z : Sp.Cond) (xs : List Sp.Cond) : (((x :: y :: xs).reverse.map condV).set xs.length (condV z)).take (xs.length + 1) = (z :: xs).reverse.map condV := by
  have h1 : (((x :: y :: xs).reverse.map condV).set xs.length (condV z)) = ((z :: xs).reverse.map condV) ++ [condV x] := by simp
  rw [h1, List.take_append_of_le_length (by simp), List.take_of_length_le (by simp)]

theorem own_snoc {w : World} {B : Nat} {v : Value} {s : Int} {st : List Sp.Cond} (h : w.ownsRow B 111 1 v (st.length + 1) (List.map condV st.reverse ++ [.iface 119 (.agg #[.int .i64 s])])) : OwnC w B v (.one s :: st) := by
  have e : (Sp.Cond.one s :: st).reverse.map condV = List.map condV st.reverse ++ [.iface 119 (.agg #[.int .i64 s])] := by simp [condV]
  unfold OwnC
  rw [e]; exact h

set_option maxHeartbeats 4000000 in
set_option maxRecDepth 100000 in
theorem c_conditionOf (A : Option Addr) (n c : Nat) (l : List Int) (w : World) (h : Ints w A n l) (hok : Sp.codeOk l = true) : Calls Try.prog 96 #[.slice A n c] w (RetK (condV (Sp.treeOf l)) w) := by
  obtain ⟨i0, hi0, hz0, hz1, hz2⟩ := info_parts info_cond
  have HI := Lib.hid (And.intro hi0 (And.intro hz0 (And.intro hz1 hz2)))
  clear hi0 hz0 hz1 hz2
  have HL := Lib.hid h.len
  obtain ⟨hl1, hl2⟩ := codeOk_len hok
  rw [h.len] at hl1 hl2
  have HOk := Lib.hid hok
  have HT := Lib.hid (tree_code hok).1
  clear hok
  go_enter Try.func96, Try.ntmps96
  go_wp2_with fail
  go_loopw [3, 5, 6, 9] (fun v _ _ i wr => ∃ k : Nat, k ≤ n ∧ i = .int .i64 k ∧ OwnC wr w.heap.size v (Sp.treesOf (l.take k)) ∧ Kept w wr) (fun _ _ _ i _ => n - (intOf i).toNat)
  case atStart => exact ⟨0, Nat.zero_le _, rfl, OwnC.nil _ _, Kept.refl _⟩
  case round =>
    obtain ⟨k, hk, rfl, hO, hkp⟩ := hrel
    by_cases hlt : k < n
    · obtain ⟨b, off, rfl, hb, hc, _⟩ := (h.keep hkp).at hlt
      obtain ⟨hoks, hcs⟩ := step_cases HOk.out (k := k) (by rw [HL.out]; exact hlt)
      have hlen : (Sp.treesOf (l.take k)).length ≤ k := by
        have h1 : (Sp.stepsOf (Sp.treesOf (l.take k))) = l.take k ∨ True := .inr trivial
        obtain ⟨q, hq, _⟩ := (Sp.codeOk_iff l).1 HOk.out
        cases hp : Sp.depthOf (l.take k) with
        | none => rw [Sp.depth_take_none l k hp] at hq; cases hq
        | some p =>
          have := (trees_at l k p hp).1
          have := (Sp.depth_le l k p hp).1
          omega
      clear hoks
      obtain ⟨nx, HNX⟩ : ∃ nx, Hid (Sp.treesOf (l.take (k + 1)) = nx) := ⟨_, rfl⟩
      rw [HNX.out] at hcs
      generalize Sp.treesOf (l.take k) = st at *
      generalize l.getD k default = s at *
      rcases hcs with ⟨rfl, x, xs, rfl, rfl⟩ | ⟨hs, x, y, xs, rfl, rfl⟩ | ⟨h0, h6, rfl⟩
      · obtain ⟨A', c', rfl⟩ := own_form hO
        replace hO : wr.ownsRow w.heap.size 111 1 (.slice A' (xs.length + 1) c') (xs.length + 1) ((x :: xs).reverse.map condV) := hO
        obtain ⟨g, rfl, _, hg, hgl, hcap, _, hfz, hcell⟩ := own_cell1 hO (by omega)
        obtain ⟨T1, p1, e1⟩ := condV_form x
        have hcx := hcell xs.length (by omega)
        rw [top_at, e1] at hcx
        have hfx := hfz xs.length
        have hst : condV (.neg x) = .iface 121 (.agg #[.iface T1 p1]) := by rw [← e1]; rfl
        have hO2 := (hO.stored xs.length (condV (.neg x))).1
        rw [top_set, hst] at hO2
        have HO2 := Lib.hid hO2
        have hk2 := hkp.setCell (p := ⟨g, xs.length, none⟩) hg (.iface 121 (.agg #[.iface T1 p1]))
        have hlen2 : xs.length + 1 ≤ 40 := by simp at hlen; omega
        have hw1 : IntKind.i64.wrap (((xs.length + 1 : Nat) : Int) - 1) = (xs.length : Int) := by rw [IntKind.wrap_i64]; omega
        clear hO hlen e1 hst hO2 hcell hfz
        show Code.wp _ _ _ _ _
        go_wp2_with fail
        exact ⟨⟨k + 1, by omega, by go_num, by rw [HNX.out]; exact HO2.out, hk2⟩, by simp [intOf]; omega⟩
      · obtain ⟨A', c', rfl⟩ := own_form hO
        replace hO : wr.ownsRow w.heap.size 111 1 (.slice A' (xs.length + 2) c') (xs.length + 2) ((x :: y :: xs).reverse.map condV) := hO
        obtain ⟨g, rfl, _, hg, hgl, hcap, hcm, hfz, hcell⟩ := own_cell1 hO (by omega)
        obtain ⟨T1, p1, e1⟩ := condV_form x
        obtain ⟨T2, p2, e2⟩ := condV_form y
        have hcx0 := hcell (xs.length + 1) (by omega)
        have hcy0 := hcell xs.length (by omega)
        rw [next_at, e2] at hcy0
        rw [show ((x :: y :: xs).reverse.map condV)[xs.length + 1]? = some (condV x) from top_at x (y :: xs), e1] at hcx0
        have hst : condV (.two s y x) = .iface 125 (.agg #[.int .i64 s, .iface T2 p2, .iface T1 p1]) := by rw [← e1, ← e2]; rfl
        have hO2 := own_cut (hO.stored xs.length (condV (.two s y x))).1 (show xs.length + 1 ≤ xs.length + 2 by omega)
        rw [next_set, hst] at hO2
        obtain ⟨M, HM⟩ : ∃ M, Hid (xs.length = M) := ⟨_, rfl⟩
        obtain ⟨M1, HM1⟩ : ∃ M1, Hid (xs.length + 1 = M1) := ⟨_, rfl⟩
        obtain ⟨N, HN⟩ : ∃ N, Hid ((x :: y :: xs).length = N) := ⟨_, rfl⟩
        have hNM : N = M + 2 ∧ M1 = M + 1 := ⟨by rw [← HN.out, ← HM.out]; rfl, by rw [← HM1.out, ← HM.out]⟩
        obtain ⟨hNM, hM1⟩ := hNM
        have hNc : N ≤ c' := by rw [hNM, ← HM.out]; exact hcap
        have hN40 : N ≤ 40 := by rw [← HN.out]; omega
        rw [HM1.out, HM.out] at hO2
        have HO2 : Hid ((wr.setCell ⟨g, M, none⟩ (.iface 125 (.agg #[.int .i64 s, .iface T2 p2, .iface T1 p1]))).ownsRow w.heap.size 111 1 (.slice (some ⟨g, 0, none⟩) M1 c') ((Sp.Cond.two s y x) :: xs).length ((Sp.Cond.two s y x :: xs).reverse.map condV)) := by
          show World.ownsRow _ _ _ _ _ (xs.length + 1) _
          rw [HM1.out]; exact hO2
        have hk2 := hkp.setCell (p := ⟨g, M, none⟩) hg (.iface 125 (.agg #[.int .i64 s, .iface T2 p2, .iface T1 p1]))
        have hcx : wr.cell? ⟨g, M1, none⟩ = some (.iface T1 p1) := by rw [← HM1.out]; exact hcx0
        have hcy : wr.cell? ⟨g, M, none⟩ = some (.iface T2 p2) := by rw [← HM.out]; exact hcy0
        have hfx := hfz M
        have hw1 : IntKind.i64.wrap ((N : Int) - 1) = (M1 : Int) := by rw [IntKind.wrap_i64]; omega
        have hw2 : IntKind.i64.wrap ((M1 : Int) - 1) = (M : Int) := by rw [IntKind.wrap_i64]; omega
        have hb1 : M < N := by omega
        have hb2 : M1 < N := by omega
        have hb3 : M1 ≤ c' := by omega
        have HJ : Hid (OwnC (wr.setCell ⟨g, M, none⟩ (.iface 125 (.agg #[.int .i64 s, .iface T2 p2, .iface T1 p1]))).drew w.heap.size (.slice (some ⟨g, 0, none⟩) M1 c') (.two s y x :: xs)) := HO2.out
        rw [HN.out]
        clear hO hlen e1 e2 hst hO2 hcell hfz hcx0 hcy0 hNM hM1 hcap
        rcases hs with rfl | rfl
        · go_wp2_with fail
          go_still_tail 16, (by kernel_rfl)
          change wpList _ _ _ _ _ wr.drew
          go_wp2_with fail
          exact ⟨⟨k + 1, by omega, by go_num, by rw [HNX.out]; exact HJ.out, hk2.drew⟩, by simp [intOf]; omega⟩
        · go_wp2_with fail
          go_still_tail 16, (by kernel_rfl)
          change wpList _ _ _ _ _ wr.drew
          go_wp2_with fail
          exact ⟨⟨k + 1, by omega, by go_num, by rw [HNX.out]; exact HJ.out, hk2.drew⟩, by simp [intOf]; omega⟩
      · obtain ⟨A', c', rfl⟩ := own_form hO
        have HO := Lib.hid hO
        have HLN := Lib.hid (show st.length ≤ 40 by omega)
        have n7 : ¬ s = 7 := by omega
        have n8 : ¬ s = 8 := by omega
        have n9 : ¬ s = 9 := by omega
        have hw1 : IntKind.i64.wrap ((st.length : Int) - 1) = (st.length : Int) - 1 := by rw [IntKind.wrap_i64]; omega
        clear hO hlen h0 h6
        go_wp2_with (at_builtin; refine wpList_append_own _ rfl (.tmp 17) (.tmp 21) 126 rfl w.heap.size 111 i0 .nilIface 1 16 Try.underlying126 HI.out.1 HI.out.2.1 HI.out.2.2.1 HI.out.2.2.2 rfl (by decide) (.slice A' st.length c') st.length _ rfl (World.ownsRow.alloc HO.out _) ⟨wr.heap.size, 0, none⟩ 1 1 [.iface 119 (.agg #[.int .i64 s])] rfl rfl (one_new _ _ _) (by simp [Value.oneCell']) (by have := HLN.out; unfold maxLen; omega) (by have := HLN.out; omega) (by have := hkp.size; simp; omega) ?_; intro v' wapp hown2 hg2 _)
        have hk2 : Kept w wapp := (hkp.alloc _).grown hg2 (fun k e => (World.ownsRow.lt HO.out k e).1)
        exact ⟨⟨k + 1, by omega, by go_num, by rw [HNX.out]; exact own_snoc hown2, hk2⟩, by simp [intOf]; omega⟩
    · obtain rfl : k = n := by omega
      have hall : l.take k = l := List.take_of_length_le (by rw [HL.out]; exact Nat.le_refl _)
      rw [hall, HT.out] at hO
      obtain ⟨A', c', rfl⟩ := own_form hO
      obtain ⟨g, rfl, _, hg, hgl, hcap, hcm, hfz, hcell⟩ := own_cell1 hO (by simp)
      have hc0 : wr.cell? ⟨g, 0, none⟩ = some (condV (Sp.treeOf l)) := hcell 0 (by simp)
      clear hall hO hcell hfz
      obtain ⟨T1, p1, e1⟩ := condV_form (Sp.treeOf l)
      rw [e1] at hc0
      have E1 := Lib.hid e1
      clear e1
      go_wp2_with fail
      go_ret
      exact ⟨by rw [E1.out]; rfl, hkp⟩

theorem text_zero (c : Sp.Cond) : c.text 0 = c.txt := by
  unfold Sp.Cond.text
  rw [decide_eq_false (Nat.not_lt_zero _)]; rfl

set_option maxHeartbeats 1000000 in
theorem c_iCodeText (A : Option Addr) (n c : Nat) (l : List Int) (w : World) (h : Ints w A n l) : Calls Try.prog 64 #[.slice A n c] w (RetK (.string ⟨(Sp.codeText l).toArray⟩) w) := by
  have hn := h.le
  cases hc : Sp.codeOk l
  · have HT := Lib.hid (codeText_no hc)
    have HO := Lib.hid hc
    clear hc
    go_enter Try.func64, Try.ntmps64
    go_wp2_with fail
    refine (c_iCodeValid A n c l w h).mono ?_; rintro e w2 ⟨rfl, rfl⟩
    rw [HO.out]
    go_wp2_with fail
    go_ret
    exact ⟨by rw [HT.out]; rfl, Kept.refl _⟩
  · have HT := Lib.hid (codeText_yes hc)
    rw [text_zero] at HT
    have HO := Lib.hid hc
    obtain ⟨_, ht2, ht3, _⟩ := tree_code hc
    have hl := (codeOk_len hc).2
    rw [← ht3] at hl
    have H2 := Lib.hid (And.intro ht2 hl)
    clear hc ht2 ht3 hl
    go_enter Try.func64, Try.ntmps64
    go_wp2_with fail
    refine (c_iCodeValid A n c l w h).mono ?_; rintro e w2 ⟨rfl, rfl⟩
    rw [HO.out]
    go_wp2_with fail
    refine (c_conditionOf A n c l _ h HO.out).mono ?_; rintro e w3 ⟨rfl, hk3⟩
    go_wp2_with fail
    refine (c_conditionText _ _ H2.out.1 H2.out.2).mono ?_; rintro e w4 ⟨rfl, hk4⟩
    go_wp2_with fail
    go_ret
    exact ⟨by rw [HT.out]; rfl, hk3.trans hk4⟩

end Go.Proofs.Ytphdojebdclonaa
