/- Walks: the draw of a task and numbers (FnNumbersOk). No condition. -/
import Derived.Test.YtphdojebdclonaaDoorD13
import Derived.Test.YtphdojebdclonaaDoorG37
import Derived.Test.YtphdojebdclonaaDoorG34
namespace Go.Proofs.YtphdojebdclonaaDoor
open Go.RowKit

/-- a task and a list that a draw made -/
def DrawnL (v : Value) (w : World) : Prop := ∃ tv t A n c l, v = .tuple #[tv, .slice A n c] ∧ TaskV w tv t ∧ Ints w A n l
theorem numbersFor_bd (t : Sp.Task) : (Sp.numbersFor t).length ≤ 32 ∧ ∀ x ∈ Sp.numbersFor t, 0 ≤ x ∧ x ≤ 40 := by
  cases h : Sp.taskOk t
  · rw [numbersFor_no h]
    exact ⟨by simp, fun x hx => by cases hx⟩
  · refine ⟨by rw [numbersFor_length h]; omega, fun x hx => ?_⟩
    obtain ⟨k, hk0, rfl⟩ := List.mem_iff_getElem.1 hx
    have hk : k < 32 := by have := numbersFor_length h; omega
    have h1 := numAt_for h hk
    have h2 := @big_bd t k hk
    unfold Sp.numAt at h1
    have e : (Sp.numbersFor t).getD k default = (Sp.numbersFor t)[k] := by simp [List.getD, hk0]
    rw [← e, h1]
    exact h2
theorem set_bd {l : List Int} (h : ∀ x ∈ l, 0 ≤ x ∧ x ≤ 40) (k : Nat) {y : Int} (h0 : 0 ≤ y) (h1 : y ≤ 40) : ∀ x ∈ l.set k y, 0 ≤ x ∧ x ≤ 40 := fun x hx => by
  rcases List.mem_or_eq_of_mem_set hx with h2 | rfl
  · exact h x h2
  · exact ⟨h0, h1⟩
theorem getD_bd {l : List Int} (h : ∀ x ∈ l, 0 ≤ x ∧ x ≤ 40) {k : Nat} (hk : k < l.length) : 0 ≤ l.getD k default ∧ l.getD k default ≤ 40 := by
  have e : l.getD k default = l[k] := by simp [List.getD, hk]
  rw [e]
  exact h _ (List.getElem_mem _)
theorem own_put1 {X n c g : Nat} {w : World} {l : List Int} (ho : w.ownsRow X 3 1 (.slice (some ⟨g, 0, none⟩) n c) n (l.map (Value.int .i64))) (k : Nat) (y : Int) :
    (w.setCell ⟨g, k, none⟩ (.int .i64 y)).ownsRow X 3 1 (.slice (some ⟨g, 0, none⟩) n c) n ((l.set k y).map (Value.int .i64)) := by
  rw [List.map_set]
  exact (ho.stored k (.int .i64 y)).1
theorem wrap_less {x y : Int} (h0 : 0 ≤ x) (h1 : x ≤ 40) (h2 : 0 ≤ y) (h3 : y < 4) : IntKind.i64.wrap (x - y) = x - y := by rw [IntKind.wrap_i64]; omega

set_option maxHeartbeats 2000000 in
set_option maxRecDepth 100000 in
theorem c_drawNumbersOk (A : Option Addr) (n c : Nat) (w : World) (h : BytesV w A n ∧ n ≤ c ∧ c ≤ maxLen) : Calls Tryd.prog 10 #[.slice A n c] w (RetS DrawnL w) := by
  obtain ⟨i0, hi0, hz0, hz1, hz2⟩ := info_parts info_int
  have HI := Lib.hid (And.intro hi0 (And.intro hz0 (And.intro hz1 hz2)))
  clear hi0 hz0 hz1 hz2
  have hk0 := (Kept.refl w).alloc (.cells #[.int .i64 0, .slice none 0 0, .slice none 0 0] 26)
  have hB0 := Blk.new w 26 #[.int .i64 0, .slice none 0 0, .slice none 0 0]
  have hb0 := h.1.keep hk0
  go_enter Tryd.func10, Tryd.ntmps10
  go_wp2_with fail
  refine (c_l20Open A n c _ hb0 h.2.1 h.2.2).mono ?_; rintro e wo ⟨v, rfl, ⟨R, rfl, hRge, hR⟩, hk2⟩
  simp only [World.size_alloc] at hRge
  replace hk0 := hk0.trans hk2
  replace hB0 := hB0.kept hk2
  clear hk2 hb0
  have hRlt := hR.lt
  go_wp2_with fail
  refine (c_l20Hard R 12 0 _ hR (by omega) (by omega) (by omega)).mono ?_; rintro e w3 ⟨v, p3, rfl, hR3, hp1, hp2, hB, st, A1, n1, c1, A2, n2, c2, rfl, hst, hG, hD, hn2⟩
  replace hk0 := hB.kept hk0 (by omega)
  replace hB0 := hB.blk hB0 (.inl (by omega))
  have hsz3 := hB.size
  clear hB hR
  obtain ⟨t, hTV, _⟩ := TaskQ.task ⟨st, A1, n1, c1, A2, n2, c2, rfl, hst, hG, hD, hn2⟩
  have hkE := (Kept.refl w3).alloc (.cells #[.int .i64 st, .slice A1 n1 c1, .slice A2 n2 c2] 26)
  have hBE := Blk.new w3 26 #[.int .i64 st, .slice A1 n1 c1, .slice A2 n2 c2]
  have krE := RowsKept.of_kept (X := wo.heap.size) hkE
  replace hG := hG.kept krE.ints
  replace hD := hD.kept krE
  replace hk0 := hk0.trans hkE
  replace hB0 := hB0.kept hkE
  replace hR3 := hR3.keep hkE
  have hT := hTV.keep hkE
  clear hTV hkE krE
  obtain ⟨wE, HWE⟩ : ∃ wE, Hid (w3.alloc (.cells #[.int .i64 st, .slice A1 n1 c1, .slice A2 n2 c2] 26) = wE) := ⟨_, rfl⟩
  obtain ⟨E, HE⟩ : ∃ E, Hid (w3.heap.size = E) := ⟨_, rfl⟩
  have hEge : wo.heap.size ≤ w3.heap.size := hsz3
  have hXE : wE.heap.size = E + 1 := by rw [← HWE.out, ← HE.out]; simp
  go_wp2_with fail
  rw [HE.out] at hEge
  rw [HWE.out, HE.out] at hBE ⊢
  rw [HWE.out] at hG hD hk0 hB0 hR3 hT
  refine (c_sNumbersForO _ t _ hT).mono ?_; rintro e w4 ⟨v, rfl, ⟨A5, c5, rfl, hown⟩, hk4⟩
  have HBd := Lib.hid (numbersFor_bd t)
  obtain ⟨l0, HL0⟩ : ∃ l0, Hid (Sp.numbersFor t = l0) := ⟨_, rfl⟩
  rw [HL0.out] at hown HBd ⊢
  obtain ⟨m, HM⟩ : ∃ m, Hid (l0.length = m) := ⟨_, rfl⟩
  have hm : m ≤ 32 := by rw [← HM.out]; exact HBd.out.1
  rw [HM.out] at hown ⊢
  obtain ⟨X1, HX1⟩ : ∃ X1, Hid (wE.heap.size = X1) := ⟨_, rfl⟩
  have hX1 : X1 = E + 1 := by rw [← HX1.out]; exact hXE
  rw [HX1.out] at hown
  have hb : But R (R + 1) wE w4 := But.of_kept hk4
  have hR4 := hR3.keep hk4
  clear hk4 hT hR3
  go_wp2_with fail
  refine (c_pick R 4 p3 _ hR4 (by omega) (by omega)).mono ?_; rintro e w5 ⟨v, p4, rfl, hR5, hp3, hp4, hb5, x, rfl, hx0, hx1⟩
  replace hx1 := hx1 (by omega)
  replace hb := hb.trans hb5
  replace hown := own_but hown hb5 (by omega)
  clear hR4 hb5
  go_wp2_with fail
  go_loopw [8] (fun i wr => ∃ (k : Nat) (l : List Int), k ≤ m ∧ i = .int .i64 k ∧ Hid (l.length = m ∧ ∀ x ∈ l, 0 ≤ x ∧ x ≤ 40) ∧ wr.ownsRow X1 3 1 (.slice A5 m c5) m (l.map (Value.int .i64)) ∧ Rd R wr p4 ∧ But R (R + 1) wE wr) (fun i _ => m - (intOf i).toNat)
  case atStart => exact ⟨0, l0, Nat.zero_le _, rfl, ⟨HM.out, HBd.out.2⟩, hown, hR5, hb⟩
  case round =>
    clear hown hR5 hb
    obtain ⟨k, l, hk, rfl, HLl, hown, hR, hb⟩ := hrel
    by_cases hlt : k < m
    · obtain ⟨_, g, rfl, hg, _, hIR⟩ := own_row hown (by omega)
      have ck := hIR.2.2 k hlt
      have fk := hIR.2.1 k
      obtain ⟨hy0, hy1⟩ := getD_bd HLl.out.2 (k := k) (by rw [HLl.out.1]; exact hlt)
      simp only [] at ck
      obtain ⟨y, HY⟩ : ∃ y, Hid (l.getD k default = y) := ⟨_, rfl⟩
      rw [HY.out] at ck hy0 hy1
      have hwl := wrap_less hy0 hy1 hx0 hx1
      have hRF := fun v => hR.setFar (a := ⟨g, k, none⟩) (show R < g by omega) v
      have hbF := fun v => hb.setNew (p := ⟨g, k, none⟩) (show wE.heap.size ≤ g by rw [HX1.out]; exact hg) v
      clear hIR
      by_cases hle : x ≤ y
      · have hmax : max (y - x) 0 = y - x := by omega
        have HLs : Hid ((l.set k (y - x)).length = m ∧ ∀ q ∈ l.set k (y - x), 0 ≤ q ∧ q ≤ 40) := ⟨by rw [List.length_set]; exact HLl.out.1, set_bd (y := y - x) HLl.out.2 k (by omega) (by omega)⟩
        have hown2 := own_put1 hown k (y - x)
        clear hown
        go_wp2_with fail
        exact ⟨⟨k + 1, _, by omega, by go_num, HLs, hown2, hRF _, hbF _⟩, by simp [intOf]; omega⟩
      · have hmax : max (y - x) 0 = 0 := by omega
        have HLs : Hid ((l.set k 0).length = m ∧ ∀ x ∈ l.set k 0, 0 ≤ x ∧ x ≤ 40) := ⟨by rw [List.length_set]; exact HLl.out.1, set_bd HLl.out.2 k (by omega) (by omega)⟩
        have hown2 := own_put1 hown k 0
        clear hown
        go_wp2_with fail
        exact ⟨⟨k + 1, _, by omega, by go_num, HLs, hown2, hRF _, hbF _⟩, by simp [intOf]; omega⟩
    · go_wp2_with fail
      refine (c_odd R 5 p4 _ hR (by omega) (by omega) (by omega)).mono ?_; rintro e w7 ⟨v, p5, rfl, hR7, hp5, hp6, hb7, bb, rfl⟩
      replace hb := hb.trans hb7
      replace hown := own_but hown hb7 (by omega)
      clear hb7 hR
      cases bb
      · go_wp2_with fail
        refine (c_odd R 20 p5 _ hR7 (by omega) (by omega) (by omega)).mono ?_; rintro e wr ⟨v, p8, rfl, hRr, hp11, hp12, hbr, b2, rfl⟩
        replace hb := hb.trans hbr
        replace hown := own_but hown hbr (by omega)
        clear hbr
        have hkp := hb
        have hXr : X1 ≤ wr.heap.size := by have := hb.size; omega
        cases b2
        · replace hB0 := hb.blk hB0 (.inl (by omega))
          replace hBE := hb.blk hBE (.inr (by omega))
          replace hk0 := hb.kept hk0 (by omega)
          have kr := RowsKept.of_but (X := wo.heap.size) hb hRlt
          replace hG := hG.kept kr.ints
          replace hD := hD.kept kr
          replace hown := ownsRow_mono (X := wo.heap.size) hown (by omega)
          have ce := hB0.cell
          have fe := hB0.frozen
          have cb := hBE.cell
          have b1 := hB0.set_ 0 (.int .i64 st)
          have b2 := b1.set_ 1 (.slice A1 n1 c1)
          have k1 := RowsKept.set (X := wo.heap.size) hB0 (by decide) (by decide) 0 (.int .i64 st)
          have k2 := RowsKept.set (X := wo.heap.size) b1 (by decide) (by decide) 1 (.slice A1 n1 c1)
          have k3 := RowsKept.set (X := wo.heap.size) b2 (by decide) (by decide) 2 (.slice A2 n2 c2)
          have kk := (k1.trans k2).trans k3
          have hG2 := hG.kept kk.ints
          have hD2 := hD.kept kk
          have hOw2 := kk.ints _ _ _ _ hown
          have hle := Nat.le_refl w.heap.size
          have hkF := ((hk0.setCell (p := ⟨w.heap.size, 0, none⟩) hle (.int .i64 st)).setCell (p := ⟨w.heap.size, 1, none⟩) hle (.slice A1 n1 c1)).setCell (p := ⟨w.heap.size, 2, none⟩) hle (.slice A2 n2 c2)
          clear hB0 hBE b1 b2 k1 k2 k3 kk hG hD hk0 hown
          go_wp2_with fail
          refine bodyPost_ret (v := .tuple #[.agg #[.int .i64 st, .slice A1 n1 c1, .slice A2 n2 c2], .slice A5 m c5]) (by simp [results, Tryd.results10, go_sem, ce]) rfl ?_
          obtain ⟨tt, hTT, _⟩ := TaskQ.task ⟨st, A1, n1, c1, A2, n2, c2, rfl, hst, hG2, hD2, hn2⟩
          exact ⟨_, rfl, ⟨_, tt, _, _, _, _, rfl, hTT, own_ints (by omega) hOw2 (fun x hx => by have := HLl.out.2 x hx; unfold Sp.inI; omega)⟩, hkF⟩
        · go_upto_region 13 with (first | (at_builtin; refine wpList_append_own _ rfl (.tmp 50) (.tmp 51) 23 rfl X1 3 i0 (.int .i64 0) 1 8 Tryd.underlying23 HI.out.1 HI.out.2.1 HI.out.2.2.1 HI.out.2.2.2 rfl (by decide) (.slice A5 m c5) m _ rfl (hown.alloc _) ⟨wr.heap.size, 0, none⟩ 1 1 [.int .i64 0] rfl rfl (one_new _ _ _) (by simp [Value.oneCell']) (by unfold maxLen; omega) (by omega) (by simp; omega) ?_; intro v' wA hown2 hg2 _))
          obtain ⟨A6, c6, rfl⟩ := own_form hown2
          have hbA := (hb.kept_ ((Kept.refl wr).alloc (.cells #[.int .i64 0] 3))).grown hg2 (fun k e => by have := (hown.lt k e).1; omega)
          replace hB0 := hbA.blk hB0 (.inl (by omega))
          replace hBE := hbA.blk hBE (.inr (by omega))
          replace hk0 := hbA.kept hk0 (by omega)
          have kr := RowsKept.of_but (X := wo.heap.size) hbA hRlt
          replace hG := hG.kept kr.ints
          replace hD := hD.kept kr
          replace HLl : Hid ((l ++ [0]).length = m + 1 ∧ ∀ x ∈ l ++ [0], 0 ≤ x ∧ x ≤ 40) := ⟨by rw [List.length_append, HLl.out.1]; rfl, fun x hx => by
            rcases List.mem_append.1 hx with h | h
            · exact HLl.out.2 x h
            · obtain rfl := List.mem_singleton.1 h; omega⟩
          have hown3 : wA.ownsRow X1 3 1 (.slice A6 (m + 1) c6) (m + 1) ((l ++ [0]).map (Value.int .i64)) := by rw [List.map_append]; exact hown2
          clear hown hown2 hb hbA hg2 hkp
          have hown := ownsRow_mono (X := wo.heap.size) hown3 (by omega)
          have ce := hB0.cell
          have fe := hB0.frozen
          have cb := hBE.cell
          have b1 := hB0.set_ 0 (.int .i64 st)
          have b2 := b1.set_ 1 (.slice A1 n1 c1)
          have k1 := RowsKept.set (X := wo.heap.size) hB0 (by decide) (by decide) 0 (.int .i64 st)
          have k2 := RowsKept.set (X := wo.heap.size) b1 (by decide) (by decide) 1 (.slice A1 n1 c1)
          have k3 := RowsKept.set (X := wo.heap.size) b2 (by decide) (by decide) 2 (.slice A2 n2 c2)
          have kk := (k1.trans k2).trans k3
          have hG2 := hG.kept kk.ints
          have hD2 := hD.kept kk
          have hOw2 := kk.ints _ _ _ _ hown
          have hle := Nat.le_refl w.heap.size
          have hkF := ((hk0.setCell (p := ⟨w.heap.size, 0, none⟩) hle (.int .i64 st)).setCell (p := ⟨w.heap.size, 1, none⟩) hle (.slice A1 n1 c1)).setCell (p := ⟨w.heap.size, 2, none⟩) hle (.slice A2 n2 c2)
          clear hB0 hBE b1 b2 k1 k2 k3 kk hG hD hk0 hown
          go_wp2_with fail
          refine bodyPost_ret (v := .tuple #[.agg #[.int .i64 st, .slice A1 n1 c1, .slice A2 n2 c2], .slice A6 (m + 1) c6]) (by simp [results, Tryd.results10, go_sem, ce]) rfl ?_
          obtain ⟨tt, hTT, _⟩ := TaskQ.task ⟨st, A1, n1, c1, A2, n2, c2, rfl, hst, hG2, hD2, hn2⟩
          exact ⟨_, rfl, ⟨_, tt, _, _, _, _, rfl, hTT, own_ints (by omega) hOw2 (fun x hx => by have := HLl.out.2 x hx; unfold Sp.inI; omega)⟩, hkF⟩
      · by_cases hm0 : 0 < m
        · obtain ⟨_, g, rfl, hg, _, hIR⟩ := own_row hown hm0
          have hm1 : (0 : Int) < (m : Int) := by omega
          go_wp2_with fail
          refine (c_pick R (m : Int) p5 _ hR7 (by omega) (by omega)).mono ?_; rintro e w8 ⟨v, p6, rfl, hR8, hp7, hp8, hb8, j, rfl, hj0, hj1⟩
          replace hj1 := hj1 (by omega)
          obtain ⟨j, rfl⟩ := Int.eq_ofNat_of_zero_le hj0
          have hjm : j < m := by omega
          replace hb := hb.trans hb8
          replace hown := own_but hown hb8 (by omega)
          clear hb8 hR7 hIR
          go_wp2_with fail
          refine (c_pick R 6 p6 _ hR8 (by omega) (by omega)).mono ?_; rintro e w9 ⟨v, p7, rfl, hR9, hp9, hp10, hb9, z, rfl, hz0, hz1⟩
          replace hz1 := hz1 (by omega)
          replace hb := hb.trans hb9
          replace hown := own_but hown hb9 (by omega)
          clear hb9 hR8
          obtain ⟨_, g', e', _, _, hIR⟩ := own_row hown hm0
          obtain rfl : g = g' := by simpa using e'
          have cj := hIR.2.2 j hjm
          have fj := hIR.2.1 j
          have hjm2 : ¬ (m : Int) ≤ (j : Int) := by omega
          replace HLl : Hid ((l.set j z).length = m ∧ ∀ x ∈ l.set j z, 0 ≤ x ∧ x ≤ 40) := ⟨by rw [List.length_set]; exact HLl.out.1, set_bd HLl.out.2 j hz0 (by omega)⟩
          replace hown := own_put1 hown j z
          replace hR7 := hR9.setFar (a := ⟨g, j, none⟩) (show R < g by omega) (.int .i64 z)
          replace hb := hb.setNew (p := ⟨g, j, none⟩) (show wE.heap.size ≤ g by rw [HX1.out]; exact hg) (.int .i64 z)
          generalize l.set j z = l at *
          clear hIR hR9
          simp only [] at cj
          go_wp2_with fail
          refine (c_odd R 20 p7 _ hR7 (by omega) (by omega) (by omega)).mono ?_; rintro e wr ⟨v, p8, rfl, hRr, hp11, hp12, hbr, b2, rfl⟩
          replace hb := hb.trans hbr
          replace hown := own_but hown hbr (by omega)
          clear hbr
          have hkp := hb
          have hXr : X1 ≤ wr.heap.size := by have := hb.size; omega
          cases b2
          · replace hB0 := hb.blk hB0 (.inl (by omega))
            replace hBE := hb.blk hBE (.inr (by omega))
            replace hk0 := hb.kept hk0 (by omega)
            have kr := RowsKept.of_but (X := wo.heap.size) hb hRlt
            replace hG := hG.kept kr.ints
            replace hD := hD.kept kr
            replace hown := ownsRow_mono (X := wo.heap.size) hown (by omega)
            have ce := hB0.cell
            have fe := hB0.frozen
            have cb := hBE.cell
            have b1 := hB0.set_ 0 (.int .i64 st)
            have b2 := b1.set_ 1 (.slice A1 n1 c1)
            have k1 := RowsKept.set (X := wo.heap.size) hB0 (by decide) (by decide) 0 (.int .i64 st)
            have k2 := RowsKept.set (X := wo.heap.size) b1 (by decide) (by decide) 1 (.slice A1 n1 c1)
            have k3 := RowsKept.set (X := wo.heap.size) b2 (by decide) (by decide) 2 (.slice A2 n2 c2)
            have kk := (k1.trans k2).trans k3
            have hG2 := hG.kept kk.ints
            have hD2 := hD.kept kk
            have hOw2 := kk.ints _ _ _ _ hown
            have hle := Nat.le_refl w.heap.size
            have hkF := ((hk0.setCell (p := ⟨w.heap.size, 0, none⟩) hle (.int .i64 st)).setCell (p := ⟨w.heap.size, 1, none⟩) hle (.slice A1 n1 c1)).setCell (p := ⟨w.heap.size, 2, none⟩) hle (.slice A2 n2 c2)
            clear hB0 hBE b1 b2 k1 k2 k3 kk hG hD hk0 hown
            go_wp2_with fail
            refine bodyPost_ret (v := .tuple #[.agg #[.int .i64 st, .slice A1 n1 c1, .slice A2 n2 c2], .slice (some ⟨g, 0, none⟩) m c5]) (by simp [results, Tryd.results10, go_sem, ce]) rfl ?_
            obtain ⟨tt, hTT, _⟩ := TaskQ.task ⟨st, A1, n1, c1, A2, n2, c2, rfl, hst, hG2, hD2, hn2⟩
            exact ⟨_, rfl, ⟨_, tt, _, _, _, _, rfl, hTT, own_ints (by omega) hOw2 (fun x hx => by have := HLl.out.2 x hx; unfold Sp.inI; omega)⟩, hkF⟩
          · go_upto_region 13 with (first | (at_builtin; refine wpList_append_own _ rfl (.tmp 50) (.tmp 51) 23 rfl X1 3 i0 (.int .i64 0) 1 8 Tryd.underlying23 HI.out.1 HI.out.2.1 HI.out.2.2.1 HI.out.2.2.2 rfl (by decide) (.slice (some ⟨g, 0, none⟩) m c5) m _ rfl (hown.alloc _) ⟨wr.heap.size, 0, none⟩ 1 1 [.int .i64 0] rfl rfl (one_new _ _ _) (by simp [Value.oneCell']) (by unfold maxLen; omega) (by omega) (by simp; omega) ?_; intro v' wA hown2 hg2 _))
            obtain ⟨A6, c6, rfl⟩ := own_form hown2
            have hbA := (hb.kept_ ((Kept.refl wr).alloc (.cells #[.int .i64 0] 3))).grown hg2 (fun k e => by have := (hown.lt k e).1; omega)
            replace hB0 := hbA.blk hB0 (.inl (by omega))
            replace hBE := hbA.blk hBE (.inr (by omega))
            replace hk0 := hbA.kept hk0 (by omega)
            have kr := RowsKept.of_but (X := wo.heap.size) hbA hRlt
            replace hG := hG.kept kr.ints
            replace hD := hD.kept kr
            replace HLl : Hid ((l ++ [0]).length = m + 1 ∧ ∀ x ∈ l ++ [0], 0 ≤ x ∧ x ≤ 40) := ⟨by rw [List.length_append, HLl.out.1]; rfl, fun x hx => by
              rcases List.mem_append.1 hx with h | h
              · exact HLl.out.2 x h
              · obtain rfl := List.mem_singleton.1 h; omega⟩
            have hown3 : wA.ownsRow X1 3 1 (.slice A6 (m + 1) c6) (m + 1) ((l ++ [0]).map (Value.int .i64)) := by rw [List.map_append]; exact hown2
            clear hown hown2 hb hbA hg2 hkp
            have hown := ownsRow_mono (X := wo.heap.size) hown3 (by omega)
            have ce := hB0.cell
            have fe := hB0.frozen
            have cb := hBE.cell
            have b1 := hB0.set_ 0 (.int .i64 st)
            have b2 := b1.set_ 1 (.slice A1 n1 c1)
            have k1 := RowsKept.set (X := wo.heap.size) hB0 (by decide) (by decide) 0 (.int .i64 st)
            have k2 := RowsKept.set (X := wo.heap.size) b1 (by decide) (by decide) 1 (.slice A1 n1 c1)
            have k3 := RowsKept.set (X := wo.heap.size) b2 (by decide) (by decide) 2 (.slice A2 n2 c2)
            have kk := (k1.trans k2).trans k3
            have hG2 := hG.kept kk.ints
            have hD2 := hD.kept kk
            have hOw2 := kk.ints _ _ _ _ hown
            have hle := Nat.le_refl w.heap.size
            have hkF := ((hk0.setCell (p := ⟨w.heap.size, 0, none⟩) hle (.int .i64 st)).setCell (p := ⟨w.heap.size, 1, none⟩) hle (.slice A1 n1 c1)).setCell (p := ⟨w.heap.size, 2, none⟩) hle (.slice A2 n2 c2)
            clear hB0 hBE b1 b2 k1 k2 k3 kk hG hD hk0 hown
            go_wp2_with fail
            refine bodyPost_ret (v := .tuple #[.agg #[.int .i64 st, .slice A1 n1 c1, .slice A2 n2 c2], .slice A6 (m + 1) c6]) (by simp [results, Tryd.results10, go_sem, ce]) rfl ?_
            obtain ⟨tt, hTT, _⟩ := TaskQ.task ⟨st, A1, n1, c1, A2, n2, c2, rfl, hst, hG2, hD2, hn2⟩
            exact ⟨_, rfl, ⟨_, tt, _, _, _, _, rfl, hTT, own_ints (by omega) hOw2 (fun x hx => by have := HLl.out.2 x hx; unfold Sp.inI; omega)⟩, hkF⟩
        · obtain rfl : m = 0 := by omega
          go_wp2_with fail
          refine (c_odd R 20 p5 _ hR7 (by omega) (by omega) (by omega)).mono ?_; rintro e wr ⟨v, p8, rfl, hRr, hp11, hp12, hbr, b2, rfl⟩
          replace hb := hb.trans hbr
          replace hown := own_but hown hbr (by omega)
          clear hbr
          have hkp := hb
          have hXr : X1 ≤ wr.heap.size := by have := hb.size; omega
          cases b2
          · replace hB0 := hb.blk hB0 (.inl (by omega))
            replace hBE := hb.blk hBE (.inr (by omega))
            replace hk0 := hb.kept hk0 (by omega)
            have kr := RowsKept.of_but (X := wo.heap.size) hb hRlt
            replace hG := hG.kept kr.ints
            replace hD := hD.kept kr
            replace hown := ownsRow_mono (X := wo.heap.size) hown (by omega)
            have ce := hB0.cell
            have fe := hB0.frozen
            have cb := hBE.cell
            have b1 := hB0.set_ 0 (.int .i64 st)
            have b2 := b1.set_ 1 (.slice A1 n1 c1)
            have k1 := RowsKept.set (X := wo.heap.size) hB0 (by decide) (by decide) 0 (.int .i64 st)
            have k2 := RowsKept.set (X := wo.heap.size) b1 (by decide) (by decide) 1 (.slice A1 n1 c1)
            have k3 := RowsKept.set (X := wo.heap.size) b2 (by decide) (by decide) 2 (.slice A2 n2 c2)
            have kk := (k1.trans k2).trans k3
            have hG2 := hG.kept kk.ints
            have hD2 := hD.kept kk
            have hOw2 := kk.ints _ _ _ _ hown
            have hle := Nat.le_refl w.heap.size
            have hkF := ((hk0.setCell (p := ⟨w.heap.size, 0, none⟩) hle (.int .i64 st)).setCell (p := ⟨w.heap.size, 1, none⟩) hle (.slice A1 n1 c1)).setCell (p := ⟨w.heap.size, 2, none⟩) hle (.slice A2 n2 c2)
            clear hB0 hBE b1 b2 k1 k2 k3 kk hG hD hk0 hown
            go_wp2_with fail
            refine bodyPost_ret (v := .tuple #[.agg #[.int .i64 st, .slice A1 n1 c1, .slice A2 n2 c2], .slice A5 0 c5]) (by simp [results, Tryd.results10, go_sem, ce]) rfl ?_
            obtain ⟨tt, hTT, _⟩ := TaskQ.task ⟨st, A1, n1, c1, A2, n2, c2, rfl, hst, hG2, hD2, hn2⟩
            exact ⟨_, rfl, ⟨_, tt, _, _, _, _, rfl, hTT, own_ints (by omega) hOw2 (fun x hx => by have := HLl.out.2 x hx; unfold Sp.inI; omega)⟩, hkF⟩
          · go_upto_region 13 with (first | (at_builtin; refine wpList_append_own _ rfl (.tmp 50) (.tmp 51) 23 rfl X1 3 i0 (.int .i64 0) 1 8 Tryd.underlying23 HI.out.1 HI.out.2.1 HI.out.2.2.1 HI.out.2.2.2 rfl (by decide) (.slice A5 0 c5) 0 _ rfl (hown.alloc _) ⟨wr.heap.size, 0, none⟩ 1 1 [.int .i64 0] rfl rfl (one_new _ _ _) (by simp [Value.oneCell']) (by unfold maxLen; omega) (by omega) (by simp; omega) ?_; intro v' wA hown2 hg2 _))
            obtain ⟨A6, c6, rfl⟩ := own_form hown2
            have hbA := (hb.kept_ ((Kept.refl wr).alloc (.cells #[.int .i64 0] 3))).grown hg2 (fun k e => by have := (hown.lt k e).1; omega)
            replace hB0 := hbA.blk hB0 (.inl (by omega))
            replace hBE := hbA.blk hBE (.inr (by omega))
            replace hk0 := hbA.kept hk0 (by omega)
            have kr := RowsKept.of_but (X := wo.heap.size) hbA hRlt
            replace hG := hG.kept kr.ints
            replace hD := hD.kept kr
            replace HLl : Hid ((l ++ [0]).length = 0 + 1 ∧ ∀ x ∈ l ++ [0], 0 ≤ x ∧ x ≤ 40) := ⟨by rw [List.length_append, HLl.out.1]; rfl, fun x hx => by
              rcases List.mem_append.1 hx with h | h
              · exact HLl.out.2 x h
              · obtain rfl := List.mem_singleton.1 h; omega⟩
            have hown3 : wA.ownsRow X1 3 1 (.slice A6 (0 + 1) c6) (0 + 1) ((l ++ [0]).map (Value.int .i64)) := by rw [List.map_append]; exact hown2
            clear hown hown2 hb hbA hg2 hkp
            have hown := ownsRow_mono (X := wo.heap.size) hown3 (by omega)
            have ce := hB0.cell
            have fe := hB0.frozen
            have cb := hBE.cell
            have b1 := hB0.set_ 0 (.int .i64 st)
            have b2 := b1.set_ 1 (.slice A1 n1 c1)
            have k1 := RowsKept.set (X := wo.heap.size) hB0 (by decide) (by decide) 0 (.int .i64 st)
            have k2 := RowsKept.set (X := wo.heap.size) b1 (by decide) (by decide) 1 (.slice A1 n1 c1)
            have k3 := RowsKept.set (X := wo.heap.size) b2 (by decide) (by decide) 2 (.slice A2 n2 c2)
            have kk := (k1.trans k2).trans k3
            have hG2 := hG.kept kk.ints
            have hD2 := hD.kept kk
            have hOw2 := kk.ints _ _ _ _ hown
            have hle := Nat.le_refl w.heap.size
            have hkF := ((hk0.setCell (p := ⟨w.heap.size, 0, none⟩) hle (.int .i64 st)).setCell (p := ⟨w.heap.size, 1, none⟩) hle (.slice A1 n1 c1)).setCell (p := ⟨w.heap.size, 2, none⟩) hle (.slice A2 n2 c2)
            clear hB0 hBE b1 b2 k1 k2 k3 kk hG hD hk0 hown
            go_wp2_with fail
            refine bodyPost_ret (v := .tuple #[.agg #[.int .i64 st, .slice A1 n1 c1, .slice A2 n2 c2], .slice A6 (0 + 1) c6]) (by simp [results, Tryd.results10, go_sem, ce]) rfl ?_
            obtain ⟨tt, hTT, _⟩ := TaskQ.task ⟨st, A1, n1, c1, A2, n2, c2, rfl, hst, hG2, hD2, hn2⟩
            exact ⟨_, rfl, ⟨_, tt, _, _, _, _, rfl, hTT, own_ints (by omega) hOw2 (fun x hx => by have := HLl.out.2 x hx; unfold Sp.inI; omega)⟩, hkF⟩

end Go.Proofs.YtphdojebdclonaaDoor

