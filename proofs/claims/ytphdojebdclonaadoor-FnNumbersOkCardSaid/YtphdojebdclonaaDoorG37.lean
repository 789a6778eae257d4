/- Walks: the reference's NumbersFor, its list owned. No condition. -/
import Derived.Test.YtphdojebdclonaaDoorG12
import Derived.Test.YtphdojebdclonaaDoorD2
namespace Go.Proofs.YtphdojebdclonaaDoor
open Go.RowKit

/-- a list that a call made, in a row of its own -/
def OutOwn (w : World) (l : List Int) (v : Value) (w' : World) : Prop := ∃ A c, v = .slice A l.length c ∧ w'.ownsRow w.heap.size 3 1 (.slice A l.length c) l.length (l.map (Value.int .i64))


theorem c_sNumbersForO (v : Value) (t : Sp.Task) (w : World) (h : TaskV w v t) : Calls Tryd.prog 41 #[v] w (RetS (OutOwn w (Sp.numbersFor t)) w) := by
  obtain ⟨i0, hi0, hz0, hz1, hz2⟩ := info_parts info_int
  have HI := Lib.hid (And.intro hi0 (And.intro hz0 (And.intro hz1 hz2)))
  clear hi0 hz0 hz1 hz2
  obtain ⟨A, n, c, A', n', c', rfl⟩ := h.form
  have hk0 := (Kept.refl w).alloc (.cells #[.int .i64 t.start, .slice A n c, .slice A' n' c'] 26)
  have B0 := Blk.new w 26 #[.int .i64 t.start, .slice A n c, .slice A' n' c']
  have hT := h.keep hk0
  obtain ⟨l, HL⟩ : ∃ l, Hid (Sp.stepsLeast t = l) := ⟨_, rfl⟩
  have hll : l.length ≤ 1073741824 := by rw [← HL.out]; exact stepsLeast_len t
  have HIn := Lib.hid (stepsLeast_in t)
  rw [HL.out] at HIn
  go_enter Tryd.func41, Tryd.ntmps41
  go_wp2_with fail
  obtain ⟨w1, HW1⟩ : ∃ w1, Hid (w1 = w.alloc (.cells #[.int .i64 t.start, .slice A n c, .slice A' n' c'] 26)) := ⟨w.alloc (.cells #[.int .i64 t.start, .slice A n c, .slice A' n' c'] 26), rfl⟩
  have hz1 : w1.heap.size = w.heap.size + 1 := by rw [HW1.out]; simp
  rw [← HW1.out, ← hz1]
  rw [← HW1.out] at hk0 hT B0
  have hO0 := World.ownsRow_made (e := 3) (size := 1) w1 #[] 0 (Nat.le_refl _) (by unfold maxLen; omega) rfl
  have hk1 := (Kept.refl w1).alloc (.cells #[] 3)
  refine (c_sStepsLeast _ t _ (hT.keep hk1)).mono ?_; rintro e w2 ⟨v, rfl, ⟨A4, c4, rfl, hO⟩, hk2⟩
  rw [HL.out] at hO ⊢
  replace hO0 := own_keep hO0 hk2
  replace hk1 := hk1.trans hk2
  have hRow : ∃ G, G ≠ w1.heap.size ∧ (0 < l.length → A4 = some ⟨G, 0, none⟩ ∧ IntRow w2 G l.length (fun s => l.getD s default)) := by
    by_cases h0 : l.length = 0
    · exact ⟨w1.heap.size + 1, by omega, by omega⟩
    · obtain ⟨g, e, hg, _, hw⟩ := hO.2 (by omega)
      simp only [World.size_alloc] at hg
      exact ⟨g, by omega, fun _ => ⟨e, hw.row (by omega)⟩⟩
  obtain ⟨G, hG1, hG2⟩ := hRow
  clear hk2 hO
  have HZ1 := Lib.hid hz1
  clear hz1
  go_wp2_with fail
  go_loopw [5, 3] (fun i v wr => ∃ (k : Nat) (A2 : Option Addr) (c2 : Nat), k ≤ l.length ∧ i = .int .i64 k ∧ v = .slice A2 k c2 ∧ wr.ownsRow w1.heap.size 3 1 (.slice A2 k c2) k (((l.map Sp.big).take k).map (Value.int .i64)) ∧ Kept w1 wr ∧ Hid ((Value.slice A2 k c2).ownBlock ≠ some G) ∧ (0 < l.length → A4 = some ⟨G, 0, none⟩ ∧ IntRow wr G l.length (fun s => l.getD s default))) (fun i _ _ => l.length - (intOf i).toNat)
  case atStart => exact ⟨0, _, _, Nat.zero_le _, rfl, rfl, hO0, hk1, by show _ ≠ _; simp [Value.ownBlock]; omega, hG2⟩
  case round =>
    obtain ⟨k, A2, c2, hk, rfl, rfl, hown, hkp, HG1, hG2⟩ := hrel
    by_cases hlt : k < l.length
    · obtain ⟨rfl, hR⟩ := hG2 (by omega)
      have c0 := hR.2.2 k hlt
      have HR := Lib.hid hR
      have hGl := hR.1
      clear hR hG2
      have HX : Hid ((l.map Sp.big).take (k + 1) = (l.map Sp.big).take k ++ [Sp.big (l.getD k default)]) := by
        show _ = _
        rw [List.take_succ_eq_append_getElem (by rw [List.length_map]; exact hlt)]
        simp [List.getD, hlt]
      have HB := Lib.hid (show ∀ x, Sp.big x = if x < 0 then 40 else x from fun _ => rfl)
      simp only [] at c0
      generalize l.getD k default = x at c0 HX
      by_cases hx : x < 0
      · have HV : Hid (Sp.big x = 40) := by show _ = _; rw [HB.out, if_pos hx]
        go_wp2_with (first | (at_builtin; refine wpList_append_own_at _ rfl (.tmp 20) (.tmp 21) 23 rfl (w1.heap.size) 3 i0 (.int .i64 0) 1 8 Tryd.underlying23 HI.out.1 HI.out.2.1 HI.out.2.2.1 HI.out.2.2.2 rfl (by decide) (.slice A2 k c2) k _ rfl (hown.alloc _) ⟨wr.heap.size, 0, none⟩ 1 1 [.int .i64 (40)] rfl rfl (one_new _ _ _) (by simp [Value.oneCell']) (by unfold maxLen; omega) (by omega) (by have := hkp.size; (try simp at this ⊢); omega) ?_; intro v' w2 hown2 hg2 _ hat))
        obtain ⟨A3, c3, rfl⟩ := own_form hown2
        exact ⟨⟨k + 1, A3, c3, by omega, by go_num, rfl, by rw [HX.out, HV.out, List.map_append]; exact hown2, own_more hown hkp hg2, row_off HG1.out hat hGl, fun _ => ⟨by trivial, HR.out.grown hg2 HG1.out⟩⟩, by simp [intOf]; omega⟩
      · have HV : Hid (Sp.big x = x) := by show _ = _; rw [HB.out, if_neg hx]
        go_wp2_with (first | (at_builtin; refine wpList_append_own_at _ rfl (.tmp 23) (.tmp 28) 23 rfl (w1.heap.size) 3 i0 (.int .i64 0) 1 8 Tryd.underlying23 HI.out.1 HI.out.2.1 HI.out.2.2.1 HI.out.2.2.2 rfl (by decide) (.slice A2 k c2) k _ rfl (hown.alloc _) ⟨wr.heap.size, 0, none⟩ 1 1 [.int .i64 (x)] rfl rfl (one_new _ _ _) (by simp [Value.oneCell']) (by unfold maxLen; omega) (by omega) (by have := hkp.size; (try simp at this ⊢); omega) ?_; intro v' w2 hown2 hg2 _ hat))
        obtain ⟨A3, c3, rfl⟩ := own_form hown2
        exact ⟨⟨k + 1, A3, c3, by omega, by go_num, rfl, by rw [HX.out, HV.out, List.map_append]; exact hown2, own_more hown hkp hg2, row_off HG1.out hat hGl, fun _ => ⟨by trivial, HR.out.grown hg2 HG1.out⟩⟩, by simp [intOf]; omega⟩
    · obtain rfl : k = l.length := by omega
      have HO := Lib.hid hown
      go_wp2_with fail
      go_ret
      refine ⟨_, rfl, ?_, hk0.trans hkp⟩
      have hown := HO.out
      rw [List.take_of_length_le (by rw [List.length_map]; omega)] at hown
      show OutOwn w ((Sp.stepsLeast t).map Sp.big) _ _
      rw [HL.out]
      refine ⟨A2, c2, by rw [List.length_map]; rfl, ?_⟩
      rw [List.length_map]
      exact ownsRow_mono hown (by have := HZ1.out; omega)

end Go.Proofs.YtphdojebdclonaaDoor
