/- Walks: ShadowNumbers, ShadowBound. No condition. -/
import Derived.Test.YtfbpcbjlogdflaaG12
import Derived.Test.YtfbpcbjlogdflaaG15
namespace Go.Proofs.Ytfbpcbjlogdflaa
open Go.RowKit

def Sp.shadowNumbers (t : Sp.Task) (q : Int) : List Int := (Sp.shadowSteps t q).map Sp.big
theorem shadowNumbers_len (t : Sp.Task) (q : Int) : (Sp.shadowNumbers t q).length ≤ 1073741824 := by unfold Sp.shadowNumbers; rw [List.length_map]; exact shadowSteps_len t q
theorem shadowSteps_in (t : Sp.Task) (q : Int) : ∀ x ∈ Sp.shadowSteps t q, Sp.inI x := by
  intro x hx
  unfold Sp.shadowSteps at hx
  split at hx
  · exact distList_in _ _ (endS_lt _ _) x hx
  · cases hx
theorem outInts_up {w w1 w2 : World} {l : List Int} {v : Value} (h : OutInts w1 l v w2) (hk : w.heap.size ≤ w1.heap.size) : OutInts w l v w2 := by
  obtain ⟨A, c, rfl, hI, hO⟩ := h
  exact ⟨A, c, rfl, hI, fun h0 => by obtain ⟨g, h1, h2, h3⟩ := hO h0; exact ⟨g, h1, Nat.le_trans hk h2, h3⟩⟩

theorem c_iShadowNumbers (v : Value) (t : Sp.Task) (q : Int) (w : World) (h : TaskV w v t) : Calls Try.prog 33 #[v, .int .i64 q] w (RetS (OutInts w (Sp.shadowNumbers t q)) w) := by
  obtain ⟨A, n, c, A', n', c', rfl⟩ := h.form
  have hk0 := (Kept.refl w).alloc (.cells #[.int .i64 t.start, .slice A n c, .slice A' n' c'] 30)
  have hT := h.keep hk0
  have hs0 : w.heap.size ≤ (w.alloc (.cells #[.int .i64 t.start, .slice A n c, .slice A' n' c'] 30)).heap.size := hk0.size
  go_enter Try.func33, Try.ntmps33
  go_wp2_with fail
  refine (c_iShadowSteps _ t q _ hT).mono ?_; rintro e w3 ⟨v, rfl, hO, hk3⟩
  have hO2 := outInts_up hO hs0
  replace hk0 := hk0.trans hk3
  clear hk3 hO hs0
  go_wp2_with fail
  refine (c_mostOut w _ _ _ hO2 hk0 (shadowSteps_len t q) (shadowSteps_in t q)).mono ?_; rintro e w4 ⟨v, rfl, hO3, hk4⟩
  go_wp2_with fail
  go_ret
  exact ⟨_, rfl, hO3, hk4⟩

theorem c_sShadowNumbers (v : Value) (t : Sp.Task) (q : Int) (w : World) (h : TaskV w v t) : Calls Try.prog 32 #[v, .int .i64 q] w (RetS (OutInts w (Sp.shadowNumbers t q)) w) := by
  obtain ⟨A, n, c, A', n', c', rfl⟩ := h.form
  have hk0 := (Kept.refl w).alloc (.cells #[.int .i64 t.start, .slice A n c, .slice A' n' c'] 30)
  have hT := h.keep hk0
  have hs0 : w.heap.size ≤ (w.alloc (.cells #[.int .i64 t.start, .slice A n c, .slice A' n' c'] 30)).heap.size := hk0.size
  obtain ⟨l, HL⟩ : ∃ l, Hid (Sp.shadowSteps t q = l) := ⟨_, rfl⟩
  have hll : l.length ≤ 1073741824 := by rw [← HL.out]; exact shadowSteps_len t q
  have HIn := Lib.hid (shadowSteps_in t q)
  rw [HL.out] at HIn
  go_enter Try.func32, Try.ntmps32
  go_wp2_with fail
  refine (c_sShadowSteps _ t q _ hT).mono ?_; rintro e w3 ⟨v, rfl, hO, hk3⟩
  rw [HL.out] at hO
  have hO2 := outInts_up hO hs0
  replace hk0 := hk0.trans hk3
  clear hk3 hO hs0
  obtain ⟨A4, c4, rfl, hI, hO⟩ := hO2
  have hRow : ∃ G, 0 < l.length → A4 = some ⟨G, 0, none⟩ ∧ w.heap.size ≤ G ∧ IntRow w3 G l.length (fun s => l.getD s default) := by
    by_cases h0 : l.length = 0
    · exact ⟨0, by omega⟩
    · obtain ⟨g, e, hg, _, hw⟩ := hO (by omega)
      exact ⟨g, fun _ => ⟨e, hg, hw.row (by omega)⟩⟩
  obtain ⟨G, hG⟩ := hRow
  clear hI hO
  go_wp2_with fail
  go_loopw [6] (fun i wr => ∃ k : Nat, k ≤ l.length ∧ i = .int .i64 k ∧ Kept w wr ∧ (0 < l.length → A4 = some ⟨G, 0, none⟩ ∧ w.heap.size ≤ G ∧ IntRow wr G l.length (fun s => if s < k then Sp.big (l.getD s default) else l.getD s default))) (fun i _ => l.length - (intOf i).toNat)
  case atStart => exact ⟨0, Nat.zero_le _, rfl, hk0, fun h0 => by
    obtain ⟨h1, h2, h3⟩ := hG h0
    exact ⟨h1, h2, h3.congr fun s _ => by rw [if_neg (by omega)]⟩⟩
  case round =>
    obtain ⟨k, hkn, rfl, hkp, hG⟩ := hrel
    by_cases hlt : k < l.length
    · obtain ⟨rfl, hg, hR⟩ := hG (by omega)
      clear hG
      have c0 := hR.2.2 k hlt
      simp only [Nat.lt_irrefl, if_false] at c0
      have f0 := hR.2.1 k
      have HB := Lib.hid (show ∀ x, Sp.big x = if x < 0 then 40 else x from fun _ => rfl)
      obtain ⟨x, HX⟩ : ∃ x, Hid (l.getD k default = x) := ⟨_, rfl⟩
      rw [HX.out] at c0
      by_cases hx : x < 0
      · have hR2 := (hR.set hlt 40).congr (f' := fun s => if s < k + 1 then Sp.big (l.getD s default) else l.getD s default) fun s hs => by
          by_cases e : s = k
          · subst e; rw [if_pos rfl, if_pos (by omega), HX.out, HB.out, if_pos hx]
          · rw [if_neg e]
            by_cases e2 : s < k
            · rw [if_pos e2, if_pos (by omega)]
            · rw [if_neg e2, if_neg (by omega)]
        go_wp2_with fail
        exact ⟨⟨k + 1, by omega, by go_num, hkp.setCell (p := ⟨G, k, none⟩) hg _, fun _ => ⟨by trivial, hg, hR2⟩⟩, by simp [intOf]; omega⟩
      · have hR2 := hR.congr (f' := fun s => if s < k + 1 then Sp.big (l.getD s default) else l.getD s default) fun s hs => by
          by_cases e : s = k
          · subst e; rw [if_neg (by omega), if_pos (by omega), HX.out, HB.out, if_neg hx]
          · by_cases e2 : s < k
            · rw [if_pos e2, if_pos (by omega)]
            · rw [if_neg e2, if_neg (by omega)]
        go_wp2_with fail
        exact ⟨⟨k + 1, by omega, by go_num, hkp, fun _ => ⟨by trivial, hg, hR2⟩⟩, by simp [intOf]; omega⟩
    · have HO : Hid (OutInts w (l.map Sp.big) (.slice A4 l.length c4) wr) := by
        by_cases h0 : l.length = 0
        · obtain rfl : l = [] := List.length_eq_zero_iff.1 h0
          exact OutInts.none _ _ _ _
        · obtain ⟨rfl, hg, hR⟩ := hG (by omega)
          have := (hR.congr (f' := fun s => Sp.big (l.getD s default)) fun s hs => by rw [if_pos (by omega)]).own (l := l.map Sp.big) (by rw [List.length_map]) (by unfold maxLen; omega) (fun x hx => by
            obtain ⟨y, hy, rfl⟩ := List.mem_map.1 hx
            exact big_in (HIn.out y hy)) (fun s hs => by simp [List.getD, hs])
          have e : l.length = (l.map Sp.big).length := by rw [List.length_map]
          show OutInts _ _ _ _
          rw [e] at this ⊢
          exact OutInts.of this hg
      go_wp2_with fail
      go_ret
      exact ⟨_, rfl, by show OutInts w ((Sp.shadowSteps t q).map Sp.big) _ _; rw [HL.out]; exact HO.out, hkp⟩

end Go.Proofs.Ytfbpcbjlogdflaa
