/- Joined texts. No condition. -/
import Derived.Maps.AppendAt
import Derived.Test.YtphdojebdclonaaDoorQ17
/- Walks: NumbersFor. No condition. -/
namespace Go.Proofs.YtphdojebdclonaaDoor
set_option linter.unusedSimpArgs false
set_option linter.unusedVariables false
open Go.RowKit

/-- 40 in place of none -/
def Sp.big (x : Int) : Int := if x < 0 then 40 else x
theorem big_in {x : Int} (h : Sp.inI x) : Sp.inI (Sp.big x) := by unfold Sp.big Sp.inI at *; split <;> omega
def Sp.numbersFor (t : Sp.Task) : List Int := (Sp.stepsLeast t).map Sp.big
theorem numbersFor_len (t : Sp.Task) : (Sp.numbersFor t).length ≤ 1073741824 := by unfold Sp.numbersFor; rw [List.length_map]; exact stepsLeast_len t

theorem Own.row {w : World} {g n : Nat} {l : List Int} (h : Own w g n l) (hn : 0 < n) : IntRow w g n (fun s => l.getD s default) := by
  refine ⟨h.1, h.2.1, fun s hs => ?_⟩
  obtain ⟨b, o, e, _, hc⟩ := h.2.2.2.2.2 hn
  simp only [Option.some.injEq, Addr.mk.injEq] at e
  obtain ⟨rfl, rfl, _⟩ := e
  have := hc s hs
  rwa [Nat.zero_add] at this



































































theorem stepsLeast_in (t : Sp.Task) : ∀ x ∈ Sp.stepsLeast t, Sp.inI x := by
  intro x hx
  unfold Sp.stepsLeast at hx
  split at hx
  · exact distList_in _ _ (truth_bd _) x hx
  · cases hx

theorem IntRow.grown {w w2 : World} {g n : Nat} {f : Nat → Int} {o : Obj} {row : Option Nat} (h : IntRow w g n f) (hg : (w.alloc o).grownBy w2 row) (hr : row ≠ some g) : IntRow w2 g n f := by
  have h' := h.keep ((Kept.refl w).alloc o)
  have hb := hg.block g h'.1 (fun e => hr e.symm)
  refine ⟨Nat.lt_of_lt_of_le h'.1 hg.size, fun i => ?_, fun s hs => ?_⟩
  · have := h'.2.1 i
    unfold World.frozen? at this ⊢
    rw [hb]; exact this
  · rw [World.cell?_of_block (a := ⟨g, s, none⟩) hb]; exact h'.2.2 s hs
theorem row_off {w : World} {A A' : Option Addr} {k c k' c' G : Nat} {o : Obj} (h : (Value.slice A k c).ownBlock ≠ some G) (hat : (Value.slice A' k' c').ownBlock = (Value.slice A k c).ownBlock ∨ (Value.slice A' k' c').ownBlock = some (w.alloc o).heap.size) (hG : G < w.heap.size) :
    Hid ((Value.slice A' k' c').ownBlock ≠ some G) := by
  show _ ≠ _
  rcases hat with e | e
  · rw [e]; exact h
  · rw [e]; simp; omega
theorem outInts_own {w w1 wr : World} {A : Option Addr} {l : List Int} {n c : Nat} (hn : n = l.length) (h : wr.ownsRow w1.heap.size 3 1 (.slice A n c) n ((l.take n).map (Value.int .i64))) (hm : n ≤ maxLen) (hw : w.heap.size ≤ w1.heap.size) (hi : ∀ x ∈ l.take n, Sp.inI x) :
    OutInts w (l.take n) (.slice A n c) wr := by
  subst hn
  rw [List.take_length] at h hi ⊢
  refine ⟨A, c, rfl, ?_⟩
  by_cases h0 : l.length = 0
  · have : l = [] := List.length_eq_zero_iff.1 h0
    subst this
    exact ⟨⟨rfl, Nat.zero_le _, fun x hx => (by cases hx), fun h => absurd h (Nat.lt_irrefl 0)⟩, fun h => absurd h (Nat.lt_irrefl 0)⟩
  · obtain ⟨_, g, rfl, hg, _, hR⟩ := own_row h (by omega)
    have := hR.own rfl hm hi (fun _ _ => rfl)
    exact ⟨this.ints, fun _ => ⟨g, rfl, by omega, this.1, this⟩⟩
































theorem c_sNumbersFor (v : Value) (t : Sp.Task) (w : World) (h : TaskV w v t) : Calls Tryd.prog 41 #[v] w (RetS (OutInts w (Sp.numbersFor t)) w) := by
  obtain ⟨i0, hi0, hz0, hz1, hz2⟩ := info_parts info_int
  have HI := Lib.hid (And.intro hi0 (And.intro hz0 (And.intro hz1 hz2)))
  clear hi0 hz0 hz1 hz2
  obtain ⟨A, n, c, A', n', c', rfl⟩ := h.form
  have hk0 := (Kept.refl w).alloc (.cells #[.int .i64 t.start, .slice A n c, .slice A' n' c'] 26)
  have B0 := Blk.new w 26 #[.int .i64 t.start, .slice A n c, .slice A' n' c']
  have hT := h.keep hk0
  obtain ⟨l, HL⟩ : ∃ l, Hid (Sp.stepsLeast t = l) := ⟨_, rfl⟩
  have hll : l.length ≤ 1073741824 := by rw [← HL.out]; exact stepsLeast_len t
  have HIn := Lib.hid (stepsLeast_in t)
  rw [HL.out] at HIn
  go_enter Tryd.func41, Tryd.ntmps41
  go_wp2_with fail
  obtain ⟨w1, HW1⟩ : ∃ w1, Hid (w1 = w.alloc (.cells #[.int .i64 t.start, .slice A n c, .slice A' n' c'] 26)) := ⟨w.alloc (.cells #[.int .i64 t.start, .slice A n c, .slice A' n' c'] 26), rfl⟩
  have hz1 : w1.heap.size = w.heap.size + 1 := by rw [HW1.out]; simp
  rw [← HW1.out, ← hz1]
  rw [← HW1.out] at hk0 hT B0
  have hO0 := World.ownsRow_made (e := 3) (size := 1) w1 #[] 0 (Nat.le_refl _) (by unfold maxLen; omega) rfl
  have hk1 := (Kept.refl w1).alloc (.cells #[] 3)
  refine (c_sStepsLeast _ t _ (hT.keep hk1)).mono ?_; rintro e w2 ⟨v, rfl, ⟨A4, c4, rfl, hO⟩, hk2⟩
  rw [HL.out] at hO ⊢
  replace hO0 := own_keep hO0 hk2
  replace hk1 := hk1.trans hk2
  have hRow : ∃ G, G ≠ w1.heap.size ∧ (0 < l.length → A4 = some ⟨G, 0, none⟩ ∧ IntRow w2 G l.length (fun s => l.getD s default)) := by
    by_cases h0 : l.length = 0
    · exact ⟨w1.heap.size + 1, by omega, by omega⟩
    · obtain ⟨g, e, hg, _, hw⟩ := hO.2 (by omega)
      simp only [World.size_alloc] at hg
      exact ⟨g, by omega, fun _ => ⟨e, hw.row (by omega)⟩⟩
  obtain ⟨G, hG1, hG2⟩ := hRow
  clear hk2 hO
  have HZ1 := Lib.hid hz1
  clear hz1
  go_wp2_with fail
  go_loopw [5, 3] (fun i v wr => ∃ (k : Nat) (A2 : Option Addr) (c2 : Nat), k ≤ l.length ∧ i = .int .i64 k ∧ v = .slice A2 k c2 ∧ wr.ownsRow w1.heap.size 3 1 (.slice A2 k c2) k (((l.map Sp.big).take k).map (Value.int .i64)) ∧ Kept w1 wr ∧ Hid ((Value.slice A2 k c2).ownBlock ≠ some G) ∧ (0 < l.length → A4 = some ⟨G, 0, none⟩ ∧ IntRow wr G l.length (fun s => l.getD s default))) (fun i _ _ => l.length - (intOf i).toNat)
  case atStart => exact ⟨0, _, _, Nat.zero_le _, rfl, rfl, hO0, hk1, by show _ ≠ _; simp [Value.ownBlock]; omega, hG2⟩
  case round =>
    obtain ⟨k, A2, c2, hk, rfl, rfl, hown, hkp, HG1, hG2⟩ := hrel
    by_cases hlt : k < l.length
    · obtain ⟨rfl, hR⟩ := hG2 (by omega)
      have c0 := hR.2.2 k hlt
      have HR := Lib.hid hR
      have hGl := hR.1
      clear hR hG2
      have HX : Hid ((l.map Sp.big).take (k + 1) = (l.map Sp.big).take k ++ [Sp.big (l.getD k default)]) := by
        show _ = _
        rw [List.take_succ_eq_append_getElem (by rw [List.length_map]; exact hlt)]
        simp [List.getD, hlt]
      have HB := Lib.hid (show ∀ x, Sp.big x = if x < 0 then 40 else x from fun _ => rfl)
      simp only [] at c0
      generalize l.getD k default = x at c0 HX
      by_cases hx : x < 0
      · have HV : Hid (Sp.big x = 40) := by show _ = _; rw [HB.out, if_pos hx]
        go_wp2_with (first | (at_builtin; refine wpList_append_own_at _ rfl (.tmp 20) (.tmp 21) 23 rfl (w1.heap.size) 3 i0 (.int .i64 0) 1 8 Tryd.underlying23 HI.out.1 HI.out.2.1 HI.out.2.2.1 HI.out.2.2.2 rfl (by decide) (.slice A2 k c2) k _ rfl (hown.alloc _) ⟨wr.heap.size, 0, none⟩ 1 1 [.int .i64 (40)] rfl rfl (one_new _ _ _) (by simp [Value.oneCell']) (by unfold maxLen; omega) (by omega) (by have := hkp.size; (try simp at this ⊢); omega) ?_; intro v' w2 hown2 hg2 _ hat))
        obtain ⟨A3, c3, rfl⟩ := own_form hown2
        exact ⟨⟨k + 1, A3, c3, by omega, by go_num, rfl, by rw [HX.out, HV.out, List.map_append]; exact hown2, own_more hown hkp hg2, row_off HG1.out hat hGl, fun _ => ⟨by trivial, HR.out.grown hg2 HG1.out⟩⟩, by simp [intOf]; omega⟩
      · have HV : Hid (Sp.big x = x) := by show _ = _; rw [HB.out, if_neg hx]
        go_wp2_with (first | (at_builtin; refine wpList_append_own_at _ rfl (.tmp 23) (.tmp 28) 23 rfl (w1.heap.size) 3 i0 (.int .i64 0) 1 8 Tryd.underlying23 HI.out.1 HI.out.2.1 HI.out.2.2.1 HI.out.2.2.2 rfl (by decide) (.slice A2 k c2) k _ rfl (hown.alloc _) ⟨wr.heap.size, 0, none⟩ 1 1 [.int .i64 (x)] rfl rfl (one_new _ _ _) (by simp [Value.oneCell']) (by unfold maxLen; omega) (by omega) (by have := hkp.size; (try simp at this ⊢); omega) ?_; intro v' w2 hown2 hg2 _ hat))
        obtain ⟨A3, c3, rfl⟩ := own_form hown2
        exact ⟨⟨k + 1, A3, c3, by omega, by go_num, rfl, by rw [HX.out, HV.out, List.map_append]; exact hown2, own_more hown hkp hg2, row_off HG1.out hat hGl, fun _ => ⟨by trivial, HR.out.grown hg2 HG1.out⟩⟩, by simp [intOf]; omega⟩
    · obtain rfl : k = l.length := by omega
      have HO := Lib.hid (outInts_own (w := w) (w1 := w1) (by rw [List.length_map]) hown (by unfold maxLen; omega) (by have := HZ1.out; omega) (fun x hx => by
        rw [List.take_of_length_le (by rw [List.length_map]; omega)] at hx
        obtain ⟨y, hy, rfl⟩ := List.mem_map.1 hx
        exact big_in (HIn.out y hy)))
      go_wp2_with fail
      go_ret
      refine ⟨_, rfl, ?_, hk0.trans hkp⟩
      have := HO.out
      rw [List.take_of_length_le (by rw [List.length_map]; omega)] at this
      show OutInts w ((Sp.stepsLeast t).map Sp.big) _ _
      rw [HL.out]
      exact this

end Go.Proofs.YtphdojebdclonaaDoor
