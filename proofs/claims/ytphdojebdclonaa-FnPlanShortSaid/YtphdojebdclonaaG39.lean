/- Walks: the reference's PlanOk, DeedDo, DeedsMay. No condition. -/
import Derived.Test.YtphdojebdclonaaG38
import Derived.Test.YtphdojebdclonaaG6
import Derived.Test.YtphdojebdclonaaD2
namespace Go.Proofs.Ytphdojebdclonaa
open Go.RowKit







































/-- what a deed does at any number -/
def Sp.stepAt (d : Sp.Deed) (s : Int) : Int := if Sp.stOk s = true then Sp.stepI d s.toNat else -1
theorem stepAt_bd {d : Sp.Deed} (h : Sp.deedOk d = true) (s : Int) : -1 ≤ Sp.stepAt d s ∧ Sp.stepAt d s ≤ 31 := by
  unfold Sp.stepAt
  split
  · rename_i hq
    unfold Sp.stOk at hq
    simp only [decide_eq_true_eq] at hq
    exact stepI_bd (by omega) h
  · omega
theorem c_sDeedDo (v : Value) (d : Sp.Deed) (s : Int) (w : World) (h : DeedV w v d) (hd : Sp.deedOk d = true) : Calls Try.prog 92 #[v, .int .i64 s] w (RetK (.int .i64 (Sp.stepAt d s)) w) := by
  obtain ⟨A, n, c, rfl, hrest⟩ := id h
  have hk0 := (Kept.refl w).alloc (.cells #[.slice A n c, .int .i64 d.on, .int .i64 d.off, .int .i64 d.flip] 43)
  have B0 := Blk.new w 43 #[.slice A n c, .int .i64 d.on, .int .i64 d.off, .int .i64 d.flip]
  have hV := h.keep hk0
  have HD := Lib.hid hd
  clear hrest hd
  go_enter Try.func92, Try.ntmps92
  go_wp2_with fail
  refine (c_sDeedValid _ d _ hV).mono ?_; rintro e w2 ⟨rfl, hk2⟩
  rw [HD.out]
  replace hk0 := hk0.trans hk2
  have c0 := (B0.kept hk2).cell
  replace hV := hV.keep hk2
  cases hq : Sp.stOk s
  · have HQ := Lib.hid hq
    have HE : Hid (Sp.stepAt d s = -1) := by show _ = _; unfold Sp.stepAt; rw [hq]; rfl
    clear hq
    go_wp2_with (first | (go_at_call 81; refine (c_l1In_st s _).mono ?_; rintro e w3 ⟨rfl, rfl⟩; rw [HQ.out]))
    go_ret
    exact ⟨ret_int HE.out.symm, hk0⟩
  · have HQ := Lib.hid hq
    have HE : Hid (Sp.stepAt d s = Sp.stepI d s.toNat) := by show _ = _; unfold Sp.stepAt; rw [if_pos hq]
    have hq2 := hq
    unfold Sp.stOk at hq2
    simp only [decide_eq_true_eq] at hq2
    clear hq
    go_wp2_with (first | (go_at_call 81; refine (c_l1In_st s _).mono ?_; rintro e w3 ⟨rfl, rfl⟩; rw [HQ.out]))
    refine (c_l6Do _ d s _ hV HD.out (by omega) (by omega)).mono ?_; rintro e w4 ⟨rfl, hk4⟩
    go_wp2_with fail
    go_ret
    exact ⟨ret_int HE.out.symm, hk0.trans hk4⟩

/-- the deeds that may be done: their numbers, in a row of its own -/
def MayQ (w : World) (t : Sp.Task) (v : Value) (w' : World) : Prop := ∃ (A : Option Addr) (m c : Nat) (l : List Int), v = .slice A m c ∧ w'.ownsRow w.heap.size 3 1 (.slice A m c) m (l.map (Value.int .i64)) ∧ (∀ x ∈ l, 0 ≤ x ∧ x < t.deeds.length) ∧ m ≤ 6 ∧ (0 < m → Sp.taskOk t = true)

set_option maxHeartbeats 2000000 in
set_option maxRecDepth 100000 in
theorem c_sDeedsMay (v : Value) (t : Sp.Task) (s : Int) (w : World) (h : TaskV w v t) : Calls Try.prog 91 #[v, .int .i64 s] w (RetS (MayQ w t) w) := by
  obtain ⟨i0, hi0, hz0, hz1, hz2⟩ := info_parts info_int
  have HI := Lib.hid (And.intro hi0 (And.intro hz0 (And.intro hz1 hz2)))
  clear hi0 hz0 hz1 hz2
  obtain ⟨A, n, c, A', n', c', rfl⟩ := h.form
  have hk0 := (Kept.refl w).alloc (.cells #[.int .i64 t.start, .slice A n c, .slice A' n' c'] 30)
  have B0 := Blk.new w 30 #[.int .i64 t.start, .slice A n c, .slice A' n' c']
  have hT := h.keep hk0
  have HLd := Lib.hid h.deeds.len
  clear h
  go_enter Try.func91, Try.ntmps91
  go_wp2_with fail
  obtain ⟨w1, HW1⟩ : ∃ w1, Hid (w1 = w.alloc (.cells #[.int .i64 t.start, .slice A n c, .slice A' n' c'] 30)) := ⟨w.alloc (.cells #[.int .i64 t.start, .slice A n c, .slice A' n' c'] 30), rfl⟩
  have hz1 : w1.heap.size = w.heap.size + 1 := by rw [HW1.out]; simp
  rw [← HW1.out, ← hz1]
  rw [← HW1.out] at hk0 hT B0
  have hO0 := World.ownsRow_made (e := 3) (size := 1) w1 #[] 0 (Nat.le_refl _) (by unfold maxLen; omega) rfl
  have hk1 := (Kept.refl w1).alloc (.cells #[] 3)
  have HZ1 := Lib.hid hz1
  clear hz1
  go_loopw [6, 5] (fun i v wr => ∃ (k m : Nat) (A2 : Option Addr) (c2 : Nat) (l : List Int), k ≤ n' ∧ i = .int .i64 k ∧ v = .slice A2 m c2 ∧ wr.ownsRow w1.heap.size 3 1 (.slice A2 m c2) m (l.map (Value.int .i64)) ∧ Kept w1 wr ∧ m ≤ k ∧ Hid ((∀ x ∈ l, 0 ≤ x ∧ x < n') ∧ (0 < k → Sp.taskOk t = true))) (fun i _ _ => n' - (intOf i).toNat)
  case atStart => exact ⟨0, 0, _, _, [], Nat.zero_le _, rfl, rfl, hO0, hk1, Nat.le_refl _, ⟨fun x hx => (by cases hx), fun h => (by omega)⟩⟩
  case round =>
    obtain ⟨k, m, A2, c2, l, hk, rfl, rfl, hown, hkp, hmk, HIn⟩ := hrel
    have c0 := (B0.kept hkp).cell
    have hend : MayQ w t (.slice A2 m c2) wr ∨ ¬ (k ≤ 6) := by
      by_cases h6 : k ≤ 6
      · refine .inl ⟨A2, m, c2, l, rfl, ownsRow_mono hown (by have := HZ1.out; omega), fun x hx => by rw [HLd.out]; exact HIn.out.1 x hx, by omega, fun h0 => HIn.out.2 (by omega)⟩
      · exact .inr h6
    have h6 : k ≤ 6 := by
      by_cases h0 : 0 < k
      · have := Sp.taskOk_len (HIn.out.2 h0); rw [HLd.out] at this; omega
      · omega
    have HEnd := Lib.hid (hend.resolve_right (fun h => h h6))
    clear hend
    by_cases hlt : k < n'
    · go_wp2_with fail
      refine (c_sTaskValid _ t _ (hT.keep hkp)).mono ?_; rintro e w2 ⟨rfl, hk2⟩
      have hown0 := hown
      replace hown := own_keep hown hk2
      cases ht : Sp.taskOk t
      · have HEnd2 : Hid (MayQ w t (.slice A2 m c2) w2) := by
          obtain ⟨A3, m3, c3, l3, e3, ho3, hr3⟩ := HEnd.out
          exact ⟨A3, m3, c3, l3, e3, own_keep ho3 hk2, hr3⟩
        clear ht c0 hown0
        go_wp2_with fail
        go_ret
        exact ⟨_, rfl, HEnd2.out, hk0.trans (hkp.trans hk2)⟩
      have HK := Lib.hid ht
      have hkl : k < t.deeds.length := by rw [HLd.out]; exact hlt
      replace hkp := hkp.trans hk2
      have c0 := (B0.kept hkp).cell
      obtain ⟨b, off, rfl, hb, hc⟩ := (hT.keep hkp).deeds.at hlt
      have HDo := Lib.hid (Sp.taskOk_deed HK.out hkl)
      have hbd := stepAt_bd HDo.out s
      generalize t.deeds.getD k default = d at *
      obtain ⟨A5, n5, c5, hc0, hc1, hc2, hc3, hdv⟩ := hc.v
      have HDv := Lib.hid hdv
      clear hdv hc ht hk2 hown0 HEnd
      go_wp2_with fail
      refine (c_sDeedDo _ d s _ HDv.out HDo.out).mono ?_; rintro e wr ⟨rfl, hk7⟩
      replace hkp := hkp.trans hk7
      replace hown := own_keep hown hk7
      clear hk7 c0 hc0 hc1 hc2 hc3 HDv hb
      generalize Sp.stepAt d s = y at *
      by_cases hy : 0 ≤ y
      · have HIn2 : Hid ((∀ x ∈ l ++ [(k : Int)], 0 ≤ x ∧ x < n') ∧ (0 < k + 1 → Sp.taskOk t = true)) := ⟨fun x hx => by
          rcases List.mem_append.1 hx with h | h
          · exact HIn.out.1 x h
          · obtain rfl := List.mem_singleton.1 h; omega, fun _ => HK.out⟩
        go_wp2_with (first | (at_builtin; refine wpList_append_own _ rfl (.tmp 27) (.tmp 29) 22 rfl (w1.heap.size) 3 i0 (.int .i64 0) 1 8 Try.underlying22 HI.out.1 HI.out.2.1 HI.out.2.2.1 HI.out.2.2.2 rfl (by decide) (.slice A2 m c2) m _ rfl (hown.alloc _) ⟨wr.heap.size, 0, none⟩ 1 1 [.int .i64 ((k : Int))] rfl rfl (one_new _ _ _) (by simp [Value.oneCell']) (by unfold maxLen; omega) (by omega) (by have := hkp.size; (try simp at this ⊢); omega) ?_; intro v' w2 hown2 hg2 _))
        obtain ⟨A3, c3, rfl⟩ := own_form hown2
        exact ⟨⟨k + 1, m + 1, A3, c3, l ++ [(k : Int)], by omega, by go_num, rfl, by rw [List.map_append]; exact hown2, own_more hown hkp hg2, by omega, HIn2⟩, by simp [intOf]; omega⟩
      · have HIn2 : Hid ((∀ x ∈ l, 0 ≤ x ∧ x < n') ∧ (0 < k + 1 → Sp.taskOk t = true)) := ⟨HIn.out.1, fun _ => HK.out⟩
        go_wp2_with fail
        exact ⟨⟨k + 1, m, A2, c2, l, by omega, by go_num, rfl, hown, hkp, by omega, HIn2⟩, by simp [intOf]; omega⟩
    · obtain rfl : k = n' := by omega
      go_wp2_with fail
      go_ret
      exact ⟨_, rfl, HEnd.out, hk0.trans hkp⟩

end Go.Proofs.Ytphdojebdclonaa
