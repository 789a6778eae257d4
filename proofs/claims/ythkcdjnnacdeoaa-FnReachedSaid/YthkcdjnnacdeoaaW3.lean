/- Walks: deeds and tasks are valid. No condition. -/
import Derived.Test.YthkcdjnnacdeoaaW2
namespace Go.Proofs.Ythkcdjnnacdeoaa
open Go.RowKit

theorem st_bd {s : Int} (h : Sp.stOk s = true) : 0 ≤ s ∧ s ≤ 31 := by simpa [Sp.stOk] using h

theorem and_st {a b : Int} (ha : Sp.stOk a = true) (hb : Sp.stOk b = true) : bits .and .i64 a b = ((a.toNat &&& b.toNat : Nat) : Int) := by
  have h1 := st_bd ha
  have h2 := st_bd hb
  exact i64_and a b (by omega) (by omega) (by omega) (by omega)

theorem c_iDeedValid (v : Value) (d : Sp.Deed) (w : World) (h : DeedV w v d) :
    Calls Try.prog 88 #[v] w (RetK (.bool (Sp.deedOk d)) w) := by
  obtain ⟨A, n, c, rfl, hI, h1, h2, h3⟩ := h
  have hk := (Kept.refl w).alloc (.cells #[.slice A n c, .int .i64 d.on, .int .i64 d.off, .int .i64 d.flip] 39)
  have hI' := hI.keep hk
  clear h1 h2 h3
  go_enter Try.func88, Try.ntmps88
  go_wp2_with (first | (go_at_call 83; refine (c_iCodeValid _ _ _ _ _ hI').mono ?_; rintro e w' ⟨rfl, rfl⟩) | (go_at_call 87; refine (c_stateOk _ _).mono ?_; rintro e w' ⟨rfl, rfl⟩))
  all_goals
    go_ret
    refine ⟨ret_bool ?_, hk⟩
    clear hk hI' hI
    simp_all [Sp.deedOk, and_st]
    try (rw [Bool.eq_iff_iff]; simp)

theorem c_sDeedValid (v : Value) (d : Sp.Deed) (w : World) (h : DeedV w v d) :
    Calls Try.prog 94 #[v] w (RetK (.bool (Sp.deedOk d)) w) := by
  obtain ⟨A, n, c, rfl, hI, h1, h2, h3⟩ := h
  have hk := (Kept.refl w).alloc (.cells #[.slice A n c, .int .i64 d.on, .int .i64 d.off, .int .i64 d.flip] 39)
  have hI' := hI.keep hk
  clear h1 h2 h3
  cases h1 : Sp.stOk d.on
  · go_enter Try.func94, Try.ntmps94
    go_wp2_with (first | (go_at_call 95; refine (c_l1In_st _ _).mono ?_; rintro e w' ⟨rfl, rfl⟩))
    go_ret
    exact ⟨ret_bool (by simp [Sp.deedOk, h1]), hk⟩
  cases h2 : Sp.stOk d.off
  · go_enter Try.func94, Try.ntmps94
    go_wp2_with (first | (go_at_call 95; refine (c_l1In_st _ _).mono ?_; rintro e w' ⟨rfl, rfl⟩))
    go_ret
    exact ⟨ret_bool (by simp [Sp.deedOk, h2]), hk⟩
  cases h3 : Sp.stOk d.flip
  · go_enter Try.func94, Try.ntmps94
    go_wp2_with (first | (go_at_call 95; refine (c_l1In_st _ _).mono ?_; rintro e w' ⟨rfl, rfl⟩))
    go_ret
    exact ⟨ret_bool (by simp [Sp.deedOk, h3]), hk⟩
  have b1 := st_bd h1
  have b2 := st_bd h2
  have b3 := st_bd h3
  go_enter Try.func94, Try.ntmps94
  go_wp2_with (first | (go_at_call 95; refine (c_l1In_st _ _).mono ?_; rintro e w' ⟨rfl, rfl⟩) | (go_at_call 96; refine (c_sCodeValid _ _ _ _ _ hI').mono ?_; rintro e w' ⟨rfl, rfl⟩) | (go_at_call 103; refine (c_l1Both _ _ _ (by omega) (by omega) (by omega) (by omega)).mono ?_; rintro e w' ⟨rfl, rfl⟩))
  all_goals
    go_ret
    refine ⟨ret_bool ?_, hk⟩
    clear hk hI' hI b1 b2 b3
    simp_all [Sp.deedOk]
    try (rw [Bool.eq_iff_iff]; simp)

/-- the deed at place k, loaded -/
theorem DeedCells.v {w : World} {b o : Nat} {d : Sp.Deed} (h : DeedCells w b o d) :
    ∃ A n c, w.cell? ⟨b, o, none⟩ = some (.slice A n c) ∧ w.cell? ⟨b, o + 1, none⟩ = some (.int .i64 d.on) ∧ w.cell? ⟨b, o + 2, none⟩ = some (.int .i64 d.off) ∧
      w.cell? ⟨b, o + 3, none⟩ = some (.int .i64 d.flip) ∧ DeedV w (.agg #[.slice A n c, .int .i64 d.on, .int .i64 d.off, .int .i64 d.flip]) d := by
  obtain ⟨A, n, c, h1, h2, h3, h4, h5, h6⟩ := h
  exact ⟨A, n, c, h1, h3, h4, h5, A, n, c, rfl, h2, h6⟩

theorem all_take_succ {α : Type} [Inhabited α] (l : List α) (p : α → Bool) (k : Nat) (h : k < l.length) : (l.take (k + 1)).all p = ((l.take k).all p && p (l.getD k default)) := by
  rw [List.take_succ_eq_append_getElem h, List.all_append]
  simp [List.getD, h]

theorem all_take_no {α : Type} [Inhabited α] (l : List α) (p : α → Bool) (k : Nat) (h : k < l.length) (hp : p (l.getD k default) = false) : l.all p = false := by
  rw [List.all_eq_false]
  refine ⟨l.getD k default, ?_, by rw [hp]; decide⟩
  simp only [List.getD_eq_getElem?_getD, List.getElem?_eq_getElem h, Option.getD_some]
  exact List.getElem_mem _

theorem taskOk_no {t : Sp.Task} {k : Nat} (h : k < t.deeds.length) (hp : Sp.deedOk (t.deeds.getD k default) = false) : Sp.taskOk t = false := by
  unfold Sp.taskOk
  rw [all_take_no _ _ k h hp, Bool.and_false]

theorem c_sTaskValid (v : Value) (t : Sp.Task) (w : World) (h : TaskV w v t) :
    Calls Try.prog 40 #[v] w (RetK (.bool (Sp.taskOk t)) w) := by
  obtain ⟨A, n, c, A', n', c', rfl, hI, hD, h1⟩ := h
  have hn := hD.le
  have HL := Lib.hid hD.len
  go_enter Try.func40, Try.ntmps40
  go_wp2_with fail
  go_loopw [3] (fun i wr => ∃ k : Nat, k ≤ n' ∧ i = .int .i64 k ∧ Kept (w.alloc (.cells #[.int .i64 t.start, .slice A n c, .slice A' n' c'] 26)) wr ∧ Hid ((t.deeds.take k).all Sp.deedOk = true)) (fun i _ => n' - (intOf i).toNat)
  case atStart => exact ⟨0, Nat.zero_le _, rfl, Kept.refl _, rfl⟩
  case round =>
    obtain ⟨k, hk, rfl, hkp, HA⟩ := hrel
    have hb0 := hkp.box 0
    have hb1 := hkp.box 1
    have hb2 := hkp.box 2
    simp only [List.getElem?_toArray, List.getElem?_cons_zero, List.getElem?_cons_succ] at hb0 hb1 hb2
    have hkw := hkp.unbox
    by_cases hlt : k < n'
    · have hkl : k < t.deeds.length := by rw [HL.out]; exact hlt
      obtain ⟨b, off, rfl, hb, hc⟩ := (hD.keep hkw).at hlt
      have HY := all_take_succ t.deeds Sp.deedOk k hkl
      have HN := @taskOk_no t k hkl
      generalize t.deeds.getD k default = d at *
      obtain ⟨A2, n2, c2, hc0, hc1, hc2, hc3, hdv⟩ := hc.v
      cases hdo : Sp.deedOk d
      · have HN' := Lib.hid (HN hdo)
        have HDO := Lib.hid hdo
        clear HN HY hdo
        go_wp2_with fail
        refine (c_sDeedValid _ d _ hdv).mono ?_; rintro e w2 ⟨rfl, hk2⟩
        rw [HDO.out]
        go_wp2_with fail
        go_ret
        exact ⟨ret_bool HN'.out.symm, hkw.trans hk2⟩
      · have HY' : Hid ((t.deeds.take (k + 1)).all Sp.deedOk = true) := by show _ = true; rw [HY, HA.out, hdo]; rfl
        have HDO := Lib.hid hdo
        clear HN HY hdo
        go_wp2_with fail
        refine (c_sDeedValid _ d _ hdv).mono ?_; rintro e w2 ⟨rfl, hk2⟩
        rw [HDO.out]
        go_wp2_with fail
        exact ⟨⟨k + 1, by omega, by go_num, hkp.trans hk2, HY'⟩, by simp [intOf]; omega⟩
    · have HE : Hid (t.deeds.all Sp.deedOk = true) := by have := HA.out; rwa [Sp.take_all _ k (by rw [HL.out]; omega)] at this
      go_wp2_with (first | (go_at_call 95; refine (c_l1In_st _ _).mono ?_; rintro e w' ⟨rfl, rfl⟩) | (go_at_call 96; refine (c_sCodeValid _ _ _ _ _ (hI.keep hkw)).mono ?_; rintro e w' ⟨rfl, rfl⟩))
      all_goals
        go_ret
        refine ⟨ret_bool ?_, hkw⟩
        unfold Sp.taskOk
        rw [HE.out, HL.out]
        clear HE HL HA hI hD hkp hkw
        simp_all
        all_goals first | omega | (rw [Bool.eq_iff_iff]; simp; omega)

theorem c_iTaskValid (v : Value) (t : Sp.Task) (w : World) (h : TaskV w v t) :
    Calls Try.prog 26 #[v] w (RetK (.bool (Sp.taskOk t)) w) := by
  obtain ⟨A, n, c, A', n', c', rfl, hI, hD, h1⟩ := h
  have hn := hD.le
  have HL := Lib.hid hD.len
  have hk0 := (Kept.refl w).alloc (.cells #[.int .i64 t.start, .slice A n c, .slice A' n' c'] 26)
  cases hs : Sp.stOk t.start
  · go_enter Try.func26, Try.ntmps26
    go_wp2_with (first | (go_at_call 87; refine (c_stateOk _ _).mono ?_; rintro e w' ⟨rfl, rfl⟩))
    go_ret
    exact ⟨ret_bool (by simp [Sp.taskOk, hs]), hk0⟩
  cases hg : Sp.codeOk t.goal
  · have HG := Lib.hid hg
    clear hg
    go_enter Try.func26, Try.ntmps26
    go_wp2_with (first | (go_at_call 87; refine (c_stateOk _ _).mono ?_; rintro e w' ⟨rfl, rfl⟩))
    refine (c_iCodeValid _ _ _ _ _ (hI.keep hk0)).mono ?_; rintro e w2 ⟨rfl, rfl⟩
    rw [HG.out]
    go_wp2_with fail
    go_ret
    exact ⟨ret_bool (by simp [Sp.taskOk, HG.out]), hk0⟩
  have HG := Lib.hid hg
  have HS := Lib.hid hs
  clear hg
  by_cases h6 : n' ≤ 6
  · go_enter Try.func26, Try.ntmps26
    go_wp2_with (first | (go_at_call 87; refine (c_stateOk _ _).mono ?_; rintro e w' ⟨rfl, rfl⟩))
    refine (c_iCodeValid _ _ _ _ _ (hI.keep hk0)).mono ?_; rintro e w2 ⟨rfl, rfl⟩
    rw [HG.out]
    go_wp2_with fail
    clear hs
    go_loopw [24] (fun i wr => ∃ k : Nat, k ≤ n' ∧ i = .int .i64 k ∧ Kept (w.alloc (.cells #[.int .i64 t.start, .slice A n c, .slice A' n' c'] 26)) wr ∧ Hid ((t.deeds.take k).all Sp.deedOk = true)) (fun i _ => n' - (intOf i).toNat)
    case atStart => exact ⟨0, Nat.zero_le _, rfl, Kept.refl _, rfl⟩
    case round =>
      obtain ⟨k, hk, rfl, hkp, HA⟩ := hrel
      have hkw := hkp.unbox
      by_cases hlt : k < n'
      · have hkl : k < t.deeds.length := by rw [HL.out]; exact hlt
        obtain ⟨b, off, rfl, hb, hc⟩ := (hD.keep hkw).at hlt
        have HY := all_take_succ t.deeds Sp.deedOk k hkl
        have HN := @taskOk_no t k hkl
        generalize t.deeds.getD k default = d at *
        obtain ⟨A2, n2, c2, hc0, hc1, hc2, hc3, hdv⟩ := hc.v
        have hk3 := (Kept.refl wr).alloc (.cells #[.slice A2 n2 c2, .int .i64 d.on, .int .i64 d.off, .int .i64 d.flip] 39)
        have hdv3 := hdv.keep hk3
        cases hdo : Sp.deedOk d
        · have HN' := Lib.hid (HN hdo)
          have HDO := Lib.hid hdo
          clear HN HY hdo
          go_wp2_with fail
          refine (c_iDeedValid _ d _ hdv3).mono ?_; rintro e w2 ⟨rfl, hk2⟩
          rw [HDO.out]
          go_wp2_with fail
          go_ret
          exact ⟨ret_bool HN'.out.symm, hkw.trans (hk3.trans hk2)⟩
        · have HY' : Hid ((t.deeds.take (k + 1)).all Sp.deedOk = true) := by show _ = true; rw [HY, HA.out, hdo]; rfl
          have HDO := Lib.hid hdo
          clear HN HY hdo
          go_wp2_with fail
          refine (c_iDeedValid _ d _ hdv3).mono ?_; rintro e w2 ⟨rfl, hk2⟩
          rw [HDO.out]
          go_wp2_with fail
          exact ⟨⟨k + 1, by omega, by go_num, hkp.trans (hk3.trans hk2), HY'⟩, by simp [intOf]; omega⟩
      · have HE : Hid (t.deeds.all Sp.deedOk = true) := by have := HA.out; rwa [Sp.take_all _ k (by rw [HL.out]; omega)] at this
        go_wp2_with fail
        go_ret
        refine ⟨ret_bool ?_, hkw⟩
        unfold Sp.taskOk
        rw [HE.out, HL.out, HG.out, HS.out, decide_eq_true h6]; rfl
  · go_enter Try.func26, Try.ntmps26
    go_wp2_with (first | (go_at_call 87; refine (c_stateOk _ _).mono ?_; rintro e w' ⟨rfl, rfl⟩))
    refine (c_iCodeValid _ _ _ _ _ (hI.keep hk0)).mono ?_; rintro e w2 ⟨rfl, rfl⟩
    rw [HG.out]
    go_wp2_with fail
    go_ret
    exact ⟨ret_bool (by unfold Sp.taskOk; rw [HL.out, decide_eq_false h6]; simp), hk0⟩

end Go.Proofs.Ythkcdjnnacdeoaa
