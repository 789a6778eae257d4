/- Walks: the reference's WaysTo. No condition. -/
import Derived.Test.YtjmpfemlihjibaaG20
import Derived.StillTailTactics
namespace Go.Proofs.Ytjmpfemlihjibaa
open Go.RowKit

theorem IntRow.made (w : World) (n : Nat) : IntRow (w.alloc (.cells (madeCells #[.int .i64 0] n) 3)) w.heap.size n (fun _ => 0) := by
  have B := Blk.new w 3 (madeCells #[.int .i64 0] n)
  exact ⟨B.lt, B.frozen, fun s hs => by rw [B.cell]; simp [madeCells, hs, Nat.mod_one]⟩
theorem waysBy_skip {t : Sp.Task} {W : Nat → Int} {s k : Nat} (h : Sp.hit t s k = false) : Sp.waysBy t W s (k + 1) = Sp.waysBy t W s k := by
  show (if Sp.hit t s k = true then _ else _) = _
  rw [h]; rfl
theorem waysBy_add {t : Sp.Task} {W : Nat → Int} {s k u : Nat} (h : Sp.hit t s k = true) (hu : Sp.stepI (t.deeds.getD k default) s = (u : Int)) : Sp.waysBy t W s (k + 1) = IntKind.i64.wrap (Sp.waysBy t W s k + W u) := by
  show (if Sp.hit t s k = true then _ else _) = _
  rw [h, hu, Int.toNat_natCast]; rfl
/-- the ways while the deeds of the state j are gone through -/
def Sp.waysMid (t : Sp.Task) (m j k s : Nat) : Int := if s = j then Sp.waysBy t (Sp.waysUp t m) j k else Sp.waysTill t (m + 1) j s
theorem waysMid_zero {t : Sp.Task} {m j : Nat} (h : Sp.toGo t j = ((m + 1 : Nat) : Int)) (s : Nat) : Sp.waysTill t (m + 1) j s = Sp.waysMid t m j 0 s := by
  unfold Sp.waysMid
  by_cases e : s = j
  · subst e; rw [if_pos rfl, waysTill_this t h]; rfl
  · rw [if_neg e]
theorem waysMid_this (t : Sp.Task) (m j k : Nat) : Sp.waysMid t m j k j = Sp.waysBy t (Sp.waysUp t m) j k := by unfold Sp.waysMid; rw [if_pos rfl]
theorem waysMid_before {t : Sp.Task} {m j k u : Nat} (h : Sp.toGo t j = ((m + 1 : Nat) : Int)) (hu : Sp.toGo t u = (m : Int)) : Sp.waysMid t m j k u = Sp.waysUp t m u := by
  unfold Sp.waysMid
  rw [if_neg (by rintro rfl; rw [hu] at h; omega), waysTill_before t hu]
theorem waysMid_skip {t : Sp.Task} {m j k : Nat} (h : Sp.hit t j k = false) (s : Nat) : Sp.waysMid t m j k s = Sp.waysMid t m j (k + 1) s := by
  unfold Sp.waysMid
  rw [waysBy_skip h]
theorem waysMid_add {t : Sp.Task} {m j k u : Nat} (h : Sp.hit t j k = true) (hu : Sp.stepI (t.deeds.getD k default) j = (u : Int)) (s : Nat) :
    (if s = j then IntKind.i64.wrap (Sp.waysBy t (Sp.waysUp t m) j k + Sp.waysUp t m u) else Sp.waysMid t m j k s) = Sp.waysMid t m j (k + 1) s := by
  unfold Sp.waysMid
  rw [waysBy_add h hu]
  by_cases e : s = j
  · rw [if_pos e, if_pos e]
  · rw [if_neg e, if_neg e, if_neg e]
theorem waysMid_end {t : Sp.Task} {m j : Nat} (h : Sp.toGo t j = ((m + 1 : Nat) : Int)) (s : Nat) : Sp.waysMid t m j t.deeds.length s = Sp.waysTill t (m + 1) (j + 1) s := by
  unfold Sp.waysMid
  by_cases e : s = j
  · subst e; rw [if_pos rfl, waysTill_done t h]; rfl
  · rw [if_neg e, waysTill_other t (.inl e)]
theorem waysTill_one {t : Sp.Task} {j : Nat} (h : Sp.toGo t j = ((0 : Nat) : Int)) (s : Nat) : (if s = j then 1 else Sp.waysTill t 0 j s) = Sp.waysTill t 0 (j + 1) s := by
  by_cases e : s = j
  · subst e; rw [if_pos rfl, waysTill_done t h]; rfl
  · rw [if_neg e, waysTill_other t (.inl e)]
theorem hit_step {t : Sp.Task} {j m u k : Nat} (h : Sp.toGo t j = ((m + 1 : Nat) : Int)) (hu : Sp.stepI (t.deeds.getD k default) j = (u : Int)) : Sp.hit t j k = (Sp.toGo t u == (m : Int)) := by
  rw [hit_on hu, h]
  congr 1
  omega
theorem waysTo_yes {t : Sp.Task} (h : Sp.taskOk t = true) : (Sp.waysTo t).length = 32 ∧ (∀ s, s < 32 → Sp.ways t s = (Sp.waysTo t).getD s default) ∧ ∀ x ∈ Sp.waysTo t, Sp.inI x := by
  unfold Sp.waysTo
  rw [if_pos h]
  refine ⟨by simp, fun s hs => by simp [List.getD, hs], fun x hx => ?_⟩
  obtain ⟨s, _, rfl⟩ := List.mem_map.1 hx
  exact ways_in t s
theorem outInts_ways {w wr : World} {t : Sp.Task} {O : Nat} (h : Sp.taskOk t = true) (hR : IntRow wr O 32 (Sp.waysTill t 32 0)) (hO : w.heap.size ≤ O) : OutInts w (Sp.waysTo t) (.slice (some ⟨O, 0, none⟩) 32 32) wr := by
  obtain ⟨h1, h2, h3⟩ := waysTo_yes h
  have := (hR.congr fun s hs => waysTill_end t hs).own h1 (by unfold maxLen; omega) h3 h2
  rw [← h1] at this
  have := OutInts.of (c := 32) this hO
  rw [h1] at this
  exact this

set_option maxHeartbeats 2000000 in
set_option maxRecDepth 100000 in
theorem c_sWaysTo (v : Value) (t : Sp.Task) (w : World) (h : TaskV w v t) : Calls Try.prog 43 #[v] w (RetS (OutInts w (Sp.waysTo t)) w) := by
  obtain ⟨A, n, c, A', n', c', rfl⟩ := h.form
  have hk0 := (Kept.refl w).alloc (.cells #[.int .i64 t.start, .slice A n c, .slice A' n' c'] 26)
  have B0 := Blk.new w 26 #[.int .i64 t.start, .slice A n c, .slice A' n' c']
  have hT := h.keep hk0
  have hn := h.deeds.le
  have HLn := Lib.hid h.deeds.len
  have hmk : ∀ w, (Instr.makeSlice 23 (.int .i64 32) (.int .i64 32)).run Try.prog w = _ := fun w => make_ints 32 (by omega) w
  have hmk0 : ∀ w, (Instr.makeSlice 23 (.int .i64 0) (.int .i64 0)).run Try.prog w = _ := fun w => make_ints 0 (by omega) w
  go_enter Try.func43, Try.ntmps43
  go_wp2_with fail
  refine (c_sStepsLeast _ t _ hT).mono ?_; rintro e w3 ⟨v, rfl, ⟨A4, c4, rfl, hO⟩, hk3⟩
  replace hk0 := hk0.trans hk3
  replace B0 := B0.kept hk3
  clear hk3 hT
  have HSZ := Lib.hid hk0.size
  cases ht : Sp.taskOk t
  · have HE : Hid (Sp.waysTo t = []) := by show _ = _; unfold Sp.waysTo; rw [ht]; rfl
    have h0 : (Sp.stepsLeast t).length = 0 := by unfold Sp.stepsLeast; rw [ht]; rfl
    rw [h0]
    clear ht h0 hO hmk
    go_wp2_with fail
    clear hmk0
    have hk4 := hk0.alloc (.cells (madeCells #[.int .i64 0] 0) 3)
    go_loopw [5] (fun i wr => i = .int .i64 0 ∧ Kept w wr) (fun _ _ => 0)
    case atStart => exact ⟨rfl, hk4⟩
    case round =>
      obtain ⟨rfl, hkp⟩ := hrel
      go_wp2_with fail
      go_ret
      exact ⟨_, rfl, by rw [HE.out]; exact OutInts.none _ _ _ _, hkp⟩
  have HK := Lib.hid ht
  have HL := Lib.hid (stepsLeast_yes ht)
  clear ht hmk0
  rw [HL.out.1]
  obtain ⟨G, rfl, hG, hR⟩ := hO.row32 HL.out.1 HL.out.2
  clear hO hG
  go_wp2_with fail
  clear hmk
  have hkA := (Kept.refl w3).alloc (.cells (madeCells #[.int .i64 0] 32) 3)
  have hRA := IntRow.made w3 32
  go_loopw [5] (fun i wr => ∃ m : Nat, m ≤ 32 ∧ i = .int .i64 m ∧ Kept w3 wr ∧ IntRow wr w3.heap.size 32 (Sp.waysTill t m 0)) (fun i _ => 32 - (intOf i).toNat)
  case atStart => exact ⟨0, by omega, rfl, hkA, hRA.congr fun s _ => (waysTill_zero t s).symm⟩
  case round =>
    obtain ⟨m, hm, rfl, hkp, hRO⟩ := hrel
    by_cases hlt : m < 32
    · go_wp2_with fail
      try rw [show decide ((m : Int) < 32) = true from decide_eq_true (by omega)]
      go_loopw [6] (fun i wr => ∃ j : Nat, j ≤ 32 ∧ i = .int .i64 j ∧ Kept w3 wr ∧ IntRow wr w3.heap.size 32 (Sp.waysTill t m j)) (fun i _ => 32 - (intOf i).toNat)
      case atStart => exact ⟨0, by omega, rfl, hkp, hRO⟩
      case round =>
        obtain ⟨j, hj, rfl, hkp, hRO⟩ := hrel
        by_cases hlt2 : j < 32
        · have hRr := hR.keep hkp
          have c1 := hRr.2.2 j hlt2
          have hj0 : (0 : Int) ≤ (j : Int) := by omega
          have hj1 : (j : Int) < 32 := by omega
          obtain ⟨dj, HDj⟩ : ∃ dj, Hid (Sp.toGo t j = dj) := ⟨_, rfl⟩
          rw [HDj.out] at c1
          by_cases he : dj = (m : Int)
          · subst he
            cases m with
            | zero =>
              have c2 := hRO.2.2 j hlt2
              have f2 := hRO.2.1 j
              have hRO2 := (hRO.set hlt2 1).congr fun s _ => waysTill_one HDj.out s
              have hkp2 := hkp.setCell (p := ⟨w3.heap.size, j, none⟩) (Nat.le_refl _) (.int .i64 1)
              have c0 := (B0.kept hkp2).cell
              obtain ⟨M, HM⟩ : ∃ M : Int, Hid (((0 : Nat) : Int) = M) := ⟨_, rfl⟩
              have hM1 : (M == 0) = true := by rw [← HM.out]; rfl
              have hM2 : decide (0 < M) = false := by rw [← HM.out]; rfl
              rw [HM.out] at c1 ⊢
              clear hRr
              go_wp2_with fail
              clear c1 c2 f2 c0
              go_loopw [7] (fun i wr => i = .int .i64 0 ∧ Kept w3 wr ∧ IntRow wr w3.heap.size 32 (Sp.waysTill t 0 (j + 1))) (fun _ _ => 0)
              case atStart => exact ⟨rfl, hkp2, hRO2⟩
              case round =>
                obtain ⟨rfl, hkp, hRO⟩ := hrel
                have c0 := (B0.kept hkp).cell
                by_cases hn0 : n' = 0
                · subst hn0
                  go_wp2_with fail
                  exact ⟨⟨j + 1, by omega, by go_num, hkp, hRO⟩, by simp [intOf]; omega⟩
                · have hn1 : (0 : Int) < (n' : Int) := by omega
                  go_wp2_with fail
                  exact ⟨⟨j + 1, by omega, by go_num, hkp, hRO⟩, by simp [intOf]; omega⟩
            | succ m =>
              have hm0 : (0 : Int) < ((m + 1 : Nat) : Int) := by omega
              have hm1 : ¬ ((m + 1 : Nat) : Int) = 0 := by omega
              have hm2 : (((m + 1 : Nat) : Int) == 0) = false := beq_eq_false_iff_ne.2 hm1
              have hm3 : IntKind.i64.wrap (((m + 1 : Nat) : Int) - 1) = (m : Int) := by rw [IntKind.wrap_i64]; omega
              obtain ⟨M, HM⟩ : ∃ M : Int, Hid (((m + 1 : Nat) : Int) = M) := ⟨_, rfl⟩
              have HDj' : Hid (Sp.toGo t j = ((m + 1 : Nat) : Int)) := HDj.out
              clear HDj
              rw [HM.out] at hm0 hm1 hm2 hm3 c1 ⊢
              clear hRr
              go_wp2_with fail
              clear c1
              go_loopw [7] (fun i wr => ∃ k : Nat, k ≤ n' ∧ i = .int .i64 k ∧ Kept w3 wr ∧ IntRow wr w3.heap.size 32 (Sp.waysMid t m j k)) (fun i _ => n' - (intOf i).toNat)
              case atStart => exact ⟨0, Nat.zero_le _, rfl, hkp, hRO.congr fun s _ => waysMid_zero HDj'.out s⟩
              case round =>
                obtain ⟨k, hk, rfl, hkp, hRO⟩ := hrel
                have c0 := (B0.kept hkp).cell
                by_cases hlt3 : k < n'
                · have hkl : k < t.deeds.length := by rw [HLn.out]; exact hlt3
                  obtain ⟨b, off, rfl, hb, hc⟩ := (h.keep (hk0.trans hkp)).deeds.at hlt3
                  have hdo := Lib.hid (Sp.taskOk_deed HK.out hkl)
                  have HOff := Lib.hid (@hit_off t j k)
                  have HOn := Lib.hid (fun u => @hit_step t j m u k HDj'.out)
                  have HAdd := Lib.hid (fun u => @waysMid_add t m j k u)
                  have HSkip := Lib.hid (@waysMid_skip t m j k)
                  generalize t.deeds.getD k default = d at *
                  obtain ⟨A3, n3, c3, hc0, hc1, hc2, hc3, hdv⟩ := hc.v
                  have HDv := Lib.hid hdv
                  clear hdv
                  have hbd := stepI_bd (d := d) hlt2 hdo.out
                  go_wp2_with fail
                  refine (c_l6Do _ d _ _ HDv.out hdo.out (by omega) (by omega)).mono ?_; rintro e w4 ⟨rfl, hk4⟩
                  rw [Int.toNat_natCast]
                  replace hkp := hkp.trans hk4
                  replace hRO := hRO.keep hk4
                  clear c0 hc0 hc1 hc2 hc3 hk4 hb HDv
                  obtain ⟨x, HX⟩ : ∃ x, Hid (Sp.stepI d j = x) := ⟨_, rfl⟩
                  rw [HX.out] at hbd ⊢
                  by_cases hx : 0 ≤ x
                  · obtain ⟨u, rfl⟩ := Int.eq_ofNat_of_zero_le hx
                    have hu1 : (u : Int) < 32 := by omega
                    have hRr := hR.keep hkp
                    have c1 := hRr.2.2 u (by omega)
                    have HOn2 := Lib.hid (HOn.out u HX.out)
                    obtain ⟨du, HDu⟩ : ∃ du, Hid (Sp.toGo t u = du) := ⟨_, rfl⟩
                    rw [HDu.out] at c1 HOn2
                    clear hRr
                    by_cases he : du = (m : Int)
                    · have heq : (du == (m : Int)) = true := by rw [he]; simp
                      have HHit : Hid (Sp.hit t j k = true) := by show _ = _; rw [HOn2.out, heq]
                      have HBf := Lib.hid (waysMid_before (k := k) HDj'.out (u := u) (by rw [HDu.out, he]))
                      have c2 := hRO.2.2 j hlt2
                      have c3 := hRO.2.2 u (by omega)
                      rw [waysMid_this] at c2
                      rw [HBf.out] at c3
                      have f2 := hRO.2.1 j
                      have hRO2 := ((hRO.set hlt2 (IntKind.i64.wrap (Sp.waysBy t (Sp.waysUp t m) j k + Sp.waysUp t m u))).congr fun s _ => HAdd.out u HHit.out HX.out s).keep (Kept.refl _).drew
                      have hkp2 := (hkp.setCell (p := ⟨w3.heap.size, j, none⟩) (Nat.le_refl _) (.int .i64 (IntKind.i64.wrap (Sp.waysBy t (Sp.waysUp t m) j k + Sp.waysUp t m u)))).drew
                      generalize Sp.waysBy t (Sp.waysUp t m) j k = a at *
                      generalize Sp.waysUp t m u = b2 at *
                      have hw64 : wrap64 (a + b2) = IntKind.i64.wrap (a + b2) := by rw [IntKind.wrap_i64, wrap64]
                      rw [← hw64] at hRO2 hkp2
                      clear he hw64
                      go_wp2_with fail
                      go_still_tail 12, (by kernel_rfl)
                      change wpList _ _ _ _ _ w4.drew
                      go_wp2_with fail
                      exact ⟨⟨k + 1, by omega, by go_num, hkp2, hRO2⟩, by simp [intOf]; omega⟩
                    · have heq : (du == (m : Int)) = false := beq_eq_false_iff_ne.2 he
                      have HHit : Hid (Sp.hit t j k = false) := by show _ = _; rw [HOn2.out, heq]
                      have hRO2 := hRO.congr fun s _ => HSkip.out HHit.out s
                      clear he
                      go_wp2_with fail
                      exact ⟨⟨k + 1, by omega, by go_num, hkp, hRO2⟩, by simp [intOf]; omega⟩
                  · have HHit : Hid (Sp.hit t j k = false) := HOff.out (by rw [HX.out]; omega)
                    have hRO2 := hRO.congr fun s _ => HSkip.out HHit.out s
                    have hdx : decide (0 ≤ x) = false := decide_eq_false hx
                    go_wp2_with fail
                    exact ⟨⟨k + 1, by omega, by go_num, hkp, hRO2⟩, by simp [intOf]; omega⟩
                · have hRO2 := hRO.congr (f' := Sp.waysTill t (m + 1) (j + 1)) fun s _ => by rw [show k = t.deeds.length by rw [HLn.out]; omega]; exact waysMid_end HDj'.out s
                  go_wp2_with fail
                  exact ⟨⟨j + 1, by omega, by go_num, hkp, hRO2⟩, by simp [intOf]; omega⟩
          · have hq : (dj == (m : Int)) = false := beq_eq_false_iff_ne.2 he
            have hRO2 := hRO.congr (f' := Sp.waysTill t m (j + 1)) fun s _ => by
              by_cases e : s = j
              · subst e; exact (waysTill_other t (.inr (by rw [HDj.out]; exact he))).symm
              · exact (waysTill_other t (.inl e)).symm
            clear hRr
            go_wp2_with fail
            exact ⟨⟨j + 1, by omega, by go_num, hkp, hRO2⟩, by simp [intOf]; omega⟩
        · obtain rfl : j = 32 := by omega
          have hRO2 := hRO.congr fun s hs => waysTill_next t hs
          go_wp2_with fail
          exact ⟨⟨m + 1, by omega, by go_num, hkp, hRO2⟩, by simp [intOf]; omega⟩
    · obtain rfl : m = 32 := by omega
      have HO := Lib.hid (outInts_ways (w := w) HK.out hRO HSZ.out)
      go_wp2_with fail
      go_ret
      exact ⟨_, rfl, HO.out, hk0.trans hkp⟩

end Go.Proofs.Ytjmpfemlihjibaa
