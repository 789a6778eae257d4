/- Walks: the program's WaysTo. No condition. -/
import Derived.Test.YtjmpfemlihjibaaG21
import Derived.Test.YtjmpfemlihjibaaG22
import Derived.Deep.Cut
namespace Go.Proofs.Ytjmpfemlihjibaa
open Go.RowKit

set_option maxHeartbeats 2000000 in
set_option maxRecDepth 100000 in
theorem c_iWaysTo (v : Value) (t : Sp.Task) (w : World) (h : TaskV w v t) : Calls Try.prog 42 #[v] w (RetS (OutInts w (Sp.waysTo t)) w) := by
  obtain ⟨A, n, c, A', n', c', rfl⟩ := h.form
  have hk0 := (Kept.refl w).alloc (.cells #[.int .i64 t.start, .slice A n c, .slice A' n' c'] 26)
  have B0 := Blk.new w 26 #[.int .i64 t.start, .slice A n c, .slice A' n' c']
  have hT := h.keep hk0
  have hmk : ∀ w, (Instr.makeSlice 23 (.int .i64 32) (.int .i64 32)).run Try.prog w = _ := fun w => make_ints 32 (by omega) w
  go_enter Try.func42, Try.ntmps42
  go_wp2_with fail
  refine (c_iTaskValid _ t _ hT).mono ?_; rintro e w2 ⟨rfl, hk2⟩
  replace hk0 := hk0.trans hk2
  replace B0 := B0.kept hk2
  replace hT := hT.keep hk2
  clear hk2
  have c0 := B0.cell
  cases ht : Sp.taskOk t
  · have HE : Hid (Sp.waysTo t = []) := by show _ = _; unfold Sp.waysTo; rw [ht]; rfl
    clear ht
    go_wp2_with fail
    go_ret
    exact ⟨_, rfl, by rw [HE.out]; exact OutInts.none _ _ _ _, hk0⟩
  have HK := Lib.hid ht
  have HL := Lib.hid (stepsLeast_yes ht)
  have HC : Hid (Sp.codeTruth t.goal = (Sp.truth t.goal : Nat)) := by show _ = _; exact truth_codeTruth (Sp.taskOk_goal ht)
  have hS : Sp.truth t.goal < 2 ^ 32 := truth_bd t.goal
  have hn6 := Sp.taskOk_len ht
  have HSL : Hid (Sp.stepsLeast t = Sp.distList (Sp.relB t) (Sp.truth t.goal)) := by show _ = _; unfold Sp.stepsLeast; rw [if_pos ht]
  clear ht
  go_wp2_with fail
  refine (c_behindAll _ t _ hT HK.out).mono ?_; rintro e w3 ⟨v, rfl, ⟨g, rfl, hg, hR⟩, hk3⟩
  have hRow := RowsF.of hR (fun k hk => Sp.taskOk_deed HK.out hk)
  replace hk0 := hk0.trans hk3
  replace B0 := B0.kept hk3
  replace hT := hT.keep hk3
  clear hk3 hR c0
  have c0 := B0.cell
  go_wp2_with fail
  refine (c_iCodeTruth _ _ _ _ _ hT.goal).mono ?_; rintro e w4 ⟨rfl, hk4⟩
  rw [HC.out]
  replace hk0 := hk0.trans hk4
  replace B0 := B0.kept hk4
  replace hRow := hRow.keep hk4
  clear hk4 hT c0
  go_wp2_with fail
  refine (c_stepsBack _ _ _ _ _ _ hRow hn6 hS).mono ?_; rintro e w5 ⟨v, rfl, ⟨G, rfl, hG, hO⟩, hk5⟩
  have hR : IntRow w5 G 32 (Sp.toGo t) := by
    have h32 := distList_len (Sp.rev (Sp.edge t.deeds.length (Sp.flat t.deeds))) (Sp.truth t.goal)
    have := hO.row (by rw [h32]; omega)
    rw [h32] at this
    exact this.congr fun s hs => distList_at _ _ s hs
  rw [distList_len]
  replace hk0 := hk0.trans hk5
  replace hRow := hRow.keep hk5
  clear hk5 hO hG hS
  have HSZ := Lib.hid hk0.size
  have hkA := (Kept.refl w5).alloc (.cells (madeCells #[.int .i64 0] 32) 3)
  have hRA := IntRow.made w5 32
  clear B0
  go_wp2_with fail
  clear hmk
  go_loopw [21] (fun i wr => ∃ m : Nat, m ≤ 32 ∧ i = .int .i64 m ∧ Kept w5 wr ∧ IntRow wr w5.heap.size 32 (Sp.waysTill t m 0)) (fun i _ => 32 - (intOf i).toNat)
  case atStart => exact ⟨0, by omega, rfl, hkA, hRA.congr fun s _ => (waysTill_zero t s).symm⟩
  case round =>
    obtain ⟨m, hm, rfl, hkp, hRO⟩ := hrel
    by_cases hlt : m < 32
    · go_wp2_with fail
      try rw [show decide ((m : Int) < 32) = true from decide_eq_true (by omega)]
      go_loopw [26] (fun i wr => ∃ j : Nat, j ≤ 32 ∧ i = .int .i64 j ∧ Kept w5 wr ∧ IntRow wr w5.heap.size 32 (Sp.waysTill t m j)) (fun i _ => 32 - (intOf i).toNat)
      case atStart => exact ⟨0, by omega, rfl, hkp, hRO⟩
      case round =>
        obtain ⟨j, hj, rfl, hkp, hRO⟩ := hrel
        by_cases hlt2 : j < 32
        · have hRr := hR.keep hkp
          have c1 := hRr.2.2 j hlt2
          have hj0 : (0 : Int) ≤ (j : Int) := by omega
          have hj1 : (j : Int) < 32 := by omega
          obtain ⟨dj, HDj⟩ : ∃ dj, Hid (Sp.toGo t j = dj) := ⟨_, rfl⟩
          rw [HDj.out] at c1
          by_cases he : dj = (m : Int)
          · subst he
            cases m with
            | zero =>
              have c2 := hRO.2.2 j hlt2
              have f2 := hRO.2.1 j
              have hRO2 := (hRO.set hlt2 1).congr fun s _ => waysTill_one HDj.out s
              have hkp2 := hkp.setCell (p := ⟨w5.heap.size, j, none⟩) (Nat.le_refl _) (.int .i64 1)
              obtain ⟨M, HM⟩ : ∃ M : Int, Hid (((0 : Nat) : Int) = M) := ⟨_, rfl⟩
              have hM1 : (M == 0) = true := by rw [← HM.out]; rfl
              have hM2 : decide (0 < M) = false := by rw [← HM.out]; rfl
              rw [HM.out] at c1 ⊢
              clear hRr
              go_wp2_with fail
              clear c1 c2 f2
              go_loopw [42] (fun i wr => ∃ k : Nat, k ≤ t.deeds.length ∧ i = .int .i64 k ∧ Kept w5 wr ∧ IntRow wr w5.heap.size 32 (Sp.waysTill t 0 (j + 1))) (fun i _ => t.deeds.length - (intOf i).toNat)
              case atStart => exact ⟨0, Nat.zero_le _, rfl, hkp2, hRO2⟩
              case round =>
                obtain ⟨k, hk, rfl, hkp, hRO⟩ := hrel
                by_cases hlt3 : k < t.deeds.length
                · have HR := hRow.keep hkp
                  have hl4 := row_zero
                  have hl5 := zeros_cells
                  have hkA := hkp.alloc (.cells (rowOf (Sp.flat t.deeds) k).toArray 68)
                  have hROA := hRO.keep ((Kept.refl wr).alloc (.cells (rowOf (Sp.flat t.deeds) k).toArray 68))
                  go_wp2_with (first | (refine row_load_at HR hlt3 rfl rfl rfl ?_) | (refine row_store_new rfl rfl rfl rfl ?_))
                  exact ⟨⟨k + 1, by omega, by go_num, hkA, hROA⟩, by simp [intOf]; omega⟩
                · go_wp2_with fail
                  exact ⟨⟨j + 1, by omega, by go_num, hkp, hRO⟩, by simp [intOf]; omega⟩
            | succ m =>
              have hm0 : (0 : Int) < ((m + 1 : Nat) : Int) := by omega
              have hm1 : ¬ ((m + 1 : Nat) : Int) = 0 := by omega
              have hm2 : (((m + 1 : Nat) : Int) == 0) = false := beq_eq_false_iff_ne.2 hm1
              have hm3 : IntKind.i64.wrap (((m + 1 : Nat) : Int) - 1) = (m : Int) := by rw [IntKind.wrap_i64]; omega
              obtain ⟨M, HM⟩ : ∃ M : Int, Hid (((m + 1 : Nat) : Int) = M) := ⟨_, rfl⟩
              have HDj' : Hid (Sp.toGo t j = ((m + 1 : Nat) : Int)) := HDj.out
              clear HDj
              rw [HM.out] at hm0 hm1 hm2 hm3 c1 ⊢
              clear hRr
              go_wp2_with fail
              clear c1
              go_loopw [42] (fun i wr => ∃ k : Nat, k ≤ t.deeds.length ∧ i = .int .i64 k ∧ Kept w5 wr ∧ IntRow wr w5.heap.size 32 (Sp.waysMid t m j k)) (fun i _ => t.deeds.length - (intOf i).toNat)
              case atStart => exact ⟨0, Nat.zero_le _, rfl, hkp, hRO.congr fun s _ => waysMid_zero HDj'.out s⟩
              case round =>
                obtain ⟨k, hk, rfl, hkp, hRO⟩ := hrel
                by_cases hlt3 : k < t.deeds.length
                · have HR := hRow.keep hkp
                  have hl4 := row_zero
                  have hl5 := zeros_cells
                  have hdo := Lib.hid (Sp.taskOk_deed HK.out hlt3)
                  have hbd := stepI_bd (d := t.deeds.getD k default) hlt2 hdo.out
                  have HFl := Lib.hid (flat_row t.deeds k j hlt2)
                  have HOff := Lib.hid (@hit_off t j k)
                  have HOn := Lib.hid (fun u => @hit_step t j m u k HDj'.out)
                  have HAdd := Lib.hid (fun u => @waysMid_add t m j k u)
                  have HSkip := Lib.hid (@waysMid_skip t m j k)
                  go_upto_region 18 with (first | (refine row_load_at HR hlt3 rfl rfl rfl ?_) | (refine row_store_new rfl rfl rfl rfl ?_))
                  have hkA := hkp.alloc (.cells (rowOf (Sp.flat t.deeds) k).toArray 68)
                  have hROA := hRO.keep ((Kept.refl wr).alloc (.cells (rowOf (Sp.flat t.deeds) k).toArray 68))
                  have c9 : (wr.alloc (.cells (rowOf (Sp.flat t.deeds) k).toArray 68)).cell? ⟨wr.heap.size, j, none⟩ = some (.int .i64 (Sp.stepI (t.deeds.getD k default) j)) := by
                    rw [World.cell?_alloc_new, List.getElem?_toArray, rowOf_at _ _ _ hlt2, HFl.out]
                  have hOE : Hid (w5.heap.size ≠ wr.heap.size) := fun e => by have := hRO.1; omega
                  obtain ⟨wa, HWA⟩ : ∃ wa, Hid (wr.alloc (.cells (rowOf (Sp.flat t.deeds) k).toArray 68) = wa) := ⟨_, rfl⟩
                  rw [HWA.out] at hkA hROA c9 ⊢
                  generalize t.deeds.getD k default = d at *
                  obtain ⟨x, HX⟩ : ∃ x, Hid (Sp.stepI d j = x) := ⟨_, rfl⟩
                  rw [HX.out] at hbd c9
                  clear hl4 hl5 HR hRO hkp
                  obtain ⟨E, HE⟩ : ∃ E, Hid (wr.heap.size = E) := ⟨_, rfl⟩
                  rw [HE.out] at c9 hOE ⊢
                  by_cases hx : 0 ≤ x
                  · obtain ⟨u, rfl⟩ := Int.eq_ofNat_of_zero_le hx
                    have hu0 : (0 : Int) ≤ (u : Int) := by omega
                    have hu1 : (u : Int) < 32 := by omega
                    have hRr := hR.keep hkA
                    have c1 := hRr.2.2 u (by omega)
                    have HOn2 := Lib.hid (HOn.out u HX.out)
                    obtain ⟨du, HDu⟩ : ∃ du, Hid (Sp.toGo t u = du) := ⟨_, rfl⟩
                    rw [HDu.out] at c1 HOn2
                    clear hRr
                    by_cases he : du = (m : Int)
                    · have heq : (du == (m : Int)) = true := by rw [he]; simp
                      have HHit : Hid (Sp.hit t j k = true) := by show _ = _; rw [HOn2.out, heq]
                      have HBf := Lib.hid (waysMid_before (k := k) HDj'.out (u := u) (by rw [HDu.out, he]))
                      have c2 := hROA.2.2 j hlt2
                      have c3 := hROA.2.2 u (by omega)
                      rw [waysMid_this] at c2
                      rw [HBf.out] at c3
                      have f2 := hROA.2.1 j
                      have hRO2 := ((hROA.set hlt2 (IntKind.i64.wrap (Sp.waysBy t (Sp.waysUp t m) j k + Sp.waysUp t m u))).congr fun s _ => HAdd.out u HHit.out HX.out s).keep (Kept.refl _).drew
                      have hkp2 := (hkA.setCell (p := ⟨w5.heap.size, j, none⟩) (Nat.le_refl _) (.int .i64 (IntKind.i64.wrap (Sp.waysBy t (Sp.waysUp t m) j k + Sp.waysUp t m u)))).drew
                      generalize Sp.waysBy t (Sp.waysUp t m) j k = a at *
                      generalize Sp.waysUp t m u = b2 at *
                      have hw64 : wrap64 (a + b2) = IntKind.i64.wrap (a + b2) := by rw [IntKind.wrap_i64, wrap64]
                      rw [← hw64] at hRO2 hkp2
                      clear he hw64
                      go_wp2_with fail
                      go_still_tail 12, (by kernel_rfl)
                      change wpList _ _ _ _ _ wa.drew
                      go_wp2_with fail
                      exact ⟨⟨k + 1, by omega, by go_num, hkp2, hRO2⟩, by simp [intOf]; omega⟩
                    · have heq : (du == (m : Int)) = false := beq_eq_false_iff_ne.2 he
                      have HHit : Hid (Sp.hit t j k = false) := by show _ = _; rw [HOn2.out, heq]
                      have hRO2 := hROA.congr fun s _ => HSkip.out HHit.out s
                      clear he
                      go_wp2_with fail
                      exact ⟨⟨k + 1, by omega, by go_num, hkA, hRO2⟩, by simp [intOf]; omega⟩
                  · have HHit : Hid (Sp.hit t j k = false) := HOff.out (by rw [HX.out]; omega)
                    have hRO2 := hROA.congr fun s _ => HSkip.out HHit.out s
                    have hdx : decide (0 ≤ x) = false := decide_eq_false hx
                    go_wp2_with fail
                    exact ⟨⟨k + 1, by omega, by go_num, hkA, hRO2⟩, by simp [intOf]; omega⟩
                · have hRO2 := hRO.congr (f' := Sp.waysTill t (m + 1) (j + 1)) fun s _ => by rw [show k = t.deeds.length by omega]; exact waysMid_end HDj'.out s
                  go_wp2_with fail
                  exact ⟨⟨j + 1, by omega, by go_num, hkp, hRO2⟩, by simp [intOf]; omega⟩
          · have hq : (dj == (m : Int)) = false := beq_eq_false_iff_ne.2 he
            have hRO2 := hRO.congr (f' := Sp.waysTill t m (j + 1)) fun s _ => by
              by_cases e : s = j
              · subst e; exact (waysTill_other t (.inr (by rw [HDj.out]; exact he))).symm
              · exact (waysTill_other t (.inl e)).symm
            clear hRr
            go_wp2_with fail
            exact ⟨⟨j + 1, by omega, by go_num, hkp, hRO2⟩, by simp [intOf]; omega⟩
        · obtain rfl : j = 32 := by omega
          have hRO2 := hRO.congr fun s hs => waysTill_next t hs
          go_wp2_with fail
          exact ⟨⟨m + 1, by omega, by go_num, hkp, hRO2⟩, by simp [intOf]; omega⟩
    · obtain rfl : m = 32 := by omega
      have HO := Lib.hid (outInts_ways (w := w) HK.out hRO HSZ.out)
      go_wp2_with fail
      go_ret
      exact ⟨_, rfl, HO.out, hk0.trans hkp⟩

end Go.Proofs.Ytjmpfemlihjibaa
