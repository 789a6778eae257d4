/- The program's ProofText; the last of its ways wants the table of powers of ten. No condition. -/
import Derived.Test.YtphdojebdclonaaGreatDoorQ37
import Derived.Test.YtphdojebdclonaaGreatDoorQ44
import Derived.Test.YtphdojebdclonaaGreatDoorQ19
namespace Go.Proofs.YtphdojebdclonaaGreatDoor
open Go.RowKit

theorem c_Itoa (n : Nat) (w : World) (h : n ≤ 99999999999) (htab : Lib.TabIs Tryz.prog w "internal/strconv.uint64pow10" .u64 Lib.pow10Tab) :
    Calls Tryz.prog 24 #[.int .i64 (n : Int)] w (RetK (.string ⟨(Lib.decDigits n).toArray⟩) w) := by
  refine (Tryz.strconv_Itoa (n : Int) (by omega) (by omega) w htab).mono ?_
  rintro e w' ⟨rfl, k, os, rfl⟩
  refine ⟨?_, ⟨rfl, rfl, rfl, by show w.heap.size ≤ (w.heap ++ os).size; rw [Array.size_append]; omega, fun i hi => by
    show (w.heap ++ os)[i]? = _
    rw [Array.getElem?_append_left hi]⟩⟩
  unfold Lib.itoa
  rw [if_neg (by omega), Int.toNat_natCast]
theorem c_ItoaS (n : Nat) (w : World) (h : n < 100) : Calls Tryz.prog 24 #[.int .i64 (n : Int)] w (RetK (.string ⟨(Lib.decDigits n).toArray⟩) w) := by
  refine (Tryz.strconv_Itoa_small n h w).mono ?_
  rintro e w' ⟨rfl, rfl⟩
  exact ⟨rfl, Kept.refl _⟩

set_option maxHeartbeats 4000000 in
set_option maxRecDepth 100000 in
theorem c_iProofText (v : Value) (t : Sp.Task) (w : World) (h : TaskV w v t) (htab0 : Lib.TabIs Tryz.prog w "internal/strconv.uint64pow10" .u64 Lib.pow10Tab) (hkt : ∀ w', Kept w w' → Lib.TabIs Tryz.prog w' "internal/strconv.uint64pow10" .u64 Lib.pow10Tab) :
    Calls Tryz.prog 7 #[v] w (RetK (.string ⟨(Sp.proofText t).toArray⟩) w) := by
  have HKT := Lib.hid hkt
  clear htab0 hkt
  obtain ⟨A, n, c, A', n', c', rfl⟩ := h.form
  have hk0 := (Kept.refl w).alloc (.cells #[.int .i64 t.start, .slice A n c, .slice A' n' c'] 26)
  have B0 := Blk.new w 26 #[.int .i64 t.start, .slice A n c, .slice A' n' c']
  have hT := h.keep hk0
  go_enter Tryz.func7, Tryz.ntmps7
  go_wp2_with fail
  refine (c_iTaskValid _ t _ hT).mono ?_; rintro e w2 ⟨rfl, hk2⟩
  replace hk0 := hk0.trans hk2
  replace B0 := B0.kept hk2
  replace hT := hT.keep hk2
  clear hk2 h
  have c0 := B0.cell
  cases ht : Sp.taskOk t
  · have HE : Hid (Sp.proofText t = []) := by show _ = _; unfold Sp.proofText; rw [if_neg (by rw [ht]; decide)]
    clear ht
    go_wp2_with fail
    go_ret
    exact ⟨by rw [HE.out]; rfl, hk0⟩
  have HOK := Lib.hid ht
  clear ht
  go_wp2_with fail
  refine (c_iPlanFor _ t _ hT).mono ?_; rintro e w3 ⟨v, rfl, ⟨A3, c3, rfl, hOI⟩, hk3⟩
  have hI := hOI.1
  have B3 := B0.kept hk3
  have hT3 := hT.keep hk3
  have hkw := hk0.trans hk3
  clear hOI hT B0 hk0 hk3 c0
  cases hp : Sp.planThere t
  · have c0 := B3.cell
    have HP := Lib.hid hp
    clear hp
    go_wp2_with fail
    refine (c_iSumFor _ t _ hT3).mono ?_; rintro e w4 ⟨rfl, hk4⟩
    have B4 := B3.kept hk4
    have hT4 := hT3.keep hk4
    have hkw4 := hkw.trans hk4
    clear c0
    cases hs : Sp.sumForB t
    · have hR : Sp.reached t = ((Sp.reachedN t : Nat) : Int) := by unfold Sp.reached; rw [if_pos HOK.out]
      have hRl := reachedN_lt HOK.out
      have HE : Hid (Sp.proofText t = [99, 108, 111, 115, 101, 100, 32] ++ Lib.decDigits (Sp.reachedN t)) := by
        show _ = _
        unfold Sp.proofText
        rw [if_pos HOK.out, if_neg (by rw [HP.out]; decide), if_neg (by rw [hs]; decide)]
      obtain ⟨S, HS⟩ : ∃ S : Nat, Hid (Sp.reachedN t = S) := ⟨_, rfl⟩
      rw [HS.out] at hR hRl HE
      have HRr := Lib.hid hR
      have c0 := B4.cell
      clear hs hR
      go_wp2_with fail
      refine (c_iReached _ t _ hT4).mono ?_; rintro e w5 ⟨rfl, hk5⟩
      rw [HRr.out]
      have hdl := dec_len 10 S (by omega) (by omega)
      have HTB := Lib.hid (HKT.out _ (hkw4.trans hk5))
      go_wp2_with fail
      refine (c_Itoa S _ (by omega) HTB.out).mono ?_; rintro e w6 ⟨rfl, hk6⟩
      obtain ⟨d, HD⟩ : ∃ d, Hid (Lib.decDigits S = d) := ⟨_, rfl⟩
      rw [HD.out] at hdl HE
      rw [HD.out]
      have hadd : (⟨#[99, 108, 111, 115, 101, 100, 32]⟩ : ByteArray) ++ ⟨d.toArray⟩ = ⟨([99, 108, 111, 115, 101, 100, 32] ++ d).toArray⟩ := str_add [99, 108, 111, 115, 101, 100, 32] d
      go_wp2_with fail
      go_ret
      exact ⟨by rw [HE.out]; rfl, (hkw4.trans hk5).trans hk6⟩
    · have hsb := sumFor_bd t hs
      have HE : Hid (Sp.proofText t = [115, 117, 109, 32] ++ Sp.letters (Sp.sumForN t)) := by
        show _ = _
        unfold Sp.proofText
        rw [if_pos HOK.out, if_neg (by rw [HP.out]; decide), if_pos hs]
      clear hs
      go_wp2_with fail
      refine (c_iLetters (Sp.sumForN t) _ hsb.1 hsb.2).mono ?_; rintro e w5 ⟨rfl, hk5⟩
      have hll := letters_len (Sp.sumForN t)
      obtain ⟨d, HD⟩ : ∃ d, Hid (Sp.letters (Sp.sumForN t) = d) := ⟨_, rfl⟩
      rw [HD.out] at hll HE
      rw [HD.out]
      have hadd : (⟨#[115, 117, 109, 32]⟩ : ByteArray) ++ ⟨d.toArray⟩ = ⟨([115, 117, 109, 32] ++ d).toArray⟩ := str_add [115, 117, 109, 32] d
      go_wp2_with fail
      go_ret
      exact ⟨by rw [HE.out]; rfl, hkw4.trans hk5⟩
  · have HP := Lib.hid hp
    have HPI := Lib.hid (plan_in hp)
    have hpl := (planFor_form t).1
    have HE : Hid (Sp.proofText t = Sp.planText (Sp.planFor t)) := by
      show _ = _
      unfold Sp.proofText
      rw [if_pos HOK.out, if_pos hp]
    have HEl : Hid (∀ k, k < (Sp.planFor t).length → 0 ≤ (Sp.planFor t).getD k default ∧ (Sp.planFor t).getD k default < 6) := fun k hk => plan_els HP.out hk
    obtain ⟨l, HLl⟩ : ∃ l, Hid (Sp.planFor t = l) := ⟨_, rfl⟩
    rw [HLl.out] at hI hpl HE HEl HPI
    rw [HLl.out]
    obtain ⟨m, HM⟩ : ∃ m, Hid (l.length = m) := ⟨_, rfl⟩
    rw [HM.out] at hI hpl
    rw [HM.out]
    have HI3 := Lib.hid hI
    have hB1 : Bld (w3.alloc (.cells #[.pointer none, .slice none 0 0] 50)) w3.heap.size w3.heap.size [] := Lib.fresh_isBuilder _ _ w3
    have hk1 := (Kept.refl w3).alloc (.cells #[.pointer none, .slice none 0 0] 50)
    obtain ⟨wb, HWb⟩ : ∃ x, Hid (w3.alloc (.cells #[.pointer none, .slice none 0 0] 50) = x) := ⟨_, rfl⟩
    rw [HWb.out] at hB1 hk1
    clear hp hI
    go_upto_region 6 with fail
    rw [HWb.out]
    clear HWb
    go_wp2_with fail
    refine (c_WriteS _ _ [] [112, 108, 97, 110] _ hB1 (by simp) hk1.size).mono ?_; rintro e w5 ⟨rfl, hB2, hs2⟩
    have hk5 := hk1.beside hs2
    rw [List.nil_append] at hB2
    clear hB1 hk1 hs2
    go_wp2_with fail
    go_loopw [7, 22] (fun _ i wr => ∃ k : Nat, k ≤ m ∧ i = .int .i64 (k : Int) ∧ Bld wr w3.heap.size w3.heap.size (Sp.planText (l.take k)) ∧ Kept w3 wr) (fun _ i _ => m - (intOf i).toNat)
    case atStart => exact ⟨0, Nat.zero_le _, rfl, hB2, hk5⟩
    case round =>
      clear hB2 hk5
      obtain ⟨k, hk, rfl, hB, hkr⟩ := hrel
      by_cases hlt : k < m
      · obtain ⟨b, o, e, hb, hc, _⟩ := (HI3.out.keep hkr).at hlt
        obtain ⟨y0, y6⟩ := HEl.out k (by rw [HM.out]; exact hlt)
        have HSn := Lib.hid (planText_snoc l k (by rw [HM.out]; exact hlt))
        have hxl : (Sp.planText (l.take k)).length ≤ 100 := by
          have h1 := planText_len (take_in HPI.out k)
          rw [List.length_take] at h1
          omega
        obtain ⟨y, hy⟩ := Int.eq_ofNat_of_zero_le y0
        rw [hy] at hc y6 HSn
        rw [Int.toNat_natCast] at HSn
        have hdl := dec_len 2 y (by omega) (by omega)
        obtain ⟨X, HX⟩ : ∃ X, Hid (Sp.planText (l.take k) = X) := ⟨_, rfl⟩
        rw [HX.out] at hxl HSn hB
        have hlti : (k : Int) < (m : Int) := by omega
        subst e
        clear hy y0
        go_wp2_with fail
        refine (c_WriteB _ _ X 32 32 rfl _ hB (by omega) hkr.size).mono ?_; rintro e w6 ⟨rfl, hB6, hs6⟩
        have hk6 := hkr.beside hs6
        clear hB hs6
        go_wp2_with fail
        refine (c_ItoaS y _ (by omega)).mono ?_; rintro e w7 ⟨rfl, hk7⟩
        obtain ⟨d, HD⟩ : ∃ d, Hid (Lib.decDigits y = d) := ⟨_, rfl⟩
        rw [HD.out] at hdl HSn
        rw [HD.out]
        have hB7 := hB6.keep hk7
        have hk67 := hk6.trans hk7
        clear hB6
        go_wp2_with fail
        refine (c_WriteS _ _ (X ++ [32]) d _ hB7 (by simp; omega) hk67.size).mono ?_; rintro e w8 ⟨rfl, hB8, hs8⟩
        have hk8 := hk67.beside hs8
        rw [← HSn.out] at hB8
        have HB8 := Lib.hid hB8
        clear hB7 hs8 hB8
        go_wp2_with fail
        exact ⟨⟨k + 1, by omega, by go_num, HB8.out, hk8⟩, by simp [intOf]; omega⟩
      · obtain rfl : k = m := by omega
        have HT : Hid (l.take k = l) := by show _ = _; rw [← HM.out]; exact List.take_length
        rw [HT.out] at hB
        have hne : Sp.planText l ≠ [] := by unfold Sp.planText; simp
        go_wp2_with fail
        refine (c_bString _ _ _ _ hB hne).mono ?_; rintro e w9 ⟨rfl, hb9⟩
        go_wp2_with fail
        go_ret
        exact ⟨by rw [HE.out]; rfl, hkw.trans (Below.trans hkr hb9)⟩

end Go.Proofs.YtphdojebdclonaaGreatDoor
