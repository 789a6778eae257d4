/- The law FnProofText, walked. No condition. -/
import Derived.Test.YtphdojebdclonaaGreatDoorQD11
import Derived.Test.YtphdojebdclonaaGreatDoorQT30
import Derived.Test.YtphdojebdclonaaGreatDoorQ44
import Derived.Test.YtphdojebdclonaaGreatDoorQ27
import Derived.Test.YtphdojebdclonaaGreatDoorQ13
import Derived.Test.YtphdojebdclonaaGreatDoorQ18
import Derived.Lib.SmallJoins
namespace Go.Proofs.YtphdojebdclonaaGreatDoor
set_option linter.unusedSimpArgs false
set_option linter.unusedVariables false
open Go.RowKit

set_option maxRecDepth 100000 in
theorem pow_keeps {w w' : World} (h : Lib.TabIs Tryz.prog w "internal/strconv.uint64pow10" .u64 Lib.pow10Tab) (hk : Kept w w') : Lib.TabIs Tryz.prog w' "internal/strconv.uint64pow10" .u64 Lib.pow10Tab :=
  Joins.tab_stays (g := 2) (by kernel_rfl) h hk (Nat.le_refl _)
theorem proofText_short (t : Sp.Task) : (Sp.proofText t).length ≤ 200 := by
  unfold Sp.proofText
  split
  · rename_i hok
    split
    · rename_i hp
      have h1 := planText_len (plan_in hp)
      have h2 := (planFor_form t).1
      omega
    · split
      · have := letters_len (Sp.sumForN t)
        rw [List.length_append, show ([115, 117, 109, 32] : List UInt8).length = 4 from rfl]; omega
      · have h1 := reachedN_lt hok
        have h2 := dec_len 10 (Sp.reachedN t) (by omega) (by omega)
        rw [List.length_append, show ([99, 108, 111, 115, 101, 100, 32] : List UInt8).length = 7 from rfl]; omega
  · simp

set_option maxHeartbeats 4000000 in
set_option maxRecDepth 100000 in
theorem l_ProofTextFn (A : Option Addr) (n c : Nat) (w : World) (h : BytesV w A n ∧ n ≤ c ∧ c ≤ maxLen) (hm : ∃ m, w.cell? ⟨1, 0, none⟩ = some (.int .i64 m)) (hg : ErrG w)
    (htab : Lib.TabIs Tryz.prog w "internal/strconv.uint64pow10" .u64 Lib.pow10Tab) :
    Calls Tryz.prog 3 #[.slice A n c] w (RetK (.bool true) w) := by
  by_cases hn : 1048576 < n
  · have hn1 : (1048576 : Int) < (n : Int) := by omega
    go_enter Tryz.func3, Tryz.ntmps3
    go_wp2_with fail
    go_ret
    exact ⟨rfl, Kept.refl _⟩
  have hn1 : ¬ (1048576 : Int) < (n : Int) := by omega
  obtain ⟨m, hm0⟩ := hm
  have HMx := Lib.hid hm0
  have HG := Lib.hid hg
  have HTB := Lib.hid htab
  clear hm0 hg htab
  go_enter Tryz.func3, Tryz.ntmps3
  go_wp2_with fail
  refine (c_drawProofText A n c w h).mono ?_; rintro e w2 ⟨tv, rfl, ⟨t, hTV⟩, hk2⟩
  obtain ⟨A1, m1, c1, A2, m2, c2, rfl⟩ := hTV.form
  have hk0 := hk2.alloc (.cells #[.int .i64 t.start, .slice A1 m1 c1, .slice A2 m2 c2] 26)
  have hT := hTV.keep ((Kept.refl w2).alloc (.cells #[.int .i64 t.start, .slice A1 m1 c1, .slice A2 m2 c2] 26))
  have B0 := Blk.new w2 26 #[.int .i64 t.start, .slice A1 m1 c1, .slice A2 m2 c2]
  clear hk2 hTV
  have HKP : Hid (∀ w', Kept w w' → Lib.TabIs Tryz.prog w' "internal/strconv.uint64pow10" .u64 Lib.pow10Tab) := fun w' hk => pow_keeps HTB.out hk
  go_wp2_with fail
  refine (c_iProofText _ t _ hT (HKP.out _ hk0) (fun _ hk => HKP.out _ (hk0.trans hk))).mono ?_; rintro e w3 ⟨rfl, hk3⟩
  replace hk0 := hk0.trans hk3
  replace B0 := B0.kept hk3
  replace hT := hT.keep hk3
  clear hk3
  have hsl := proofText_short t
  have HRt := Lib.hid (fun (h : Sp.taskOk t = true) => proofText_right h)
  have HNo : Hid (Sp.taskOk t = false → Sp.proofText t = []) := fun h => by unfold Sp.proofText; rw [if_neg (by rw [h]; decide)]
  obtain ⟨s, HS⟩ : ∃ s, Hid (Sp.proofText t = s) := ⟨_, rfl⟩
  rw [HS.out] at hsl HRt HNo
  rw [HS.out]
  have c0 := B0.cell
  go_wp2_with fail
  refine (c_sProofText _ t _ hT).mono ?_; rintro e w4 ⟨rfl, hk4⟩
  rw [HS.out]
  replace hk0 := hk0.trans hk4
  replace B0 := B0.kept hk4
  replace hT := hT.keep hk4
  clear hk4 c0
  have c0 := B0.cell
  have hss : (s == s) = true := by simp
  have hsn : (s != s) = false := by simp
  go_wp2_with fail
  refine (c_sTaskValid _ t _ hT).mono ?_; rintro e w5 ⟨rfl, hk5⟩
  replace hk0 := hk0.trans hk5
  replace B0 := B0.kept hk5
  replace hT := hT.keep hk5
  clear hk5 c0
  have c0 := B0.cell
  cases ht : Sp.taskOk t
  · obtain rfl := HNo.out ht
    clear ht
    go_wp2_with fail
    refine (c_alive _).mono ?_; rintro e w9 ⟨rfl, hk9⟩
    go_wp2_with fail
    go_ret
    exact ⟨rfl, hk0.trans hk9⟩
  have HR := Lib.hid (HRt.out ht)
  clear ht
  go_wp2_with fail
  refine (c_iPlanFor _ t _ hT).mono ?_; rintro e w6 ⟨v, rfl, ⟨A3, c3, rfl, hO⟩, hk6⟩
  replace hk0 := hk0.trans hk6
  replace B0 := B0.kept hk6
  replace hT := hT.keep hk6
  clear hk6 c0 hO
  have c0 := B0.cell
  obtain ⟨p, HPt⟩ : ∃ p, Hid (Sp.planThere t = p) := ⟨_, rfl⟩
  rw [HPt.out] at HR
  rw [HPt.out]
  go_wp2_with fail
  refine (c_iProofRight _ t s m _ hT (by omega) (hk0.at_ HMx.out) (HG.out.keep hk0)).mono ?_; rintro e w7 ⟨rfl, hk7⟩
  rw [HR.out]
  replace hk0 := hk0.trans hk7
  cases p
  · rw [if_neg (by decide)]
    go_wp2_with fail
    go_ret
    exact ⟨rfl, hk0⟩
  · rw [if_pos rfl]
    go_wp2_with fail
    go_ret
    exact ⟨rfl, hk0⟩

end Go.Proofs.YtphdojebdclonaaGreatDoor
