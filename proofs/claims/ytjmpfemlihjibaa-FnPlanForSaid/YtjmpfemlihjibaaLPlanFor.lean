/- The law FnPlanFor, walked. No condition. -/
import Derived.Test.YtjmpfemlihjibaaD11
import Derived.Test.YtjmpfemlihjibaaG27
import Derived.Test.YtjmpfemlihjibaaG21
import Derived.Test.YtjmpfemlihjibaaA1
import Derived.Test.YtjmpfemlihjibaaRowB
namespace Go.Proofs.Ytjmpfemlihjibaa
open Go.RowKit

set_option maxHeartbeats 1000000 in
set_option maxRecDepth 100000 in
theorem l_PlanForFn (A : Option Addr) (n c : Nat) (w : World) (h : BytesV w A n ∧ n ≤ c ∧ c ≤ maxLen) : Calls Try.prog 3 #[.slice A n c] w (RetK (.bool true) w) := by
  by_cases hn : 1048576 < n
  · have hn1 : (1048576 : Int) < (n : Int) := by omega
    go_enter Try.func3, Try.ntmps3
    go_wp2_with fail
    go_ret
    exact ⟨rfl, Kept.refl _⟩
  have hn1 : ¬ (1048576 : Int) < (n : Int) := by omega
  go_enter Try.func3, Try.ntmps3
  go_wp2_with fail
  refine (c_drawPlanFor A n c w h).mono ?_; rintro e w2 ⟨tv, rfl, ⟨t, hTV⟩, hk2⟩
  obtain ⟨A1, m1, c1, A2, m2, c2, rfl⟩ := hTV.form
  have hk0 := hk2.alloc (.cells #[.int .i64 t.start, .slice A1 m1 c1, .slice A2 m2 c2] 26)
  have hT := hTV.keep ((Kept.refl w2).alloc (.cells #[.int .i64 t.start, .slice A1 m1 c1, .slice A2 m2 c2] 26))
  have B0 := Blk.new w2 26 #[.int .i64 t.start, .slice A1 m1 c1, .slice A2 m2 c2]
  clear hk2 hTV
  go_wp2_with fail
  refine (c_iPlanFor _ t _ hT).mono ?_; rintro e w3 ⟨v, rfl, ⟨A3, c3, rfl, hO⟩, hk3⟩
  replace hk0 := hk0.trans hk3
  replace B0 := B0.kept hk3
  replace hT := hT.keep hk3
  clear hk3
  have c0 := B0.cell
  go_wp2_with fail
  refine (c_sPlanFor _ t _ hT).mono ?_; rintro e w4 ⟨v, rfl, ⟨A4, c4, rfl, hO4⟩, hk4⟩
  replace hO := hO.keep hk4
  replace hk0 := hk0.trans hk4
  replace B0 := B0.kept hk4
  replace hT := hT.keep hk4
  clear hk4 c0
  obtain ⟨l, HLp⟩ : ∃ l, Hid (Sp.planFor t = l) := ⟨_, rfl⟩
  obtain ⟨p, HPt⟩ : ∃ p, Hid (Sp.planThere t = p) := ⟨_, rfl⟩
  rw [HLp.out] at hO hO4
  rw [HPt.out]
  rw [HLp.out]
  go_wp2_with fail
  refine (c_lsameInts _ _ _ _ _ _ _ _ _ hO.1 hO4.1 rfl).mono ?_; rintro e w5 ⟨rfl, hk5⟩
  replace hO := hO.keep hk5
  replace hk0 := hk0.trans hk5
  replace B0 := B0.kept hk5
  replace hT := hT.keep hk5
  clear hk5 hO4
  have c0 := B0.cell
  go_wp2_with fail
  refine (c_iStepsLeast _ t _ hT).mono ?_; rintro e w6 ⟨v, rfl, hS, hk6⟩
  replace hO := hO.keep hk6
  replace hk0 := hk0.trans hk6
  replace B0 := B0.kept hk6
  replace hT := hT.keep hk6
  clear hk6 c0
  have c0 := B0.cell
  cases ht : Sp.taskOk t
  · have hp : p = false := by rw [← HPt.out]; unfold Sp.planThere; rw [ht]; rfl
    have hl : l = [] := by rw [← HLp.out]; exact planFor_none (by rw [HPt.out]; exact hp)
    subst hp hl
    obtain ⟨A6, c6, rfl, _⟩ := hS
    have HL : Hid ((Sp.stepsLeast t).length = 0) := by show _ = _; rw [stepsLeast_no ht]; rfl
    rw [HL.out]
    clear ht hO
    go_wp2_with fail
    refine (c_alive _).mono ?_; rintro e w9 ⟨rfl, hk9⟩
    go_wp2_with fail
    go_ret
    exact ⟨rfl, hk0.trans hk9⟩
  have HK := Lib.hid ht
  have HL2 : Hid ((Sp.stepsLeast t).length = 32) := by show _ = _; rw [stepsLeast_ok ht, distList_len]
  obtain ⟨g2, c5, rfl, hg2, hO2⟩ := outInts_row hS HL2.out
  have hR := hO2.toGo ht
  have HGo := Lib.hid (show ∀ s, Sp.dist (Sp.relB t) (Sp.truth t.goal) s = Sp.toGo t s from fun _ => rfl)
  replace hR := hR.congr (f' := Sp.toGo t) fun s _ => HGo.out s
  have hst := start_lt ht
  obtain ⟨hs0, hs1⟩ := Sp.taskOk_start ht
  obtain ⟨st, Hst2⟩ : ∃ st : Nat, Hid (t.start = (st : Int)) := Int.eq_ofNat_of_zero_le hs0
  have HPd : Hid (Sp.planThere t = decide (0 ≤ Sp.toGo t st)) := by
    show _ = _
    unfold Sp.planThere
    rw [ht, Bool.true_and, Hst2.out, Int.toNat_natCast]
  have hxb := toGo_bd t hst
  rw [Hst2.out, Int.toNat_natCast] at hst hxb
  have hcs := hR.2.2 st hst
  rw [HPt.out] at HPd
  have HOn := Lib.hid (fun (h : Sp.planThere t = true) => planFor_on h)
  have HNo := Lib.hid (fun (h : Sp.planThere t = false) => planFor_none h)
  rw [HPt.out, HLp.out] at HOn HNo
  rw [Hst2.out] at B0 c0 HOn
  rw [Int.toNat_natCast] at HOn
  obtain ⟨x, HX⟩ : ∃ x, Hid (Sp.toGo t st = x) := ⟨_, rfl⟩
  rw [HX.out] at HPd hcs hxb HOn
  have hTv : TaskV w6 (.agg #[.int .i64 (st : Int), .slice A1 m1 c1, .slice A2 m2 c2]) t := by rw [← Hst2.out]; exact hT
  clear ht hS hO2 hs0 hs1 hT
  by_cases hx : 0 ≤ x
  · obtain rfl : p = true := by rw [HPd.out, decide_eq_true hx]
    obtain ⟨_, hlen, _, hpo⟩ := HOn.out rfl
    have HPo := Lib.hid hpo
    have HLen := Lib.hid hlen
    clear hlen hpo HOn HNo HPd
    go_wp2_with fail
    refine (c_iPlanOk _ t A3 l.length c3 l _ hTv hO.1).mono ?_; rintro e w7 ⟨rfl, hk7⟩
    rw [HPo.out]
    have c1 := (B0.kept hk7).cell
    have hcs7 := (hR.keep hk7).2.2 st hst
    rw [HX.out, ← HLen.out] at hcs7
    clear c0 hcs
    go_wp2_with fail
    go_ret
    exact ⟨rfl, hk0.trans hk7⟩
  · obtain rfl : p = false := by rw [HPd.out, decide_eq_false hx]
    obtain rfl : l = [] := HNo.out rfl
    have hx1 : x = -1 := by omega
    subst hx1
    clear HOn HNo HPd hO hxb hx
    go_wp2_with fail
    refine (c_sTaskValid _ t _ hTv).mono ?_; rintro e w7 ⟨rfl, hk7⟩
    rw [HK.out]
    have c1 := (B0.kept hk7).cell
    have hcs7 := (hR.keep hk7).2.2 st hst
    rw [HX.out] at hcs7
    clear c0 hcs
    go_wp2_with fail
    refine (c_alive _).mono ?_; rintro e w9 ⟨rfl, hk9⟩
    go_wp2_with fail
    go_ret
    exact ⟨rfl, (hk0.trans hk7).trans hk9⟩

end Go.Proofs.Ytjmpfemlihjibaa
