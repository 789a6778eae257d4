/- The law FnNumbersFor, walked. No condition. -/
import Derived.Test.YtjmpfemlihjibaaDoorD11
import Derived.Test.YtjmpfemlihjibaaDoorG34
import Derived.Test.YtjmpfemlihjibaaDoorG21
import Derived.Test.YtjmpfemlihjibaaDoorA1
import Derived.Test.YtjmpfemlihjibaaDoorA5
import Derived.Test.YtjmpfemlihjibaaDoorRowB
namespace Go.Proofs.YtjmpfemlihjibaaDoor
open Go.RowKit

set_option maxHeartbeats 1000000 in
set_option maxRecDepth 100000 in
theorem l_NumbersForFn (A : Option Addr) (n c : Nat) (w : World) (h : BytesV w A n ∧ n ≤ c ∧ c ≤ maxLen) (hg : ErrG w) : Calls Tryd.prog 6 #[.slice A n c] w (RetK (.bool true) w) := by
  by_cases hn : 1048576 < n
  · have hn1 : (1048576 : Int) < (n : Int) := by omega
    clear hg
    go_enter Tryd.func6, Tryd.ntmps6
    go_wp2_with fail
    go_ret
    exact ⟨rfl, Kept.refl _⟩
  have hn1 : ¬ (1048576 : Int) < (n : Int) := by omega
  have HG := Lib.hid hg
  clear hg
  go_enter Tryd.func6, Tryd.ntmps6
  go_wp2_with fail
  refine (c_drawNumbersFor A n c w h).mono ?_; rintro e w2 ⟨tv, rfl, ⟨t, hTV⟩, hk2⟩
  obtain ⟨A1, m1, c1, A2, m2, c2, rfl⟩ := hTV.form
  have hk0 := hk2.alloc (.cells #[.int .i64 t.start, .slice A1 m1 c1, .slice A2 m2 c2] 30)
  have hT := hTV.keep ((Kept.refl w2).alloc (.cells #[.int .i64 t.start, .slice A1 m1 c1, .slice A2 m2 c2] 30))
  have B0 := Blk.new w2 30 #[.int .i64 t.start, .slice A1 m1 c1, .slice A2 m2 c2]
  clear hk2 hTV
  go_wp2_with fail
  refine (c_iNumbersFor _ t _ hT).mono ?_; rintro e w3 ⟨v, rfl, ⟨A3, c3, rfl, hO⟩, hk3⟩
  replace hk0 := hk0.trans hk3
  replace B0 := B0.kept hk3
  replace hT := hT.keep hk3
  clear hk3
  have c0 := B0.cell
  go_wp2_with fail
  refine (c_sNumbersFor _ t _ hT).mono ?_; rintro e w4 ⟨v, rfl, ⟨A4, c4, rfl, hO4⟩, hk4⟩
  replace hO := hO.keep hk4
  replace hk0 := hk0.trans hk4
  replace B0 := B0.kept hk4
  replace hT := hT.keep hk4
  clear hk4 c0
  go_wp2_with fail
  refine (c_lsameInts _ _ _ _ _ _ _ _ _ hO.1 hO4.1 rfl).mono ?_; rintro e w5 ⟨rfl, hk5⟩
  replace hO := hO.keep hk5
  replace hk0 := hk0.trans hk5
  replace B0 := B0.kept hk5
  replace hT := hT.keep hk5
  clear hk5 hO4
  have c0 := B0.cell
  cases ht : Sp.taskOk t
  · have HL : Hid ((Sp.numbersFor t).length = 0) := by show _ = _; rw [numbersFor_no ht]; rfl
    have HK := Lib.hid ht
    rw [HL.out]
    clear ht hO
    go_wp2_with fail
    refine (c_iTaskValid _ t _ hT).mono ?_; rintro e w6 ⟨rfl, hk6⟩
    rw [HK.out]
    go_wp2_with fail
    refine (c_alive _).mono ?_; rintro e w7 ⟨rfl, hk7⟩
    go_wp2_with fail
    go_ret
    exact ⟨rfl, (hk0.trans hk6).trans hk7⟩
  have HK := Lib.hid ht
  have HL := Lib.hid (numbersFor_length ht)
  have HOk := Lib.hid (numbersFor_ok ht)
  have HOn := Lib.hid (fun (h : Sp.planThere t = true) => planFor_on h)
  have hst := start_lt ht
  have HAt := Lib.hid (numAt_for ht hst)
  have HPd : Hid (Sp.planThere t = decide (0 ≤ Sp.toGo t t.start.toNat)) := by
    show _ = _
    unfold Sp.planThere
    rw [ht, Bool.true_and]
  rw [HL.out]
  clear ht
  go_wp2_with fail
  refine (c_iPlanFor _ t _ hT).mono ?_; rintro e w6 ⟨v, rfl, ⟨A6, c6, rfl, _⟩, hk6⟩
  replace hO := hO.keep hk6
  replace hk0 := hk0.trans hk6
  replace B0 := B0.kept hk6
  replace hT := hT.keep hk6
  clear hk6 c0
  have c0 := B0.cell
  obtain ⟨p, HPt⟩ : ∃ p, Hid (Sp.planThere t = p) := ⟨_, rfl⟩
  obtain ⟨m, HLp⟩ : ∃ m, Hid ((Sp.planFor t).length = m) := ⟨_, rfl⟩
  rw [HPt.out, HLp.out]
  rw [HPt.out] at HPd HOn
  rw [HLp.out] at HOn
  have hI := hO.1
  rw [HL.out] at hI
  go_wp2_with fail
  refine (c_iNumbersOk _ t A3 32 c3 _ _ hT hI (HG.out.keep hk0)).mono ?_; rintro e w7 ⟨rfl, hk7⟩
  rw [HOk.out]
  replace hI := hI.keep hk7
  replace hk0 := hk0.trans hk7
  replace B0 := B0.kept hk7
  clear hk7 c0 hT hO
  obtain ⟨b, off, rfl, hN⟩ := numRow_of hI
  have cs := hN.2 _ hst
  rw [HAt.out] at cs
  have HB : Hid (Sp.big (Sp.toGo t t.start.toNat) = if Sp.toGo t t.start.toNat < 0 then 40 else Sp.toGo t t.start.toNat) := rfl
  obtain ⟨x, HX⟩ : ∃ x, Hid (Sp.toGo t t.start.toNat = x) := ⟨_, rfl⟩
  rw [HX.out] at HB HPd HOn cs
  obtain ⟨y, HY⟩ : ∃ y, Hid (Sp.big x = y) := ⟨_, rfl⟩
  rw [HY.out] at HB cs
  have hs0 : 0 ≤ t.start := (Sp.taskOk_start HK.out).1
  obtain ⟨st, Hst2⟩ : ∃ st : Nat, Hid (t.start = (st : Int)) := Int.eq_ofNat_of_zero_le hs0
  rw [Hst2.out, Int.toNat_natCast] at hst cs
  rw [Hst2.out] at B0
  have hst3 : ¬ (32 : Int) ≤ (st : Int) := by omega
  have c0 := B0.cell
  clear hs0 hI HAt
  cases p
  · have hx : x < 0 := by
      have := HPd.out
      rw [eq_comm, decide_eq_false_iff_not] at this
      omega
    obtain rfl : y = 40 := by rw [HB.out, if_pos hx]
    go_wp2_with fail
    go_ret
    exact ⟨rfl, hk0⟩
  · obtain ⟨_, hlen, hx0, _⟩ := HOn.out rfl
    obtain rfl : y = (m : Int) := by rw [HB.out, if_neg (by omega), hlen]
    clear hlen hx0
    go_wp2_with fail
    go_ret
    exact ⟨rfl, hk0⟩

end Go.Proofs.YtjmpfemlihjibaaDoor
