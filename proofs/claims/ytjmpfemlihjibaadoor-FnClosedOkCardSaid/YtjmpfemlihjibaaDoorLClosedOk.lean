/- The law FnClosedOk, walked. No condition. -/
import Derived.Test.YtjmpfemlihjibaaDoorD13
import Derived.Test.YtjmpfemlihjibaaDoorG34
import Derived.Test.YtjmpfemlihjibaaDoorG21
import Derived.Test.YtjmpfemlihjibaaDoorA1
import Derived.Test.YtjmpfemlihjibaaDoorA2
import Derived.Test.YtjmpfemlihjibaaDoorRowB
namespace Go.Proofs.YtjmpfemlihjibaaDoor
open Go.RowKit

set_option maxHeartbeats 1000000 in
set_option maxRecDepth 100000 in
theorem l_ClosedOkFn (A : Option Addr) (n c : Nat) (w : World) (h : BytesV w A n ∧ n ≤ c ∧ c ≤ maxLen) (hg : ErrG w) : Calls Tryd.prog 8 #[.slice A n c] w (RetK (.bool true) w) := by
  by_cases hn : 1048576 < n
  · have hn1 : (1048576 : Int) < (n : Int) := by omega
    clear hg
    go_enter Tryd.func8, Tryd.ntmps8
    go_wp2_with fail
    go_ret
    exact ⟨rfl, Kept.refl _⟩
  have hn1 : ¬ (1048576 : Int) < (n : Int) := by omega
  have HG := Lib.hid hg
  clear hg
  go_enter Tryd.func8, Tryd.ntmps8
  go_wp2_with fail
  refine (c_drawClosedOk A n c w h).mono ?_; rintro e w2 ⟨v, rfl, ⟨tv, t, q, rfl, hTV, hq0, hq1⟩, hk2⟩
  obtain ⟨A1, m1, c1, A2, m2, c2, rfl⟩ := hTV.form
  have hk0 := hk2.alloc (.cells #[.int .i64 t.start, .slice A1 m1 c1, .slice A2 m2 c2] 30)
  have hT := hTV.keep ((Kept.refl w2).alloc (.cells #[.int .i64 t.start, .slice A1 m1 c1, .slice A2 m2 c2] 30))
  have B0 := Blk.new w2 30 #[.int .i64 t.start, .slice A1 m1 c1, .slice A2 m2 c2]
  clear hk2 hTV
  go_wp2_with fail
  refine (c_iClosedOk _ t q _ hT (HG.out.keep hk0)).mono ?_; rintro e w3 ⟨rfl, hk3⟩
  replace hk0 := hk0.trans hk3
  replace B0 := B0.kept hk3
  replace hT := hT.keep hk3
  clear hk3
  have c0 := B0.cell
  go_wp2_with fail
  refine (c_sClosedOk _ t q _ hT).mono ?_; rintro e w4 ⟨rfl, hk4⟩
  replace hk0 := hk0.trans hk4
  replace B0 := B0.kept hk4
  replace hT := hT.keep hk4
  clear hk4 c0
  have c0 := B0.cell
  have HNo := Lib.hid (fun (h : Sp.taskOk t = false) => closedOk_no1 (S := q) h)
  have HCl := Lib.hid (fun (h : Sp.closedOk t q = true) => closedOk_none h)
  have HSet : Hid (Sp.closedOk t q = true → 0 ≤ q ∧ q ≤ 4294967295) := fun h => by
    unfold Sp.closedOk at h
    simp only [Bool.and_eq_true, decide_eq_true_eq] at h
    have := h.1.1.1.2
    unfold Sp.setOk at this
    simpa using this
  obtain ⟨ok, HOk⟩ : ∃ ok, Hid (Sp.closedOk t q = ok) := ⟨_, rfl⟩
  rw [HOk.out] at HCl HNo HSet ⊢
  go_wp2_with fail
  refine (c_sTaskValid _ t _ hT).mono ?_; rintro e w5 ⟨rfl, hk5⟩
  replace hk0 := hk0.trans hk5
  replace B0 := B0.kept hk5
  replace hT := hT.keep hk5
  clear hk5 c0
  have c0 := B0.cell
  cases ht : Sp.taskOk t
  · obtain rfl := HNo.out ht
    clear ht
    go_wp2_with fail
    refine (c_alive _).mono ?_; rintro e w6 ⟨rfl, hk6⟩
    go_wp2_with fail
    go_ret
    exact ⟨rfl, hk0.trans hk6⟩
  have HRd : Hid (Sp.reached t = (Sp.reachedN t : Nat)) := by show _ = _; unfold Sp.reached; rw [if_pos ht]
  have HRc := Lib.hid (reached_closed ht)
  have hrl := reachedN_lt ht
  clear ht
  go_wp2_with fail
  refine (c_iReached _ t _ hT).mono ?_; rintro e w6 ⟨rfl, hk6⟩
  rw [HRd.out]
  replace hk0 := hk0.trans hk6
  replace B0 := B0.kept hk6
  replace hT := hT.keep hk6
  clear hk6 c0
  have c0 := B0.cell
  obtain ⟨D, HD⟩ : ∃ D, Hid (Sp.reachedN t = D) := ⟨_, rfl⟩
  rw [HD.out] at hrl HCl HRc ⊢
  go_wp2_with fail
  refine (c_iPlanFor _ t _ hT).mono ?_; rintro e w7 ⟨v, rfl, ⟨A6, c6, rfl, _⟩, hk7⟩
  replace hk0 := hk0.trans hk7
  replace B0 := B0.kept hk7
  replace hT := hT.keep hk7
  clear hk7 c0
  have c0 := B0.cell
  obtain ⟨p, HPt⟩ : ∃ p, Hid (Sp.planThere t = p) := ⟨_, rfl⟩
  rw [HPt.out]
  rw [HPt.out] at HCl HRc
  cases ok
  · cases p
    all_goals
      go_wp2_with fail
      refine (c_iClosedOk _ t (D : Int) _ hT (HG.out.keep hk0)).mono ?_; rintro e w8 ⟨rfl, hk8⟩
      rw [HRc.out]
      go_wp2_with fail
      go_ret
      exact ⟨rfl, hk0.trans hk8⟩
  · obtain ⟨rfl, hand⟩ := HCl.out rfl
    obtain ⟨h0, h1⟩ := HSet.out rfl
    obtain ⟨S, rfl⟩ := Int.eq_ofNat_of_zero_le h0
    rw [Int.toNat_natCast] at hand
    have HA := Lib.hid hand
    clear hand
    go_wp2_with (first | (go_at_call 34; refine (c_lboth D S _ (by omega) (by omega)).mono ?_; rintro e w9 ⟨rfl, rfl⟩; rw [HA.out]))
    refine (c_iClosedOk _ t (D : Int) _ hT (HG.out.keep hk0)).mono ?_; rintro e w8 ⟨rfl, hk8⟩
    rw [HRc.out]
    go_wp2_with fail
    go_ret
    exact ⟨rfl, hk0.trans hk8⟩

end Go.Proofs.YtjmpfemlihjibaaDoor
