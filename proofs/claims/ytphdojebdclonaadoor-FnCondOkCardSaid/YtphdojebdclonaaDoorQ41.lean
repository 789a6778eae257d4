/- Joined texts. No condition. -/
import Derived.Deep.RegionHeld3
import Derived.Test.YtphdojebdclonaaDoorQ7
import Derived.Test.YtphdojebdclonaaDoorQ15
import Derived.Test.YtphdojebdclonaaDoorQ40
import Derived.Test.YtphdojebdclonaaDoorQ4
import Derived.Test.YtphdojebdclonaaDoorQ14
import Derived.Test.YtphdojebdclonaaDoorQ27
import Derived.Test.YtphdojebdclonaaDoorQ9
/- Walks: what breaks a proof (closedUnder, stepsUnder); ClosedOk, NumbersOk of both. No condition. -/
namespace Go.Proofs.YtphdojebdclonaaDoor
set_option linter.unusedSimpArgs false
set_option linter.unusedVariables false
open Go.RowKit

theorem bit_zero (b : Bool) : (((b.toNat : Nat) : Int) == 0) = !b := by cases b <;> rfl
/-- a deed leads out of a set -/
def Sp.brkS (F : Nat → Int) (S p : Nat) : Prop := S.testBit (p % 32) = true ∧ 0 ≤ F p ∧ S.testBit (F p).toNat = false
/-- behind a deed the number is less by more than 1 -/
def Sp.brkL (F : Nat → Int) (L : Nat → Int) (p : Nat) : Prop := 0 ≤ F p ∧ L (F p).toNat < L (p % 32) - 1
/-- an error that tells a break among the first m places, or none -/
def ErrQ (q : Nat → Prop) (m : Nat) (v : Value) (_w : World) : Prop := (v = .nilIface ∧ ∀ p, p < m → ¬ q p) ∨ (∃ x y : Int, v = .iface 62 (.agg #[.int .i64 x, .int .i64 y]) ∧ ∃ p, p < m ∧ q p)

set_option maxHeartbeats 1000000 in
set_option maxRecDepth 100000 in
theorem c_closedUnder (v : Value) (t : Sp.Task) (S : Nat) (w : World) (h : TaskV w v t) (hok : Sp.taskOk t = true) (hS : S < 4294967296) :
    Calls Tryd.prog 122 #[v, .int .i64 (S : Int)] w (RetS (ErrQ (Sp.brkS (Sp.flat t.deeds) S) (t.deeds.length * 32)) w) := by
  obtain ⟨A, n, c, A', n', c', rfl⟩ := h.form
  have hk0 := (Kept.refl w).alloc (.cells #[.int .i64 t.start, .slice A n c, .slice A' n' c'] 26)
  have B0 := Blk.new w 26 #[.int .i64 t.start, .slice A n c, .slice A' n' c']
  have hT := h.keep hk0
  have c0 := B0.cell
  have hn6 := Sp.taskOk_len hok
  have HK := Lib.hid hok
  clear hok
  go_enter Tryd.func122, Tryd.ntmps122
  go_wp2_with fail
  refine (c_behindAll _ t _ hT HK.out).mono ?_; rintro e w3 ⟨v, rfl, ⟨g, rfl, hg, hR⟩, hk3⟩
  have h := RowsF.of hR (fun k hk => Sp.taskOk_deed HK.out hk)
  replace hk0 := hk0.trans hk3
  clear hk3 hR c0 hT B0 HK
  obtain ⟨N, HN⟩ : ∃ N, Hid (t.deeds.length = N) := ⟨_, rfl⟩
  obtain ⟨F, HF⟩ : ∃ F, Hid (Sp.flat t.deeds = F) := ⟨_, rfl⟩
  rw [HN.out] at hn6 h ⊢
  rw [HF.out] at h ⊢
  go_wp2_with fail
  go_loopw [12] (fun i wr => ∃ k : Nat, k ≤ N ∧ i = .int .i64 k ∧ Kept w3 wr ∧ ∀ p, p < k * 32 → ¬ Sp.brkS F S p) (fun i _ => N - (intOf i).toNat)
  case atStart => exact ⟨0, Nat.zero_le _, rfl, Kept.refl _, fun p hp => by omega⟩
  case round =>
    obtain ⟨k, hk, rfl, hkp, hno⟩ := hrel
    by_cases hlt : k < N
    · have HR := h.keep hkp
      have hl4 := row_zero
      have hl5 := zeros_cells
      go_wp2_with (first | (refine row_load_at HR hlt rfl rfl rfl ?_) | (refine row_store_new rfl rfl rfl rfl ?_) | (refine row_load_new rfl rfl rfl ?_))
      obtain ⟨C, HC⟩ : ∃ C, Hid (C = (rowOf F k).toArray) := ⟨_, rfl⟩
      rw [← HC.out]
      have HCa : Hid (∀ s, s < 32 → C[s]? = some (.int .i64 (F (k * 32 + s)))) := fun s hs => by rw [HC.out, List.getElem?_toArray]; exact rowOf_at F k s hs
      have hkD := hkp.alloc (.cells C 81)
      have HNo := Lib.hid hno
      clear hl4 hl5 hno
      go_loopw [18] (fun i wi => ∃ s : Nat, s ≤ 32 ∧ i = .int .i64 s ∧ Kept w3 wi ∧ Hid (∀ p, p < k * 32 + s → ¬ Sp.brkS F S p)) (fun i _ => 32 - (intOf i).toNat)
      case atStart => exact ⟨0, by omega, rfl, hkD, HNo⟩
      case round =>
        obtain ⟨s, hs, rfl, hkp, HNo⟩ := hrel
        by_cases hlt2 : s < 32
        · have hix := run_index_row C s _ hlt2 (HCa.out s hlt2)
          obtain ⟨hF0, hF1⟩ := h.2.2 (k * 32 + s) (by omega)
          have HB : Hid (Sp.brkS F S (k * 32 + s) ↔ (S.testBit s = true ∧ 0 ≤ F (k * 32 + s) ∧ S.testBit (F (k * 32 + s)).toNat = false)) := by show _ ↔ _; unfold Sp.brkS; rw [show (k * 32 + s) % 32 = s by omega]
          have HNx : Hid (¬ Sp.brkS F S (k * 32 + s) → ∀ p, p < k * 32 + (s + 1) → ¬ Sp.brkS F S p) := fun hb p hp => by
            by_cases e : p = k * 32 + s
            · subst e; exact hb
            · exact HNo.out p (by omega)
          obtain ⟨f, Hf⟩ : ∃ f, Hid (F (k * 32 + s) = f) := ⟨_, rfl⟩
          rw [Hf.out] at hix hF0 hF1 HB
          have hab := and_bit S s (by omega)
          have hb1 := bit_one (S.testBit s)
          cases hev : S.testBit s
          · have HV := Lib.hid hev
            rw [hev] at hb1 hab
            clear hev
            have HX := HNx.out (fun hb => by have := (HB.out.1 hb).1; rw [HV.out] at this; cases this)
            have HX := Lib.hid HX
            go_wp2_with fail
            exact ⟨⟨s + 1, by omega, by go_num, hkp, HX⟩, by simp [intOf]; omega⟩
          · have HV := Lib.hid hev
            rw [hev] at hb1 hab
            clear hev
            by_cases hf : 0 ≤ f
            · obtain ⟨f, rfl⟩ := Int.eq_ofNat_of_zero_le hf
              have hac := and_bit S f (by omega)
              have hb2 := bit_zero (S.testBit f)
              cases hew : S.testBit f
              · have HW := Lib.hid hew
                rw [hew] at hb2 hac
                clear hew
                go_wp2_with fail
                go_ret
                exact ⟨_, rfl, by rw [HN.out, HF.out]; exact .inr ⟨_, _, rfl, k * 32 + s, by omega, HB.out.2 ⟨HV.out, by omega, by rw [Int.toNat_natCast]; exact HW.out⟩⟩, hk0.trans hkp⟩
              · have HW := Lib.hid hew
                rw [hew] at hb2 hac
                clear hew
                have HX := Lib.hid (HNx.out (fun hb => by have := (HB.out.1 hb).2.2; rw [Int.toNat_natCast, HW.out] at this; cases this))
                go_wp2_with fail
                exact ⟨⟨s + 1, by omega, by go_num, hkp, HX⟩, by simp [intOf]; omega⟩
            · have HX := Lib.hid (HNx.out (fun hb => hf (HB.out.1 hb).2.1))
              go_wp2_with fail
              exact ⟨⟨s + 1, by omega, by go_num, hkp, HX⟩, by simp [intOf]; omega⟩
        · obtain rfl : s = 32 := by omega
          have HX : Hid (∀ p, p < (k + 1) * 32 → ¬ Sp.brkS F S p) := fun p hp => HNo.out p (by omega)
          go_wp2_with fail
          exact ⟨⟨k + 1, by omega, by go_num, hkp, HX⟩, by simp [intOf]; omega⟩
    · obtain rfl : k = N := by omega
      go_wp2_with fail
      go_ret
      exact ⟨_, rfl, by rw [HN.out, HF.out]; exact .inl ⟨rfl, hno⟩, hk0.trans hkp⟩

/-- whether a set of states proves that there is no plan -/
def Sp.closedOk (t : Sp.Task) (S : Int) : Bool := Sp.taskOk t && Sp.setOk S && S.toNat.testBit t.start.toNat && decide (Sp.img (Sp.rel t) S.toNat &&& S.toNat = Sp.img (Sp.rel t) S.toNat) && decide (S.toNat &&& Sp.truth t.goal = 0)
/-- closed exactly if nothing breaks it -/
theorem closed_iff {t : Sp.Task} (hok : Sp.taskOk t = true) {S : Nat} : Sp.img (Sp.rel t) S &&& S = Sp.img (Sp.rel t) S ↔ ∀ p, p < t.deeds.length * 32 → ¬ Sp.brkS (Sp.flat t.deeds) S p := by
  constructor
  · intro h p hp ⟨h1, h2, h3⟩
    have hk : p / 32 < t.deeds.length := by omega
    have hs : p % 32 < 32 := by omega
    have hbd := stepI_bd hs (Sp.taskOk_deed hok hk)
    obtain ⟨u, hu⟩ := Int.eq_ofNat_of_zero_le h2
    have hu2 : Sp.stepI (t.deeds.getD (p / 32) default) (p % 32) = (u : Int) := hu
    rw [hu, Int.toNat_natCast] at h3
    have h4 : (Sp.img (Sp.rel t) S).testBit u = true := (Sp.img_bit _ _ _).2 ⟨by omega, p % 32, hs, h1, (rel_iff t _ u hs).2 ⟨_, hk, hu2⟩⟩
    rw [← h, Nat.testBit_and, h3, Bool.and_false] at h4
    cases h4
  · intro h
    refine Sp.set_ext (Nat.lt_of_le_of_lt Nat.and_le_left (Sp.img_lt _ _)) (Sp.img_lt _ _) fun u hu => ?_
    rw [Nat.testBit_and, Bool.and_eq_true]
    refine ⟨fun h1 => h1.1, fun h1 => ⟨h1, ?_⟩⟩
    obtain ⟨_, s, hs, h2, h3⟩ := (Sp.img_bit _ _ _).1 h1
    obtain ⟨k, hk, h4⟩ := (rel_iff t s u hs).1 h3
    have h5 := h (k * 32 + s) (by omega)
    unfold Sp.brkS at h5
    rw [flat_at _ _ _ hs, h4, Int.toNat_natCast, show (k * 32 + s) % 32 = s by omega] at h5
    cases hb : S.testBit u
    · exact absurd ⟨h2, by omega, hb⟩ h5
    · rfl

/-- where the package errors keeps what an error's type is -/
def ErrG (w : World) : Prop := w.cell? ⟨0, 0, none⟩ = some (.iface 168 (.agg #[.pointer (some ⟨7, 65, none⟩)]))
theorem ErrG.lt {w : World} (h : ErrG w) : 0 < w.heap.size := by
  rcases Nat.eq_zero_or_pos w.heap.size with h0 | h1
  · unfold ErrG at h; simp [World.cell?, h0] at h
  · exact h1
theorem ErrG.keep {w w' : World} (h : ErrG w) (hk : Kept w w') : ErrG w' := by
  have := hk.cell (b := 0) (o := 0) h.lt
  unfold ErrG at *
  rw [this]; exact h
theorem asWorld_kept {a w : World} {tb : Nat} (hk : Kept a w) (h : a.heap.size ≤ tb) (x y : Int) : Kept a (asWorld w tb x y) := by
  unfold asWorld
  exact (((((hk.alloc _).alloc _).alloc _).alloc _).setCell (p := ⟨tb, 0, none⟩) h _).setCell (p := ⟨tb, 1, none⟩) h _
theorem closedOk_no1 {t : Sp.Task} {S : Int} (h : Sp.taskOk t = false) : Sp.closedOk t S = false := by unfold Sp.closedOk; rw [h]; rfl
theorem closedOk_no2 {t : Sp.Task} {S : Int} (h : Sp.setOk S = false) : Sp.closedOk t S = false := by unfold Sp.closedOk; rw [h, Bool.and_false]; rfl
theorem closedOk_at {t : Sp.Task} {S st T : Nat} (h : Sp.taskOk t = true) (hs : Sp.setOk (S : Int) = true) (hst : t.start = (st : Int)) (hT : Sp.truth t.goal = T) : Sp.closedOk t (S : Int) = (S.testBit st && decide (Sp.img (Sp.rel t) S &&& S = Sp.img (Sp.rel t) S) && decide (S &&& T = 0)) := by
  unfold Sp.closedOk
  rw [h, hs, Int.toNat_natCast, hst, Int.toNat_natCast, hT]; rfl

set_option maxHeartbeats 1000000 in
set_option maxRecDepth 100000 in
theorem c_sClosedOk (v : Value) (t : Sp.Task) (S : Int) (w : World) (h : TaskV w v t) : Calls Tryd.prog 65 #[v, .int .i64 S] w (RetK (.bool (Sp.closedOk t S)) w) := by
  obtain ⟨A, n, c, A', n', c', rfl⟩ := h.form
  have hk0 := (Kept.refl w).alloc (.cells #[.int .i64 t.start, .slice A n c, .slice A' n' c'] 26)
  have B0 := Blk.new w 26 #[.int .i64 t.start, .slice A n c, .slice A' n' c']
  have hT := h.keep hk0
  have c0 := B0.cell
  go_enter Tryd.func65, Tryd.ntmps65
  go_wp2_with fail
  refine (c_sStatesNext _ t S _ hT).mono ?_; rintro e w2 ⟨rfl, hk2⟩
  replace hk0 := hk0.trans hk2
  replace B0 := B0.kept hk2
  replace hT := hT.keep hk2
  clear hk2 c0
  cases ht : Sp.taskOk t
  · have HE := Lib.hid (closedOk_no1 (S := S) ht)
    have HN : Hid (Sp.statesNext t S = -1) := by show _ = _; unfold Sp.statesNext; rw [ht]; simp
    rw [HN.out]
    clear ht
    go_wp2_with fail
    go_ret
    exact ⟨ret_bool HE.out.symm, hk0⟩
  cases hq : Sp.setOk S
  · have HE := Lib.hid (closedOk_no2 (t := t) hq)
    have HN : Hid (Sp.statesNext t S = -1) := by show _ = _; unfold Sp.statesNext; rw [hq]; simp
    rw [HN.out]
    clear ht hq
    go_wp2_with fail
    go_ret
    exact ⟨ret_bool HE.out.symm, hk0⟩
  have hq' : 0 ≤ S ∧ S ≤ 4294967295 := by unfold Sp.setOk at hq; simpa using hq
  obtain ⟨S, rfl⟩ := Int.eq_ofNat_of_zero_le hq'.1
  obtain ⟨hs0, hs1⟩ := Sp.taskOk_start ht
  obtain ⟨st, hst⟩ := Int.eq_ofNat_of_zero_le hs0
  obtain ⟨T, HTr⟩ : ∃ T, Hid (Sp.truth t.goal = T) := ⟨_, rfl⟩
  have hTl := truth_bd t.goal
  have HCT : Hid (Sp.codeTruth t.goal = (T : Int)) := by show _ = _; unfold Sp.codeTruth; rw [if_pos (Sp.taskOk_goal ht), HTr.out]
  have HE := Lib.hid (closedOk_at (S := S) ht hq hst HTr.out)
  have HN : Hid (Sp.statesNext t (S : Int) = (Sp.img (Sp.rel t) S : Nat)) := by show _ = _; unfold Sp.statesNext; rw [if_pos ⟨ht, hq⟩, Int.toNat_natCast]
  have hNl := Sp.img_lt (Sp.rel t) S
  rw [HN.out]
  obtain ⟨N, HNd⟩ : ∃ N, Hid (Sp.img (Sp.rel t) S = N) := ⟨_, rfl⟩
  rw [HNd.out] at hNl HE ⊢
  rw [HTr.out] at hTl
  have hst3 : st < 32 := by omega
  have hG := hT.goal
  rw [hst] at B0
  have c0 := B0.cell
  clear ht hq hst hs0 hs1 HN
  have hN0 : (0 : Int) ≤ (N : Int) := by omega
  go_wp2_with fail
  refine (c_bitN S st _ (by omega) hst3).mono ?_; rintro e w3 ⟨rfl, rfl⟩
  have hb1 := bit_one (S.testBit st)
  cases hev : S.testBit st
  · rw [hev] at hb1
    rw [hev, Bool.false_and, Bool.false_and] at HE
    clear hev
    go_wp2_with fail
    go_ret
    exact ⟨ret_bool HE.out.symm, hk0⟩
  · rw [hev] at hb1
    rw [hev, Bool.true_and] at HE
    clear hev
    go_wp2_with fail
    refine (c_bothN N S _ (by omega) (by omega)).mono ?_; rintro e w4 ⟨rfl, rfl⟩
    obtain ⟨V, HV⟩ : ∃ V, Hid (N &&& S = V) := ⟨_, rfl⟩
    rw [HV.out] at HE ⊢
    by_cases hVN : V = N
    · subst hVN
      rw [decide_eq_true rfl, Bool.true_and] at HE
      go_wp2_with fail
      refine (c_sCodeTruth _ _ _ _ _ hG).mono ?_; rintro e w5 ⟨rfl, hk5⟩
      rw [HCT.out]
      go_wp2_with fail
      refine (c_bothN S T _ (by omega) (by omega)).mono ?_; rintro e w6 ⟨rfl, rfl⟩
      obtain ⟨U, HU⟩ : ∃ U, Hid (S &&& T = U) := ⟨_, rfl⟩
      rw [HU.out] at HE ⊢
      by_cases hU : U = 0
      · subst hU
        go_wp2_with fail
        go_ret
        exact ⟨ret_bool HE.out.symm, hk0.trans hk5⟩
      · have hU2 : ((U : Int) == 0) = false := beq_eq_false_iff_ne.2 (by omega)
        have hU3 : ¬ (U : Int) = 0 := by omega
        rw [decide_eq_false hU] at HE
        go_wp2_with fail
        go_ret
        exact ⟨ret_bool HE.out.symm, hk0.trans hk5⟩
    · have hV2 : ((V : Int) == (N : Int)) = false := beq_eq_false_iff_ne.2 (by omega)
      have hV3 : ¬ (V : Int) = (N : Int) := by omega
      rw [decide_eq_false hVN, Bool.false_and] at HE
      go_wp2_with fail
      go_ret
      exact ⟨ret_bool HE.out.symm, hk0⟩

set_option maxHeartbeats 1000000 in
set_option maxRecDepth 100000 in
theorem c_iClosedOk (v : Value) (t : Sp.Task) (S : Int) (w : World) (h : TaskV w v t) (hg : ErrG w) : Calls Tryd.prog 63 #[v, .int .i64 S] w (RetK (.bool (Sp.closedOk t S)) w) := by
  obtain ⟨A, n, c, A', n', c', rfl⟩ := h.form
  have hk0 := (Kept.refl w).alloc (.cells #[.int .i64 t.start, .slice A n c, .slice A' n' c'] 26)
  have B0 := Blk.new w 26 #[.int .i64 t.start, .slice A n c, .slice A' n' c']
  have hT := h.keep hk0
  have HG := Lib.hid hg
  clear hg
  go_enter Tryd.func63, Tryd.ntmps63
  go_wp2_with fail
  refine (c_iTaskValid _ t _ hT).mono ?_; rintro e w2 ⟨rfl, hk2⟩
  replace hk0 := hk0.trans hk2
  replace B0 := B0.kept hk2
  replace hT := hT.keep hk2
  clear hk2
  cases ht : Sp.taskOk t
  · have HE := Lib.hid (closedOk_no1 (S := S) ht)
    clear ht
    go_wp2_with fail
    go_ret
    exact ⟨ret_bool HE.out.symm, hk0⟩
  cases hq : Sp.setOk S
  · have HE := Lib.hid (closedOk_no2 (t := t) hq)
    have HQ := Lib.hid hq
    clear ht hq
    go_wp2_with (first | (go_at_call 121; refine (c_statesOk S _).mono ?_; rintro e w3 ⟨rfl, rfl⟩; rw [HQ.out]))
    go_ret
    exact ⟨ret_bool HE.out.symm, hk0⟩
  have HQ := Lib.hid hq
  have HK := Lib.hid ht
  have hq' : 0 ≤ S ∧ S ≤ 4294967295 := by unfold Sp.setOk at hq; simpa using hq
  obtain ⟨S, rfl⟩ := Int.eq_ofNat_of_zero_le hq'.1
  obtain ⟨hs0, hs1⟩ := Sp.taskOk_start ht
  obtain ⟨st, hst⟩ := Int.eq_ofNat_of_zero_le hs0
  obtain ⟨T, HTr⟩ : ∃ T, Hid (Sp.truth t.goal = T) := ⟨_, rfl⟩
  have hTl := truth_bd t.goal
  have HCT : Hid (Sp.codeTruth t.goal = (T : Int)) := by show _ = _; unfold Sp.codeTruth; rw [if_pos (Sp.taskOk_goal ht), HTr.out]
  have HE := Lib.hid (closedOk_at (S := S) ht hq hst HTr.out)
  have HCl := Lib.hid (closed_iff (S := S) ht)
  rw [HTr.out] at hTl
  have hst3 : st < 32 := by omega
  have hG := hT.goal
  have HST := Lib.hid hst
  rw [hst] at B0
  have c0 := B0.cell
  have hab := and_bit S st (by omega)
  have hb1 := bit_zero (S.testBit st)
  have hand := i64_and_nat S T (by omega) (by omega)
  clear ht hq hst hs0 hs1
  cases hev : S.testBit st
  · rw [hev] at hb1 hab
    rw [hev, Bool.false_and, Bool.false_and] at HE
    clear hev
    go_wp2_with (first | (go_at_call 121; refine (c_statesOk (S : Int) _).mono ?_; rintro e w3 ⟨rfl, rfl⟩; rw [HQ.out]))
    go_ret
    exact ⟨ret_bool HE.out.symm, hk0⟩
  · rw [hev] at hb1 hab
    rw [hev, Bool.true_and] at HE
    clear hev
    go_wp2_with (first | (go_at_call 121; refine (c_statesOk (S : Int) _).mono ?_; rintro e w3 ⟨rfl, rfl⟩; rw [HQ.out]))
    refine (c_iCodeTruth _ _ _ _ _ hG).mono ?_; rintro e w5 ⟨rfl, hk5⟩
    rw [HCT.out]
    obtain ⟨U, HU⟩ : ∃ U, Hid (S &&& T = U) := ⟨_, rfl⟩
    rw [HU.out] at HE hand
    replace hk0 := hk0.trans hk5
    replace B0 := B0.kept hk5
    replace hT := hT.keep hk5
    clear hk5 c0
    by_cases hU : U = 0
    · subst hU
      rw [decide_eq_true rfl, Bool.and_true] at HE
      rw [HST.out] at hT
      have c0 := (B0.kept ((Kept.refl w5).alloc (.cells #[.int .i64 0, .int .i64 0] 62))).cell
      have hkE := hk0.alloc (.cells #[.int .i64 0, .int .i64 0] 62)
      have BE := Blk.new w5 62 #[.int .i64 0, .int .i64 0]
      have hTE := hT.keep ((Kept.refl w5).alloc (.cells #[.int .i64 0, .int .i64 0] 62))
      have hsz := hk0.size
      go_wp2_with fail
      refine (c_closedUnder _ t S _ hTE HK.out (by omega)).mono ?_; rintro e w6 ⟨v, rfl, hQ, hk6⟩
      replace hkE := hkE.trans hk6
      replace BE := BE.kept hk6
      clear hk6 c0 hTE
      rcases hQ with ⟨rfl, hno⟩ | ⟨x, y, rfl, p, hp, hbk⟩
      · have HY : Hid (Sp.img (Sp.rel t) S &&& S = Sp.img (Sp.rel t) S) := HCl.out.2 hno
        rw [decide_eq_true HY.out] at HE
        clear hno
        go_wp2_with fail
        refine (as_nil _ _).mono ?_; rintro e w7 ⟨rfl, rfl⟩
        go_wp2_with fail
        go_ret
        exact ⟨ret_bool HE.out.symm, hkE⟩
      · have HY : Hid (¬ Sp.img (Sp.rel t) S &&& S = Sp.img (Sp.rel t) S) := fun e => HCl.out.1 e p hp hbk
        rw [decide_eq_false HY.out] at HE
        have HG6 := Lib.hid (HG.out.keep hkE)
        clear hp hbk
        go_wp2_with fail
        refine (as_hit x y _ _ _ _ HG6.out (BE.cell 0) (BE.cell 1) (BE.frozen 0) (BE.frozen 1)).mono ?_; rintro e w7 ⟨rfl, rfl⟩
        go_wp2_with fail
        go_ret
        exact ⟨ret_bool HE.out.symm, asWorld_kept hkE (by omega) x y⟩
    · have hU2 : ((U : Int) == 0) = false := beq_eq_false_iff_ne.2 (by omega)
      have hU3 : ¬ (U : Int) = 0 := by omega
      rw [decide_eq_false hU, Bool.and_false] at HE
      go_wp2_with fail
      go_ret
      exact ⟨ret_bool HE.out.symm, hk0⟩

end Go.Proofs.YtphdojebdclonaaDoor
