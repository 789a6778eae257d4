/- Walks: agreeing; the program's ShadowSteps. No condition. -/
import Derived.Test.YtjmpfemlihjibaaG10
import Derived.Test.YtjmpfemlihjibaaG14
namespace Go.Proofs.Ytjmpfemlihjibaa
open Go.RowKit

theorem To_round {q : Nat → Nat → Prop} {m T : Nat} (h : Sp.To q m T) {m' : Nat} (e : m = m') : Sp.To q m' T := e ▸ h

set_option maxHeartbeats 1000000 in
theorem c_agreeing (S f : Nat) (w : World) (hS : S < 4294967296) (hf : f < 32) :
    Calls Try.prog 84 #[.int .i64 (S : Int), .int .i64 (f : Int)] w (Ret (.int .i64 (Sp.img (Sp.agree f) S : Nat)) w) := by
  go_enter Try.func84, Try.ntmps84
  go_wp2_with fail
  go_loop [8, 5] (fun i o => ∃ s T : Nat, s ≤ 32 ∧ i = .int .i64 s ∧ o = .int .i64 T ∧ Sp.To (Sp.qAgr f S) (s * 32) T) (fun i _ => 32 - (intOf i).toNat)
  case atStart => exact ⟨0, 0, by omega, rfl, rfl, To_zero _⟩
  case round =>
    obtain ⟨s, T, hs, rfl, rfl, hT⟩ := hrel
    by_cases hlt : s < 32
    · go_wp2_with fail
      try rw [show decide ((s : Int) < 32) = true from decide_eq_true (by omega)]
      go_loop [11, 5] (fun i o => ∃ p T : Nat, p ≤ 32 ∧ i = .int .i64 p ∧ o = .int .i64 T ∧ Sp.To (Sp.qAgr f S) (s * 32 + p) T) (fun i _ => 32 - (intOf i).toNat)
      case atStart => exact ⟨0, T, by omega, rfl, rfl, hT⟩
      case round =>
        obtain ⟨p, T, hp, rfl, rfl, hT⟩ := hrel
        by_cases hlt2 : p < 32
        · have HQ := Lib.hid (show ∀ u, Sp.qAgr f S (s * 32 + p) u ↔ (u = s ∧ S.testBit p = true ∧ (s &&& f) = (p &&& f)) from fun u => by
            unfold Sp.qAgr
            rw [show (s * 32 + p) / 32 = s by omega, show (s * 32 + p) % 32 = p by omega])
          have hab := and_bit S p (by omega)
          have hb1 := bit_one (S.testBit p)
          have hsh := bin_shl_one s (by omega)
          have hor := or_p2 T s hT.1 (by omega)
          have ha1 := i64_and_nat s f (by omega) (by omega)
          have ha2 := i64_and_nat p f (by omega) (by omega)
          cases hev : S.testBit p
          · rw [hev] at hb1 hab
            have HV := Lib.hid hev
            clear hev
            go_wp2_with fail
            exact ⟨⟨p + 1, T, by omega, by go_num, rfl, To_skip hT fun u hu => by have := ((HQ.out u).1 hu).2.1; rw [HV.out] at this; cases this⟩, by simp [intOf]; omega⟩
          · rw [hev] at hb1 hab
            have HV := Lib.hid hev
            clear hev
            by_cases he : (s &&& f) = (p &&& f)
            · have hq : (((s &&& f : Nat) : Int) == ((p &&& f : Nat) : Int)) = true := by rw [he]; simp
              have HE := Lib.hid he
              clear he
              go_wp2_with fail
              exact ⟨⟨p + 1, _, by omega, by go_num, rfl, To_add hT (by omega) fun u => (HQ.out u).trans ⟨fun hu => hu.1, fun e => ⟨e, HV.out, HE.out⟩⟩⟩, by simp [intOf]; omega⟩
            · have hq : (((s &&& f : Nat) : Int) == ((p &&& f : Nat) : Int)) = false := by simp only [beq_eq_false_iff_ne, ne_eq]; exact_mod_cast he
              have HE := Lib.hid he
              clear he
              go_wp2_with fail
              exact ⟨⟨p + 1, T, by omega, by go_num, rfl, To_skip hT fun u hu => HE.out ((HQ.out u).1 hu).2.2⟩, by simp [intOf]; omega⟩
        · obtain rfl : p = 32 := by omega
          have hT2 : Hid (Sp.To (Sp.qAgr f S) ((s + 1) * 32) T) := by show Sp.To _ _ _; rw [show (s + 1) * 32 = s * 32 + 32 by omega]; exact hT
          go_wp2_with fail
          exact ⟨⟨s + 1, T, by omega, by go_num, rfl, hT2⟩, by simp [intOf]; omega⟩
    · go_wp2_with fail
      go_ret
      obtain rfl : s = 32 := by omega
      exact ⟨ret_int (by rw [agr_all hT]), rfl⟩


set_option maxHeartbeats 1000000 in
theorem c_iShadowSteps (v : Value) (t : Sp.Task) (q : Int) (w : World) (h : TaskV w v t) :
    Calls Try.prog 34 #[v, .int .i64 q] w (RetS (OutInts w (Sp.shadowSteps t q)) w) := by
  obtain ⟨A, n, c, A', n', c', rfl⟩ := h.form
  have hk0 := (Kept.refl w).alloc (.cells #[.int .i64 t.start, .slice A n c, .slice A' n' c'] 26)
  have B0 := Blk.new w 26 #[.int .i64 t.start, .slice A n c, .slice A' n' c']
  have hT := h.keep hk0
  have hmk : ∀ w, (Instr.makeSlice 23 (.int .i64 32) (.int .i64 32)).run Try.prog w = _ := fun w => make_ints 32 (by omega) w
  go_enter Try.func34, Try.ntmps34
  go_wp2_with fail
  refine (c_iTaskValid _ t _ hT).mono ?_; rintro e w2 ⟨rfl, hk2⟩
  replace hk0 := hk0.trans hk2
  replace B0 := B0.kept hk2
  replace hT := hT.keep hk2
  clear hk2
  have c0 := B0.cell
  cases ht : Sp.taskOk t
  · have HE : Hid (Sp.shadowSteps t q = []) := by show _ = _; unfold Sp.shadowSteps; rw [ht]; simp
    clear ht
    go_wp2_with fail
    go_ret
    exact ⟨_, rfl, by rw [HE.out]; exact OutInts.none _ _ _ _, hk0⟩
  have HK := Lib.hid ht
  cases hq : Sp.stOk q
  · have HE : Hid (Sp.shadowSteps t q = []) := by show _ = _; unfold Sp.shadowSteps; rw [hq]; simp
    have HQ := Lib.hid hq
    clear ht hq
    go_wp2_with (first | (go_at_call 72; refine (c_stateOk q _).mono ?_; rintro e w3 ⟨rfl, rfl⟩; rw [HQ.out]))
    go_ret
    exact ⟨_, rfl, by rw [HE.out]; exact OutInts.none _ _ _ _, hk0⟩
  have HQ := Lib.hid hq
  have hq' : 0 ≤ q ∧ q ≤ 31 := by unfold Sp.stOk at hq; simpa using hq
  obtain ⟨q, rfl⟩ := Int.eq_ofNat_of_zero_le hq'.1
  have hq32 : q < 32 := by omega
  have HE : Hid (Sp.shadowSteps t (q : Int) = Sp.distList (Sp.relS t q) (Sp.endS t q)) := by show _ = _; unfold Sp.shadowSteps; rw [if_pos ⟨ht, hq⟩, Int.toNat_natCast]
  have HC : Hid (Sp.codeTruth t.goal = (Sp.truth t.goal : Nat)) := by show _ = _; exact truth_codeTruth (Sp.taskOk_goal ht)
  have hTr : Sp.truth t.goal < 4294967296 := truth_bd t.goal
  have hn6 := Sp.taskOk_len ht
  have hS : Sp.endS t q < 2 ^ 32 := endS_lt t q
  have HEnd0 : Hid (Sp.img (Sp.agree q) (Sp.truth t.goal) = Sp.endS t q) := rfl
  clear ht hq hq'
  go_wp2_with (first | (go_at_call 72; refine (c_stateOk (q : Int) _).mono ?_; rintro e w3 ⟨rfl, rfl⟩; rw [HQ.out]))
  refine (c_behindAll _ t _ hT HK.out).mono ?_; rintro e w3 ⟨v, rfl, ⟨g, rfl, hg, hR⟩, hk3⟩
  have hRow := RowsF.of hR (fun k hk => Sp.taskOk_deed HK.out hk)
  replace hk0 := hk0.trans hk3
  replace B0 := B0.kept hk3
  replace hT := hT.keep hk3
  clear hk3 hR c0
  have c0 := B0.cell
  go_wp2_with fail
  refine (c_iCodeTruth _ _ _ _ _ hT.goal).mono ?_; rintro e w5 ⟨rfl, hk5⟩
  rw [HC.out]
  replace hk0 := hk0.trans hk5
  replace hRow := hRow.keep hk5
  clear hk5 c0 B0 hT
  have HSZ := Lib.hid hk0.size
  obtain ⟨S, HSd⟩ : ∃ S, Hid (Sp.endS t q = S) := ⟨_, rfl⟩
  rw [HSd.out] at hS HE HEnd0
  obtain ⟨rel, HRel⟩ : ∃ rel, Hid (Sp.relS t q = rel) := ⟨_, rfl⟩
  rw [HRel.out] at HE
  go_wp2_with (first | (go_at_call 84; refine (c_agreeing (Sp.truth t.goal) q _ hTr hq32).mono ?_; rintro e w3 ⟨rfl, rfl⟩; rw [HEnd0.out]))
  clear hmk
  have hkA := (Kept.refl w5).alloc (.cells (madeCells #[.int .i64 0] 32) 3)
  have B0 := Blk.new w5 3 (madeCells #[.int .i64 0] 32)
  obtain ⟨C0, hC0⟩ : ∃ C0, C0 = madeCells #[.int .i64 0] 32 := ⟨_, rfl⟩
  have hz : C0.size = 32 := by rw [hC0]; exact size_madeCells _ _
  rw [← hC0] at hkA B0 ⊢
  have HZ := Lib.hid hz
  clear hz hC0
  go_loopw [30] (fun i wr => ∃ (k : Nat) (cs : Array Value), k ≤ 32 ∧ i = .int .i64 k ∧ Kept w5 wr ∧ Blk wr w5.heap.size 3 cs ∧ Hid (cs.size = 32) ∧ Hid (∀ s, s < k → cs[s]? = some (.int .i64 (Sp.dto rel S 0 s)))) (fun i _ => 32 - (intOf i).toNat)
  case atStart => exact ⟨0, _, Nat.zero_le _, rfl, hkA, B0, HZ, by show ∀ s, s < 0 → _; omega⟩
  case round =>
    obtain ⟨k, cs, hk, rfl, hkp, hB, HZ, HA⟩ := hrel
    by_cases hlt : k < 32
    · obtain ⟨u, hu⟩ : ∃ u, cs[k]? = some u := ⟨_, Array.getElem?_eq_getElem (by rw [HZ.out]; exact hlt)⟩
      have c0 := hB.cell k
      rw [hu] at c0
      clear hu
      have f0 := hB.frozen k
      have hab := and_bit S k (by omega)
      have HD := Lib.hid (dto_zero (rel := rel) hS k hlt)
      have HX : Hid (∀ x : Int, x = Sp.dto rel S 0 k → ∀ s, s < k + 1 → (cs.setIfInBounds k (.int .i64 x))[s]? = some (.int .i64 (Sp.dto rel S 0 s))) := by
        intro x hx s hs
        rw [Array.getElem?_setIfInBounds]
        by_cases e : k = s
        · subst e; rw [if_pos rfl, if_pos (by rw [HZ.out]; exact hlt), hx]
        · rw [if_neg e]; exact HA.out s (by omega)
      cases hev : S.testBit k
      all_goals
        rw [hev] at hab HD
        clear hev
        go_wp2_with fail
        exact ⟨⟨k + 1, _, by omega, by go_num, hkp.setCell (by simp) _, hB.set_ k _, by show _ = 32; rw [Array.size_setIfInBounds]; exact HZ.out, HX.out _ (by rw [HD.out]; rfl)⟩, by simp [intOf]; omega⟩
    · have HA0 : Hid (∀ s, s < 32 → cs[s]? = some (.int .i64 (Sp.dto rel S 0 s))) := fun s hs => HA.out s (by omega)
      go_wp2_with fail
      clear HA
      have HA := HA0
      clear HA0 hlt hk
      go_loopw [6, 9] (fun o y wr => ∃ (m : Nat) (cs : Array Value), m ≤ 31 ∧ o = .int .i64 (Sp.rch rel S m : Nat) ∧ y = .int .i64 ((m : Int) + 1) ∧ Kept w5 wr ∧ Blk wr w5.heap.size 3 cs ∧ Hid (cs.size = 32) ∧ Hid (∀ s, s < 32 → cs[s]? = some (.int .i64 (Sp.dto rel S m s)))) (fun _ y _ => 40 - (intOf y).toNat)
      case atStart => exact ⟨0, cs, by omega, rfl, rfl, hkp, hB, HZ, HA⟩
      case round =>
        obtain ⟨m, cs, hm, rfl, rfl, hkp, hB, HZ, HA⟩ := hrel
        have hT := Sp.rch_lt (rel := rel) hS m
        have hf := Sp.fr_lt (rel := rel) hS (m + 1)
        have hand := i64_andNot_nat (Sp.img rel (Sp.rch rel S m)) (Sp.rch rel S m) (by have := Sp.img_lt rel (Sp.rch rel S m); omega) (by omega)
        rw [fresh_fr hS m] at hand
        have hor := i64_or_nat (Sp.rch rel S m) (Sp.fr rel S (m + 1)) (by omega) (by omega)
        rw [or_fr hS m] at hor
        have HEnd := Lib.hid (@dto_end rel S hS m)
        have HNew := Lib.hid (@dto_new rel S hS m)
        have HOld := Lib.hid (@dto_old rel S m)
        have HBd := Lib.hid (Sp.fr_bound (rel := rel) hS (m + 1))
        have hstep := (c_backStates g t.deeds.length t.deeds.length (Sp.flat t.deeds) (Sp.rch rel S m) wr (hRow.keep hkp) (by omega) hn6)
        have HI1a : Hid (Sp.img (Sp.agree q) (Sp.img (Sp.relB t) (Sp.rch rel S m)) = Sp.img rel (Sp.rch rel S m)) := by show _ = _; rw [← HRel.out]; exact (img_comp _ _ _).symm
        have HI1b : Hid (Sp.img (Sp.rev (Sp.edge t.deeds.length (Sp.flat t.deeds))) (Sp.rch rel S m) = Sp.img (Sp.relB t) (Sp.rch rel S m)) := rfl
        have hI1 : Sp.img (Sp.relB t) (Sp.rch rel S m) < 4294967296 := Sp.img_lt _ _
        rw [HI1b.out] at hstep
        clear HI1b
        obtain ⟨T1, HT1⟩ : ∃ T1, Hid (Sp.rch rel S (m + 1) = T1) := ⟨Sp.rch rel S (m + 1), rfl⟩
        rw [HT1.out] at hor
        generalize Sp.rch rel S m = T at *
        generalize Sp.img rel T = I at *
        generalize Sp.img (Sp.relB t) T = I1 at *
        generalize Sp.fr rel S (m + 1) = f at *
        go_wp2_with fail
        refine hstep.mono ?_; rintro e w2 ⟨rfl, hk2⟩
        replace hkp := hkp.trans hk2
        replace hB := hB.kept hk2
        clear hk2 hstep
        go_wp2_with fail
        refine (c_agreeing I1 q _ hI1 hq32).mono ?_; rintro e w3 ⟨rfl, rfl⟩
        rw [HI1a.out]
        by_cases hf0 : f = 0
        · subst hf0
          go_wp2_with fail
          go_ret
          have hown : Own w2 w5.heap.size (Sp.distList rel S).length (Sp.distList rel S) := by
            rw [distList_len]
            refine Own.ofBlk hB ?_
            exact Ints.ofBlk hB (distList_len _ _) (by unfold maxLen; omega) (distList_in _ _ hS) (fun j hj => by rw [distList_at _ _ j hj, ← HEnd.out trivial j hj]; exact HA.out j hj)
          have := OutInts.of (c := 32) hown (w := w) HSZ.out
          rw [distList_len] at this
          exact ⟨_, rfl, by rw [HE.out]; exact this, hk0.trans hkp⟩
        · have hm1 : m + 1 ≤ 31 := HBd.out hf0
          go_wp2_with fail
          clear hand
          go_loopw [56] (fun i wr => ∃ (k : Nat) (cs : Array Value), k ≤ 32 ∧ i = .int .i64 k ∧ Kept w5 wr ∧ Blk wr w5.heap.size 3 cs ∧ Hid (cs.size = 32) ∧ Hid (∀ s, s < 32 → cs[s]? = some (.int .i64 (if s < k then Sp.dto rel S (m + 1) s else Sp.dto rel S m s)))) (fun i _ => 32 - (intOf i).toNat)
          case atStart => exact ⟨0, _, Nat.zero_le _, rfl, hkp, hB, HZ, fun s hs => by rw [if_neg (by omega)]; exact HA.out s hs⟩
          case round =>
            obtain ⟨k, cs, hk, rfl, hkp, hB, HZ, HA⟩ := hrel
            by_cases hlt : k < 32
            · have hab := and_bit f k (by omega)
              have hb1 := bit_one (f.testBit k)
              have HN2 := Lib.hid (HNew.out k hlt)
              have HO2 := Lib.hid (HOld.out k hlt)
              cases hev : f.testBit k
              · rw [hev] at hab hb1 HO2
                have HX : Hid (∀ s, s < 32 → cs[s]? = some (.int .i64 (if s < k + 1 then Sp.dto rel S (m + 1) s else Sp.dto rel S m s))) := by
                  intro s hs
                  rw [HA.out s hs]
                  by_cases e : s = k
                  · subst e; rw [if_neg (by omega), if_pos (by omega), HO2.out rfl]
                  · by_cases e2 : s < k
                    · rw [if_pos e2, if_pos (by omega)]
                    · rw [if_neg e2, if_neg (by omega)]
                clear hev
                go_wp2_with fail
                exact ⟨⟨k + 1, cs, by omega, by go_num, hkp, hB, HZ, HX⟩, by simp [intOf]; omega⟩
              · rw [hev] at hab hb1 HN2
                obtain ⟨u, hu⟩ : ∃ u, cs[k]? = some u := ⟨_, Array.getElem?_eq_getElem (by rw [HZ.out]; exact hlt)⟩
                have c0 := hB.cell k
                rw [hu] at c0
                clear hu hev
                have f0 := hB.frozen k
                have HX : Hid (∀ s, s < 32 → (cs.setIfInBounds k (.int .i64 ((m : Int) + 1)))[s]? = some (.int .i64 (if s < k + 1 then Sp.dto rel S (m + 1) s else Sp.dto rel S m s))) := by
                  intro s hs
                  rw [Array.getElem?_setIfInBounds]
                  by_cases e : k = s
                  · subst e; rw [if_pos rfl, if_pos (by rw [HZ.out]; exact hlt), if_pos (by omega), HN2.out rfl]
                  · rw [if_neg e, HA.out s hs]
                    by_cases e2 : s < k
                    · rw [if_pos e2, if_pos (by omega)]
                    · rw [if_neg e2, if_neg (by omega)]
                go_wp2_with fail
                exact ⟨⟨k + 1, _, by omega, by go_num, hkp.setCell (by simp) _, hB.set_ k _, by show _ = 32; rw [Array.size_setIfInBounds]; exact HZ.out, HX⟩, by simp [intOf]; omega⟩
            · obtain rfl : k = 32 := by omega
              have HA2 : Hid (∀ s, s < 32 → cs[s]? = some (.int .i64 (Sp.dto rel S (m + 1) s))) := fun s hs => by rw [HA.out s hs, if_pos hs]
              go_wp2_with fail
              exact ⟨⟨m + 1, cs, hm1, by rw [HT1.out], by go_num, hkp, hB, HZ, HA2⟩, by simp [intOf]; omega⟩

end Go.Proofs.Ytjmpfemlihjibaa
