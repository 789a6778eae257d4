/- Walks: the reference's ShadowSteps. No condition. -/
import Derived.Test.YtjmpfemlihjibaaG13
namespace Go.Proofs.Ytjmpfemlihjibaa
open Go.RowKit

theorem c_bothN (a b : Nat) (w : World) (ha : a < 4294967296) (hb : b < 4294967296) : Calls Try.prog 86 #[.int .i64 (a : Int), .int .i64 (b : Int)] w (Ret (.int .i64 ((a &&& b : Nat) : Int)) w) := by
  have := c_l1Both (a : Int) (b : Int) w (by omega) (by omega) (by omega) (by omega)
  rwa [Int.toNat_natCast, Int.toNat_natCast] at this

/-- whether a state is among the wide ones, by the first o others -/
def Sp.wideBy (q T s o : Nat) (d : Int) : Bool := Sp.ex o (fun x => T.testBit x && ((s &&& q) == (x &&& q))) && decide (d < 0)
theorem wideBy_zero (q T s : Nat) (d : Int) : Sp.wideBy q T s 0 d = false := rfl
theorem wideBy_succ (q T s o : Nat) (d : Int) : Sp.wideBy q T s (o + 1) d = ((Sp.ex o (fun x => T.testBit x && ((s &&& q) == (x &&& q))) || (T.testBit o && ((s &&& q) == (o &&& q)))) && decide (d < 0)) := rfl
theorem wideBy_on {q T s o : Nat} {d : Int} (h : Sp.wideBy q T s o d = true) : Sp.wideBy q T s (o + 1) d = true := by
  unfold Sp.wideBy at *
  simp only [Sp.ex, Bool.and_eq_true, Bool.or_eq_true] at *
  exact ⟨.inl h.1, h.2⟩
theorem wideBy_off {q T s o : Nat} {d : Int} (h : Sp.wideBy q T s o d = false) (h2 : (T.testBit o && ((s &&& q) == (o &&& q))) = false ∨ ¬ d < 0) : Sp.wideBy q T s (o + 1) d = false := by
  rw [wideBy_succ]
  unfold Sp.wideBy at h
  rcases h2 with h2 | h2
  · rw [h2, Bool.or_false]; exact h
  · rw [decide_eq_false h2, Bool.and_false]
theorem wideBy_new {q T s o : Nat} {d : Int} (h1 : T.testBit o = true) (h2 : (s &&& q) = (o &&& q)) (h3 : d < 0) : Sp.wideBy q T s (o + 1) d = true := by
  rw [wideBy_succ, h1, h2, decide_eq_true h3]; simp
theorem setOf_self {F : Nat} (hF : F < 2 ^ 32) : Sp.setOf 32 (fun s => F.testBit s) = F := by
  refine Sp.set_ext (Sp.setOf_lt _ _) hF fun s hs => ?_
  rw [Sp.testBit_setOf]
  simp [hs]

/-- a row between two states of knowledge -/
def Sp.mid (D D' : Nat → Int) (j s : Nat) : Int := if s < j then D' s else D s
theorem mid_zero (D D' : Nat → Int) (s : Nat) : Sp.mid D D' 0 s = D s := by unfold Sp.mid; rw [if_neg (by omega)]
theorem mid_at (D D' : Nat → Int) (j : Nat) : Sp.mid D D' j j = D j := by unfold Sp.mid; rw [if_neg (by omega)]
theorem mid_keep {D D' : Nat → Int} {j : Nat} (h : D' j = D j) (s : Nat) : Sp.mid D D' j s = Sp.mid D D' (j + 1) s := by
  unfold Sp.mid
  by_cases e : s = j
  · subst e; rw [if_neg (by omega), if_pos (by omega), h]
  · by_cases e2 : s < j
    · rw [if_pos e2, if_pos (by omega)]
    · rw [if_neg e2, if_neg (by omega)]
theorem mid_set {D D' : Nat → Int} {j : Nat} {x : Int} (h : D' j = x) (s : Nat) : (if s = j then x else Sp.mid D D' j s) = Sp.mid D D' (j + 1) s := by
  unfold Sp.mid
  by_cases e : s = j
  · subst e; rw [if_pos rfl, if_pos (by omega), h]
  · rw [if_neg e]
    by_cases e2 : s < j
    · rw [if_pos e2, if_pos (by omega)]
    · rw [if_neg e2, if_neg (by omega)]
theorem mid_end (D D' : Nat → Int) {j s : Nat} (h : s < j) : Sp.mid D D' j s = D' s := by unfold Sp.mid; rw [if_pos h]

set_option maxHeartbeats 2000000 in
theorem c_sShadowSteps (v : Value) (t : Sp.Task) (q : Int) (w : World) (h : TaskV w v t) : Calls Try.prog 35 #[v, .int .i64 q] w (RetS (OutInts w (Sp.shadowSteps t q)) w) := by
  obtain ⟨i0, hi0, hz0, hz1, hz2⟩ := info_parts info_int
  have HI := Lib.hid (And.intro hi0 (And.intro hz0 (And.intro hz1 hz2)))
  clear hi0 hz0 hz1 hz2
  obtain ⟨A, n, c, A', n', c', rfl⟩ := h.form
  have hk0 := (Kept.refl w).alloc (.cells #[.int .i64 t.start, .slice A n c, .slice A' n' c'] 26)
  have B0 := Blk.new w 26 #[.int .i64 t.start, .slice A n c, .slice A' n' c']
  have hT := h.keep hk0
  go_enter Try.func35, Try.ntmps35
  go_wp2_with fail
  obtain ⟨w1, HW1⟩ : ∃ w1, Hid (w1 = w.alloc (.cells #[.int .i64 t.start, .slice A n c, .slice A' n' c'] 26)) := ⟨w.alloc (.cells #[.int .i64 t.start, .slice A n c, .slice A' n' c'] 26), rfl⟩
  have hz1 : w1.heap.size = w.heap.size + 1 := by rw [HW1.out]; simp
  rw [← HW1.out, ← hz1]
  have HZ1 := Lib.hid hz1
  clear hz1
  rw [← HW1.out] at hk0 hT B0
  have hO0 := World.ownsRow_made (e := 3) (size := 1) w1 #[] 0 (Nat.le_refl _) (by unfold maxLen; omega) rfl
  have hk1 := (Kept.refl w1).alloc (.cells #[] 3)
  refine (c_sTaskValid _ t _ (hT.keep hk1)).mono ?_; rintro e w2 ⟨rfl, hk2⟩
  replace hO0 := own_keep hO0 hk2
  replace hk1 := hk1.trans hk2
  clear hk2
  have B1 := B0.kept hk1
  cases ht : Sp.taskOk t
  · have HE : Hid (Sp.shadowSteps t q = []) := by show _ = _; unfold Sp.shadowSteps; rw [ht]; simp
    clear ht
    go_wp2_with fail
    go_ret
    exact ⟨_, rfl, by rw [HE.out]; exact OutInts.none _ _ _ _, hk0.trans hk1⟩
  have HK := Lib.hid ht
  cases hq : Sp.stOk q
  · have HE : Hid (Sp.shadowSteps t q = []) := by show _ = _; unfold Sp.shadowSteps; rw [hq]; simp
    have HQ := Lib.hid hq
    clear ht hq
    go_wp2_with (first | (go_at_call 65; refine (c_l1In_st q _).mono ?_; rintro e w3 ⟨rfl, rfl⟩; rw [HQ.out]))
    go_ret
    exact ⟨_, rfl, by rw [HE.out]; exact OutInts.none _ _ _ _, hk0.trans hk1⟩
  have HQ := Lib.hid hq
  have hq' : 0 ≤ q ∧ q ≤ 31 := by unfold Sp.stOk at hq; simpa using hq
  obtain ⟨q, rfl⟩ := Int.eq_ofNat_of_zero_le hq'.1
  have hq32 : q < 32 := by omega
  have HE : Hid (Sp.shadowSteps t (q : Int) = Sp.distList (Sp.relS t q) (Sp.endS t q)) := by show _ = _; unfold Sp.shadowSteps; rw [if_pos ⟨ht, hq⟩, Int.toNat_natCast]
  have HC : Hid (Sp.codeTruth t.goal = (Sp.truth t.goal : Nat)) := by show _ = _; exact truth_codeTruth (Sp.taskOk_goal ht)
  have hTr : Sp.truth t.goal < 4294967296 := truth_bd t.goal
  clear ht hq hq'
  go_wp2_with (first | (go_at_call 65; refine (c_l1In_st (q : Int) _).mono ?_; rintro e w3 ⟨rfl, rfl⟩; rw [HQ.out]))
  go_loopw [6, 5] (fun i v wr => ∃ (k : Nat) (A2 : Option Addr) (c2 : Nat), k ≤ 32 ∧ i = .int .i64 k ∧ v = .slice A2 k c2 ∧ wr.ownsRow w1.heap.size 3 1 (.slice A2 k c2) k ((List.replicate k (-1)).map (Value.int .i64)) ∧ Kept w1 wr) (fun i _ _ => 32 - (intOf i).toNat)
  case atStart => exact ⟨0, _, _, Nat.zero_le _, rfl, rfl, hO0, hk1⟩
  case round =>
    obtain ⟨k, A2, c2, hk, rfl, rfl, hown, hkp⟩ := hrel
    by_cases hlt : k < 32
    · go_wp2_with (first | (at_builtin; refine wpList_append_own _ rfl (.tmp 26) (.tmp 27) 23 rfl (w1.heap.size) 3 i0 (.int .i64 0) 1 8 Try.underlying23 HI.out.1 HI.out.2.1 HI.out.2.2.1 HI.out.2.2.2 rfl (by decide) (.slice A2 k c2) k _ rfl (hown.alloc _) ⟨wr.heap.size, 0, none⟩ 1 1 [.int .i64 (-1)] rfl rfl (one_new _ _ _) (by simp [Value.oneCell']) (by unfold maxLen; omega) (by omega) (by have := hkp.size; (try simp at this ⊢); omega) ?_; intro v' w2 hown2 hg2 _))
      obtain ⟨A3, c3, rfl⟩ := own_form hown2
      exact ⟨⟨k + 1, A3, c3, by omega, by go_num, rfl, by rw [List.replicate_succ', List.map_append]; exact hown2, own_more hown hkp hg2⟩, by simp [intOf]; omega⟩
    · have B2 := B0.kept hkp
      have c0 := B2.cell
      obtain ⟨_, g, rfl, hg, _, hR⟩ := own_row (n := k) hown (by omega)
      have hk32 : 32 ≤ k := by omega
      have hS : Sp.endS t q < 2 ^ 32 := endS_lt t q
      have hR0 : IntRow wr g 32 (Sp.dlt (Sp.relS t q) (Sp.endS t q) 0) := by
        refine IntRow.congr ⟨hR.1, hR.2.1, fun s hs => hR.2.2 s (by omega)⟩ (fun s hs => ?_)
        rw [dlt_zero]
        simp [show s < k by omega]
      clear hown hR
      go_wp2_with fail
      rw [show decide ((k : Int) < 32) = false from decide_eq_false (by omega)]
      refine (c_sCodeTruth _ _ _ _ _ (hT.keep hkp).goal).mono ?_; rintro e w3 ⟨rfl, hk3⟩
      rw [HC.out]
      replace hkp := hkp.trans hk3
      replace hR0 := hR0.keep hk3
      clear hk3
      go_wp2_with fail
      clear hlt c0
      go_loopw [7, 8] (fun o y wr => ∃ m : Nat, m ≤ 33 ∧ o = .int .i64 (Sp.nowS t q m : Nat) ∧ y = .int .i64 (m : Int) ∧ Kept w1 wr ∧ IntRow wr g 32 (Sp.dlt (Sp.relS t q) (Sp.endS t q) m)) (fun _ y _ => 40 - (intOf y).toNat)
      case atStart => exact ⟨0, by omega, rfl, rfl, hkp, hR0⟩
      case round =>
        obtain ⟨m, hm, rfl, rfl, hkp, hR⟩ := hrel
        by_cases hT0 : Sp.nowS t q m = 0
        · have HEnd := Lib.hid (dlt_end hS (nowS_zero hT0))
          rw [hT0]
          clear hT0
          go_wp2_with fail
          go_ret
          obtain rfl : k = 32 := by omega
          have hz1 := HZ1.out
          refine ⟨_, rfl, ?_, hk0.trans hkp⟩
          rw [HE.out]
          have := (hR.congr HEnd.out).own (distList_len (Sp.relS t q) (Sp.endS t q)) (by unfold maxLen; omega) (distList_in _ _ hS) (fun s hs => (distList_at _ _ s hs).symm)
          rw [← distList_len (Sp.relS t q) (Sp.endS t q)] at this
          have := OutInts.of (c := c2) this (w := w) (by omega)
          rw [distList_len] at this
          exact this
        · have hm1 : m ≤ 32 := nowS_bound hT0
          have hTl : Sp.nowS t q m < 4294967296 := nowS_lt t q m
          have hf := Sp.fr_lt (rel := Sp.relS t q) hS m
          have HNew := Lib.hid (fun s hs => @dlt_new (Sp.relS t q) (Sp.endS t q) hS m s hs)
          have HOld := Lib.hid (fun s hs => @dlt_old (Sp.relS t q) (Sp.endS t q) hS m s hs)
          have HFr : Hid (∀ s, s < 32 → Sp.wideBy q (Sp.nowS t q m) s 32 (Sp.dlt (Sp.relS t q) (Sp.endS t q) m s) = (Sp.fr (Sp.relS t q) (Sp.endS t q) m).testBit s) := fun s hs => by
            unfold Sp.wideBy
            rw [agree_ex q _ s hs]
            exact nowS_front t q m hs
          have HNext : Hid (Sp.nowS t q (m + 1) = Sp.img (Sp.relB t) (Sp.fr (Sp.relS t q) (Sp.endS t q) m)) := rfl
          have HSelf := Lib.hid (setOf_self hf)
          have HDB := Lib.hid (fun s (hs : s < 32) => dlt_bd (rel := Sp.relS t q) (S := Sp.endS t q) hS (m := m) hs)
          generalize Sp.nowS t q m = T at *
          generalize Sp.fr (Sp.relS t q) (Sp.endS t q) m = F at *
          generalize Sp.dlt (Sp.relS t q) (Sp.endS t q) m = D at *
          obtain ⟨D', HD'⟩ : ∃ D', Hid (Sp.dlt (Sp.relS t q) (Sp.endS t q) (m + 1) = D') := ⟨_, rfl⟩
          rw [HD'.out] at HNew HOld
          go_wp2_with fail
          rw [show decide (0 < T) = true from decide_eq_true (by omega)]
          go_loopw [10, 9] (fun i o wr => ∃ j : Nat, j ≤ 32 ∧ i = .int .i64 j ∧ o = .int .i64 (Sp.setOf j (fun s => F.testBit s) : Nat) ∧ Kept w1 wr ∧ IntRow wr g 32 (Sp.mid D D' j)) (fun i _ _ => 32 - (intOf i).toNat)
          case atStart => exact ⟨0, by omega, rfl, rfl, hkp, hR.congr fun s _ => (mid_zero D D' s).symm⟩
          case round =>
            obtain ⟨j, hj, rfl, rfl, hkp, hR⟩ := hrel
            by_cases hlt : j < 32
            · have HN2 := Lib.hid (HNew.out j hlt)
              have HO2 := Lib.hid (HOld.out j hlt)
              have HF2 := Lib.hid (HFr.out j hlt)
              have hdb := HDB.out j hlt
              have hWl := setOf_bd j (fun s => F.testBit s) (by omega)
              have hWl2 := setOf_bd (j + 1) (fun s => F.testBit s) (by omega)
              have HST := Lib.hid (setOf_step j (fun s => F.testBit s) hlt)
              have hp2 := p2_bd32 j (by omega)
              have hsh := bin_shl_one j (by omega)
              generalize Sp.setOf j (fun s => F.testBit s) = W at *
              obtain ⟨W', HW'⟩ : ∃ W', Hid (Sp.setOf (j + 1) (fun s => F.testBit s) = W') := ⟨_, rfl⟩
              rw [HW'.out] at HST hWl2
              have hR1 : IntRow wr g 32 (Sp.mid D D' j) := hR
              have HMid := Lib.hid (mid_at D D' j)
              obtain ⟨d, HDj⟩ : ∃ d, Hid (D j = d) := ⟨_, rfl⟩
              rw [HDj.out] at HMid HF2 HO2 hdb
              go_wp2_with fail
              try rw [show decide ((j : Int) < 32) = true from decide_eq_true (by omega)]
              go_loopw [11, 9] (fun i o wr => ∃ (p : Nat) (b : Bool) (W1 : Nat), p ≤ 32 ∧ i = .int .i64 p ∧ o = .int .i64 W1 ∧ Kept w1 wr ∧ Hid (Sp.wideBy q T j p d = b) ∧ Hid ((W1 : Int) = W + if b = true then p2 j else 0) ∧ IntRow wr g 32 (fun s => if s = j then (if b = true then (m : Int) else d) else Sp.mid D D' j s)) (fun i _ _ => 32 - (intOf i).toNat)
              case atStart => exact ⟨0, false, W, by omega, rfl, rfl, hkp, wideBy_zero _ _ _ _, by show (W : Int) = _; simp, hR1.congr fun s _ => by
                by_cases e : s = j
                · subst e; rw [if_pos rfl, HMid.out]; rfl
                · rw [if_neg e]⟩
              case round =>
                obtain ⟨p, b, W1, hp, rfl, rfl, hkp, HB, HW1', hR⟩ := hrel
                by_cases hlt2 : p < 32
                · cases hev : T.testBit p
                  · have HV := Lib.hid hev
                    have HB2 : Hid (Sp.wideBy q T j (p + 1) d = b) := by
                      show _ = _
                      cases b
                      · exact wideBy_off HB.out (.inl (by rw [hev]; rfl))
                      · exact wideBy_on HB.out
                    clear hev
                    go_wp2_with (first | (go_at_call 70; refine (c_bitN T p _ hTl hlt2).mono ?_; rintro e w3 ⟨rfl, rfl⟩; rw [HV.out]))
                    exact ⟨⟨p + 1, b, W1, by omega, by go_num, rfl, hkp, HB2, HW1', hR⟩, by simp [intOf]; omega⟩
                  · have HV := Lib.hid hev
                    by_cases he : (j &&& q) = (p &&& q)
                    · have hqq : (((j &&& q : Nat) : Int) == ((p &&& q : Nat) : Int)) = true := by rw [he]; simp
                      have c0 := hR.2.2 j hlt
                      simp only [if_true] at c0
                      have f0 := hR.2.1 j
                      cases b
                      · simp only [Bool.false_eq_true, if_false] at c0
                        by_cases hd : d < 0
                        · have HB2 : Hid (Sp.wideBy q T j (p + 1) d = true) := wideBy_new hev he hd
                          have hR2 := (hR.set hlt (m : Int)).congr (f' := fun s => if s = j then (if true = true then (m : Int) else d) else Sp.mid D D' j s) fun s hs => by
                            by_cases e : s = j
                            · rw [if_pos e, if_pos e]; rfl
                            · rw [if_neg e, if_neg e, if_neg e]
                          have HWW : Hid (W1 = W) := by have := HW1'.out; simp at this; show _ = _; omega
                          have HW2 : Hid ((W : Int) + p2 j = ((W + 2 ^ j : Nat) : Int)) := by show _ = _; rw [p2_nat]; simp
                          clear hev he
                          rw [HWW.out]
                          go_wp2_with (first | (go_at_call 70; refine (c_bitN T p _ hTl hlt2).mono ?_; rintro e w3 ⟨rfl, rfl⟩; rw [HV.out]) | (go_at_call 86; refine (c_bothN _ _ _ (by omega) (by omega)).mono ?_; rintro e w3 ⟨rfl, rfl⟩))
                          exact ⟨⟨p + 1, true, W + 2 ^ j, by omega, by go_num, by rw [HW2.out], hkp.setCell (p := ⟨g, j, none⟩) hg _, HB2, by show _ = _; rw [if_pos rfl]; exact HW2.out.symm, hR2⟩, by simp [intOf]; omega⟩
                        · have HB2 : Hid (Sp.wideBy q T j (p + 1) d = false) := wideBy_off HB.out (.inr hd)
                          clear hev he
                          go_wp2_with (first | (go_at_call 70; refine (c_bitN T p _ hTl hlt2).mono ?_; rintro e w3 ⟨rfl, rfl⟩; rw [HV.out]) | (go_at_call 86; refine (c_bothN _ _ _ (by omega) (by omega)).mono ?_; rintro e w3 ⟨rfl, rfl⟩))
                          exact ⟨⟨p + 1, false, W1, by omega, by go_num, rfl, hkp, HB2, HW1', hR⟩, by simp [intOf]; omega⟩
                      · simp only [if_true] at c0
                        have HB2 : Hid (Sp.wideBy q T j (p + 1) d = true) := wideBy_on HB.out
                        clear hev he
                        go_wp2_with (first | (go_at_call 70; refine (c_bitN T p _ hTl hlt2).mono ?_; rintro e w3 ⟨rfl, rfl⟩; rw [HV.out]) | (go_at_call 86; refine (c_bothN _ _ _ (by omega) (by omega)).mono ?_; rintro e w3 ⟨rfl, rfl⟩))
                        exact ⟨⟨p + 1, true, W1, by omega, by go_num, rfl, hkp, HB2, HW1', hR⟩, by simp [intOf]; omega⟩
                    · have hqq : (((j &&& q : Nat) : Int) == ((p &&& q : Nat) : Int)) = false := by simp only [beq_eq_false_iff_ne, ne_eq]; exact_mod_cast he
                      have HB2 : Hid (Sp.wideBy q T j (p + 1) d = b) := by
                        show _ = _
                        cases b
                        · exact wideBy_off HB.out (.inl (by rw [hev]; simp [he]))
                        · exact wideBy_on HB.out
                      clear hev he
                      go_wp2_with (first | (go_at_call 70; refine (c_bitN T p _ hTl hlt2).mono ?_; rintro e w3 ⟨rfl, rfl⟩; rw [HV.out]) | (go_at_call 86; refine (c_bothN _ _ _ (by omega) (by omega)).mono ?_; rintro e w3 ⟨rfl, rfl⟩))
                      exact ⟨⟨p + 1, b, W1, by omega, by go_num, rfl, hkp, HB2, HW1', hR⟩, by simp [intOf]; omega⟩
                · have HB3 : Hid (F.testBit j = b) := by show _ = _; rw [← HF2.out, ← HB.out, show p = 32 by omega]
                  have HWn : Hid (W' = W1) := by
                    have h1 := HW1'.out
                    show _ = _
                    cases b
                    · have := HST.out.2.2 HB3.out
                      simp at h1
                      omega
                    · have := HST.out.1 HB3.out
                      simp at h1
                      omega
                  have hR2 : IntRow wr g 32 (Sp.mid D D' (j + 1)) := hR.congr fun s hs => by
                    cases b
                    · rw [← mid_keep (show D' j = D j from by rw [HDj.out]; exact HO2.out HB3.out) s]
                      by_cases e : s = j
                      · subst e; rw [if_pos rfl, HMid.out]; rfl
                      · rw [if_neg e]
                    · exact mid_set (HN2.out HB3.out) s
                  go_wp2_with fail
                  exact ⟨⟨j + 1, by omega, by go_num, by rw [HW'.out, HWn.out], hkp, hR2⟩, by simp [intOf]; omega⟩
            · have hR2 : IntRow wr g 32 (Sp.dlt (Sp.relS t q) (Sp.endS t q) (m + 1)) := by
                rw [HD'.out]
                exact hR.congr fun s hs => mid_end D D' (by omega)
              have HS2 : Hid (Sp.setOf j (fun s => F.testBit s) = F) := by show _ = _; rw [show j = 32 by omega]; exact HSelf.out
              rw [HS2.out]
              have c0 := (B0.kept hkp).cell
              by_cases hF0 : F = 0
              · have HN0 : Hid (Sp.nowS t q (m + 1) = 0) := by show _ = _; rw [HNext.out, hF0, img_zero]
                subst hF0
                go_wp2_with fail
                exact ⟨⟨m + 1, by omega, by rw [HN0.out]; rfl, by go_num, hkp, hR2⟩, by simp [intOf]; omega⟩
              · have HBk : Hid (Sp.statesBack t (F : Nat) = (Sp.nowS t q (m + 1) : Nat)) := by
                  show _ = _
                  unfold Sp.statesBack
                  rw [if_pos ⟨HK.out, by unfold Sp.setOk; simp; omega⟩, Int.toNat_natCast, HNext.out]
                go_wp2_with fail
                refine (c_sStatesBack _ t _ _ (hT.keep hkp)).mono ?_; rintro e w4 ⟨rfl, hk4⟩
                rw [HBk.out]
                replace hkp := hkp.trans hk4
                replace hR2 := hR2.keep hk4
                go_wp2_with fail
                exact ⟨⟨m + 1, by omega, rfl, by go_num, hkp, hR2⟩, by simp [intOf]; omega⟩

end Go.Proofs.Ytjmpfemlihjibaa
