/- Walks: the reference's PlansMany. No condition. -/
import Derived.Test.YtphdojebdclonaaG47
import Derived.Test.YtphdojebdclonaaG22
import Derived.Deep.Cut
namespace Go.Proofs.Ytphdojebdclonaa
open Go.RowKit

/-- the next layer, half done -/
def Sp.nxt (t : Sp.Task) (i j k u : Nat) : Nat := if Sp.toGo t u = Sp.toGo t t.start.toNat - ((i + 1 : Nat) : Int) then Sp.into t (Sp.fwd t i) u j + Sp.col t (Sp.fwd t i) u j k else 0
theorem nxt_zero (t : Sp.Task) (i u : Nat) : Sp.nxt t i 0 0 u = 0 := by unfold Sp.nxt; split <;> rfl
theorem nxt_all (t : Sp.Task) (i u : Nat) : Sp.nxt t i 32 0 u = Sp.fwd t (i + 1) u := rfl
theorem nxt_state (t : Sp.Task) (i j u : Nat) : Sp.nxt t i j t.deeds.length u = Sp.nxt t i (j + 1) 0 u := by unfold Sp.nxt; split <;> rfl
theorem nxt_none {t : Sp.Task} {i j : Nat} (h : Sp.fwd t i j = 0) (u : Nat) : Sp.nxt t i j 0 u = Sp.nxt t i (j + 1) 0 u := by
  rw [← nxt_state]
  unfold Sp.nxt
  split
  · show _ + 0 = _
    unfold Sp.col
    rw [sumN_none (fun k _ => by rw [h]; simp)]
  · rfl
theorem nxt_skip {t : Sp.Task} {i j k u : Nat} (h : ¬ (Sp.stepI (t.deeds.getD k default) j = (u : Int) ∧ Sp.toGo t u = Sp.toGo t t.start.toNat - ((i + 1 : Nat) : Int))) : Sp.nxt t i j k u = Sp.nxt t i j (k + 1) u := by
  unfold Sp.nxt
  by_cases h1 : Sp.toGo t u = Sp.toGo t t.start.toNat - ((i + 1 : Nat) : Int)
  · rw [if_pos h1, if_pos h1]
    have : Sp.col t (Sp.fwd t i) u j (k + 1) = Sp.col t (Sp.fwd t i) u j k + (if Sp.stepI (t.deeds.getD k default) j = (u : Int) then Sp.fwd t i j else 0) := rfl
    rw [this, if_neg (fun h2 => h ⟨h2, h1⟩), Nat.add_zero]
  · rw [if_neg h1, if_neg h1]
theorem nxt_add {t : Sp.Task} {i j k u : Nat} (h : Sp.stepI (t.deeds.getD k default) j = (u : Int)) (h1 : Sp.toGo t u = Sp.toGo t t.start.toNat - ((i + 1 : Nat) : Int)) : Sp.nxt t i j (k + 1) u = Sp.nxt t i j k u + Sp.fwd t i j := by
  unfold Sp.nxt
  rw [if_pos h1, if_pos h1]
  have : Sp.col t (Sp.fwd t i) u j (k + 1) = Sp.col t (Sp.fwd t i) u j k + (if Sp.stepI (t.deeds.getD k default) j = (u : Int) then Sp.fwd t i j else 0) := rfl
  rw [this, if_pos h, Nat.add_assoc]
theorem nxt_le {t : Sp.Task} {i j k u : Nat} (hj : j < 32) (hk : k ≤ t.deeds.length) : Sp.nxt t i j k u ≤ Sp.fwd t (i + 1) u := by
  show _ ≤ (if _ then _ else _)
  unfold Sp.nxt
  split
  · have h1 : Sp.col t (Sp.fwd t i) u j k ≤ Sp.col t (Sp.fwd t i) u j t.deeds.length := sumN_up _ hk
    have h2 : Sp.into t (Sp.fwd t i) u (j + 1) ≤ Sp.into t (Sp.fwd t i) u 32 := sumN_up _ (by omega)
    have h3 : Sp.into t (Sp.fwd t i) u (j + 1) = Sp.into t (Sp.fwd t i) u j + Sp.col t (Sp.fwd t i) u j t.deeds.length := rfl
    omega
  · exact Nat.le_refl _

set_option maxHeartbeats 4000000 in
set_option maxRecDepth 100000 in
theorem c_sPlansMany (v : Value) (t : Sp.Task) (w : World) (h : TaskV w v t) : Calls Try.prog 24 #[v] w (RetK (.int .i64 (Sp.plansMany t)) w) := by
  obtain ⟨A, n, c, A', n', c', rfl⟩ := h.form
  have hk0 := (Kept.refl w).alloc (.cells #[.int .i64 t.start, .slice A n c, .slice A' n' c'] 30)
  have B0 := Blk.new w 30 #[.int .i64 t.start, .slice A n c, .slice A' n' c']
  have hT := h.keep hk0
  have hn := h.deeds.le
  have HLn := Lib.hid h.deeds.len
  have hmk : ∀ w, (Instr.makeSlice 22 (.int .i64 32) (.int .i64 32)).run Try.prog w = _ := fun w => make_ints 32 (by omega) w
  go_enter Try.func24, Try.ntmps24
  go_wp2_with fail
  refine (c_sTaskValid _ t _ hT).mono ?_; rintro e w2 ⟨rfl, hk2⟩
  replace hk0 := hk0.trans hk2
  replace B0 := B0.kept hk2
  replace hT := hT.keep hk2
  clear hk2
  have c0 := B0.cell
  cases ht : Sp.taskOk t
  · have HE : Hid (Sp.plansMany t = -1) := by show _ = _; unfold Sp.plansMany; rw [ht]; rfl
    clear ht hmk
    go_wp2_with fail
    go_ret
    exact ⟨ret_int HE.out.symm, hk0⟩
  have HK := Lib.hid ht
  have HL := Lib.hid (stepsLeast_yes ht)
  obtain ⟨hs0, hs1⟩ := Sp.taskOk_start ht
  obtain ⟨st, hst⟩ := Int.eq_ofNat_of_zero_le hs0
  have HST := Lib.hid hst
  have HTS : Hid (t.start.toNat = st) := by show _ = _; rw [hst, Int.toNat_natCast]
  clear ht hst
  go_wp2_with fail
  refine (c_sStepsLeast _ t _ hT).mono ?_; rintro e w3 ⟨v, rfl, ⟨A4, c4, rfl, hO⟩, hk3⟩
  replace hk0 := hk0.trans hk3
  replace B0 := B0.kept hk3
  clear hk3 hT c0
  rw [HL.out.1]
  obtain ⟨G, rfl, hG, hR⟩ := hO.row32 HL.out.1 HL.out.2
  clear hO hG
  rw [HST.out] at hs0 hs1 B0
  have hst1 : (st : Int) < 32 := by omega
  have hst2 : st < 32 := by omega
  have hst3 : ¬ (32 : Int) ≤ (st : Int) := by omega
  have hRA := IntRow.made w3 32
  have hkA := (Kept.refl w3).alloc (.cells (madeCells #[.int .i64 0] 32) 3)
  obtain ⟨w4, HW4⟩ : ∃ w4, Hid (w3.alloc (.cells (madeCells #[.int .i64 0] 32) 3) = w4) := ⟨_, rfl⟩
  rw [HW4.out] at hRA hkA
  have ca := hRA.2.2 st hst2
  have fa := hRA.2.1 st
  have c0 := (B0.kept hkA).cell
  have hRB := hRA.set hst2 1
  have hkB := hkA.setCell (p := ⟨w3.heap.size, st, none⟩) (Nat.le_refl _) (.int .i64 1)
  have c5 := (hR.keep hkB).2.2 st hst2
  have c6 := (B0.kept hkB).cell
  have hsb := toGo_bd t hst2
  go_upto_region 5 with fail
  rw [HW4.out]
  go_wp2_with fail
  clear ca fa c0 c5 c6
  have hX0 : IntRow (w4.setCell ⟨w3.heap.size, st, none⟩ (.int .i64 1)) w3.heap.size 32 (fun s => ((Sp.fwd t 0 s : Nat) : Int)) := hRB.congr fun s _ => by
    show (if s = st then (1 : Int) else 0) = ((if s = t.start.toNat then 1 else 0 : Nat) : Int)
    rw [HTS.out]; split <;> rfl
  have HSB := Lib.hid hsb
  clear hRA hRB hkA hsb
  generalize w4.setCell ⟨w3.heap.size, st, none⟩ (.int .i64 1) = w5 at *
  have HG0 : Hid (Sp.toGo t t.start.toNat = Sp.toGo t st) := by show _ = _; rw [HTS.out]
  obtain ⟨L, HLd⟩ : ∃ L, Hid (Sp.toGo t st = L) := ⟨_, rfl⟩
  rw [HLd.out]
  by_cases hneg : L < 0
  · have HE : Hid (Sp.plansMany t = 0) := by show _ = _; unfold Sp.plansMany; rw [if_pos HK.out, HG0.out, HLd.out, if_neg (by omega)]
    have hn0 : ¬ 0 < L := by omega
    have hn1 : ¬ 0 ≤ L := by omega
    clear hX0 hmk
    go_loopw [5] (fun i wr => i = .int .i64 L ∧ Kept w3 wr) (fun _ _ => 0)
    case atStart => exact ⟨rfl, hkB⟩
    case round =>
      clear hkB
      obtain ⟨rfl, hkp⟩ := hrel
      go_wp2_with fail
      go_loopw [11, 10] (fun i s wr => i = .int .i64 0 ∧ s = .int .i64 0 ∧ Kept w3 wr) (fun _ _ _ => 0)
      case atStart => exact ⟨rfl, rfl, hkp⟩
      case round =>
        clear hkp
        obtain ⟨rfl, rfl, hkp⟩ := hrel
        have c5 := (hR.keep hkp).2.2 st hst2
        rw [HLd.out] at c5
        have c6 := (B0.kept hkp).cell
        go_wp2_with fail
        go_ret
        exact ⟨ret_int HE.out.symm, hk0.trans hkp⟩
  obtain ⟨N, hN⟩ := Int.eq_ofNat_of_zero_le (show 0 ≤ L by omega)
  have HN := Lib.hid hN
  have HE : Hid (Sp.plansMany t = (Sp.waysN t N st : Nat)) := by show _ = _; unfold Sp.plansMany; rw [if_pos HK.out, HG0.out, HLd.out, if_pos (by omega), hN, Int.toNat_natCast, HTS.out]
  have HTo : Hid (Sp.toGo t t.start.toNat = (N : Int)) := by show _ = _; rw [HG0.out, HLd.out, hN]
  have HN31 : Hid (N ≤ 31) := by have h1 := HSB.out; rw [HLd.out, hN] at h1; show _ ≤ _; omega
  rw [HN.out] at HLd
  rw [HN.out]
  clear hN hneg HN
  go_loopw [5, 4] (fun i v wr => ∃ (i0 m O : Nat), i = .int .i64 (m : Int) ∧ v = .slice (some ⟨O, 0, none⟩) 32 32 ∧ w3.heap.size ≤ O ∧ Hid (i0 + m = N) ∧ IntRow wr O 32 (fun s => ((Sp.fwd t i0 s : Nat) : Int)) ∧ Kept w3 wr) (fun i _ _ => (intOf i).toNat)
  case atStart => exact ⟨0, N, _, rfl, rfl, Nat.le_refl _, Nat.zero_add _, hX0, hkB⟩
  case round =>
    clear hX0 hkB
    obtain ⟨i0, m, O, rfl, rfl, hO, HIM, hF, hkp⟩ := hrel
    cases m with
    | zero =>
      have HI0 : Hid (i0 = N) := HIM.out
      rw [HI0.out] at hF
      have HSm := Lib.hid (fun j (hj : j ≤ 32) => sumN_up (Sp.fwd t N) hj)
      have HTot := Lib.hid (fwd_sum HK.out HTo.out)
      have HLt := Lib.hid (waysN_lt HK.out (start_lt HK.out) HTo.out)
      rw [HTot.out] at HSm
      rw [HTS.out] at HSm HTot HLt
      clear hmk
      obtain ⟨M, HM⟩ : ∃ M : Int, Hid (((0 : Nat) : Int) = M) := ⟨_, rfl⟩
      have hM0 : ¬ 0 < M := by rw [← HM.out]; omega
      rw [HM.out]
      go_wp2_with fail
      go_loopw [11, 10] (fun i s wr => ∃ j : Nat, j ≤ 32 ∧ i = .int .i64 (j : Int) ∧ s = .int .i64 ((Sp.sumN j (Sp.fwd t N) : Nat) : Int) ∧ Kept w3 wr ∧ IntRow wr O 32 (fun s => ((Sp.fwd t N s : Nat) : Int))) (fun i _ _ => 32 - (intOf i).toNat)
      case atStart => exact ⟨0, by omega, rfl, rfl, hkp, hF⟩
      case round =>
        clear hkp hF
        obtain ⟨j, hj, rfl, rfl, hkp, hF⟩ := hrel
        have c5 := (hR.keep hkp).2.2 st hst2
        rw [HLd.out] at c5
        have c6 := (B0.kept hkp).cell
        have hN0 : (0 : Int) ≤ (N : Int) := by omega
        by_cases hlt : j < 32
        · have c7 : wr.cell? ⟨O, j, none⟩ = some (.int .i64 ((Sp.fwd t N j : Nat) : Int)) := hF.2.2 j hlt
          have hb := HSm.out (j + 1) (by omega)
          have HSu : Hid (Sp.sumN (j + 1) (Sp.fwd t N) = Sp.sumN j (Sp.fwd t N) + Sp.fwd t N j) := rfl
          rw [HSu.out] at hb
          have hlt2 := HLt.out
          generalize Sp.sumN j (Sp.fwd t N) = a at *
          generalize Sp.fwd t N j = x at *
          have hw : IntKind.i64.wrap ((a : Int) + (x : Int)) = ((a + x : Nat) : Int) := by rw [IntKind.wrap_i64]; omega
          have hj33 : ¬ (32 : Int) ≤ (j : Int) := by omega
          clear hlt2 hb
          go_wp2_with fail
          exact ⟨⟨j + 1, by omega, by go_num, by rw [HSu.out]; go_num, hkp, hF⟩, by simp [intOf]; omega⟩
        · obtain rfl : j = 32 := by omega
          obtain ⟨q, Hq⟩ : ∃ q, Hid (Sp.sumN 32 (Sp.fwd t N) = q) := ⟨_, rfl⟩
          rw [Hq.out] at HTot ⊢
          go_wp2_with fail
          go_ret
          exact ⟨ret_int (by rw [HE.out, HTot.out]), hk0.trans hkp⟩
    | succ m =>
      generalize wr = wo at *
      have hmN : m < 31 := by have h1 := HIM.out; have h2 := HN31.out; omega
      have HTm : Hid (Sp.toGo t t.start.toNat - ((i0 + 1 : Nat) : Int) = (m : Int)) := by show _ = _; rw [HTo.out, ← HIM.out]; omega
      have HFl := Lib.hid (fun u (hu : u < 32) => fwd_lt HK.out (i := i0 + 1) (m := m) (by rw [HTo.out, ← HIM.out]; congr 1; omega) hu)
      have hm0 : (0 : Int) < ((m + 1 : Nat) : Int) := by omega
      have hm3 : IntKind.i64.wrap (((m + 1 : Nat) : Int) - 1) = (m : Int) := by rw [IntKind.wrap_i64]; omega
      obtain ⟨M, HM⟩ : ∃ M : Int, Hid (((m + 1 : Nat) : Int) = M) := ⟨_, rfl⟩
      rw [HM.out] at hm0 hm3 ⊢
      have hRN := (IntRow.made wo 32).congr (f' := fun s => ((Sp.nxt t i0 0 0 s : Nat) : Int)) fun s _ => by rw [nxt_zero]; rfl
      have hkN := (Kept.refl wo).alloc (.cells (madeCells #[.int .i64 0] 32) 3)
      have hOX : O ≠ wo.heap.size := by have := hF.1; omega
      go_wp2_with fail
      try rw [show decide ((0 : Int) < M) = true from decide_eq_true hm0]
      go_loopw [7] (fun i wi => ∃ j : Nat, j ≤ 32 ∧ i = .int .i64 (j : Int) ∧ Kept wo wi ∧ IntRow wi wo.heap.size 32 (fun s => ((Sp.nxt t i0 j 0 s : Nat) : Int))) (fun i _ => 32 - (intOf i).toNat)
      case atStart => exact ⟨0, by omega, rfl, hkN, hRN⟩
      case round =>
        clear hkN hRN
        obtain ⟨j, hj, rfl, hkq, hRO⟩ := hrel
        by_cases hlt2 : j < 32
        · have HNone := Lib.hid (@nxt_none t i0 j)
          obtain ⟨x, HX0⟩ : ∃ x, Hid (Sp.fwd t i0 j = x) := ⟨_, rfl⟩
          have hF2 : ∀ wi, Kept wo wi → wi.cell? ⟨O, j, none⟩ = some (.int .i64 (x : Int)) := fun wi hk => by rw [(hF.keep hk).2.2 j hlt2]; show some (Value.int .i64 ((Sp.fwd t i0 j : Nat) : Int)) = _; rw [HX0.out]
          have HF2 := Lib.hid hF2
          have hj33 : ¬ (32 : Int) ≤ (j : Int) := by omega
          clear hF2
          go_wp2_with fail
          try rw [show decide ((j : Int) < 32) = true from decide_eq_true (by omega)]
          by_cases hx0 : x = 0
          · subst hx0
            have hRO2 := hRO.congr fun s _ => by rw [HNone.out HX0.out s]
            go_loopw [8] (fun i wi => i = .int .i64 0 ∧ Kept wo wi ∧ IntRow wi wo.heap.size 32 (fun s => ((Sp.nxt t i0 (j + 1) 0 s : Nat) : Int))) (fun _ _ => 0)
            case atStart => exact ⟨rfl, hkq, hRO2⟩
            case round =>
              clear hkq hRO hRO2
              obtain ⟨rfl, hkq, hRO⟩ := hrel
              have c0 := (B0.kept (hkp.trans hkq)).cell
              have c3 := HF2.out _ hkq
              by_cases hn0 : n' = 0
              · subst hn0
                go_wp2_with fail
                exact ⟨⟨j + 1, by omega, by go_num, hkq, hRO⟩, by simp [intOf]; omega⟩
              · have hn1 : (0 : Int) < (n' : Int) := by omega
                go_wp2_with fail
                exact ⟨⟨j + 1, by omega, by go_num, hkq, hRO⟩, by simp [intOf]; omega⟩
          · have hx1 : (0 : Int) < (x : Int) := by omega
            go_loopw [8] (fun i wi => ∃ k : Nat, k ≤ n' ∧ i = .int .i64 (k : Int) ∧ Kept wo wi ∧ IntRow wi wo.heap.size 32 (fun s => ((Sp.nxt t i0 j k s : Nat) : Int))) (fun i _ => n' - (intOf i).toNat)
            case atStart => exact ⟨0, Nat.zero_le _, rfl, hkq, hRO⟩
            case round =>
              clear hkq hRO
              obtain ⟨k, hk, rfl, hkq, hRO⟩ := hrel
              have c0 := (B0.kept (hkp.trans hkq)).cell
              have c3 := HF2.out _ hkq
              by_cases hlt3 : k < n'
              · have hkl : k < t.deeds.length := by rw [HLn.out]; exact hlt3
                obtain ⟨b, off, rfl, hb, hc⟩ := (h.keep (hk0.trans (hkp.trans hkq))).deeds.at hlt3
                have hdo := Lib.hid (Sp.taskOk_deed HK.out hkl)
                have HAdd := Lib.hid (fun u => @nxt_add t i0 j k u)
                have HSkip := Lib.hid (fun u => @nxt_skip t i0 j k u)
                have HLe := Lib.hid (fun u => @nxt_le t i0 j (k + 1) u hlt2 (by omega))
                rw [HTm.out] at HAdd HSkip
                generalize t.deeds.getD k default = d at *
                obtain ⟨A3, n3, c3', hc0, hc1, hc2, hc3, hdv⟩ := hc.v
                have HDv := Lib.hid hdv
                clear hdv
                have hbd := stepI_bd (d := d) hlt2 hdo.out
                go_wp2_with fail
                refine (c_l6Do _ d _ _ HDv.out hdo.out (by omega) (by omega)).mono ?_; rintro e w6 ⟨rfl, hk6⟩
                rw [Int.toNat_natCast]
                replace hkq := hkq.trans hk6
                replace hRO := hRO.keep hk6
                clear c0 c3 hc0 hc1 hc2 hc3 hk6 hb HDv
                obtain ⟨y, HY⟩ : ∃ y, Hid (Sp.stepI d j = y) := ⟨_, rfl⟩
                rw [HY.out] at hbd ⊢
                by_cases hy : 0 ≤ y
                · obtain ⟨u, rfl⟩ := Int.eq_ofNat_of_zero_le hy
                  have hu : u < 32 := by omega
                  have hu1 : (u : Int) < 32 := by omega
                  have hu33 : ¬ (32 : Int) ≤ (u : Int) := by omega
                  have c1 := (hR.keep (hkp.trans hkq)).2.2 u hu
                  have c3 := HF2.out _ hkq
                  obtain ⟨du, HDu⟩ : ∃ du, Hid (Sp.toGo t u = du) := ⟨_, rfl⟩
                  rw [HDu.out] at c1
                  by_cases he : du = (m : Int)
                  · have heq : (du == (m : Int)) = true := by rw [he]; simp
                    have HAd := Lib.hid (HAdd.out u HY.out (by rw [HDu.out, he]))
                    have hle := HLe.out u
                    have hlt4 := HFl.out u hu
                    have c2 := hRO.2.2 u hu
                    have f2 := hRO.2.1 u
                    have HNe : Hid (∀ s, s ≠ u → Sp.nxt t i0 j k s = Sp.nxt t i0 j (k + 1) s) := fun s hs => HSkip.out s (fun e => hs (by have e1 := e.1; rw [HY.out] at e1; omega))
                    rw [HAd.out, HX0.out] at hle
                    obtain ⟨a, Ha⟩ : ∃ a, Hid (Sp.nxt t i0 j k u = a) := ⟨_, rfl⟩
                    rw [Ha.out] at hle
                    simp only [] at c2
                    rw [Ha.out] at c2
                    have hw : wrap64 ((a : Int) + (x : Int)) = ((a + x : Nat) : Int) := by unfold wrap64; omega
                    have HW := Lib.hid hw
                    have hRO2 := ((hRO.set hu (wrap64 ((a : Int) + (x : Int)))).congr (f' := fun s => ((Sp.nxt t i0 j (k + 1) s : Nat) : Int)) fun s _ => by
                      show (if s = u then _ else _) = _
                      by_cases e : s = u
                      · rw [if_pos e, HW.out, e, HAd.out, Ha.out, HX0.out]
                      · rw [if_neg e, HNe.out s e]).keep (Kept.refl _).drew
                    have hkq2 := (hkq.setCell (p := ⟨wo.heap.size, u, none⟩) (Nat.le_refl _) (.int .i64 (wrap64 ((a : Int) + (x : Int))))).drew
                    clear he hw hle hlt4
                    go_wp2_with fail
                    go_still_tail 12, (by kernel_rfl)
                    change wpList _ _ _ _ _ w6.drew
                    go_wp2_with fail
                    exact ⟨⟨k + 1, by omega, by go_num, hkq2, hRO2⟩, by simp [intOf]; omega⟩
                  · have heq : (du == (m : Int)) = false := beq_eq_false_iff_ne.2 he
                    have hRO2 := hRO.congr (f' := fun s => ((Sp.nxt t i0 j (k + 1) s : Nat) : Int)) fun s _ => by
                      rw [HSkip.out s (fun e => by
                        have e1 := e.1; rw [HY.out] at e1
                        obtain rfl : u = s := by omega
                        exact he (by rw [← HDu.out]; exact e.2))]
                    clear he
                    go_wp2_with fail
                    exact ⟨⟨k + 1, by omega, by go_num, hkq, hRO2⟩, by simp [intOf]; omega⟩
                · have hRO2 := hRO.congr (f' := fun s => ((Sp.nxt t i0 j (k + 1) s : Nat) : Int)) fun s _ => by
                    rw [HSkip.out s (fun e => by have e1 := e.1; rw [HY.out] at e1; omega)]
                  have hdx : decide (0 ≤ y) = false := decide_eq_false hy
                  go_wp2_with fail
                  exact ⟨⟨k + 1, by omega, by go_num, hkq, hRO2⟩, by simp [intOf]; omega⟩
              · have hRO2 := hRO.congr (f' := fun s => ((Sp.nxt t i0 (j + 1) 0 s : Nat) : Int)) fun s _ => by rw [← nxt_state, show k = t.deeds.length by rw [HLn.out]; omega]
                go_wp2_with fail
                exact ⟨⟨j + 1, by omega, by go_num, hkq, hRO2⟩, by simp [intOf]; omega⟩
        · obtain rfl : j = 32 := by omega
          have hRO2 := hRO.congr (f' := fun s => ((Sp.fwd t (i0 + 1) s : Nat) : Int)) fun s _ => by rw [nxt_all]
          have hOO : w3.heap.size ≤ wo.heap.size := hkp.size
          have HI2 : Hid (i0 + 1 + m = N) := by show _ = _; rw [← HIM.out]; omega
          go_wp2_with fail
          exact ⟨⟨i0 + 1, m, wo.heap.size, by rfl, by rfl, hOO, HI2, hRO2, hkp.trans hkq⟩, by rw [← HM.out]; simp [intOf]; try omega⟩

end Go.Proofs.Ytphdojebdclonaa
