/- Walks: the program's PlansMany. No condition. -/
import Derived.Test.YtphdojebdclonaaG47
import Derived.Test.YtphdojebdclonaaG23
import Derived.Test.YtphdojebdclonaaA1
namespace Go.Proofs.Ytphdojebdclonaa
open Go.RowKit

theorem introw_load_at {ops : Array Oper} {Q : Exit → Act → World → Prop} {rest : List Oper} {op : Oper} {a : Act} {w : World} {x : Operand} {g : Nat} {f : Nat → Int} (h : IntRow w g 32 f) (hg : op.guard = none) (ho : op.op = .load 64 x) (hx : a.eval x = .pointer (some ⟨g, 0, none⟩))
    (hn : wpList Try.prog ops Q rest (a.put op.dst (.agg (rowOf f 0).toArray)) w) : wpList Try.prog ops Q (op :: rest) a w :=
  wpList_load_mid hg 64 x ho g 0 hx (rowOf f 0) _ (fun j v hv => by
    have hj : j < 32 := by have := (List.getElem?_eq_some_iff.1 hv).1; rwa [rowOf_len] at this
    rw [rowOf_at f 0 j hj, Nat.zero_mul, Nat.zero_add] at hv
    rw [Nat.zero_add, h.2.2 j hj]
    exact hv) Try.underlying64 rfl (by rw [rowOf_len]; exact info_row_size) hn
theorem wrap64_add (a b : Int) : wrap64 (wrap64 a + wrap64 b) = wrap64 (a + b) := by unfold wrap64; omega
theorem zeros32_at (s : Nat) (hs : s < 32) : zeros32[s]? = some (.int .i64 0) := by
  have h : ∀ i : Fin 32, (zeros32[i.val]?).map (fun v => match v with | .int .i64 x => x | _ => 1) = some 0 := by decide +kernel
  have h1 := h ⟨s, hs⟩
  have h2 : ∀ i : Fin 32, (zeros32[i.val]?).map (fun v => match v with | .int .i64 _ => true | _ => false) = some true := by decide +kernel
  have h3 := h2 ⟨s, hs⟩
  cases e : zeros32[s]? with
  | none => simp only [e] at h1; cases h1
  | some v =>
    simp only [e, Option.map_some, Option.some.injEq] at h1 h3
    split at h1
    · rw [h1]
    · cases h1
theorem IntRow.zeros (w : World) : IntRow (w.alloc (.cells zeros32 64)) w.heap.size 32 (fun _ => 0) := by
  have B := Blk.new w 64 zeros32
  refine ⟨B.lt, B.frozen, fun s hs => ?_⟩
  rw [B.cell]
  exact zeros32_at s hs

set_option maxHeartbeats 4000000 in
set_option maxRecDepth 100000 in
theorem c_iPlansMany (v : Value) (t : Sp.Task) (w : World) (h : TaskV w v t) : Calls Try.prog 25 #[v] w (RetK (.int .i64 (Sp.plansMany t)) w) := by
  obtain ⟨A, n, c, A', n', c', rfl⟩ := h.form
  have hk0 := (Kept.refl w).alloc (.cells #[.int .i64 t.start, .slice A n c, .slice A' n' c'] 30)
  have B0 := Blk.new w 30 #[.int .i64 t.start, .slice A n c, .slice A' n' c']
  have hT := h.keep hk0
  go_enter Try.func25, Try.ntmps25
  go_wp2_with fail
  refine (c_iTaskValid _ t _ hT).mono ?_; rintro e w2 ⟨rfl, hk2⟩
  replace hk0 := hk0.trans hk2
  replace B0 := B0.kept hk2
  replace hT := hT.keep hk2
  clear hk2
  have c0 := B0.cell
  cases ht : Sp.taskOk t
  · have HE : Hid (Sp.plansMany t = -1) := by show _ = _; unfold Sp.plansMany; rw [ht]; rfl
    clear ht
    go_wp2_with fail
    go_ret
    exact ⟨ret_int HE.out.symm, hk0⟩
  have HK := Lib.hid ht
  have HL := Lib.hid (stepsLeast_yes ht)
  have HC : Hid (Sp.codeTruth t.goal = (Sp.truth t.goal : Nat)) := by show _ = _; exact truth_codeTruth (Sp.taskOk_goal ht)
  have hn6 := Sp.taskOk_len ht
  obtain ⟨hs0, hs1⟩ := Sp.taskOk_start ht
  obtain ⟨st, hst⟩ := Int.eq_ofNat_of_zero_le hs0
  have HST := Lib.hid hst
  have HTS : Hid (t.start.toNat = st) := by show _ = _; rw [hst, Int.toNat_natCast]
  have HSet := Lib.hid (start_set ht)
  clear ht hst
  go_wp2_with fail
  have hdz := (Kept.refl w2).drew
  replace B0 := B0.kept hdz
  replace hk0 := hk0.trans hdz
  replace hT := hT.keep hdz
  rw [HST.out] at hs0 hs1 B0 hT
  rw [HST.out]
  clear c0 hdz
  have hst1 : (st : Int) < 32 := by omega
  have hst2 : st < 32 := by omega
  have hst3 : ¬ (32 : Int) ≤ (st : Int) := by omega
  refine wp_region_held_drew (S := fun w' => w'.cell? ⟨w.heap.size, 0, none⟩ = some (.int .i64 (st : Int)) ∧ w'.cell? ⟨w.heap.size, 1, none⟩ = some (.slice A n c) ∧ w'.cell? ⟨w.heap.size, 2, none⟩ = some (.slice A' n' c')) (by kernel_rfl) ⟨B0.cell 0, B0.cell 1, B0.cell 2⟩ (fun hHeld => ?_)
  (refine take_val (i := 0) (v := .agg #[.int .i64 (st : Int), .slice A n c, .slice A' n' c']) rfl rfl (by kernel_rfl) (by kernel_rfl) (by kernel_rfl) (fun _ _ _ h => h) rfl (by intro wq hq; (try go_split_ands); go_simp; try with_reducible rfl) (hHeld) ?_; simp only [List.setIfInBounds_toArray, List.set_cons_zero, List.set_cons_succ])
  (refine take_val (i := 2) (v := .pointer (some ⟨w.heap.size, 0, none⟩)) rfl rfl (by kernel_rfl) (by kernel_rfl) (by kernel_rfl) (fun _ _ _ h => h) rfl (by intro wq hq; (try go_split_ands); go_simp; try with_reducible rfl) (hHeld) ?_; simp only [List.setIfInBounds_toArray, List.set_cons_zero, List.set_cons_succ])
  (refine take_val (i := 3) (v := .int .i64 (st : Int)) rfl rfl (by kernel_rfl) (by kernel_rfl) (by kernel_rfl) (fun _ _ _ h => h) rfl (by intro wq hq; (try go_split_ands); go_simp; try with_reducible rfl) (hHeld) ?_; simp only [List.setIfInBounds_toArray, List.set_cons_zero, List.set_cons_succ])
  (refine wpAnyH_ready (rs := [1]) (by kernel_rfl) (by simp) ?_; refine AllReadyH.cons rfl (fun K hK => ?_) AllReadyH.nil; go_simp)
  refine (c_iStepsLeast _ t _ hT).mono ?_; rintro e w3 ⟨v, rfl, ⟨A4, c4, rfl, hO⟩, hk3⟩
  replace hk0 := hk0.trans hk3
  replace B0 := B0.kept hk3
  replace hT := hT.keep hk3
  clear hk3 hHeld
  rw [HL.out.1]
  obtain ⟨G, rfl, hG, hR⟩ := hO.row32 HL.out.1 HL.out.2
  clear hO hG
  have hS3 : w3.cell? ⟨w.heap.size, 0, none⟩ = some (.int .i64 (st : Int)) ∧ w3.cell? ⟨w.heap.size, 1, none⟩ = some (.slice A n c) ∧ w3.cell? ⟨w.heap.size, 2, none⟩ = some (.slice A' n' c') := ⟨B0.cell 0, B0.cell 1, B0.cell 2⟩
  have c1 := hR.2.2 st hst2
  have hsb := toGo_bd t hst2
  have HG0 : Hid (Sp.toGo t t.start.toNat = Sp.toGo t st) := by show _ = _; rw [HTS.out]
  obtain ⟨L, HLd⟩ : ∃ L, Hid (Sp.toGo t st = L) := ⟨_, rfl⟩
  rw [HLd.out] at c1 hsb
  (refine hK.out _ _ (hS3) (fun _ => ?_); clear hK K; try simp only [Act.put, List.setIfInBounds_toArray, List.set_cons_zero, List.set_cons_succ])
  (refine take_val (i := 4) (v := .pointer (some ⟨G, st, none⟩)) rfl rfl (by kernel_rfl) (by kernel_rfl) (by kernel_rfl) (fun _ _ _ h => h) rfl (by intro wq hq; (try go_split_ands); go_simp; try with_reducible rfl) (hS3) ?_; simp only [List.setIfInBounds_toArray, List.set_cons_zero, List.set_cons_succ])
  (refine wpAnyH_ready (rs := [5]) (by kernel_rfl) (by simp) ?_; refine AllReadyH.cons rfl (fun K hK => ?_) AllReadyH.nil; go_simp)
  (refine hK.out _ _ (hS3) (fun _ => ?_); clear hK K; try simp only [Act.put, List.setIfInBounds_toArray, List.set_cons_zero, List.set_cons_succ])
  (refine take_val (i := 6) (v := .int .i64 L) rfl rfl (by kernel_rfl) (by kernel_rfl) (by kernel_rfl) (fun _ _ _ h => h) rfl (by intro wq hq; (try go_split_ands); go_simp; try with_reducible rfl) (hS3) ?_; simp only [List.setIfInBounds_toArray, List.set_cons_zero, List.set_cons_succ])
  refine wpAnyH_done (by kernel_rfl) ?_ _
  clear c1 hS3
  have c0 := B0.cell
  by_cases hneg : L < 0
  · have HE : Hid (Sp.plansMany t = 0) := by show _ = _; unfold Sp.plansMany; rw [if_pos HK.out, HG0.out, HLd.out, if_neg (by omega)]
    go_wp2_with fail
    go_ret
    exact ⟨ret_int HE.out.symm, hk0⟩
  obtain ⟨N, hN⟩ := Int.eq_ofNat_of_zero_le (show 0 ≤ L by omega)
  have HN := Lib.hid hN
  have HE : Hid (Sp.plansMany t = (Sp.waysN t N st : Nat)) := by show _ = _; unfold Sp.plansMany; rw [if_pos HK.out, HG0.out, HLd.out, if_pos (by omega), hN, Int.toNat_natCast, HTS.out]
  have HTo : Hid (Sp.toGo t t.start.toNat = (N : Int)) := by show _ = _; rw [HG0.out, HLd.out, hN]
  rw [HN.out] at HLd hsb
  rw [HN.out]
  have hN0 : ¬ (N : Int) < 0 := by omega
  clear hN hneg HN hR
  go_wp2_with fail
  refine (c_behindAll _ t _ hT HK.out).mono ?_; rintro e w4 ⟨v, rfl, ⟨g, rfl, hg, hRw⟩, hk4⟩
  have hRow := RowsF.of hRw (fun k hk => Sp.taskOk_deed HK.out hk)
  replace hk0 := hk0.trans hk4
  replace B0 := B0.kept hk4
  replace hT := hT.keep hk4
  clear hk4 hRw c0 hg
  have hZ := IntRow.zeros w4
  have hkZ := (Kept.refl w4).alloc (.cells zeros32 64)
  have hl4 := row_zero
  have hl5 := zeros_cells
  obtain ⟨w5, HW5⟩ : ∃ w5, Hid (w4.alloc (.cells zeros32 64) = w5) := ⟨_, rfl⟩
  rw [HW5.out] at hZ hkZ
  have ca := hZ.2.2 st hst2
  have fa := hZ.2.1 st
  have c0 := (B0.kept hkZ).cell
  have hZ2 := hZ.set hst2 1
  have hkB := hkZ.setCell (p := ⟨w4.heap.size, st, none⟩) (Nat.le_refl _) (.int .i64 1)
  have c6 := (B0.kept hkB).cell
  go_upto_region 8 with fail
  rw [HW5.out]
  go_upto_region 9 with fail
  clear ca fa c0 hl4 hl5
  have HZ3 : IntRow (w5.setCell ⟨w4.heap.size, st, none⟩ (.int .i64 1)) w4.heap.size 32 (fun u => wrap64 ((Sp.done t 0 0 0 u : Nat) : Int)) := hZ2.congr fun s hs => by
    rw [done_zero HK.out hs, HTS.out]
    show (if s = st then (1 : Int) else 0) = _
    by_cases e : s = st
    · rw [if_pos e, if_pos e]; unfold wrap64; omega
    · rw [if_neg e, if_neg e]; unfold wrap64; omega
  have hRowB := hRow.keep hkB
  clear hZ hZ2 hkZ
  generalize w5.setCell ⟨w4.heap.size, st, none⟩ (.int .i64 1) = w6 at *
  go_wp2_with fail
  refine (c_stepsOn _ _ _ _ _ _ hRowB hn6 hs0 hs1).mono ?_; rintro e w7 ⟨v, rfl, ⟨G2, rfl, hG2, hO2⟩, hk7⟩
  rw [Int.toNat_natCast] at hO2
  have hFr : IntRow w7 G2 32 (Sp.gone t) := by
    have h32 := distList_len (Sp.edge t.deeds.length (Sp.flat t.deeds)) (2 ^ st)
    have := hO2.row (by rw [h32]; omega)
    rw [h32] at this
    exact this.congr fun s hs => by rw [distList_at _ _ s hs]; unfold Sp.gone Sp.rel; rw [HTS.out]
  rw [distList_len]
  have hkD := hkB.trans hk7
  have hRO := HZ3.keep hk7
  have hXG : G2 ≠ w4.heap.size := by have := HZ3.1; omega
  clear hk7 hO2 hG2 hkB c6 hRowB HZ3
  go_wp2_with fail
  go_loopw [37] (fun i wr => ∃ i0 : Nat, i0 ≤ N ∧ i = .int .i64 (i0 : Int) ∧ IntRow wr w4.heap.size 32 (fun u => wrap64 ((Sp.done t i0 0 0 u : Nat) : Int)) ∧ IntRow wr G2 32 (Sp.gone t) ∧ Kept w4 wr) (fun i _ => N - (intOf i).toNat)
  case atStart => exact ⟨0, Nat.zero_le _, rfl, hRO, hFr, hkD⟩
  case round =>
    clear hRO hFr hkD
    obtain ⟨i0, hi0, rfl, hRO, hFr, hkp⟩ := hrel
    by_cases hlt : i0 < N
    · go_wp2_with (first | (refine introw_load_at hRO rfl rfl rfl ?_))
      obtain ⟨C, HCd⟩ : ∃ C, Hid (C = (rowOf (fun u => wrap64 ((Sp.done t i0 0 0 u : Nat) : Int)) 0).toArray) := ⟨_, rfl⟩
      rw [← HCd.out]
      have HCa : Hid (∀ s, s < 32 → C[s]? = some (.int .i64 (wrap64 ((Sp.done t i0 0 0 s : Nat) : Int)))) := fun s hs => by rw [HCd.out, List.getElem?_toArray, rowOf_at _ 0 s hs, Nat.zero_mul, Nat.zero_add]
      go_loopw [41] (fun i wi => ∃ j : Nat, j ≤ 32 ∧ i = .int .i64 (j : Int) ∧ IntRow wi w4.heap.size 32 (fun u => wrap64 ((Sp.done t i0 j 0 u : Nat) : Int)) ∧ IntRow wi G2 32 (Sp.gone t) ∧ Kept w4 wi) (fun i _ => 32 - (intOf i).toNat)
      case atStart => exact ⟨0, by omega, rfl, hRO, hFr, hkp⟩
      case round =>
        clear hRO hFr hkp
        obtain ⟨j, hj, rfl, hRO, hFr, hkp⟩ := hrel
        by_cases hlt2 : j < 32
        · have hix := run_index_row C j _ hlt2 (HCa.out j hlt2)
          have HWay := Lib.hid (@done_way t i0 j)
          have HNone : Hid (∀ k u, Sp.gone t j ≠ (i0 : Int) → Sp.done t i0 j (k + 1) u = Sp.done t i0 j k u) := fun k u hn => done_skip fun h => hn h.1
          obtain ⟨q, Hq⟩ : ∃ q, Hid (Sp.done t i0 0 0 j = q) := ⟨_, rfl⟩
          rw [Hq.out] at hix HWay
          obtain ⟨b, Hb⟩ : ∃ b, Hid (wrap64 (q : Int) = b) := ⟨_, rfl⟩
          rw [Hb.out] at hix
          go_wp2_with fail
          clear hix
          go_loopw [47] (fun i wi => ∃ k : Nat, k ≤ t.deeds.length ∧ i = .int .i64 (k : Int) ∧ IntRow wi w4.heap.size 32 (fun u => wrap64 ((Sp.done t i0 j k u : Nat) : Int)) ∧ IntRow wi G2 32 (Sp.gone t) ∧ Kept w4 wi) (fun i _ => t.deeds.length - (intOf i).toNat)
          case atStart => exact ⟨0, Nat.zero_le _, rfl, hRO, hFr, hkp⟩
          case round =>
            clear hRO hFr hkp
            obtain ⟨k, hk, rfl, hRO, hFr, hkp⟩ := hrel
            by_cases hlt3 : k < t.deeds.length
            · have HR := hRow.keep hkp
              have hl4 := row_zero
              have hl5 := zeros_cells
              have hdo := Lib.hid (Sp.taskOk_deed HK.out hlt3)
              have hbd := stepI_bd (d := t.deeds.getD k default) hlt2 hdo.out
              have HFl := Lib.hid (flat_row t.deeds k j hlt2)
              have HSkip := Lib.hid (fun u => @done_skip t i0 j k u)
              have HAdd := Lib.hid (fun u => @done_add t i0 j k u)
              go_upto_region 19 with (first | (refine row_load_at HR hlt3 rfl rfl rfl ?_) | (refine row_store_new rfl rfl rfl rfl ?_))
              have hk1 := (Kept.refl wr).alloc (.cells (rowOf (Sp.flat t.deeds) k).toArray 64)
              have hkA := hkp.alloc (.cells (rowOf (Sp.flat t.deeds) k).toArray 64)
              have hROA := hRO.keep hk1
              have hFrA := hFr.keep hk1
              have c9 : (wr.alloc (.cells (rowOf (Sp.flat t.deeds) k).toArray 64)).cell? ⟨wr.heap.size, j, none⟩ = some (.int .i64 (Sp.stepI (t.deeds.getD k default) j)) := by
                rw [World.cell?_alloc_new, List.getElem?_toArray, rowOf_at _ _ _ hlt2, HFl.out]
              obtain ⟨wa, HWA⟩ : ∃ wa, Hid (wr.alloc (.cells (rowOf (Sp.flat t.deeds) k).toArray 64) = wa) := ⟨_, rfl⟩
              rw [HWA.out] at hkA hROA hFrA c9 ⊢
              generalize t.deeds.getD k default = d at *
              obtain ⟨x, HX⟩ : ∃ x, Hid (Sp.stepI d j = x) := ⟨_, rfl⟩
              rw [HX.out] at hbd c9
              clear hl4 hl5 HR hRO hFr hkp hk1
              obtain ⟨E, HE2⟩ : ∃ E, Hid (wr.heap.size = E) := ⟨_, rfl⟩
              rw [HE2.out] at c9 ⊢
              have cj := hFrA.2.2 j hlt2
              have hj33 : ¬ (32 : Int) ≤ (j : Int) := by omega
              obtain ⟨dj, HDj⟩ : ∃ dj, Hid (Sp.gone t j = dj) := ⟨_, rfl⟩
              rw [HDj.out] at cj
              have hw1 : IntKind.i64.wrap ((i0 : Int) + 1) = (i0 : Int) + 1 := by rw [IntKind.wrap_i64]; omega
              by_cases hdj : dj = (i0 : Int)
              · by_cases hx : 0 ≤ x
                · obtain ⟨u, rfl⟩ := Int.eq_ofNat_of_zero_le hx
                  have hu : u < 32 := by omega
                  have hu33 : ¬ (32 : Int) ≤ (u : Int) := by omega
                  have cu := hFrA.2.2 u hu
                  obtain ⟨du, HDu⟩ : ∃ du, Hid (Sp.gone t u = du) := ⟨_, rfl⟩
                  rw [HDu.out] at cu
                  by_cases hdu : du = (i0 : Int) + 1
                  · have HAd := Lib.hid (HAdd.out u (by rw [HDj.out, hdj]) HX.out (by rw [HDu.out, hdu]; omega))
                    have HQ := Lib.hid (HWay.out (by rw [HDj.out, hdj]))
                    have HNe : Hid (∀ s, s ≠ u → Sp.done t i0 j (k + 1) s = Sp.done t i0 j k s) := fun s hs => HSkip.out s (fun e => hs (by have e1 := e.2.1; rw [HX.out] at e1; omega))
                    have c2 := hROA.2.2 u hu
                    have f2 := hROA.2.1 u
                    simp only [] at c2
                    obtain ⟨a, Ha⟩ : ∃ a, Hid (wrap64 ((Sp.done t i0 j k u : Nat) : Int) = a) := ⟨_, rfl⟩
                    rw [Ha.out] at c2
                    have HW : Hid (wrap64 (a + b) = wrap64 ((Sp.done t i0 j (k + 1) u : Nat) : Int)) := by
                      show _ = _
                      rw [HAd.out, ← Ha.out, ← Hb.out, wrap64_add, HQ.out]
                      congr 1
                    have hRO2 := (hROA.set hu (wrap64 (a + b))).congr (f' := fun s => wrap64 ((Sp.done t i0 j (k + 1) s : Nat) : Int)) fun s _ => by
                      show (if s = u then _ else _) = _
                      by_cases e : s = u
                      · rw [if_pos e, HW.out, e]
                      · rw [if_neg e, HNe.out s e]
                    have hFr2 := hFrA.far (p := ⟨w4.heap.size, u, none⟩) hXG (.int .i64 (wrap64 (a + b)))
                    have hk2 := hkA.setCell (p := ⟨w4.heap.size, u, none⟩) (Nat.le_refl _) (.int .i64 (wrap64 (a + b)))
                    subst hdj hdu
                    go_wp2_with fail
                    first | exact ⟨⟨k + 1, by omega, by go_num, hRO2, hFr2, hk2⟩, by simp [intOf]; omega⟩ | exact ⟨⟨k + 1, by omega, by omega, hRO2⟩, by simp [intOf]; omega⟩
                  · have hb2 : (du == (i0 : Int) + 1) = false := beq_eq_false_iff_ne.2 hdu
                    have hRO2 := hROA.congr (f' := fun s => wrap64 ((Sp.done t i0 j (k + 1) s : Nat) : Int)) fun s _ => by
                      rw [HSkip.out s (fun e => by
                        have e1 := e.2.1; rw [HX.out] at e1
                        obtain rfl : u = s := by omega
                        have e2 := e.2.2
                        rw [HDu.out] at e2
                        omega)]
                    subst hdj
                    clear hdu
                    go_wp2_with fail
                    first | exact ⟨⟨k + 1, by omega, by go_num, hRO2, hFrA, hkA⟩, by simp [intOf]; omega⟩ | exact ⟨⟨k + 1, by omega, by omega, hRO2⟩, by simp [intOf]; omega⟩
                · have hRO2 := hROA.congr (f' := fun s => wrap64 ((Sp.done t i0 j (k + 1) s : Nat) : Int)) fun s _ => by
                    rw [HSkip.out s (fun e => by have e1 := e.2.1; rw [HX.out] at e1; omega)]
                  have hdx : decide (0 ≤ x) = false := decide_eq_false hx
                  subst hdj
                  go_wp2_with fail
                  first | exact ⟨⟨k + 1, by omega, by go_num, hRO2, hFrA, hkA⟩, by simp [intOf]; omega⟩ | exact ⟨⟨k + 1, by omega, by omega, hRO2⟩, by simp [intOf]; omega⟩
              · have hb1 : (dj == (i0 : Int)) = false := beq_eq_false_iff_ne.2 hdj
                have hRO2 := hROA.congr (f' := fun s => wrap64 ((Sp.done t i0 j (k + 1) s : Nat) : Int)) fun s _ => by
                  rw [HNone.out k s (by rw [HDj.out]; exact hdj)]
                clear hdj
                go_wp2_with fail
                first | exact ⟨⟨k + 1, by omega, by go_num, hRO2, hFrA, hkA⟩, by simp [intOf]; omega⟩ | exact ⟨⟨k + 1, by omega, by omega, hRO2⟩, by simp [intOf]; omega⟩
            · obtain rfl : k = t.deeds.length := by omega
              have hRO2 := hRO.congr (f' := fun s => wrap64 ((Sp.done t i0 (j + 1) 0 s : Nat) : Int)) fun s _ => by rw [done_state]
              go_wp2_with fail
              exact ⟨⟨j + 1, by omega, by go_num, hRO2, hFr, hkp⟩, by simp [intOf]; omega⟩
        · obtain rfl : j = 32 := by omega
          have hRO2 := hRO.congr (f' := fun s => wrap64 ((Sp.done t (i0 + 1) 0 0 s : Nat) : Int)) fun s hs => by rw [done_next HK.out hs]
          go_wp2_with fail
          exact ⟨⟨i0 + 1, by omega, by go_num, hRO2, hFr, hkp⟩, by simp [intOf]; omega⟩
    · obtain rfl : i0 = N := by omega
      have hTG : TaskV wr (.agg #[.int .i64 t.start, .slice A n c, .slice A' n' c']) t := by rw [HST.out]; exact hT.keep hkp
      have hTg := hTG.goal
      have c0 := (B0.kept hkp).cell
      go_wp2_with fail
      refine (c_iCodeTruth _ _ _ _ _ hTg).mono ?_; rintro e w8 ⟨rfl, hk8⟩
      rw [HC.out]
      replace hkp := hkp.trans hk8
      replace hRO := hRO.keep hk8
      replace hFr := hFr.keep hk8
      clear hk8 c0 hTg
      go_wp2_with (first | (refine introw_load_at hRO rfl rfl rfl ?_))
      obtain ⟨C, HCd⟩ : ∃ C, Hid (C = (rowOf (fun u => wrap64 ((Sp.done t i0 0 0 u : Nat) : Int)) 0).toArray) := ⟨_, rfl⟩
      rw [← HCd.out]
      have HCa : Hid (∀ s, s < 32 → C[s]? = some (.int .i64 (wrap64 ((Sp.done t i0 0 0 s : Nat) : Int)))) := fun s hs => by rw [HCd.out, List.getElem?_toArray, rowOf_at _ 0 s hs, Nat.zero_mul, Nat.zero_add]
      have HS := Lib.hid (truth_bd t.goal)
      have HBit : Hid (∀ s, s < 32 → (Sp.truth t.goal).testBit s = decide (Sp.toGo t s = 0)) := fun s hs => by
        rw [← zero_toGo hs]; unfold Sp.truth; rw [Sp.testBit_setOf]; simp [hs]
      clear hRO
      go_loopw [89, 12] (fun i s wr => ∃ j : Nat, j ≤ 32 ∧ i = .int .i64 (j : Int) ∧ s = .int .i64 (wrap64 ((Sp.endSum t i0 j : Nat) : Int)) ∧ IntRow wr G2 32 (Sp.gone t) ∧ Kept w4 wr) (fun i _ _ => 32 - (intOf i).toNat)
      case atStart => exact ⟨0, by omega, rfl, by rw [show wrap64 ((Sp.endSum t i0 0 : Nat) : Int) = 0 from by show wrap64 ((0 : Nat) : Int) = 0; unfold wrap64; omega], hFr, hkp⟩
      case round =>
        clear hFr hkp
        obtain ⟨j, hj, rfl, rfl, hFr, hkp⟩ := hrel
        by_cases hlt2 : j < 32
        · have hix := run_index_row C j _ hlt2 (HCa.out j hlt2)
          have cj := hFr.2.2 j hlt2
          have hj33 : ¬ (32 : Int) ≤ (j : Int) := by omega
          have hab := and_bit (Sp.truth t.goal) j (by have := HS.out; omega)
          have HWay := Lib.hid (@done_way t i0 j)
          have HSu : Hid (Sp.endSum t i0 (j + 1) = Sp.endSum t i0 j + (if Sp.toGo t j = 0 ∧ Sp.gone t j = (i0 : Int) then Sp.cnt t i0 j else 0)) := rfl
          obtain ⟨q, Hq⟩ : ∃ q, Hid (Sp.done t i0 0 0 j = q) := ⟨_, rfl⟩
          obtain ⟨z, Hz⟩ : ∃ z, Hid (Sp.endSum t i0 j = z) := ⟨_, rfl⟩
          obtain ⟨dj, HDj⟩ : ∃ dj, Hid (Sp.gone t j = dj) := ⟨_, rfl⟩
          rw [Hq.out] at hix HWay
          rw [Hz.out] at HSu ⊢
          rw [HDj.out] at cj HSu HWay
          have HB := Lib.hid (HBit.out j hlt2)
          by_cases hg : Sp.toGo t j = 0
          · have HB2 : Hid ((Sp.truth t.goal).testBit j = true) := by show _ = _; rw [HB.out, decide_eq_true hg]
            rw [HB2.out] at hab
            by_cases hd : dj = (i0 : Int)
            · have HS2 : Hid (Sp.endSum t i0 (j + 1) = z + q) := by show _ = _; rw [HSu.out, if_pos ⟨hg, hd⟩, HWay.out hd]
              have HW : Hid (wrap64 (wrap64 (z : Int) + wrap64 (q : Int)) = wrap64 ((Sp.endSum t i0 (j + 1) : Nat) : Int)) := by
                show _ = _
                rw [wrap64_add, HS2.out]; congr 1
              obtain ⟨a, Ha⟩ : ∃ a, Hid (wrap64 (z : Int) = a) := ⟨_, rfl⟩
              obtain ⟨b, Hb⟩ : ∃ b, Hid (wrap64 (q : Int) = b) := ⟨_, rfl⟩
              rw [Ha.out, Hb.out] at HW
              rw [Hb.out] at hix
              rw [Ha.out]
              subst hd
              clear hg
              go_wp2_with fail
              exact ⟨⟨j + 1, by omega, by go_num, by rw [← HW.out], hFr, hkp⟩, by simp [intOf]; omega⟩
            · have HS2 : Hid (Sp.endSum t i0 (j + 1) = z) := by show _ = _; rw [HSu.out, if_neg (fun e => hd e.2), Nat.add_zero]
              have hb1 : (dj == (i0 : Int)) = false := beq_eq_false_iff_ne.2 hd
              clear hd hg
              go_wp2_with fail
              exact ⟨⟨j + 1, by omega, by go_num, by rw [HS2.out], hFr, hkp⟩, by simp [intOf]; omega⟩
          · have HB2 : Hid ((Sp.truth t.goal).testBit j = false) := by show _ = _; rw [HB.out, decide_eq_false hg]
            have HS2 : Hid (Sp.endSum t i0 (j + 1) = z) := by show _ = _; rw [HSu.out, if_neg (fun e => hg e.1), Nat.add_zero]
            rw [HB2.out] at hab
            clear hg
            go_wp2_with fail
            exact ⟨⟨j + 1, by omega, by go_num, by rw [HS2.out], hFr, hkp⟩, by simp [intOf]; omega⟩
        · obtain rfl : j = 32 := by omega
          have HTot := Lib.hid (endSum_all HK.out HTo.out)
          have HLt := Lib.hid (waysN_lt HK.out (start_lt HK.out) HTo.out)
          rw [HTS.out] at HTot HLt
          rw [HTot.out]
          have HWr : Hid (wrap64 ((Sp.waysN t i0 st : Nat) : Int) = ((Sp.waysN t i0 st : Nat) : Int)) := by
            show _ = _
            have h1 := HLt.out; unfold wrap64; omega
          rw [HWr.out]
          generalize Sp.waysN t i0 st = z at *
          go_wp2_with fail
          go_ret
          exact ⟨ret_int (by rw [HE.out]), hk0.trans hkp⟩

end Go.Proofs.Ytphdojebdclonaa
