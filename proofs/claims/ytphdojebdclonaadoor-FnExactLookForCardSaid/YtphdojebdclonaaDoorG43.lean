/- Walks: the program's LookFor. No condition. -/
import Derived.Test.YtphdojebdclonaaDoorG42
import Derived.Test.YtphdojebdclonaaDoorG24
namespace Go.Proofs.YtphdojebdclonaaDoor
open Go.RowKit

theorem ret_two {p : Int × Int} {a b : Int} (h : p = (a, b)) : Ending.returned (.tuple #[.int .i64 a, .int .i64 b]) = .returned (.tuple #[.int .i64 p.1, .int .i64 p.2]) := by rw [h]
def zeros34 : Array Value := (List.replicate 34 (Value.int .i64 0)).toArray
theorem zeros34_cells : (Value.agg zeros34).cells = zeros34 := rfl
theorem info_look : (Tryd.prog.info? 87).map (fun i => (i.zero, i.size, i.bytes)) = some (some (.agg zeros34), 34, 272) := by kernel_rfl
theorem look_zero (w : World) : (zeroValue 87).run Tryd.prog w = .ok (.agg zeros34) w := by
  obtain ⟨inf, hi1, hz, _, _⟩ := info_parts info_look
  simp [zeroValue, typeInfo, hi1, hz]
theorem look_new (w : World) : IntRow (w.alloc (.cells zeros34 87)) w.heap.size 34 (fun _ => 0) := by
  have B := Blk.new w 87 zeros34
  exact ⟨B.lt, B.frozen, fun s hs => by
    rw [B.cell]
    show (List.replicate 34 (Value.int .i64 0)).toArray[s]? = _
    rw [List.getElem?_toArray, List.getElem?_replicate, if_pos hs]⟩
attribute [irreducible] zeros34
attribute [-simp] Tryd.zeroValue87
theorem look_first {w : World} {g st : Nat} (h : IntRow w g 34 (fun _ => 0)) (hst : st < 32) {t : Sp.Task} (ht : t.start.toNat = st) : LookB (w.setCell ⟨g, 0, none⟩ (.int .i64 ((2 ^ st : Nat) : Int))) g (2 ^ st) 0 (Sp.lookFrom t) := by
  refine ⟨(h.set (s := 0) (by omega) _).congr fun i hi => ?_, Nat.pow_lt_pow_right (by decide) hst, by omega, fun j hj => ?_⟩
  · unfold Sp.lookRow Sp.lookFrom
    by_cases e0 : i = 0
    · rw [if_pos e0, if_pos e0]
    · rw [if_neg e0, if_neg e0]
      by_cases e1 : i = 1
      · rw [if_pos e1]; rfl
      · rw [if_neg e1]
        split <;> split <;> omega
  · rw [Nat.testBit_two_pow]
    unfold Sp.lookFrom
    rw [ht]
    by_cases e : j = st
    · subst e; simp
    · rw [if_neg e, decide_eq_false (fun h => e h.symm)]; rfl

set_option maxHeartbeats 2000000 in
set_option maxRecDepth 100000 in
theorem c_iLookFor (v : Value) (t : Sp.Task) (A2 : Option Addr) (n2 c2 : Nat) (l : List Int) (w : World) (h : TaskV w v t) (hI : Ints w A2 n2 l) (hg : ErrG w) :
    Calls Tryd.prog 20 #[v, .slice A2 n2 c2] w (RetK (.tuple #[.int .i64 (Sp.lookFor t l).1, .int .i64 (Sp.lookFor t l).2]) w) := by
  obtain ⟨A, n, c, A', n', c', rfl⟩ := h.form
  have hk0 := (Kept.refl w).alloc (.cells #[.int .i64 t.start, .slice A n c, .slice A' n' c'] 26)
  have B0 := Blk.new w 26 #[.int .i64 t.start, .slice A n c, .slice A' n' c']
  have hT := h.keep hk0
  have hL := hI.keep hk0
  have hg1 := hg.keep hk0
  clear hI hg h
  go_enter Tryd.func20, Tryd.ntmps20
  go_wp2_with fail
  refine (c_iNumbersOk _ t _ _ _ l _ hT hL hg1).mono ?_; rintro e w2 ⟨rfl, hk2⟩
  replace hk0 := hk0.trans hk2
  replace B0 := B0.kept hk2
  replace hT := hT.keep hk2
  replace hL := hL.keep hk2
  clear hk2 hg1
  cases hok : Sp.numbersOk t l
  · have HE : Hid (Sp.lookFor t l = (-1, 0)) := by show _ = _; unfold Sp.lookFor; rw [hok]; rfl
    clear hok
    go_wp2_with fail
    go_ret2
    exact ⟨ret_two HE.out, hk0⟩
  obtain ⟨ht, hlen, hnum, _⟩ := numbersOk_parts hok
  have HE : Hid (Sp.lookFor t l = Sp.lookGo t (Sp.numAt l) 33 (Sp.lookFrom t) 0 0) := by show _ = _; unfold Sp.lookFor; rw [if_pos hok]
  have hin : ∀ s, s < 32 → 0 ≤ Sp.numAt l s ∧ Sp.numAt l s ≤ 40 := fun s hs => numOk_range (hnum s hs)
  have HIn := Lib.hid hin
  obtain rfl : n2 = 32 := by rw [← hL.len]; exact hlen
  obtain ⟨b, off, rfl, hN⟩ := numRow_of hL
  have HK := Lib.hid ht
  have hn6 := Sp.taskOk_len ht
  obtain ⟨T, HTr⟩ : ∃ T, Hid (Sp.truth t.goal = T) := ⟨_, rfl⟩
  have hTl := truth_bd t.goal
  have HCT : Hid (Sp.codeTruth t.goal = (T : Int)) := by show _ = _; unfold Sp.codeTruth; rw [if_pos (Sp.taskOk_goal ht), HTr.out]
  have HRun := Lib.hid (fun s (hs : s < 32) => truth_run t.goal hs)
  rw [HTr.out] at hTl HRun
  have hst := start_lt ht
  have hs0 : 0 ≤ t.start := (Sp.taskOk_start ht).1
  obtain ⟨st, Hst2⟩ : ∃ st : Nat, Hid (t.start = (st : Int)) := Int.eq_ofNat_of_zero_le hs0
  have HSt3 : Hid (t.start.toNat = st) := by show _ = _; rw [Hst2.out, Int.toNat_natCast]
  rw [HSt3.out] at hst
  have hsh := bin_shl_one st (by omega)
  rw [p2_nat] at hsh
  clear hok ht hlen hnum hin hL hs0
  go_wp2_with fail
  have hdz := (Kept.refl w2).drew
  replace B0 := B0.kept hdz
  replace hk0 := hk0.trans hdz
  replace hT := hT.keep hdz
  replace hN := hN.keep hdz
  rw [Hst2.out] at B0
  rw [Hst2.out] at hT
  rw [Hst2.out]
  refine wp_region_held_drew (S := fun w' => w'.cell? ⟨w.heap.size, 0, none⟩ = some (.int .i64 (st : Int)) ∧ w'.cell? ⟨w.heap.size, 1, none⟩ = some (.slice A n c) ∧ w'.cell? ⟨w.heap.size, 2, none⟩ = some (.slice A' n' c')) (by kernel_rfl) ⟨B0.cell 0, B0.cell 1, B0.cell 2⟩ (fun hHeld => ?_)
  clear hdz
  (refine take_val (i := 0) (v := .agg #[.int .i64 (st : Int), .slice A n c, .slice A' n' c']) rfl rfl (by kernel_rfl) (by kernel_rfl) (by kernel_rfl) (fun _ _ _ h => h) rfl (by intro wq hq; (try go_split_ands); go_simp; try with_reducible rfl) (hHeld) ?_; simp only [List.setIfInBounds_toArray, List.set_cons_zero, List.set_cons_succ])
  (refine take_val (i := 2) (v := .pointer (some ⟨w.heap.size, 1, none⟩)) rfl rfl (by kernel_rfl) (by kernel_rfl) (by kernel_rfl) (fun _ _ _ h => h) rfl (by intro wq hq; (try go_split_ands); go_simp; try with_reducible rfl) (hHeld) ?_; simp only [List.setIfInBounds_toArray, List.set_cons_zero, List.set_cons_succ])
  (refine take_val (i := 3) (v := .slice A n c) rfl rfl (by kernel_rfl) (by kernel_rfl) (by kernel_rfl) (fun _ _ _ h => h) rfl (by intro wq hq; (try go_split_ands); go_simp; try with_reducible rfl) (hHeld) ?_; simp only [List.setIfInBounds_toArray, List.set_cons_zero, List.set_cons_succ])
  (refine wpAnyH_ready (rs := [1]) (by kernel_rfl) (by simp) ?_; refine AllReadyH.cons rfl (fun K hK => ?_) AllReadyH.nil; go_simp)
  refine (c_behindAll _ t _ hT HK.out).mono ?_; rintro e w3 ⟨v, rfl, ⟨gr, rfl, hgr, hRw⟩, hk3⟩
  have hRow := RowsF.of hRw (fun k hk => Sp.taskOk_deed HK.out hk)
  replace hk0 := hk0.trans hk3
  replace B0 := B0.kept hk3
  replace hT := hT.keep hk3
  replace hN := hN.keep hk3
  clear hk3 hRw hHeld
  have hHeld : w3.cell? ⟨w.heap.size, 0, none⟩ = some (.int .i64 (st : Int)) ∧ w3.cell? ⟨w.heap.size, 1, none⟩ = some (.slice A n c) ∧ w3.cell? ⟨w.heap.size, 2, none⟩ = some (.slice A' n' c') := ⟨B0.cell 0, B0.cell 1, B0.cell 2⟩
  (refine hK.out _ _ (hHeld) (fun _ => ?_); clear hK K; try simp only [Act.put, List.setIfInBounds_toArray, List.set_cons_zero, List.set_cons_succ])
  (refine wpAnyH_ready (rs := [4]) (by kernel_rfl) (by simp) ?_; refine AllReadyH.cons rfl (fun K hK => ?_) AllReadyH.nil; go_simp)
  have hTG : TaskV w3 (.agg #[.int .i64 t.start, .slice A n c, .slice A' n' c']) t := by rw [Hst2.out]; exact hT
  refine (c_iCodeTruth _ _ _ _ _ hTG.goal).mono ?_; rintro e w4 ⟨rfl, hk4⟩
  rw [HCT.out]
  replace hk0 := hk0.trans hk4
  replace B0 := B0.kept hk4
  replace hN := hN.keep hk4
  replace hRow := hRow.keep hk4
  clear hk4 hHeld hT hTG
  have hHeld : w4.cell? ⟨w.heap.size, 0, none⟩ = some (.int .i64 (st : Int)) ∧ w4.cell? ⟨w.heap.size, 1, none⟩ = some (.slice A n c) ∧ w4.cell? ⟨w.heap.size, 2, none⟩ = some (.slice A' n' c') := ⟨B0.cell 0, B0.cell 1, B0.cell 2⟩
  (refine hK.out _ _ (hHeld) (fun _ => ?_); clear hK K; try simp only [Act.put, List.setIfInBounds_toArray, List.set_cons_zero, List.set_cons_succ])
  obtain ⟨N, HNl⟩ : ∃ N, Hid (t.deeds.length = N) := ⟨_, rfl⟩
  obtain ⟨F, HFl⟩ : ∃ F, Hid (Sp.flat t.deeds = F) := ⟨_, rfl⟩
  rw [HNl.out, HFl.out] at hRow
  rw [HNl.out] at hn6 ⊢
  (refine take_val (i := 5) (v := .slice (some ⟨gr, 0, none⟩) N N) rfl rfl (by kernel_rfl) (by kernel_rfl) (by kernel_rfl) (fun _ _ _ h => h) rfl (by intro wq hq; (try go_split_ands); go_simp; try with_reducible rfl) (hHeld) ?_; simp only [List.setIfInBounds_toArray, List.set_cons_zero, List.set_cons_succ])
  (refine take_val (i := 6) (v := .int .i64 (T : Int)) rfl rfl (by kernel_rfl) (by kernel_rfl) (by kernel_rfl) (fun _ _ _ h => h) rfl (by intro wq hq; (try go_split_ands); go_simp; try with_reducible rfl) (hHeld) ?_; simp only [List.setIfInBounds_toArray, List.set_cons_zero, List.set_cons_succ])
  refine wpAnyH_done (by kernel_rfl) ?_ _
  clear hHeld
  have hl4 := look_zero
  have hl5 := zeros34_cells
  have hLn := look_new w4
  have cst := (B0.kept ((Kept.refl w4).alloc (.cells zeros34 87))).cell
  have cl0 := hLn.2.2 0 (by omega)
  have fl0 := hLn.2.1 0
  have hLf := look_first hLn hst (t := t) HSt3.out
  have hkL := ((Kept.refl w4).alloc (.cells zeros34 87)).setCell (p := ⟨w4.heap.size, 0, none⟩) (Nat.le_refl _) (.int .i64 ((2 ^ st : Nat) : Int))
  simp only [] at cl0
  have hEq : (w4.alloc (.cells zeros34 87)).setCell ⟨w4.heap.size, 0, none⟩ (.int .i64 ((2 ^ st : Nat) : Int)) = w4.alloc (.cells (zeros34.setIfInBounds 0 (Value.int .i64 ((2 : Int) ^ st))) 87) := by
    rw [World.setCell_alloc_new]
    simp
  rw [hEq] at hLf hkL
  clear hEq
  clear hLn B0
  go_wp2_with fail
  generalize w4.alloc (.cells (zeros34.setIfInBounds 0 (Value.int .i64 ((2 : Int) ^ st))) 87) = w5 at *
  clear hl4 hl5 cst cl0 fl0 hsh
  have HF0 : Hid (∀ j, -1 ≤ Sp.lookFrom t j ∧ Sp.lookFrom t j ≤ ((0 : Nat) : Int)) := fun j => by unfold Sp.lookFrom; split <;> omega
  have HP0 : Hid (Sp.pop 0 = 0) := by show _ = _; unfold Sp.pop; simp
  generalize Sp.lookFrom t = f0 at *
  generalize 2 ^ st = R0 at *
  go_loopw [9] (fun i wr => ∃ (m R D : Nat) (f : Nat → Int), m ≤ 32 ∧ i = .int .i64 m ∧ LookB wr w4.heap.size R D f ∧ Kept w4 wr ∧ Hid (Sp.pop D = m) ∧ Hid (∀ j, -1 ≤ f j ∧ f j ≤ (m : Int)) ∧ Hid (Sp.lookFor t l = Sp.lookGo t (Sp.numAt l) (33 - m) f D m)) (fun i _ => 33 - (intOf i).toNat)
  case atStart => exact ⟨0, _, 0, _, by omega, rfl, hLf, hkL, HP0, HF0, HE⟩
  case round =>
    clear hLf hkL
    obtain ⟨m, R, D, f, hm, rfl, hLk, hkp, HPop, HFb, HRes⟩ := hrel
    have hfuel : 33 - m = (32 - m) + 1 := by omega
    rw [hfuel] at HRes
    have HNo := Lib.hid (@lookGo_none t (Sp.numAt l) f (32 - m) D m)
    have HEnd := Lib.hid (fun b => @lookGo_end t (Sp.numAt l) f (32 - m) D m b)
    have HOn := Lib.hid (fun b => @lookGo_on t (Sp.numAt l) f (32 - m) D m b)
    have HSm := Lib.hid (fun b => @bestUp_some (Sp.numAt l) f D b 32)
    go_wp2_with fail
    refine (c_iBest w4.heap.size R D f b off c2 l _ hLk (hN.keep hkp) HIn.out (fun j => by have := HFb.out j; omega)).mono ?_; rintro e w6 ⟨rfl, hk6⟩
    replace hkp := hkp.trans hk6
    replace hLk := hLk.keep hk6
    clear hk6
    cases hb : Sp.bestUp (Sp.numAt l) f D 32 with
    | none =>
      have HR := Lib.hid (HNo.out hb)
      have HI0 : Hid (Sp.optI none = -1) := rfl
      rw [HI0.out]
      clear hb hfuel
      go_wp2_with fail
      go_ret2
      exact ⟨ret_two (HRes.out.trans HR.out), hk0.trans hkp⟩
    | some b2 =>
      obtain ⟨hb2, hfb, hdb⟩ := HSm.out b2 hb
      have HB := Lib.hid hb
      have HI1 : Hid (Sp.optI (some b2) = (b2 : Int)) := rfl
      rw [HI1.out]
      have HPa := Lib.hid (pop_add hb2 hdb)
      have hm31 : m < 32 := by
        have h1 := HPa.out
        have h2 := pop_le (D ||| 2 ^ b2)
        have h3 := HPop.out
        omega
      have hrun := HRun.out b2 hb2
      have hab := and_bit T b2 (by omega)
      have hb1 := bit_one (T.testBit b2)
      have hb34 : ¬ (b2 : Int) < 0 := by omega
      have hb33 : ¬ (32 : Int) ≤ (b2 : Int) := by omega
      have hwm : IntKind.i64.wrap ((m : Int) + 1) = (m : Int) + 1 := by rw [IntKind.wrap_i64]; omega
      clear hb hfuel hdb
      cases hev : T.testBit b2
      · rw [hev] at hab hb1 hrun
        have HR := Lib.hid (HOn.out b2 HB.out hrun.symm)
        have HFn := Lib.hid (lookUp_bd (F := F) HFb.out hfb N)
        rw [HFl.out, HNl.out] at HR
        clear hev hrun
        go_wp2_with fail
        refine (c_iLook w4 w4.heap.size R D f gr N N F b2 _ hLk hkp (Nat.le_refl _) hRow hn6 hb2 hfb (fun j => by have := HFb.out j; omega)).mono ?_; rintro e w7 ⟨v, rfl, ⟨R2, hLk2⟩, hk7⟩
        go_wp2_with fail
        exact ⟨⟨m + 1, R2, D ||| 2 ^ b2, _, by omega, by go_num, hLk2, hk7, by show _ = _; rw [HPa.out, HPop.out], fun j => by have := HFn.out j; omega, by rw [HRes.out, HR.out]; congr 1; omega⟩, by simp [intOf]; omega⟩
      · rw [hev] at hab hb1 hrun
        have HR := Lib.hid (HEnd.out b2 HB.out hrun.symm)
        have cf := hLk.ce hb2 hfb
        obtain ⟨x, HX⟩ : ∃ x, Hid (f b2 = x) := ⟨_, rfl⟩
        rw [HX.out] at cf HR
        clear hev hrun
        go_wp2_with fail
        go_ret2
        exact ⟨ret_two (HRes.out.trans HR.out), hk0.trans hkp⟩

end Go.Proofs.YtphdojebdclonaaDoor
