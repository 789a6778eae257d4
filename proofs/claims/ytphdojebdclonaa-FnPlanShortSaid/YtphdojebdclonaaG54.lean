/- Walks: the reference's PlanShort. No condition. -/
import Derived.Test.YtphdojebdclonaaG53
import Derived.Test.YtphdojebdclonaaG38
namespace Go.Proofs.Ytphdojebdclonaa
open Go.RowKit

section
variable {P : Program} (w : World)
/-- an append of integers that came in, or of none, to a row of one's own -/
theorem wpList_append_ints {ops : Array Oper} {rest : List Oper} {o : Oper} {a : Act} {Q : Exit → Act → World → Prop} (hgd : o.guard = none) (s x : Operand) (t : TypeId)
    (ho : o.op = .call { callee := .builtin .append, args := #[s, x], argTypes := #[t, t] })
    (base : Nat) (e : TypeId) (i : TypeInfo) (z : Value) (ht : P.underlying t = some (.slice e)) (hi : P.info? e = some i) (hz : i.zero = some z)
    (hsize : i.size = 1) (hby : i.bytes = 8) (hzs : z.cells.size = 1)
    (v : Value) (n : Nat) (xs : List Value) (hs : a.eval s = v) (hown : w.ownsRow base e 1 v n xs)
    (A : Option Addr) (m c : Nat) (l : List Int) (hx : a.eval x = .slice A m c) (hI : Ints w A m l)
    (h63 : n + m ≤ maxLen) (hbytes : (n + m) * 8 ≤ 140737488355328) (hbase : base ≤ w.heap.size)
    (h : ∀ v' w', w'.ownsRow base e 1 v' (n + m) (xs ++ l.map (Value.int .i64)) → w.grownBy w' v.ownBlock → (v'.ownBlock = v.ownBlock ∨ v'.ownBlock = some w.heap.size) → wpList P ops Q rest (a.put o.dst v') w') : wpList P ops Q (o :: rest) a w := by
  refine wpList_plain hgd fun K hK => ?_
  by_cases hm : 0 < m
  · obtain ⟨b, off, rfl, hb, hc⟩ := hI.2.2.2 hm
    refine wp_append_own_at w s x t ho base e i z 1 8 ht hi hz hsize hby hzs (by decide) v n xs hs hown ⟨b, off, none⟩ m c (l.map (Value.int .i64)) hx (by rw [List.length_map, hI.1, Nat.mul_one]) (fun j u hj => ?_) (ints_one l) h63 hbytes hbase fun v' w' h2 h3 h4 => hK _ _ (h v' w' h2 h3 h4)
    rw [List.getElem?_map] at hj
    have hlt : j < l.length := by
      refine Classical.byContradiction fun hn => ?_
      rw [List.getElem?_eq_none (by omega)] at hj
      cases hj
    rw [List.getElem?_eq_getElem hlt] at hj
    injection hj with hj
    have h5 := hc j (by rw [← hI.1]; exact hlt)
    have e2 : ((⟨b, off, none⟩ : Addr).add j) = ⟨b, off + j, none⟩ := by
      unfold Addr.add
      split
      · rename_i h0; subst h0; rfl
      · rfl
    rw [e2, h5, ← hj, List.getD_eq_getElem?_getD, List.getElem?_eq_getElem hlt]; rfl
  · obtain rfl : m = 0 := by omega
    have hl : l = [] := List.eq_nil_of_length_eq_zero hI.1
    subst hl
    have hrun : ∀ ty, (Builtin.append_ #[t, t] ty #[v, .slice A 0 c]).run P w = .ok v w := by
      intro ty
      rcases hown.2 with ⟨rfl, rfl⟩ | ⟨g, cap, cur, rfl, _, _, hnc, _⟩ <;> cases A <;> simp [Builtin.append_, run_underlying ht, sizeOf, typeInfo, hi, Builtin.lenOf, Builtin.firstCells, storeCells, loadCells, loadCellsFrom, *]
    unfold Oper.wp execOp
    simp only [ho, resolve, invoke, builtin, Sem.run_bind, Sem.run_pure, Result.andThen_ok, List.map_toArray, List.map_cons, List.map_nil, hs, hx, hrun]
    exact hK _ _ (h v w (by simpa using hown) (World.grownBy.refl w _) (.inl rfl))
end

set_option maxHeartbeats 4000000 in
set_option maxRecDepth 100000 in
theorem c_sPlanShort (v : Value) (t : Sp.Task) (A2 : Option Addr) (n2 c2 : Nat) (l : List Int) (w : World) (h : TaskV w v t) (hP : Ints w A2 n2 l) :
    Calls Try.prog 26 #[v, .slice A2 n2 c2] w (RetS (OutOwnB w (Sp.planShort t l) (decide (0 ≤ Sp.planRun t t.start l))) w) := by
  obtain ⟨i0, hi0, hz0, hz1, hz2⟩ := info_parts info_int
  have HI := Lib.hid (And.intro hi0 (And.intro hz0 (And.intro hz1 hz2)))
  clear hi0 hz0 hz1 hz2
  obtain ⟨A, n, c, A', n', c', rfl⟩ := h.form
  have hk0 := (Kept.refl w).alloc (.cells #[.int .i64 t.start, .slice A n c, .slice A' n' c'] 30)
  have B0 := Blk.new w 30 #[.int .i64 t.start, .slice A n c, .slice A' n' c']
  have hT := h.keep hk0
  have hL := hP.keep hk0
  have HLn := Lib.hid hP.len
  have HIl := Lib.hid hP.2.2.1
  clear hP h
  go_enter Try.func26, Try.ntmps26
  go_wp2_with fail
  refine (c_sPlanRun _ t _ _ _ _ l _ hT hL).mono ?_; rintro e w2 ⟨rfl, hk2⟩
  replace hk0 := hk0.trans hk2
  replace B0 := B0.kept hk2
  replace hT := hT.keep hk2
  replace hL := hL.keep hk2
  clear hk2
  obtain ⟨q, Hq⟩ : ∃ q, Hid (Sp.planRun t t.start l = q) := ⟨_, rfl⟩
  rw [Hq.out]
  by_cases hneg : q < 0
  · have HE : Hid (Sp.planShort t l = []) := planShort_no (by rw [Hq.out]; exact hneg)
    have HD : Hid (decide (0 ≤ Sp.planRun t t.start l) = false) := decide_eq_false (by rw [Hq.out]; omega)
    have HO : Hid (OutOwnB w [] false (.tuple #[.slice (some ⟨w2.heap.size, 0, none⟩) 0 0, .bool false]) (w2.alloc (.cells #[] 3))) := ⟨_, _, rfl, World.ownsRow_made w2 #[] 0 hk0.size (by unfold maxLen; omega) rfl⟩
    go_wp2_with fail
    go_ret2
    exact ⟨_, rfl, by rw [HE.out, HD.out]; exact HO.out, hk0.alloc _⟩
  have HD : Hid (decide (0 ≤ Sp.planRun t t.start l) = true) := decide_eq_true (by rw [Hq.out]; omega)
  have HE : Hid (Sp.planShort t l = Sp.shortTill t l 41) := planShort_yes (by rw [Hq.out]; omega)
  obtain ⟨ht, hlen, _, hst⟩ := planRun_parts (t := t) (l := l) (by rw [Hq.out]; omega)
  have HK := Lib.hid ht
  have hn40 : n2 ≤ 40 := by rw [← HLn.out]; exact hlen
  clear ht hlen hst
  go_upto_region 3 with fail
  have hO0 := World.ownsRow_made (base := w2.heap.size) (e := 3) (size := 1) w2 #[] 0 (Nat.le_refl _) (by unfold maxLen; omega) rfl
  have hkM := (Kept.refl w2).alloc (.cells #[] 3)
  have hL1 := hL.keep hkM
  go_wp2_with (first | (at_builtin; refine wpList_append_ints _ rfl (.tmp 17) (.tmp 18) 22 rfl w2.heap.size 3 i0 (.int .i64 0) Try.underlying22 HI.out.1 HI.out.2.1 HI.out.2.2.1 HI.out.2.2.2 rfl _ 0 [] rfl hO0 A2 n2 c2 l rfl hL1 (by unfold maxLen; omega) (by omega) hkM.size ?_; intro v1 w3 hown2 hg2 hat))
  rw [Nat.zero_add, List.nil_append] at hown2
  have hk3 : Kept w2 w3 := hkM.grown hg2 (fun k e => (hO0.lt k e).1)
  obtain ⟨P0, hP0⟩ : ∃ P0, v1.ownBlock = some P0 := by rcases hat with e | e <;> exact ⟨_, e⟩
  obtain ⟨c3, rfl, _⟩ := own_at hown2 hP0
  clear hP0 hat hg2 hL1 hO0 hkM
  have hkz := hk0.size
  clear hL
  go_loopw [7, 6] (fun i o wr => ∃ (k P n5 c5 : Nat) (S : List Int), i = .int .i64 (k : Int) ∧ o = .slice (some ⟨P, 0, none⟩) n5 c5 ∧ k ≤ 41 ∧ n5 ≤ 40 ∧ Hid (Sp.shortTill t l k = S) ∧ Hid (S.length = n5) ∧ (∀ x ∈ S, Sp.inI x) ∧ wr.ownsRow w2.heap.size 3 1 (.slice (some ⟨P, 0, none⟩) n5 c5) n5 (S.map (Value.int .i64)) ∧ Kept w2 wr) (fun i _ _ => 42 - (intOf i).toNat)
  case atStart => exact ⟨0, P0, n2, c3, l, rfl, rfl, by omega, hn40, rfl, HLn.out, HIl.out, hown2, hk3⟩
  case round =>
    clear hown2
    obtain ⟨k, P, n5, c5, S, rfl, rfl, hk41, hn5, HS, HS5, hIS, hown, hkp⟩ := hrel
    have HIS := Lib.hid hIS
    have hnc : n5 ≤ c5 := by obtain ⟨cc, e, hcc⟩ := own_at hown rfl; injection e with _ _ e3; omega
    have hTk : ∀ i, Sp.planRun t t.start (S.take i) = Sp.stAt t S i := fun i => planRun_take HK.out (by rw [HS5.out]; omega) i
    have HTk := Lib.hid hTk
    clear hIS hTk
    by_cases hlt : k ≤ n5
    · have hkn : (k : Int) ≤ (n5 : Int) := by omega
      have q1 : ¬ c5 < k := by omega
      have hB1 := B0.kept hkp
      go_wp2_with fail
      have hB2 := hB1.kept (Kept.refl wr).drew
      have hkd := hkp.drew
      have hod := own_keep hown (Kept.refl wr).drew
      refine wp_region_held_drew (S := fun w' => w'.cell? ⟨w.heap.size, 0, none⟩ = some (.int .i64 t.start) ∧ w'.cell? ⟨w.heap.size, 1, none⟩ = some (.slice A n c) ∧ w'.cell? ⟨w.heap.size, 2, none⟩ = some (.slice A' n' c')) (by kernel_rfl) ⟨hB2.cell 0, hB2.cell 1, hB2.cell 2⟩ (fun hHeld => ?_)
      (refine take_val (i := 0) (v := .agg #[.int .i64 t.start, .slice A n c, .slice A' n' c']) rfl rfl (by kernel_rfl) (by kernel_rfl) (by kernel_rfl) (fun _ _ _ h => h) rfl (by intro wq hq; (try go_split_ands); go_simp; try with_reducible rfl) (hHeld) ?_; try simp only [List.setIfInBounds_toArray, List.set_cons_zero, List.set_cons_succ])
      (refine take_val (i := 1) (v := .pointer (some ⟨w.heap.size, 0, none⟩)) rfl rfl (by kernel_rfl) (by kernel_rfl) (by kernel_rfl) (fun _ _ _ h => h) rfl (by intro wq hq; (try go_split_ands); go_simp; try with_reducible rfl) (hHeld) ?_; try simp only [List.setIfInBounds_toArray, List.set_cons_zero, List.set_cons_succ])
      (refine take_val (i := 2) (v := .int .i64 t.start) rfl rfl (by kernel_rfl) (by kernel_rfl) (by kernel_rfl) (fun _ _ _ h => h) rfl (by intro wq hq; (try go_split_ands); go_simp; try with_reducible rfl) (hHeld) ?_; try simp only [List.setIfInBounds_toArray, List.set_cons_zero, List.set_cons_succ])
      (refine take_val (i := 3) (v := .slice (some ⟨P, 0, none⟩) n5 c5) rfl rfl (by kernel_rfl) (by kernel_rfl) (by kernel_rfl) (fun _ _ _ h => h) rfl (by intro wq hq; (try go_split_ands); go_simp; try with_reducible rfl) (hHeld) ?_; try simp only [List.setIfInBounds_toArray, List.set_cons_zero, List.set_cons_succ])
      (refine take_val (i := 4) (v := .int .i64 (k : Int)) rfl rfl (by kernel_rfl) (by kernel_rfl) (by kernel_rfl) (fun _ _ _ h => h) rfl (by intro wq hq; (try go_split_ands); go_simp; try with_reducible rfl) (hHeld) ?_; try simp only [List.setIfInBounds_toArray, List.set_cons_zero, List.set_cons_succ])
      (refine take_val (i := 5) (v := .slice (some ⟨P, 0, none⟩) k c5) rfl rfl (by kernel_rfl) (by kernel_rfl) (by kernel_rfl) (fun _ _ _ h => h) rfl (by intro wq hq; (try go_split_ands); go_simp; try with_reducible rfl) (hHeld) ?_; try simp only [List.setIfInBounds_toArray, List.set_cons_zero, List.set_cons_succ])
      clear q1
      have hIk := own_row_ints (l := S.take k) (by have := own_cut hod hlt; rw [← List.map_take] at this; exact this) (by omega) (fun x hx => HIS.out x (List.mem_of_mem_take hx))
      (refine wpAnyH_ready (rs := [6]) (by kernel_rfl) (by simp) ?_; refine AllReadyH.cons rfl (fun K hK => ?_) AllReadyH.nil; go_simp)
      refine (c_sPlanRun _ t _ _ _ _ _ _ (hT.keep hkd) hIk).mono ?_; rintro e w5 ⟨rfl, hk5⟩
      rw [HTk.out k]
      have hB3 := hB2.kept hk5
      have hkp5 := hkd.trans hk5
      have hown5 := own_keep hod hk5
      clear hk5 hod hkd hB2 hB1 hown hkp hHeld hIk
      have hS3 : w5.cell? ⟨w.heap.size, 0, none⟩ = some (.int .i64 t.start) ∧ w5.cell? ⟨w.heap.size, 1, none⟩ = some (.slice A n c) ∧ w5.cell? ⟨w.heap.size, 2, none⟩ = some (.slice A' n' c') := ⟨hB3.cell 0, hB3.cell 1, hB3.cell 2⟩
      (refine hK.out _ _ (hS3) (fun _ => ?_); clear hK K; try simp only [Act.put, List.setIfInBounds_toArray, List.set_cons_zero, List.set_cons_succ])
      obtain ⟨x, HX⟩ : ∃ x, Hid (Sp.stAt t S k = x) := ⟨_, rfl⟩
      rw [HX.out]
      (refine take_val (i := 7) (v := .int .i64 x) rfl rfl (by kernel_rfl) (by kernel_rfl) (by kernel_rfl) (fun _ _ _ h => h) rfl (by intro wq hq; (try go_split_ands); go_simp; try with_reducible rfl) (hS3) ?_; try simp only [List.setIfInBounds_toArray, List.set_cons_zero, List.set_cons_succ])
      refine wpAnyH_done (by kernel_rfl) ?_ _
      clear hS3
      go_wp2_with fail
      go_loopw [9, 6] (fun i o wr => ∃ j : Nat, k ≤ j ∧ j ≤ n5 ∧ i = .int .i64 (j : Int) ∧ o = .slice (some ⟨P, 0, none⟩) n5 c5 ∧ Hid (∀ c, j < c → c ≤ n5 → Sp.stAt t S c ≠ x) ∧ wr.ownsRow w2.heap.size 3 1 (.slice (some ⟨P, 0, none⟩) n5 c5) n5 (S.map (Value.int .i64)) ∧ Kept w2 wr) (fun i _ _ => (intOf i).toNat)
      case atStart => exact ⟨n5, hlt, Nat.le_refl _, rfl, rfl, fun c h1 h2 => by omega, hown5, hkp5⟩
      case round =>
        clear hB3 hown5 hkp5
        obtain ⟨j, hkj, hjn, rfl, rfl, HC, hown, hkp⟩ := hrel
        have hB1 := B0.kept hkp
        by_cases hgt : k < j
        · have hgt1 : (k : Int) < (j : Int) := by omega
          have q1 : ¬ c5 < j := by omega
          go_wp2_with fail
          have hB2 := hB1.kept (Kept.refl wr).drew
          have hkd := hkp.drew
          have hod := own_keep hown (Kept.refl wr).drew
          refine wp_region_held_drew (S := fun w' => w'.cell? ⟨w.heap.size, 0, none⟩ = some (.int .i64 t.start) ∧ w'.cell? ⟨w.heap.size, 1, none⟩ = some (.slice A n c) ∧ w'.cell? ⟨w.heap.size, 2, none⟩ = some (.slice A' n' c')) (by kernel_rfl) ⟨hB2.cell 0, hB2.cell 1, hB2.cell 2⟩ (fun hHeld => ?_)
          (refine take_val (i := 0) (v := .agg #[.int .i64 t.start, .slice A n c, .slice A' n' c']) rfl rfl (by kernel_rfl) (by kernel_rfl) (by kernel_rfl) (fun _ _ _ h => h) rfl (by intro wq hq; (try go_split_ands); go_simp; try with_reducible rfl) (hHeld) ?_; try simp only [List.setIfInBounds_toArray, List.set_cons_zero, List.set_cons_succ])
          (refine take_val (i := 1) (v := .pointer (some ⟨w.heap.size, 0, none⟩)) rfl rfl (by kernel_rfl) (by kernel_rfl) (by kernel_rfl) (fun _ _ _ h => h) rfl (by intro wq hq; (try go_split_ands); go_simp; try with_reducible rfl) (hHeld) ?_; try simp only [List.setIfInBounds_toArray, List.set_cons_zero, List.set_cons_succ])
          (refine take_val (i := 2) (v := .int .i64 t.start) rfl rfl (by kernel_rfl) (by kernel_rfl) (by kernel_rfl) (fun _ _ _ h => h) rfl (by intro wq hq; (try go_split_ands); go_simp; try with_reducible rfl) (hHeld) ?_; try simp only [List.setIfInBounds_toArray, List.set_cons_zero, List.set_cons_succ])
          (refine take_val (i := 3) (v := .slice (some ⟨P, 0, none⟩) n5 c5) rfl rfl (by kernel_rfl) (by kernel_rfl) (by kernel_rfl) (fun _ _ _ h => h) rfl (by intro wq hq; (try go_split_ands); go_simp; try with_reducible rfl) (hHeld) ?_; try simp only [List.setIfInBounds_toArray, List.set_cons_zero, List.set_cons_succ])
          (refine take_val (i := 4) (v := .int .i64 (j : Int)) rfl rfl (by kernel_rfl) (by kernel_rfl) (by kernel_rfl) (fun _ _ _ h => h) rfl (by intro wq hq; (try go_split_ands); go_simp; try with_reducible rfl) (hHeld) ?_; try simp only [List.setIfInBounds_toArray, List.set_cons_zero, List.set_cons_succ])
          (refine take_val (i := 5) (v := .slice (some ⟨P, 0, none⟩) j c5) rfl rfl (by kernel_rfl) (by kernel_rfl) (by kernel_rfl) (fun _ _ _ h => h) rfl (by intro wq hq; (try go_split_ands); go_simp; try with_reducible rfl) (hHeld) ?_; try simp only [List.setIfInBounds_toArray, List.set_cons_zero, List.set_cons_succ])
          (refine take_val (i := 7) (v := .int .i64 x) rfl rfl (by kernel_rfl) (by kernel_rfl) (by kernel_rfl) (fun _ _ _ h => h) rfl (by intro wq hq; (try go_split_ands); go_simp; try with_reducible rfl) (hHeld) ?_; try simp only [List.setIfInBounds_toArray, List.set_cons_zero, List.set_cons_succ])
          clear q1
          have hIk := own_row_ints (l := S.take j) (by have := own_cut hod hjn; rw [← List.map_take] at this; exact this) (by omega) (fun x hx => HIS.out x (List.mem_of_mem_take hx))
          (refine wpAnyH_ready (rs := [6]) (by kernel_rfl) (by simp) ?_; refine AllReadyH.cons rfl (fun K hK => ?_) AllReadyH.nil; go_simp)
          refine (c_sPlanRun _ t _ _ _ _ _ _ (hT.keep hkd) hIk).mono ?_; rintro e w6 ⟨rfl, hk6⟩
          rw [HTk.out j]
          have hB3 := hB2.kept hk6
          have hkp6 := hkd.trans hk6
          have hown6 := own_keep hod hk6
          clear hk6 hod hkd hB2 hB1 hown hkp hHeld hIk
          have hS3 : w6.cell? ⟨w.heap.size, 0, none⟩ = some (.int .i64 t.start) ∧ w6.cell? ⟨w.heap.size, 1, none⟩ = some (.slice A n c) ∧ w6.cell? ⟨w.heap.size, 2, none⟩ = some (.slice A' n' c') := ⟨hB3.cell 0, hB3.cell 1, hB3.cell 2⟩
          (refine hK.out _ _ (hS3) (fun _ => ?_); clear hK K; try simp only [Act.put, List.setIfInBounds_toArray, List.set_cons_zero, List.set_cons_succ])
          obtain ⟨y, HY⟩ : ∃ y, Hid (Sp.stAt t S j = y) := ⟨_, rfl⟩
          rw [HY.out]
          by_cases he : y = x
          · have HEq : Hid (Sp.stAt t S j = Sp.stAt t S k) := by show _ = _; rw [HY.out, HX.out, he]
            have hbe : (y == x) = true := by rw [he]; simp
            have HNext : Hid (Sp.shortTill t l (k + 1) = Sp.cutOut S k j) := by
              show Sp.shortAt t (Sp.shortTill t l k) k = _
              rw [HS.out]
              unfold Sp.shortAt
              rw [lastEq_is hgt (by rw [HS5.out]; exact hjn) HEq.out (fun c h1 h2 => by rw [HX.out]; exact HC.out c h1 (by rw [HS5.out] at h2; exact h2))]
            have HCl : Hid ((Sp.cutOut S k j).length = k + (n5 - j)) := by show _ = _; rw [cut_len hgt (by rw [HS5.out]; exact hjn), HS5.out]; omega
            clear he
            (refine take_val (i := 8) (v := .bool true) rfl rfl (by kernel_rfl) (by kernel_rfl) (by kernel_rfl) (fun _ _ _ h => h) rfl (by intro wq hq; (try go_split_ands); go_simp; try with_reducible rfl) (hS3) ?_; try simp only [List.setIfInBounds_toArray, List.set_cons_zero, List.set_cons_succ])
            refine wpAnyH_done (by kernel_rfl) ?_ _
            clear hS3 hbe
            have hkd := hkp6.drew
            have hod := own_keep hown6 (Kept.refl w6).drew
            have hnl := hkd.size
            clear hB3 hkp6 hown6
            have q1 : ¬ c5 < k := by omega
            have q2 : (0 : Int) ≤ (j : Int) := by omega
            have q3 : ¬ n5 < j := by omega
            obtain ⟨c2x, q4⟩ : ∃ x, c5 - j = x := ⟨_, rfl⟩
            obtain ⟨mx, q6⟩ : ∃ x, n5 - j = x := ⟨_, rfl⟩
            have Hmx := Lib.hid q6
            obtain ⟨off, hoff, q5⟩ : ∃ off : Nat, (j < n5 → off = j) ∧ (if c5 = j then (some ⟨P, 0, none⟩ : Option Addr) else some ⟨P, j, none⟩) = some ⟨P, off, none⟩ := by
              by_cases e : c5 = j
              · exact ⟨0, fun h => by omega, by rw [if_pos e]⟩
              · exact ⟨j, fun _ => rfl, by rw [if_neg e]⟩
            have HOff := Lib.hid hoff
            clear hoff
            go_wp2_with fail
            refine wp_region_held_drew (S := fun _ => True) (by kernel_rfl) trivial (fun hHeld => ?_)
            (refine take_val (i := 1) (v := .slice (some ⟨P, 0, none⟩) n5 c5) rfl rfl (by kernel_rfl) (by kernel_rfl) (by kernel_rfl) (fun _ _ _ h => h) rfl (by intro wq hq; (try go_split_ands); go_simp; try with_reducible rfl) (trivial) ?_; try simp only [List.setIfInBounds_toArray, List.set_cons_zero, List.set_cons_succ])
            (refine take_val (i := 2) (v := .int .i64 (k : Int)) rfl rfl (by kernel_rfl) (by kernel_rfl) (by kernel_rfl) (fun _ _ _ h => h) rfl (by intro wq hq; (try go_split_ands); go_simp; try with_reducible rfl) (trivial) ?_; try simp only [List.setIfInBounds_toArray, List.set_cons_zero, List.set_cons_succ])
            (refine take_val (i := 3) (v := .slice (some ⟨P, 0, none⟩) k c5) rfl rfl (by kernel_rfl) (by kernel_rfl) (by kernel_rfl) (fun _ _ _ h => h) rfl (by intro wq hq; (try go_split_ands); go_simp; try with_reducible rfl) (trivial) ?_; try simp only [List.setIfInBounds_toArray, List.set_cons_zero, List.set_cons_succ])
            (refine take_val (i := 5) (v := .slice (some ⟨P, 0, none⟩) n5 c5) rfl rfl (by kernel_rfl) (by kernel_rfl) (by kernel_rfl) (fun _ _ _ h => h) rfl (by intro wq hq; (try go_split_ands); go_simp; try with_reducible rfl) (trivial) ?_; try simp only [List.setIfInBounds_toArray, List.set_cons_zero, List.set_cons_succ])
            (refine take_val (i := 6) (v := .int .i64 (j : Int)) rfl rfl (by kernel_rfl) (by kernel_rfl) (by kernel_rfl) (fun _ _ _ h => h) rfl (by intro wq hq; (try go_split_ands); go_simp; try with_reducible rfl) (trivial) ?_; try simp only [List.setIfInBounds_toArray, List.set_cons_zero, List.set_cons_succ])
            (refine take_val (i := 7) (v := .slice (some ⟨P, off, none⟩) mx c2x) rfl rfl (by kernel_rfl) (by kernel_rfl) (by kernel_rfl) (fun _ _ _ h => h) rfl (by intro wq hq; (try go_split_ands); go_simp; try with_reducible rfl) (trivial) ?_; try simp only [List.setIfInBounds_toArray, List.set_cons_zero, List.set_cons_succ])
            clear q1 q2 q3 q4 q5 q6
            obtain ⟨wd, HWd⟩ : ∃ x, Hid (w6.drew = x) := ⟨_, rfl⟩
            rw [HWd.out] at hkd hod hnl ⊢
            (refine wpAnyH_ready (rs := [0]) (by kernel_rfl) (by simp) ?_; refine AllReadyH.cons rfl (fun K hK => ?_) AllReadyH.nil; go_simp)
            have hl7 := (Kept.refl wd).alloc (.cells #[] 3)
            have ho7 := World.ownsRow_made (base := w2.heap.size) (e := 3) (size := 1) wd #[] 0 hkd.size (by unfold maxLen; omega) rfl
            have hk7 := hkd.trans hl7
            have hs7 := own_keep hod hl7
            clear hHeld
            refine hK.out _ _ trivial (fun _ => ?_); clear hK K; try simp only [Act.put, List.setIfInBounds_toArray, List.set_cons_zero, List.set_cons_succ]
            obtain ⟨G, HG⟩ : ∃ x, Hid (wd.heap.size = x) := ⟨_, rfl⟩
            obtain ⟨w7, HW7⟩ : ∃ x, Hid (wd.alloc (.cells #[] 3) = x) := ⟨_, rfl⟩
            rw [HG.out, HW7.out] at ho7
            rw [HW7.out] at hk7 hs7
            rw [HG.out, HW7.out]
            have hz7 := hk7.size
            refine wpAnyH_ready (rs := [4]) (by kernel_rfl) (by simp) ?_
            refine AllReadyH.cons rfl (fun K hK => ?_) AllReadyH.nil
            refine wp_append_own_at _ (.tmp 49) (.tmp 52) 22 rfl w2.heap.size 3 i0 (.int .i64 0) 1 8 Try.underlying22 HI.out.1 HI.out.2.1 HI.out.2.2.1 HI.out.2.2.2 rfl (by decide) (.slice (some ⟨G, 0, none⟩) 0 0) 0 [] rfl ho7 ⟨P, 0, none⟩ k c5 ((S.map (Value.int .i64)).take k) rfl (by rw [List.length_take, List.length_map, HS5.out]; omega) ((own_cut hs7 hlt).cells rfl) (fun u hu => ints_one S u (List.mem_of_mem_take hu)) (by unfold maxLen; omega) (by omega) (by omega) (fun v1 w8 hown2 hg2 hat => ?_)
            rw [Nat.zero_add, List.nil_append] at hown2
            obtain ⟨P1, hP1⟩ : ∃ P1, v1.ownBlock = some P1 := by rcases hat with e | e <;> exact ⟨_, e⟩
            obtain ⟨c8, rfl, _⟩ := own_at hown2 hP1
            have hk8 := hk7.grown hg2 (fun k e => (ho7.lt k e).1)
            have hne : P ≠ G := by have := (hod.lt P rfl).2; have := HG.out; omega
            have hs8 : w8.ownsRow w2.heap.size 3 1 (.slice (some ⟨P, 0, none⟩) n5 c5) n5 (S.map (Value.int .i64)) := hs7.kept hg2 (.inr (by simp only [Value.ownBlock, ne_eq, Option.some.injEq]; exact hne))
            have hz8 := hk8.size
            clear hg2 hs7 ho7
            refine hK.out _ _ trivial (fun _ => ?_); clear hK K; try simp only [Act.put, List.setIfInBounds_toArray, List.set_cons_zero, List.set_cons_succ]
            refine wpAnyH_ready (rs := [8]) (by kernel_rfl) (by simp) ?_
            refine AllReadyH.cons rfl (fun K hK => ?_) AllReadyH.nil
            refine wp_append_own_at _ (.tmp 53) (.tmp 56) 22 rfl w2.heap.size 3 i0 (.int .i64 0) 1 8 Try.underlying22 HI.out.1 HI.out.2.1 HI.out.2.2.1 HI.out.2.2.2 rfl (by decide) (.slice (some ⟨P1, 0, none⟩) k c8) k _ rfl hown2 ⟨P, off, none⟩ mx c2x ((S.drop j).map (Value.int .i64)) rfl (by rw [List.length_map, List.length_drop, HS5.out, Hmx.out, Nat.mul_one]) (cells_from hs8 off HOff.out) (ints_one _) (by have := Hmx.out; unfold maxLen; omega) (by have := Hmx.out; omega) hz8 (fun v2 w9 hown3 hg3 hat3 => ?_)
            have HM2 : Hid ((S.map (Value.int .i64)).take k ++ (S.drop j).map (Value.int .i64) = (Sp.cutOut S k j).map (Value.int .i64)) := by show _ = _; unfold Sp.cutOut; rw [List.map_append, List.map_take]
            rw [HM2.out] at hown3
            obtain ⟨P2, hP2⟩ : ∃ P2, v2.ownBlock = some P2 := by rcases hat3 with e | e <;> exact ⟨_, e⟩
            obtain ⟨c9, rfl, _⟩ := own_at hown3 hP2
            have hk9 := hk8.grown hg3 (fun k e => (hown2.lt k e).1)
            have HCm : Hid ((Sp.cutOut S k j).length = k + mx) := by show _ = _; rw [HCl.out, Hmx.out]
            have HIC : Hid (∀ x ∈ Sp.cutOut S k j, Sp.inI x) := fun x hx => by
              have hx2 : x ∈ S.take k ++ S.drop j := hx
              rw [List.mem_append] at hx2
              rcases hx2 with h | h
              · exact HIS.out x (List.mem_of_mem_take h)
              · exact HIS.out x (List.mem_of_mem_drop h)
            have hm5 : k + mx ≤ 40 := by have := Hmx.out; omega
            clear hg3 hown2 hs8 hat hat3 hP1 hP2
            refine hK.out _ _ trivial (fun _ => ?_); clear hK K; try simp only [Act.put, List.setIfInBounds_toArray, List.set_cons_zero, List.set_cons_succ]
            (refine take_val (i := 9) (v := .slice (some ⟨P2, 0, none⟩) (k + mx) c9) rfl rfl (by kernel_rfl) (by kernel_rfl) (by kernel_rfl) (fun _ _ _ h => h) rfl (by intro wq hq; (try go_split_ands); go_simp; try with_reducible rfl) (trivial) ?_; try simp only [List.setIfInBounds_toArray, List.set_cons_zero, List.set_cons_succ])
            refine wpAnyH_done (by kernel_rfl) ?_ _
            go_wp2_with fail
            exact ⟨⟨k + 1, P2, k + mx, c9, Sp.cutOut S k j, by go_num, rfl, by omega, hm5, HNext, HCm, HIC.out, hown3, hk9⟩, by simp [intOf]; omega⟩
          · have hf : (y == x) = false := beq_eq_false_iff_ne.2 he
            have HC2 : Hid (∀ c, j - 1 < c → c ≤ n5 → Sp.stAt t S c ≠ x) := fun c h1 h2 => by
              by_cases e : c = j
              · subst e; rw [HY.out]; exact he
              · exact HC.out c (by omega) h2
            have hw2 : IntKind.i64.wrap ((j : Int) - 1) = (j : Int) - 1 := by rw [IntKind.wrap_i64]; omega
            clear he
            (refine take_val (i := 8) (v := .bool false) rfl rfl (by kernel_rfl) (by kernel_rfl) (by kernel_rfl) (fun _ _ _ h => h) rfl (by intro wq hq; (try go_split_ands); go_simp; try with_reducible rfl) (hS3) ?_; try simp only [List.setIfInBounds_toArray, List.set_cons_zero, List.set_cons_succ])
            refine wpAnyH_done (by kernel_rfl) ?_ _
            clear hS3 hf
            go_wp2_with fail
            exact ⟨⟨j - 1, by omega, by omega, by rw [show ((j - 1 : Nat) : Int) = (j : Int) - 1 by omega], rfl, HC2, hown6, hkp6⟩, by simp [intOf]; omega⟩
        · obtain rfl : j = k := by omega
          have HNext : Hid (Sp.shortTill t l (j + 1) = S) := by
            show Sp.shortAt t (Sp.shortTill t l j) j = _
            rw [HS.out]
            unfold Sp.shortAt
            rw [lastEq_not (fun c h1 h2 => by rw [HX.out]; exact HC.out c h1 (by rw [HS5.out] at h2; exact h2))]
          go_wp2_with fail
          exact ⟨⟨j + 1, P, n5, c5, S, by go_num, rfl, by omega, hn5, HNext, HS5, HIS.out, hown, hkp⟩, by simp [intOf]; omega⟩
    · have HF : Hid (Sp.shortTill t l 41 = S) := by
        show _ = _
        rw [till_over (m := k) hk41 (by rw [HS.out, HS5.out]; omega)]
        exact HS.out
      have HRes : Hid (OutOwnB w (Sp.planShort t l) (decide (0 ≤ Sp.planRun t t.start l)) (.tuple #[.slice (some ⟨P, 0, none⟩) n5 c5, .bool true]) wr) := by
        show OutOwnB _ _ _ _ _
        rw [HD.out, HE.out, HF.out]
        exact outOwnB_some (w1 := w2) true HS5.out.symm hown hkz
      go_wp2_with fail
      go_ret2
      exact ⟨_, rfl, HRes.out, hk0.trans hkp⟩

theorem planShort_len (t : Sp.Task) (l : List Int) : (Sp.planShort t l).length ≤ 40 := by
  unfold Sp.planShort
  split
  · rename_i h
    have := (planRun_parts h).2.1
    have := till_len t l 41
    omega
  · simp
theorem short_out {w w' : World} {t : Sp.Task} {l : List Int} {b : Bool} {v : Value} (h : OutOwnB w (Sp.planShort t l) b v w') (hi : ∀ x ∈ l, Sp.inI x) : OutIntsB w (Sp.planShort t l) b v w' := by
  obtain ⟨A, c, rfl, ho⟩ := h
  refine outIntsB_own (w1 := w) b rfl ho (by have := planShort_len t l; unfold maxLen; omega) (Nat.le_refl _) fun x hx => ?_
  unfold Sp.planShort at hx
  split at hx
  · exact hi x (till_mem x hx)
  · cases hx

end Go.Proofs.Ytphdojebdclonaa
