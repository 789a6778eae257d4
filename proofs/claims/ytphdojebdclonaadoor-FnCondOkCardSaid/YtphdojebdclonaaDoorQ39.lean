/- Joined texts. No condition. -/
import Derived.Test.YtphdojebdclonaaDoorQ37
import Derived.Test.YtphdojebdclonaaDoorQ38
/- The program's conditions made simpler; its CodeSimple. No condition. -/
namespace Go.Proofs.YtphdojebdclonaaDoor
set_option linter.unusedSimpArgs false
set_option linter.unusedVariables false
open Go.RowKit

theorem c_Equal (A1 A2 : Option Addr) (n1 n2 c1 c2 : Nat) (l1 l2 : List Int) (w : World) (h1 : Ints w A1 n1 l1) (h2 : Ints w A2 n2 l2) (hp1 : 0 < n1) (hp2 : 0 < n2) :
    Calls Tryd.prog 126 #[.slice A1 n1 c1, .slice A2 n2 c2] w (RetK (.bool (l1 == l2)) w) := by
  obtain ⟨e1, m1, _, k1⟩ := h1
  obtain ⟨e2, m2, _, k2⟩ := h2
  obtain ⟨b1, o1, rfl, _, g1⟩ := k1 hp1
  obtain ⟨b2, o2, rfl, _, g2⟩ := k2 hp2
  unfold maxLen at m1 m2
  refine (Tryd.slices_Equal_int b1 o1 n1 c1 b2 o2 n2 c2 l1 l2 w (by omega) (by omega) (by omega) (by omega) (fun j hj => g1 j (by omega)) (fun j hj => g2 j (by omega))).mono ?_
  rintro e w' ⟨rfl, q, rfl⟩
  refine ⟨?_, (Kept.refl w).drewN q⟩
  rw [List.take_of_length_le (by omega), List.take_of_length_le (by omega)]

set_option maxHeartbeats 2000000 in
set_option maxRecDepth 100000 in
theorem c_notOne (s : Int) (w : World) (h0 : 0 ≤ s) (h6 : s ≤ 6) (T1 : TypeId) (p1 : Value)
    (ih : ∀ w : World, Calls Tryd.prog 67 #[.iface T1 p1] w (RetK (condV (.one s)) w)) :
    Calls Tryd.prog 67 #[.iface 148 (.agg #[.iface T1 p1])] w (RetK (condV (Sp.Cond.notS (.one s))) w) := by
  have hT := is_T
  have hST := no_ST
  have hS := is_S
  have HIH := Lib.hid ih
  clear ih
  have hk0 := (Kept.refl w).alloc (.cells #[.iface T1 p1] 148)
  have B0 := Blk.new w 148 #[.iface T1 p1]
  obtain ⟨w1, HW1⟩ : ∃ x, Hid (w.alloc (.cells #[.iface T1 p1] 148) = x) := ⟨_, rfl⟩
  rw [HW1.out] at hk0 B0
  have c0 := B0.cell 0
  by_cases h5 : 5 ≤ s
  · have HN : Hid (Sp.Cond.notS (.one s) = .one (11 - s)) := by show _ = _; rw [Sp.Cond.notS, if_pos h5]
    have hw : IntKind.i64.wrap (11 - s) = 11 - s := by rw [IntKind.wrap_i64]; omega
    rw [HN.out]
    go_enter Tryd.func67, Tryd.ntmps67
    go_upto_region 4 with fail
    rw [HW1.out]
    go_wp2_with fail
    refine (HIH.out w1).mono ?_; rintro e w2 ⟨rfl, hk2⟩
    rw [show condV (.one s) = .iface 150 (.agg #[.int .i64 s]) from rfl]
    have hk3 := (hk0.trans hk2).alloc (.cells #[.int .i64 s] 150)
    go_wp2_with fail
    go_ret
    exact ⟨rfl, hk3⟩
  · have HN : Hid (Sp.Cond.notS (.one s) = .neg (.one s)) := by show _ = _; rw [Sp.Cond.notS, if_neg h5]
    rw [HN.out]
    go_enter Tryd.func67, Tryd.ntmps67
    go_upto_region 4 with fail
    rw [HW1.out]
    go_wp2_with fail
    refine (HIH.out w1).mono ?_; rintro e w2 ⟨rfl, hk2⟩
    rw [show condV (.one s) = .iface 150 (.agg #[.int .i64 s]) from rfl]
    have hk3 := (hk0.trans hk2).alloc (.cells #[.int .i64 s] 150)
    go_wp2_with fail
    go_ret
    exact ⟨rfl, hk3⟩

set_option maxHeartbeats 2000000 in
set_option maxRecDepth 100000 in
theorem c_notNeg (q : Sp.Cond) (w : World) (T1 : TypeId) (p1 : Value)
    (ih : ∀ w : World, Calls Tryd.prog 67 #[.iface T1 p1] w (RetK (condV (.neg q)) w)) :
    Calls Tryd.prog 67 #[.iface 148 (.agg #[.iface T1 p1])] w (RetK (condV (Sp.Cond.notS (.neg q))) w) := by
  have hT := is_T
  have HIH := Lib.hid ih
  clear ih
  have hk0 := (Kept.refl w).alloc (.cells #[.iface T1 p1] 148)
  have B0 := Blk.new w 148 #[.iface T1 p1]
  obtain ⟨w1, HW1⟩ : ∃ x, Hid (w.alloc (.cells #[.iface T1 p1] 148) = x) := ⟨_, rfl⟩
  rw [HW1.out] at hk0 B0
  have c0 := B0.cell 0
  obtain ⟨T2, p2, e2⟩ := condV_form q
  rw [show condV (.neg q) = .iface 148 (.agg #[condV q]) from rfl] at HIH
  show Calls Tryd.prog 67 #[.iface 148 (.agg #[.iface T1 p1])] w (RetK (condV q) w)
  rw [e2] at HIH ⊢
  go_enter Tryd.func67, Tryd.ntmps67
  go_upto_region 4 with fail
  rw [HW1.out]
  go_wp2_with fail
  refine (HIH.out w1).mono ?_; rintro e w2 ⟨rfl, hk2⟩
  clear e2
  have hk3 := (hk0.trans hk2).alloc (.cells #[.iface T2 p2] 148)
  go_wp2_with fail
  go_ret
  exact ⟨rfl, hk3⟩

set_option maxHeartbeats 2000000 in
set_option maxRecDepth 100000 in
theorem c_notTwo (s : Int) (l h : Sp.Cond) (w : World) (T1 : TypeId) (p1 : Value)
    (ih : ∀ w : World, Calls Tryd.prog 67 #[.iface T1 p1] w (RetK (condV (.two s l h)) w)) :
    Calls Tryd.prog 67 #[.iface 148 (.agg #[.iface T1 p1])] w (RetK (condV (Sp.Cond.notS (.two s l h))) w) := by
  have hT := is_T
  have hJS := no_JS
  have hJT := no_JT
  have HIH := Lib.hid ih
  clear ih
  have hk0 := (Kept.refl w).alloc (.cells #[.iface T1 p1] 148)
  have B0 := Blk.new w 148 #[.iface T1 p1]
  obtain ⟨w1, HW1⟩ : ∃ x, Hid (w.alloc (.cells #[.iface T1 p1] 148) = x) := ⟨_, rfl⟩
  rw [HW1.out] at hk0 B0
  have c0 := B0.cell 0
  obtain ⟨P, HP⟩ : ∃ P, Hid ((.agg #[.int .i64 s, condV l, condV h] : Value) = P) := ⟨_, rfl⟩
  rw [show condV (.two s l h) = .iface 152 (.agg #[.int .i64 s, condV l, condV h]) from rfl, HP.out] at HIH
  show Calls Tryd.prog 67 #[.iface 148 (.agg #[.iface T1 p1])] w (RetK (.iface 148 (.agg #[.iface 152 (.agg #[.int .i64 s, condV l, condV h])])) w)
  rw [HP.out]
  go_enter Tryd.func67, Tryd.ntmps67
  go_upto_region 4 with fail
  rw [HW1.out]
  go_wp2_with fail
  refine (HIH.out w1).mono ?_; rintro e w2 ⟨rfl, hk2⟩
  have hk3 := hk0.trans hk2
  go_wp2_with fail
  go_ret
  exact ⟨rfl, hk3⟩

set_option maxHeartbeats 2000000 in
set_option maxRecDepth 100000 in
theorem c_simpOne (s : Int) (w : World) : Calls Tryd.prog 67 #[condV (.one s)] w (RetK (condV (.one s)) w) := by
  have hST := no_ST
  have hSJ := no_SJ
  show Calls Tryd.prog 67 #[.iface 150 (.agg #[.int .i64 s])] w (RetK (.iface 150 (.agg #[.int .i64 s])) w)
  go_enter Tryd.func67, Tryd.ntmps67
  go_wp2_with fail
  go_ret
  exact ⟨rfl, Kept.refl _⟩

set_option maxHeartbeats 8000000 in
set_option maxRecDepth 100000 in
theorem c_joinAnd (d1 d2 a b : Sp.Cond) (w : World) (ha : a.ok) (hb : b.ok) (hla : a.steps.length ≤ 40) (hlb : b.steps.length ≤ 40)
    (ih1 : ∀ w : World, Calls Tryd.prog 67 #[condV d1] w (RetK (condV a) w)) (ih2 : ∀ w : World, Calls Tryd.prog 67 #[condV d2] w (RetK (condV b) w)) :
    Calls Tryd.prog 67 #[.iface 152 (.agg #[.int .i64 8, condV d1, condV d2])] w (RetK (condV (Sp.Cond.joinS 8 a b)) w) := by
  have hJT := no_JT
  have hJ := is_J
  have HIH1 := Lib.hid ih1
  have HIH2 := Lib.hid ih2
  clear ih1 ih2
  obtain ⟨T1, p1, e1⟩ := condV_form d1
  obtain ⟨T2, p2, e2⟩ := condV_form d2
  rw [e1] at HIH1 ⊢
  rw [e2] at HIH2 ⊢
  clear e1 e2
  have HLa := Lib.hid (fun w => c_lastStep a w)
  have HLb := Lib.hid (fun w => c_lastStep b w)
  have HSa := Lib.hid (c_steps a ha hla)
  have HSb := Lib.hid (c_steps b hb hlb)
  have HMa := Lib.hid (st_meth a)
  have HMb := Lib.hid (st_meth b)
  have HEa := Lib.hid (st_enter a)
  have HEb := Lib.hid (st_enter b)
  have HIa : Hid (∀ x ∈ a.steps, Sp.inI x) := fun x hx => by have := steps_in ha x hx; unfold Sp.inI; omega
  have HIb : Hid (∀ x ∈ b.steps, Sp.inI x) := fun x hx => by have := steps_in hb x hx; unfold Sp.inI; omega
  have hpa := steps_pos a
  have hpb := steps_pos b
  have HJ1 : Hid (a.last = 6 ∨ b.last = 6 → Sp.Cond.joinS 8 a b = .one 6) := fun h => by unfold Sp.Cond.joinS; rw [show Sp.strong 8 = 6 from rfl, if_pos h]
  have HJ2 : Hid (¬ (a.last = 6 ∨ b.last = 6) → a.last = 5 → Sp.Cond.joinS 8 a b = b) := fun h h2 => by
    unfold Sp.Cond.joinS
    rw [show Sp.strong 8 = 6 from rfl, show Sp.weak 8 = 5 from rfl, if_neg h, if_pos h2]
  have HJ3 : Hid (¬ (a.last = 6 ∨ b.last = 6) → ¬ a.last = 5 → b.last = 5 → Sp.Cond.joinS 8 a b = a) := fun h h2 h3 => by
    unfold Sp.Cond.joinS
    rw [show Sp.strong 8 = 6 from rfl, show Sp.weak 8 = 5 from rfl, if_neg h, if_neg h2, if_pos h3]
  have HJ4 : Hid (¬ (a.last = 6 ∨ b.last = 6) → ¬ a.last = 5 → ¬ b.last = 5 → a.steps = b.steps → Sp.Cond.joinS 8 a b = a) := fun h h2 h3 h4 => by
    unfold Sp.Cond.joinS
    rw [show Sp.strong 8 = 6 from rfl, show Sp.weak 8 = 5 from rfl, if_neg h, if_neg h2, if_neg h3, if_pos h4]
  have HJ5 : Hid (¬ (a.last = 6 ∨ b.last = 6) → ¬ a.last = 5 → ¬ b.last = 5 → ¬ a.steps = b.steps → Sp.Cond.joinS 8 a b = .two 8 a b) := fun h h2 h3 h4 => by
    unfold Sp.Cond.joinS
    rw [show Sp.strong 8 = 6 from rfl, show Sp.weak 8 = 5 from rfl, if_neg h, if_neg h2, if_neg h3, if_neg h4]
  have HVa := Lib.hid (condV_eq a)
  have HVb := Lib.hid (condV_eq b)
  have HV2 : Hid (condV (.two 8 a b) = .iface 152 (.agg #[.int .i64 8, condV a, condV b])) := (rfl : _ = _)
  rw [HVa.out] at HIH1 HLa HV2
  rw [HVb.out] at HIH2 HLb HV2
  obtain ⟨xa, HXa⟩ : ∃ x, Hid (a.last = x) := ⟨_, rfl⟩
  obtain ⟨xb, HXb⟩ : ∃ x, Hid (b.last = x) := ⟨_, rfl⟩
  rw [HXa.out] at HLa HJ1 HJ2 HJ3 HJ4 HJ5
  rw [HXb.out] at HLb HJ1 HJ2 HJ3 HJ4 HJ5
  generalize stT a = Ta at *
  generalize stP a = pa at *
  generalize stF a = Fa at *
  generalize stT b = Tb at *
  generalize stP b = pb at *
  generalize stF b = Fb at *
  clear ha hb
  have hk0 := (Kept.refl w).alloc (.cells #[.int .i64 8, .iface T1 p1, .iface T2 p2] 152)
  have B0 := Blk.new w 152 #[.int .i64 8, .iface T1 p1, .iface T2 p2]
  obtain ⟨D, HD⟩ : ∃ D, Hid (w.heap.size = D) := ⟨_, rfl⟩
  obtain ⟨w1, HW1⟩ : ∃ w1, Hid (w.alloc (.cells #[.int .i64 8, .iface T1 p1, .iface T2 p2] 152) = w1) := ⟨_, rfl⟩
  rw [HW1.out] at hk0 B0
  rw [HD.out] at B0
  go_enter Tryd.func67, Tryd.ntmps67
  go_upto_region 16 with fail
  rw [HD.out, HW1.out]
  have hkd := (Kept.refl w1).drew
  have B1 := B0.kept hkd
  have hk1 := hk0.trans hkd
  go_wp2_with fail
  refine wp_region_held_drew (S := (fun w' => w'.cell? ⟨D, 0, none⟩ = some (.int .i64 8) ∧ w'.cell? ⟨D, 1, none⟩ = some (.iface T1 p1) ∧ w'.cell? ⟨D, 2, none⟩ = some (.iface T2 p2))) (by kernel_rfl) ⟨B1.cell 0, B1.cell 1, B1.cell 2⟩ (fun hHeld => ?_)
  obtain ⟨W0, HW0⟩ : ∃ x, Hid (w1.drew = x) := ⟨_, rfl⟩
  rw [HW0.out] at B1 hk1 hHeld
  rw [HW0.out]
  (refine take_val (i := 0) (v := .pointer (some ⟨D, 1, none⟩)) rfl rfl (by kernel_rfl) (by kernel_rfl) (by kernel_rfl) (fun _ _ _ h => h) rfl (by intro wq hq; (try go_split_ands); go_simp; try with_reducible rfl) (hHeld) ?_; try simp only [List.setIfInBounds_toArray, List.set_cons_zero, List.set_cons_succ])
  (refine take_val (i := 1) (v := .iface T1 p1) rfl rfl (by kernel_rfl) (by kernel_rfl) (by kernel_rfl) (fun _ _ _ h => h) rfl (by intro wq hq; (try go_split_ands); go_simp; try with_reducible rfl) (hHeld) ?_; try simp only [List.setIfInBounds_toArray, List.set_cons_zero, List.set_cons_succ])
  (refine take_val (i := 3) (v := .pointer (some ⟨D, 2, none⟩)) rfl rfl (by kernel_rfl) (by kernel_rfl) (by kernel_rfl) (fun _ _ _ h => h) rfl (by intro wq hq; (try go_split_ands); go_simp; try with_reducible rfl) (hHeld) ?_; try simp only [List.setIfInBounds_toArray, List.set_cons_zero, List.set_cons_succ])
  (refine take_val (i := 4) (v := .iface T2 p2) rfl rfl (by kernel_rfl) (by kernel_rfl) (by kernel_rfl) (fun _ _ _ h => h) rfl (by intro wq hq; (try go_split_ands); go_simp; try with_reducible rfl) (hHeld) ?_; try simp only [List.setIfInBounds_toArray, List.set_cons_zero, List.set_cons_succ])
  (refine wpAnyH_ready (rs := [2]) (by kernel_rfl) (by simp) ?_; refine AllReadyH.cons rfl (fun K hK => ?_) AllReadyH.nil; go_simp)
  refine (HIH1.out _).mono ?_; rintro e w2 ⟨rfl, hk2⟩
  replace B1 := B1.kept hk2
  replace hk1 := hk1.trans hk2
  (refine hK.out _ _ (⟨B1.cell 0, B1.cell 1, B1.cell 2⟩) (fun _ => ?_); clear hK K; try simp only [Act.put, List.setIfInBounds_toArray, List.set_cons_zero, List.set_cons_succ])
  (refine wpAnyH_ready (rs := [5]) (by kernel_rfl) (by simp) ?_; refine AllReadyH.cons rfl (fun K hK => ?_) AllReadyH.nil; go_simp)
  refine (HIH2.out _).mono ?_; rintro e w3 ⟨rfl, hk3⟩
  replace B1 := B1.kept hk3
  replace hk1 := hk1.trans hk3
  (refine hK.out _ _ (⟨B1.cell 0, B1.cell 1, B1.cell 2⟩) (fun _ => ?_); clear hK K; try simp only [Act.put, List.setIfInBounds_toArray, List.set_cons_zero, List.set_cons_succ])
  (refine take_val (i := 6) (v := .iface Ta pa) rfl rfl (by kernel_rfl) (by kernel_rfl) (by kernel_rfl) (fun _ _ _ h => h) rfl (by intro wq hq; (try go_split_ands); go_simp; try with_reducible rfl) (⟨B1.cell 0, B1.cell 1, B1.cell 2⟩) ?_; try simp only [List.setIfInBounds_toArray, List.set_cons_zero, List.set_cons_succ])
  (refine take_val (i := 7) (v := .iface Tb pb) rfl rfl (by kernel_rfl) (by kernel_rfl) (by kernel_rfl) (fun _ _ _ h => h) rfl (by intro wq hq; (try go_split_ands); go_simp; try with_reducible rfl) (⟨B1.cell 0, B1.cell 1, B1.cell 2⟩) ?_; try simp only [List.setIfInBounds_toArray, List.set_cons_zero, List.set_cons_succ])
  refine wpAnyH_done (by kernel_rfl) ?_ _
  clear hHeld hk2 hk3 hkd B0
  have c0 := B1.cell
  go_wp2_with fail
  refine (HLa.out _).mono ?_; rintro e w4 ⟨rfl, hk4⟩
  replace B1 := B1.kept hk4
  replace hk1 := hk1.trans hk4
  clear c0 hk4
  have c0 := B1.cell
  by_cases h1 : xa = 6
  · subst h1
    have HE := Lib.hid (HJ1.out (.inl rfl))
    go_wp2_with fail
    go_ret
    exact ⟨by rw [HE.out]; rfl, hk1⟩
  have h1f : (xa == 6) = false := beq_eq_false_iff_ne.2 h1
  go_wp2_with fail
  refine (HLb.out _).mono ?_; rintro e w5 ⟨rfl, hk5⟩
  replace B1 := B1.kept hk5
  replace hk1 := hk1.trans hk5
  clear c0 hk5
  have c0 := B1.cell
  by_cases h2 : xb = 6
  · subst h2
    have HE := Lib.hid (HJ1.out (.inr rfl))
    go_wp2_with fail
    go_ret
    exact ⟨by rw [HE.out]; rfl, hk1⟩
  have h2f : (xb == 6) = false := beq_eq_false_iff_ne.2 h2
  have HN : Hid (¬ (xa = 6 ∨ xb = 6)) := fun h => h.elim h1 h2
  go_wp2_with fail
  refine (HLa.out _).mono ?_; rintro e w6 ⟨rfl, hk6⟩
  replace B1 := B1.kept hk6
  replace hk1 := hk1.trans hk6
  clear c0 hk6
  have c0 := B1.cell
  by_cases h3 : xa = 5
  · subst h3
    have HE := Lib.hid (HJ2.out HN.out rfl)
    go_wp2_with fail
    go_ret
    exact ⟨by rw [HE.out, HVb.out]; rfl, hk1⟩
  have h3f : (xa == 5) = false := beq_eq_false_iff_ne.2 h3
  go_wp2_with fail
  refine (HLb.out _).mono ?_; rintro e w7 ⟨rfl, hk7⟩
  replace B1 := B1.kept hk7
  replace hk1 := hk1.trans hk7
  clear c0 hk7
  have c0 := B1.cell
  by_cases h4 : xb = 5
  · subst h4
    have HE := Lib.hid (HJ3.out HN.out h3 rfl)
    go_wp2_with fail
    go_ret
    exact ⟨by rw [HE.out, HVa.out]; rfl, hk1⟩
  have h4f : (xb == 5) = false := beq_eq_false_iff_ne.2 h4
  have hMa := HMa.out
  have hEa := HEa.out
  have hMb := HMb.out
  have hEb := HEb.out
  go_wp2_with fail
  refine (HSa.out _).mono ?_; rintro e w8 ⟨v, rfl, ⟨A1, n1, c1, rfl, hln1, hown1⟩, hk8⟩
  have hI1 := own_ints2 (by omega) hown1 HIa.out
  replace B1 := B1.kept hk8
  replace hk1 := hk1.trans hk8
  clear c0 hk8 hown1
  have c0 := B1.cell
  go_wp2_with fail
  refine (HSb.out _).mono ?_; rintro e w9 ⟨v, rfl, ⟨A2, n2, c2, rfl, hln2, hown2⟩, hk9⟩
  have hI2 := own_ints2 (by omega) hown2 HIb.out
  replace hI1 := hI1.keep hk9
  replace B1 := B1.kept hk9
  replace hk1 := hk1.trans hk9
  clear c0 hk9 hown2
  have c0 := B1.cell
  go_wp2_with fail
  refine (c_Equal A1 A2 n1 n2 c1 c2 a.steps b.steps _ hI1 hI2 (by omega) (by omega)).mono ?_; rintro e w10 ⟨rfl, hk10⟩
  replace B1 := B1.kept hk10
  replace hk1 := hk1.trans hk10
  clear c0 hk10
  have c0 := B1.cell
  by_cases h5 : a.steps = b.steps
  · have h5t : (a.steps == b.steps) = true := beq_iff_eq.2 h5
    have HE := Lib.hid (HJ4.out HN.out h3 h4 h5)
    rw [h5t]
    clear h5 h5t
    go_wp2_with fail
    go_ret
    exact ⟨by rw [HE.out, HVa.out]; rfl, hk1⟩
  · have h5t : (a.steps == b.steps) = false := beq_eq_false_iff_ne.2 h5
    have HE := Lib.hid (HJ5.out HN.out h3 h4 h5)
    rw [h5t]
    clear h5 h5t
    go_wp2_with fail
    go_ret
    exact ⟨by rw [HE.out, HV2.out]; rfl, hk1⟩

set_option maxHeartbeats 8000000 in
set_option maxRecDepth 100000 in
theorem c_joinOr (d1 d2 a b : Sp.Cond) (w : World) (ha : a.ok) (hb : b.ok) (hla : a.steps.length ≤ 40) (hlb : b.steps.length ≤ 40)
    (ih1 : ∀ w : World, Calls Tryd.prog 67 #[condV d1] w (RetK (condV a) w)) (ih2 : ∀ w : World, Calls Tryd.prog 67 #[condV d2] w (RetK (condV b) w)) :
    Calls Tryd.prog 67 #[.iface 152 (.agg #[.int .i64 9, condV d1, condV d2])] w (RetK (condV (Sp.Cond.joinS 9 a b)) w) := by
  have hJT := no_JT
  have hJ := is_J
  have HIH1 := Lib.hid ih1
  have HIH2 := Lib.hid ih2
  clear ih1 ih2
  obtain ⟨T1, p1, e1⟩ := condV_form d1
  obtain ⟨T2, p2, e2⟩ := condV_form d2
  rw [e1] at HIH1 ⊢
  rw [e2] at HIH2 ⊢
  clear e1 e2
  have HLa := Lib.hid (fun w => c_lastStep a w)
  have HLb := Lib.hid (fun w => c_lastStep b w)
  have HSa := Lib.hid (c_steps a ha hla)
  have HSb := Lib.hid (c_steps b hb hlb)
  have HMa := Lib.hid (st_meth a)
  have HMb := Lib.hid (st_meth b)
  have HEa := Lib.hid (st_enter a)
  have HEb := Lib.hid (st_enter b)
  have HIa : Hid (∀ x ∈ a.steps, Sp.inI x) := fun x hx => by have := steps_in ha x hx; unfold Sp.inI; omega
  have HIb : Hid (∀ x ∈ b.steps, Sp.inI x) := fun x hx => by have := steps_in hb x hx; unfold Sp.inI; omega
  have hpa := steps_pos a
  have hpb := steps_pos b
  have HJ1 : Hid (a.last = 5 ∨ b.last = 5 → Sp.Cond.joinS 9 a b = .one 5) := fun h => by unfold Sp.Cond.joinS; rw [show Sp.strong 9 = 5 from rfl, if_pos h]
  have HJ2 : Hid (¬ (a.last = 5 ∨ b.last = 5) → a.last = 6 → Sp.Cond.joinS 9 a b = b) := fun h h2 => by
    unfold Sp.Cond.joinS
    rw [show Sp.strong 9 = 5 from rfl, show Sp.weak 9 = 6 from rfl, if_neg h, if_pos h2]
  have HJ3 : Hid (¬ (a.last = 5 ∨ b.last = 5) → ¬ a.last = 6 → b.last = 6 → Sp.Cond.joinS 9 a b = a) := fun h h2 h3 => by
    unfold Sp.Cond.joinS
    rw [show Sp.strong 9 = 5 from rfl, show Sp.weak 9 = 6 from rfl, if_neg h, if_neg h2, if_pos h3]
  have HJ4 : Hid (¬ (a.last = 5 ∨ b.last = 5) → ¬ a.last = 6 → ¬ b.last = 6 → a.steps = b.steps → Sp.Cond.joinS 9 a b = a) := fun h h2 h3 h4 => by
    unfold Sp.Cond.joinS
    rw [show Sp.strong 9 = 5 from rfl, show Sp.weak 9 = 6 from rfl, if_neg h, if_neg h2, if_neg h3, if_pos h4]
  have HJ5 : Hid (¬ (a.last = 5 ∨ b.last = 5) → ¬ a.last = 6 → ¬ b.last = 6 → ¬ a.steps = b.steps → Sp.Cond.joinS 9 a b = .two 9 a b) := fun h h2 h3 h4 => by
    unfold Sp.Cond.joinS
    rw [show Sp.strong 9 = 5 from rfl, show Sp.weak 9 = 6 from rfl, if_neg h, if_neg h2, if_neg h3, if_neg h4]
  have HVa := Lib.hid (condV_eq a)
  have HVb := Lib.hid (condV_eq b)
  have HV2 : Hid (condV (.two 9 a b) = .iface 152 (.agg #[.int .i64 9, condV a, condV b])) := (rfl : _ = _)
  rw [HVa.out] at HIH1 HLa HV2
  rw [HVb.out] at HIH2 HLb HV2
  obtain ⟨xa, HXa⟩ : ∃ x, Hid (a.last = x) := ⟨_, rfl⟩
  obtain ⟨xb, HXb⟩ : ∃ x, Hid (b.last = x) := ⟨_, rfl⟩
  rw [HXa.out] at HLa HJ1 HJ2 HJ3 HJ4 HJ5
  rw [HXb.out] at HLb HJ1 HJ2 HJ3 HJ4 HJ5
  generalize stT a = Ta at *
  generalize stP a = pa at *
  generalize stF a = Fa at *
  generalize stT b = Tb at *
  generalize stP b = pb at *
  generalize stF b = Fb at *
  clear ha hb
  have hk0 := (Kept.refl w).alloc (.cells #[.int .i64 9, .iface T1 p1, .iface T2 p2] 152)
  have B0 := Blk.new w 152 #[.int .i64 9, .iface T1 p1, .iface T2 p2]
  obtain ⟨D, HD⟩ : ∃ D, Hid (w.heap.size = D) := ⟨_, rfl⟩
  obtain ⟨w1, HW1⟩ : ∃ w1, Hid (w.alloc (.cells #[.int .i64 9, .iface T1 p1, .iface T2 p2] 152) = w1) := ⟨_, rfl⟩
  rw [HW1.out] at hk0 B0
  rw [HD.out] at B0
  go_enter Tryd.func67, Tryd.ntmps67
  go_upto_region 16 with fail
  rw [HD.out, HW1.out]
  have hkd := (Kept.refl w1).drew
  have B1 := B0.kept hkd
  have hk1 := hk0.trans hkd
  go_wp2_with fail
  refine wp_region_held_drew (S := (fun w' => w'.cell? ⟨D, 0, none⟩ = some (.int .i64 9) ∧ w'.cell? ⟨D, 1, none⟩ = some (.iface T1 p1) ∧ w'.cell? ⟨D, 2, none⟩ = some (.iface T2 p2))) (by kernel_rfl) ⟨B1.cell 0, B1.cell 1, B1.cell 2⟩ (fun hHeld => ?_)
  obtain ⟨W0, HW0⟩ : ∃ x, Hid (w1.drew = x) := ⟨_, rfl⟩
  rw [HW0.out] at B1 hk1 hHeld
  rw [HW0.out]
  (refine take_val (i := 0) (v := .pointer (some ⟨D, 1, none⟩)) rfl rfl (by kernel_rfl) (by kernel_rfl) (by kernel_rfl) (fun _ _ _ h => h) rfl (by intro wq hq; (try go_split_ands); go_simp; try with_reducible rfl) (hHeld) ?_; try simp only [List.setIfInBounds_toArray, List.set_cons_zero, List.set_cons_succ])
  (refine take_val (i := 1) (v := .iface T1 p1) rfl rfl (by kernel_rfl) (by kernel_rfl) (by kernel_rfl) (fun _ _ _ h => h) rfl (by intro wq hq; (try go_split_ands); go_simp; try with_reducible rfl) (hHeld) ?_; try simp only [List.setIfInBounds_toArray, List.set_cons_zero, List.set_cons_succ])
  (refine take_val (i := 3) (v := .pointer (some ⟨D, 2, none⟩)) rfl rfl (by kernel_rfl) (by kernel_rfl) (by kernel_rfl) (fun _ _ _ h => h) rfl (by intro wq hq; (try go_split_ands); go_simp; try with_reducible rfl) (hHeld) ?_; try simp only [List.setIfInBounds_toArray, List.set_cons_zero, List.set_cons_succ])
  (refine take_val (i := 4) (v := .iface T2 p2) rfl rfl (by kernel_rfl) (by kernel_rfl) (by kernel_rfl) (fun _ _ _ h => h) rfl (by intro wq hq; (try go_split_ands); go_simp; try with_reducible rfl) (hHeld) ?_; try simp only [List.setIfInBounds_toArray, List.set_cons_zero, List.set_cons_succ])
  (refine wpAnyH_ready (rs := [2]) (by kernel_rfl) (by simp) ?_; refine AllReadyH.cons rfl (fun K hK => ?_) AllReadyH.nil; go_simp)
  refine (HIH1.out _).mono ?_; rintro e w2 ⟨rfl, hk2⟩
  replace B1 := B1.kept hk2
  replace hk1 := hk1.trans hk2
  (refine hK.out _ _ (⟨B1.cell 0, B1.cell 1, B1.cell 2⟩) (fun _ => ?_); clear hK K; try simp only [Act.put, List.setIfInBounds_toArray, List.set_cons_zero, List.set_cons_succ])
  (refine wpAnyH_ready (rs := [5]) (by kernel_rfl) (by simp) ?_; refine AllReadyH.cons rfl (fun K hK => ?_) AllReadyH.nil; go_simp)
  refine (HIH2.out _).mono ?_; rintro e w3 ⟨rfl, hk3⟩
  replace B1 := B1.kept hk3
  replace hk1 := hk1.trans hk3
  (refine hK.out _ _ (⟨B1.cell 0, B1.cell 1, B1.cell 2⟩) (fun _ => ?_); clear hK K; try simp only [Act.put, List.setIfInBounds_toArray, List.set_cons_zero, List.set_cons_succ])
  (refine take_val (i := 6) (v := .iface Ta pa) rfl rfl (by kernel_rfl) (by kernel_rfl) (by kernel_rfl) (fun _ _ _ h => h) rfl (by intro wq hq; (try go_split_ands); go_simp; try with_reducible rfl) (⟨B1.cell 0, B1.cell 1, B1.cell 2⟩) ?_; try simp only [List.setIfInBounds_toArray, List.set_cons_zero, List.set_cons_succ])
  (refine take_val (i := 7) (v := .iface Tb pb) rfl rfl (by kernel_rfl) (by kernel_rfl) (by kernel_rfl) (fun _ _ _ h => h) rfl (by intro wq hq; (try go_split_ands); go_simp; try with_reducible rfl) (⟨B1.cell 0, B1.cell 1, B1.cell 2⟩) ?_; try simp only [List.setIfInBounds_toArray, List.set_cons_zero, List.set_cons_succ])
  refine wpAnyH_done (by kernel_rfl) ?_ _
  clear hHeld hk2 hk3 hkd B0
  have c0 := B1.cell
  go_wp2_with fail
  refine (HLa.out _).mono ?_; rintro e w4 ⟨rfl, hk4⟩
  replace B1 := B1.kept hk4
  replace hk1 := hk1.trans hk4
  clear c0 hk4
  have c0 := B1.cell
  by_cases h1 : xa = 5
  · subst h1
    have HE := Lib.hid (HJ1.out (.inl rfl))
    go_wp2_with fail
    go_ret
    exact ⟨by rw [HE.out]; rfl, hk1⟩
  have h1f : (xa == 5) = false := beq_eq_false_iff_ne.2 h1
  go_wp2_with fail
  refine (HLb.out _).mono ?_; rintro e w5 ⟨rfl, hk5⟩
  replace B1 := B1.kept hk5
  replace hk1 := hk1.trans hk5
  clear c0 hk5
  have c0 := B1.cell
  by_cases h2 : xb = 5
  · subst h2
    have HE := Lib.hid (HJ1.out (.inr rfl))
    go_wp2_with fail
    go_ret
    exact ⟨by rw [HE.out]; rfl, hk1⟩
  have h2f : (xb == 5) = false := beq_eq_false_iff_ne.2 h2
  have HN : Hid (¬ (xa = 5 ∨ xb = 5)) := fun h => h.elim h1 h2
  go_wp2_with fail
  refine (HLa.out _).mono ?_; rintro e w6 ⟨rfl, hk6⟩
  replace B1 := B1.kept hk6
  replace hk1 := hk1.trans hk6
  clear c0 hk6
  have c0 := B1.cell
  by_cases h3 : xa = 6
  · subst h3
    have HE := Lib.hid (HJ2.out HN.out rfl)
    go_wp2_with fail
    go_ret
    exact ⟨by rw [HE.out, HVb.out]; rfl, hk1⟩
  have h3f : (xa == 6) = false := beq_eq_false_iff_ne.2 h3
  go_wp2_with fail
  refine (HLb.out _).mono ?_; rintro e w7 ⟨rfl, hk7⟩
  replace B1 := B1.kept hk7
  replace hk1 := hk1.trans hk7
  clear c0 hk7
  have c0 := B1.cell
  by_cases h4 : xb = 6
  · subst h4
    have HE := Lib.hid (HJ3.out HN.out h3 rfl)
    go_wp2_with fail
    go_ret
    exact ⟨by rw [HE.out, HVa.out]; rfl, hk1⟩
  have h4f : (xb == 6) = false := beq_eq_false_iff_ne.2 h4
  have hMa := HMa.out
  have hEa := HEa.out
  have hMb := HMb.out
  have hEb := HEb.out
  go_wp2_with fail
  refine (HSa.out _).mono ?_; rintro e w8 ⟨v, rfl, ⟨A1, n1, c1, rfl, hln1, hown1⟩, hk8⟩
  have hI1 := own_ints2 (by omega) hown1 HIa.out
  replace B1 := B1.kept hk8
  replace hk1 := hk1.trans hk8
  clear c0 hk8 hown1
  have c0 := B1.cell
  go_wp2_with fail
  refine (HSb.out _).mono ?_; rintro e w9 ⟨v, rfl, ⟨A2, n2, c2, rfl, hln2, hown2⟩, hk9⟩
  have hI2 := own_ints2 (by omega) hown2 HIb.out
  replace hI1 := hI1.keep hk9
  replace B1 := B1.kept hk9
  replace hk1 := hk1.trans hk9
  clear c0 hk9 hown2
  have c0 := B1.cell
  go_wp2_with fail
  refine (c_Equal A1 A2 n1 n2 c1 c2 a.steps b.steps _ hI1 hI2 (by omega) (by omega)).mono ?_; rintro e w10 ⟨rfl, hk10⟩
  replace B1 := B1.kept hk10
  replace hk1 := hk1.trans hk10
  clear c0 hk10
  have c0 := B1.cell
  by_cases h5 : a.steps = b.steps
  · have h5t : (a.steps == b.steps) = true := beq_iff_eq.2 h5
    have HE := Lib.hid (HJ4.out HN.out h3 h4 h5)
    rw [h5t]
    clear h5 h5t
    go_wp2_with fail
    go_ret
    exact ⟨by rw [HE.out, HVa.out]; rfl, hk1⟩
  · have h5t : (a.steps == b.steps) = false := beq_eq_false_iff_ne.2 h5
    have HE := Lib.hid (HJ5.out HN.out h3 h4 h5)
    rw [h5t]
    clear h5 h5t
    go_wp2_with fail
    go_ret
    exact ⟨by rw [HE.out, HV2.out]; rfl, hk1⟩

theorem c_simpler (d : Sp.Cond) : d.ok → d.steps.length ≤ 40 → ∀ w : World, Calls Tryd.prog 67 #[condV d] w (RetK (condV d.simple) w) := by
  induction d with
  | one s => intro _ _ w; exact c_simpOne s w
  | neg c ih =>
    intro hd hl w
    have hl' : c.steps.length + 1 ≤ 40 := by simp [Sp.Cond.steps] at hl; omega
    have ih' := ih hd (by omega)
    have hok := (simple_facts c hd).1
    obtain ⟨T1, p1, e1⟩ := condV_form c
    rw [e1] at ih'
    show Calls Tryd.prog 67 #[.iface 148 (.agg #[condV c])] w (RetK (condV c.simple.notS) w)
    rw [e1]
    cases hs : c.simple with
    | one s =>
      rw [hs] at ih' hok
      exact c_notOne s w hok.1 hok.2 T1 p1 ih'
    | neg q =>
      rw [hs] at ih'
      exact c_notNeg q w T1 p1 ih'
    | two s l h =>
      rw [hs] at ih'
      exact c_notTwo s l h w T1 p1 ih'
  | two s l r ihl ihr =>
    intro hd hl w
    obtain ⟨hs, hdl, hdr⟩ := hd
    have hl' : l.steps.length + r.steps.length + 1 ≤ 40 := by simp [Sp.Cond.steps] at hl; omega
    obtain ⟨a1, _, a3⟩ := simple_facts l hdl
    obtain ⟨b1, _, b3⟩ := simple_facts r hdr
    rcases hs with rfl | rfl
    · exact c_joinAnd l r l.simple r.simple w a1 b1 (by omega) (by omega) (ihl hdl (by omega)) (ihr hdr (by omega))
    · exact c_joinOr l r l.simple r.simple w a1 b1 (by omega) (by omega) (ihl hdl (by omega)) (ihr hdr (by omega))

/-- an own row with these integers, to be read -/
def IntsQ (l : List Int) (v : Value) (w : World) : Prop := ∃ (A : Option Addr) (n c : Nat), v = .slice A n c ∧ Ints w A n l

set_option maxHeartbeats 2000000 in
set_option maxRecDepth 100000 in
theorem c_iCodeSimple (A : Option Addr) (n c : Nat) (l : List Int) (w : World) (h : Ints w A n l) : Calls Tryd.prog 26 #[.slice A n c] w (RetS (IntsQ (Sp.simpleCode l)) w) := by
  cases hc : Sp.codeOk l
  · have HT : Hid (Sp.simpleCode l = []) := by show _ = _; unfold Sp.simpleCode; rw [if_neg (by rw [hc]; decide)]
    have HO := Lib.hid hc
    clear hc
    go_enter Tryd.func26, Tryd.ntmps26
    go_wp2_with fail
    refine (c_iCodeValid A n c l w h).mono ?_; rintro e w2 ⟨rfl, rfl⟩
    rw [HO.out]
    go_wp2_with fail
    go_ret
    exact ⟨_, rfl, ⟨none, 0, 0, rfl, by rw [HT.out]; exact own_ints2 (X := 0) (c := 0) (by omega) (World.ownsRow_nil _ _ _ _) (fun x hx => by cases hx)⟩, Kept.refl _⟩
  · have HT : Hid (Sp.simpleCode l = (Sp.treeOf l).simple.steps) := by show _ = _; unfold Sp.simpleCode; rw [if_pos hc]
    have HO := Lib.hid hc
    obtain ⟨_, ht2, ht3, _⟩ := tree_code hc
    have hl := (codeOk_len hc).2
    rw [← ht3] at hl
    have H2 := Lib.hid (And.intro ht2 hl)
    obtain ⟨s1, _, s3⟩ := simple_facts _ ht2
    have HS1 := Lib.hid s1
    have hl3 : (Sp.treeOf l).simple.steps.length ≤ 40 := by omega
    have HST := Lib.hid (c_steps _ s1 hl3)
    have HVV := Lib.hid (condV_eq (Sp.treeOf l).simple)
    have HM := Lib.hid (st_meth (Sp.treeOf l).simple)
    have HE := Lib.hid (st_enter (Sp.treeOf l).simple)
    clear hc ht2 ht3 hl s1 s3
    go_enter Tryd.func26, Tryd.ntmps26
    go_wp2_with fail
    refine (c_iCodeValid A n c l w h).mono ?_; rintro e w2 ⟨rfl, rfl⟩
    rw [HO.out]
    go_wp2_with fail
    refine (c_conditionOf A n c l _ h HO.out).mono ?_; rintro e w3 ⟨rfl, hk3⟩
    go_wp2_with fail
    refine (c_simpler _ H2.out.1 H2.out.2 _).mono ?_; rintro e w4 ⟨rfl, hk4⟩
    have HIn : Hid (∀ x ∈ (Sp.treeOf l).simple.steps, Sp.inI x) := fun x hx => by have := steps_in HS1.out x hx; unfold Sp.inI; omega
    rw [HVV.out]
    have hM := HM.out
    have hE := HE.out
    obtain ⟨L, HL⟩ : ∃ L, Hid ((Sp.treeOf l).simple.steps = L) := ⟨_, rfl⟩
    rw [HL.out] at HST HT HIn hl3
    generalize stT (Sp.treeOf l).simple = T1 at *
    generalize stP (Sp.treeOf l).simple = p1 at *
    generalize stF (Sp.treeOf l).simple = F1 at *
    go_wp2_with fail
    refine (HST.out _).mono ?_; rintro e w5 ⟨v, rfl, ⟨A1, n1, c1, rfl, hln1, hown1⟩, hk5⟩
    have hI1 := own_ints2 (by omega) hown1 HIn.out
    have HI1 := Lib.hid hI1
    clear hI1 hown1
    go_wp2_with fail
    go_ret
    exact ⟨_, rfl, ⟨A1, n1, c1, rfl, by rw [HT.out]; exact HI1.out⟩, (hk3.trans hk4).trans hk5⟩

end Go.Proofs.YtphdojebdclonaaDoor
