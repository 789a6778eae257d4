/- Joined texts. No condition. -/
import Derived.Test.YtphdojebdclonaaDoorQ35
import Derived.Test.YtphdojebdclonaaDoorQ36
import Derived.Test.YtphdojebdclonaaDoorQ32
/- The program's conditions: their steps, by methods called through the interface. No condition. -/
namespace Go.Proofs.YtphdojebdclonaaDoor
set_option linter.unusedSimpArgs false
set_option linter.unusedVariables false
open Go.RowKit

theorem blk_oneK {w : World} {E : Nat} {x : Int} (h : Blk w E 3 #[.int .i64 x]) (hx : -9223372036854775808 ≤ x ∧ x ≤ 9223372036854775807) : Ints w (some ⟨E, 0, none⟩) 1 [x] :=
  ⟨rfl, by unfold maxLen; omega, fun y hy => by rw [List.mem_singleton] at hy; subst hy; exact hx, fun _ => ⟨E, 0, rfl, h.lt, fun k hk => by
    obtain rfl : k = 0 := by omega
    exact h.cell 0⟩⟩
/-- a condition's dynamic type, what it holds, the method that is run -/
def stT : Sp.Cond → TypeId
  | .one _ => 150
  | .neg _ => 148
  | .two _ _ _ => 152
def stP : Sp.Cond → Value
  | .one s => .agg #[.int .i64 s]
  | .neg c => .agg #[condV c]
  | .two s l h => .agg #[.int .i64 s, condV l, condV h]
def stF : Sp.Cond → FuncId
  | .one _ => 206
  | .neg _ => 205
  | .two _ _ _ => 207
theorem condV_eq (c : Sp.Cond) : condV c = .iface (stT c) (stP c) := by cases c <;> rfl
theorem st_meth (c : Sp.Cond) (w : World) : (Go.method 343 (stT c) (stP c) "loop.example/switchpuzzles/impl.steps").run Tryd.prog w = .ok (stF c, stP c) w := by
  cases c <;> kernel_rfl
theorem st_enter (c : Sp.Cond) (args : Array Value) (w : World) : (callFunc (stF c) args).run Tryd.prog w = .ok (.enter (stF c) args) w := by
  cases c <;> kernel_rfl
/-- an own row with these integers -/
def StepQ (l : List Int) (X : Nat) (v : Value) (w : World) : Prop := ∃ (A : Option Addr) (n c : Nat), v = .slice A n c ∧ l.length = n ∧ w.ownsRow X 3 1 (.slice A n c) n (l.map (Value.int .i64))

set_option maxHeartbeats 1000000 in
set_option maxRecDepth 100000 in
theorem c_stOne (s : Int) (w : World) : Calls Tryd.prog 206 #[.agg #[.int .i64 s]] w (RetS (StepQ [s] w.heap.size) w) := by
  have hk0 := (Kept.refl w).alloc (.cells #[.int .i64 s] 150)
  have B0 := Blk.new w 150 #[.int .i64 s]
  obtain ⟨w1, HW1⟩ : ∃ x, Hid (w.alloc (.cells #[.int .i64 s] 150) = x) := ⟨_, rfl⟩
  rw [HW1.out] at hk0 B0
  have c0 := B0.cell 0
  have hown := own_new (X := w.heap.size) w1 [.int .i64 s] 3 hk0.size (by show 1 ≤ maxLen; unfold maxLen; omega)
  have hk1 := hk0.alloc (.cells #[.int .i64 s] 3)
  have HO := Lib.hid hown
  clear hown
  go_enter Tryd.func206, Tryd.ntmps206
  go_upto_region 1 with fail
  rw [HW1.out]
  go_wp2_with fail
  go_ret
  exact ⟨_, rfl, ⟨_, 1, _, rfl, rfl, HO.out⟩, hk1⟩

set_option maxHeartbeats 2000000 in
set_option maxRecDepth 100000 in
theorem c_stTurned (T1 : TypeId) (p1 : Value) (F1 : FuncId) (l1 : List Int) (w : World) (hl : l1.length ≤ 1000)
    (hm : ∀ w : World, (Go.method 343 T1 p1 "loop.example/switchpuzzles/impl.steps").run Tryd.prog w = .ok (F1, p1) w) (hc : ∀ (args : Array Value) (w : World), (callFunc F1 args).run Tryd.prog w = .ok (.enter F1 args) w)
    (ih : ∀ w : World, Calls Tryd.prog F1 #[p1] w (RetS (StepQ l1 w.heap.size) w)) :
    Calls Tryd.prog 205 #[.agg #[.iface T1 p1]] w (RetS (StepQ (l1 ++ [7]) w.heap.size) w) := by
  obtain ⟨i0, hi0, hz0, hz1, hz2⟩ := info_parts info_int
  have HI := Lib.hid (And.intro hi0 (And.intro hz0 (And.intro hz1 hz2)))
  clear hi0 hz0 hz1 hz2
  have HIH := Lib.hid ih
  have hk0 := (Kept.refl w).alloc (.cells #[.iface T1 p1] 148)
  have B0 := Blk.new w 148 #[.iface T1 p1]
  obtain ⟨w1, HW1⟩ : ∃ x, Hid (w.alloc (.cells #[.iface T1 p1] 148) = x) := ⟨_, rfl⟩
  rw [HW1.out] at hk0 B0
  have c0 := B0.cell 0
  clear ih
  go_enter Tryd.func205, Tryd.ntmps205
  go_upto_region 1 with fail
  rw [HW1.out]
  go_wp2_with fail
  refine (HIH.out w1).mono ?_; rintro e w2 ⟨v, rfl, ⟨A, n, c, rfl, hln, hown⟩, hk2⟩
  have hkp := hk0.trans hk2
  have hsz := hkp.size
  replace hown := ownsRow_mono hown hk0.size
  clear c0
  go_wp2_with (first | (at_builtin; refine wpList_append_own _ rfl (.tmp 5) (.tmp 6) 23 rfl (w.heap.size) 3 i0 (.int .i64 0) 1 8 Tryd.underlying23 HI.out.1 HI.out.2.1 HI.out.2.2.1 HI.out.2.2.2 rfl (by decide) (.slice A n c) n _ rfl (hown.alloc _) ⟨w2.heap.size, 0, none⟩ 1 1 [.int .i64 (7)] rfl rfl (one_new _ _ _) (by simp [Value.oneCell']) (by unfold maxLen; omega) (by omega) (by simp; omega) ?_; intro v' wapp hown2 hg2 _))
  obtain ⟨A5, c5, rfl⟩ := own_form hown2
  have hk5 : Kept w wapp := (hkp.alloc _).grown hg2 (fun k e => (World.ownsRow.lt hown k e).1)
  go_wp2_with fail
  go_ret
  exact ⟨_, rfl, ⟨A5, n + 1, c5, rfl, by simp; omega, by rw [List.map_append]; exact hown2⟩, hk5⟩

/-- from a world on, whose memory has so many blocks at least -/
structure Up (X : Nat) (w w' : World) : Prop where
  base : X ≤ w.heap.size
  kept : Kept w w'
theorem Up.size {X : Nat} {w w' : World} (h : Up X w w') : X ≤ w'.heap.size := Nat.le_trans h.base h.kept.size
theorem Up.trans {X : Nat} {w w' w2 : World} (h : Up X w w') (hk : Kept w' w2) : Up X w w2 := ⟨h.base, h.kept.trans hk⟩

theorem steps_in {c : Sp.Cond} (h : c.ok) : ∀ x ∈ c.steps, 0 ≤ x ∧ x ≤ 9 := by
  induction c with
  | one s => intro x hx; simp only [Sp.Cond.steps, List.mem_singleton] at hx; subst hx; have := h.1; have := h.2; omega
  | neg c ih =>
    intro x hx
    simp only [Sp.Cond.steps, List.mem_append, List.mem_singleton] at hx
    rcases hx with hx | hx
    · exact ih h x hx
    · omega
  | two s l r ihl ihr =>
    intro x hx
    simp only [Sp.Cond.steps, List.mem_append, List.mem_singleton] at hx
    rcases hx with (hx | hx) | hx
    · exact ihl h.2.1 x hx
    · exact ihr h.2.2 x hx
    · have := h.1; omega

set_option maxHeartbeats 8000000 in
set_option maxRecDepth 100000 in
theorem c_stJoined (T1 T2 : TypeId) (p1 p2 : Value) (F1 F2 : FuncId) (l1 l2 : List Int) (s : Int) (w : World) (hl1 : l1.length ≤ 1000) (hl2 : l2.length ≤ 1000) (hr1 : ∀ x ∈ l1, Sp.inI x) (hr2 : ∀ x ∈ l2, Sp.inI x) (hs0 : 0 ≤ s) (hs9 : s ≤ 9)
    (hm1 : ∀ w : World, (Go.method 343 T1 p1 "loop.example/switchpuzzles/impl.steps").run Tryd.prog w = .ok (F1, p1) w) (hc1 : ∀ (args : Array Value) (w : World), (callFunc F1 args).run Tryd.prog w = .ok (.enter F1 args) w)
    (hm2 : ∀ w : World, (Go.method 343 T2 p2 "loop.example/switchpuzzles/impl.steps").run Tryd.prog w = .ok (F2, p2) w) (hc2 : ∀ (args : Array Value) (w : World), (callFunc F2 args).run Tryd.prog w = .ok (.enter F2 args) w)
    (ih1 : ∀ w : World, Calls Tryd.prog F1 #[p1] w (RetS (StepQ l1 w.heap.size) w)) (ih2 : ∀ w : World, Calls Tryd.prog F2 #[p2] w (RetS (StepQ l2 w.heap.size) w)) :
    Calls Tryd.prog 207 #[.agg #[.int .i64 s, .iface T1 p1, .iface T2 p2]] w (RetS (StepQ (l1 ++ l2 ++ [s]) w.heap.size) w) := by
  obtain ⟨i0, hi0, hz0, hz1, hz2⟩ := info_parts info_int
  have HI := Lib.hid (And.intro hi0 (And.intro hz0 (And.intro hz1 hz2)))
  clear hi0 hz0 hz1 hz2
  have HIH1 := Lib.hid ih1
  have HIH2 := Lib.hid ih2
  have HR1 := Lib.hid hr1
  have HR2 := Lib.hid hr2
  clear ih1 ih2 hr1 hr2
  have hka := (Kept.refl w).alloc (.cells #[.int .i64 s, .iface T1 p1, .iface T2 p2] 152)
  have B0 := Blk.new w 152 #[.int .i64 s, .iface T1 p1, .iface T2 p2]
  have hsz1 : (w.alloc (.cells #[.int .i64 s, .iface T1 p1, .iface T2 p2] 152)).heap.size = w.heap.size + 1 := by simp
  obtain ⟨w1, HW1⟩ : ∃ x, Hid (w.alloc (.cells #[.int .i64 s, .iface T1 p1, .iface T2 p2] 152) = x) := ⟨_, rfl⟩
  rw [HW1.out] at hka B0 hsz1
  obtain ⟨D, HD⟩ : ∃ x, Hid (w.heap.size = x) := ⟨_, rfl⟩
  go_enter Tryd.func207, Tryd.ntmps207
  go_upto_region 1 with fail
  rw [HW1.out]
  have hkd := (Kept.refl w1).drew
  have hk0 := hka.trans hkd
  have BD0 := B0.kept hkd
  go_wp2_with fail
  refine wp_region_held_drew (S := fun w' => w'.cell? ⟨w.heap.size, 0, none⟩ = some (.int .i64 s) ∧ w'.cell? ⟨w.heap.size, 1, none⟩ = some (.iface T1 p1) ∧ w'.cell? ⟨w.heap.size, 2, none⟩ = some (.iface T2 p2)) (by kernel_rfl) ⟨BD0.cell 0, BD0.cell 1, BD0.cell 2⟩ (fun hHeld => ?_)
  obtain ⟨W0, HW0⟩ : ∃ x, Hid (w1.drew = x) := ⟨_, rfl⟩
  have hx0 : w.heap.size + 1 ≤ w1.drew.heap.size := by have := hkd.size; omega
  rw [HW0.out] at hkd hk0 BD0 hHeld hx0
  rw [HW0.out]
  have hx1 : Up (w.heap.size + 1) W0 W0 := ⟨hx0, Kept.refl _⟩
  (refine take_val (i := 0) (v := .pointer (some ⟨w.heap.size, 1, none⟩)) rfl rfl (by kernel_rfl) (by kernel_rfl) (by kernel_rfl) (fun _ _ _ h => h) rfl (by intro wq hq; (try go_split_ands); go_simp; try with_reducible rfl) (hHeld) ?_; try simp only [List.setIfInBounds_toArray, List.set_cons_zero, List.set_cons_succ])
  (refine take_val (i := 1) (v := .iface T1 p1) rfl rfl (by kernel_rfl) (by kernel_rfl) (by kernel_rfl) (fun _ _ _ h => h) rfl (by intro wq hq; (try go_split_ands); go_simp; try with_reducible rfl) (hHeld) ?_; try simp only [List.setIfInBounds_toArray, List.set_cons_zero, List.set_cons_succ])
  (refine take_val (i := 3) (v := .pointer (some ⟨w.heap.size, 2, none⟩)) rfl rfl (by kernel_rfl) (by kernel_rfl) (by kernel_rfl) (fun _ _ _ h => h) rfl (by intro wq hq; (try go_split_ands); go_simp; try with_reducible rfl) (hHeld) ?_; try simp only [List.setIfInBounds_toArray, List.set_cons_zero, List.set_cons_succ])
  (refine take_val (i := 4) (v := .iface T2 p2) rfl rfl (by kernel_rfl) (by kernel_rfl) (by kernel_rfl) (fun _ _ _ h => h) rfl (by intro wq hq; (try go_split_ands); go_simp; try with_reducible rfl) (hHeld) ?_; try simp only [List.setIfInBounds_toArray, List.set_cons_zero, List.set_cons_succ])
  (refine take_val (i := 8) (v := .pointer (some ⟨w.heap.size, 0, none⟩)) rfl rfl (by kernel_rfl) (by kernel_rfl) (by kernel_rfl) (fun _ _ _ h => h) rfl (by intro wq hq; (try go_split_ands); go_simp; try with_reducible rfl) (hHeld) ?_; try simp only [List.setIfInBounds_toArray, List.set_cons_zero, List.set_cons_succ])
  (refine take_val (i := 9) (v := .int .i64 s) rfl rfl (by kernel_rfl) (by kernel_rfl) (by kernel_rfl) (fun _ _ _ h => h) rfl (by intro wq hq; (try go_split_ands); go_simp; try with_reducible rfl) (hHeld) ?_; try simp only [List.setIfInBounds_toArray, List.set_cons_zero, List.set_cons_succ])
  refine wpAnyH_ready (rs := [2, 10]) (by kernel_rfl) (by simp) ?_
  refine AllReadyH.cons rfl (fun K hK => ?_) (AllReadyH.cons rfl (fun K hK => ?_) AllReadyH.nil)
  · skip
    go_simp
    refine (HIH1.out W0).mono ?_; rintro e W1 ⟨v, rfl, ⟨A1, n1, c1, rfl, hln1, hown1⟩, hl1⟩
    have hI1 := own_ints2 (by omega) hown1 HR1.out
    clear hown1
    have hk1 := hk0.trans hl1
    have hx1 := hx1.trans hl1
    have BD1 := BD0.kept hl1
    (refine hK.out _ _ (⟨BD1.cell 0, BD1.cell 1, BD1.cell 2⟩) (fun _ => ?_); clear hK K; try simp only [Act.put, List.setIfInBounds_toArray, List.set_cons_zero, List.set_cons_succ])
    refine wpAnyH_ready (rs := [5, 10]) (by kernel_rfl) (by simp) ?_
    refine AllReadyH.cons rfl (fun K hK => ?_) (AllReadyH.cons rfl (fun K hK => ?_) AllReadyH.nil)
    · skip
      go_simp
      refine (HIH2.out W1).mono ?_; rintro e W2 ⟨v, rfl, ⟨A2, n2, c2, rfl, hln2, hown2⟩, hl2⟩
      have hI2 := own_ints2 (by omega) hown2 HR2.out
      clear hown2
      have hIa2 := hI1.keep hl2
      have hk2 := hk1.trans hl2
      have hx2 := hx1.trans hl2
      have BD2 := BD1.kept hl2
      (refine hK.out _ _ (⟨BD2.cell 0, BD2.cell 1, BD2.cell 2⟩) (fun _ => ?_); clear hK K; try simp only [Act.put, List.setIfInBounds_toArray, List.set_cons_zero, List.set_cons_succ])
      refine wpAnyH_ready (rs := [6, 10]) (by kernel_rfl) (by simp) ?_
      refine AllReadyH.cons rfl (fun K hK => ?_) (AllReadyH.cons rfl (fun K hK => ?_) AllReadyH.nil)
      · skip
        go_simp
        have hl3 := (Kept.refl W2).alloc (.cells #[.slice A1 n1 c1, .slice A2 n2 c2] 23)
        have BE3 := Blk.new W2 23 #[.slice A1 n1 c1, .slice A2 n2 c2]
        have hIa3 := hIa2.keep hl3
        have hIb3 := hI2.keep hl3
        have hk3 := hk2.trans hl3
        have hx3 := hx2.trans hl3
        have BD3 := BD2.kept hl3
        (refine hK.out _ _ (⟨BD3.cell 0, BD3.cell 1, BD3.cell 2⟩) (fun _ => ?_); clear hK K; try simp only [Act.put, List.setIfInBounds_toArray, List.set_cons_zero, List.set_cons_succ])
        obtain ⟨E, HE⟩ : ∃ x, Hid (W2.heap.size = x) := ⟨_, rfl⟩
        obtain ⟨W3, HW3⟩ : ∃ x, Hid (W2.alloc (.cells #[.slice A1 n1 c1, .slice A2 n2 c2] 23) = x) := ⟨_, rfl⟩
        clear hl3
        rw [HW3.out] at hk3 hx3 BD3 hIa3 hIb3 BE3
        rw [HE.out] at BE3
        rw [HE.out, HW3.out]
        refine wpAnyH_ready (rs := [7, 10]) (by kernel_rfl) (by simp) ?_
        refine AllReadyH.cons rfl (fun K hK => ?_) (AllReadyH.cons rfl (fun K hK => ?_) AllReadyH.nil)
        · skip
          go_simp
          refine (c_concatInts E c1 c2 n1 n2 A1 A2 l1 l2 W3 hIa3 hIb3 (by omega) (by omega) BE3.lt (BE3.cell 0) (BE3.cell 1)).mono ?_; rintro e W4 ⟨v, rfl, ⟨A4, c4, rfl, hown4⟩, hl4⟩
          have ho4 := ownsRow_mono hown4 hx3.size
          clear hown4
          have hk4 := hk3.trans hl4
          have hx4 := hx3.trans hl4
          have BD4 := BD3.kept hl4
          (refine hK.out _ _ (⟨BD4.cell 0, BD4.cell 1, BD4.cell 2⟩) (fun _ => ?_); clear hK K; try simp only [Act.put, List.setIfInBounds_toArray, List.set_cons_zero, List.set_cons_succ])
          refine wpAnyH_ready (rs := [10]) (by kernel_rfl) (by simp) ?_
          refine AllReadyH.cons rfl (fun K hK => ?_) AllReadyH.nil
          go_simp
          have hl5 := (Kept.refl W4).alloc (.cells #[.int .i64 s] 3)
          have BG5 := Blk.new W4 3 #[.int .i64 s]
          have hk5 := hk4.trans hl5
          have hx5 := hx4.trans hl5
          have BD5 := BD4.kept hl5
          have ho5 := own_keep ho4 hl5
          (refine hK.out _ _ (⟨BD5.cell 0, BD5.cell 1, BD5.cell 2⟩) (fun _ => ?_); clear hK K; try simp only [Act.put, List.setIfInBounds_toArray, List.set_cons_zero, List.set_cons_succ])
          obtain ⟨G, HG⟩ : ∃ x, Hid (W4.heap.size = x) := ⟨_, rfl⟩
          obtain ⟨W5, HW5⟩ : ∃ x, Hid (W4.alloc (.cells #[.int .i64 s] 3) = x) := ⟨_, rfl⟩
          clear hl5
          rw [HW5.out] at BG5 hk5 hx5 BD5 ho5
          rw [HG.out] at BG5
          rw [HG.out, HW5.out]
          refine wpAnyH_ready (rs := [11]) (by kernel_rfl) (by simp) ?_
          refine AllReadyH.cons rfl (fun K hK => ?_) AllReadyH.nil
          refine wp_app_ints _ (.tmp 10) (.tmp 13) 23 rfl (w.heap.size + 1) 3 i0 (.int .i64 0) Tryd.underlying23 HI.out.1 HI.out.2.1 HI.out.2.2.1 HI.out.2.2.2 rfl (.slice A4 (n1 + n2) c4) (n1 + n2) ((l1 ++ l2).map (Value.int .i64)) rfl ho5 (some ⟨G, 0, none⟩) 1 1 [s] rfl (blk_oneK BG5 (by omega)) (n1 + n2 + 1) rfl (by unfold maxLen; omega) (by omega) hx5.size (fun v6 W6 ho6 hg6 hat6 => ?_)
          obtain ⟨A6, c6, rfl⟩ := own_form ho6
          have hk6 : Kept w W6 := hk5.grown hg6 (fun k e => Nat.le_of_succ_le (ho5.lt k e).1)
          have BD6 := BD5.grown hg6 (fun e => by have := (ho5.lt _ e.symm).1; omega)
          refine hK.out _ _ ⟨BD6.cell 0, BD6.cell 1, BD6.cell 2⟩ (fun _ => ?_); clear hK K; try simp only [Act.put, List.setIfInBounds_toArray, List.set_cons_zero, List.set_cons_succ]
          (refine take_val (i := 12) (v := .slice A6 (n1 + n2 + 1) c6) rfl rfl (by kernel_rfl) (by kernel_rfl) (by kernel_rfl) (fun _ _ _ h => h) rfl (by intro wq hq; (try go_split_ands); go_simp; try with_reducible rfl) (⟨BD6.cell 0, BD6.cell 1, BD6.cell 2⟩) ?_; try simp only [List.setIfInBounds_toArray, List.set_cons_zero, List.set_cons_succ])
          refine wpAnyH_done (by kernel_rfl) ?_ _
          clear hHeld
          go_wp2_with fail
          go_ret
          exact ⟨_, rfl, ⟨A6, n1 + n2 + 1, c6, rfl, by simp; omega, by rw [List.map_append]; exact ownsRow_mono ho6 (Nat.le_succ _)⟩, hk6⟩
        · skip
          go_simp
          have hl7 := (Kept.refl W3).alloc (.cells #[.int .i64 s] 3)
          have BG7 := Blk.new W3 3 #[.int .i64 s]
          have hk7 := hk3.trans hl7
          have hx7 := hx3.trans hl7
          have BD7 := BD3.kept hl7
          have hIa7 := hIa3.keep hl7
          have hIb7 := hIb3.keep hl7
          have BE7 := BE3.kept hl7
          (refine hK.out _ _ (⟨BD7.cell 0, BD7.cell 1, BD7.cell 2⟩) (fun _ => ?_); clear hK K; try simp only [Act.put, List.setIfInBounds_toArray, List.set_cons_zero, List.set_cons_succ])
          obtain ⟨G, HG⟩ : ∃ x, Hid (W3.heap.size = x) := ⟨_, rfl⟩
          obtain ⟨W7, HW7⟩ : ∃ x, Hid (W3.alloc (.cells #[.int .i64 s] 3) = x) := ⟨_, rfl⟩
          clear hl7
          rw [HW7.out] at BG7 hk7 hx7 BD7 hIa7 hIb7 BE7
          rw [HG.out] at BG7
          rw [HG.out, HW7.out]
          refine wpAnyH_ready (rs := [7]) (by kernel_rfl) (by simp) ?_
          refine AllReadyH.cons rfl (fun K hK => ?_) AllReadyH.nil
          go_simp
          refine (c_concatInts E c1 c2 n1 n2 A1 A2 l1 l2 W7 hIa7 hIb7 (by omega) (by omega) BE7.lt (BE7.cell 0) (BE7.cell 1)).mono ?_; rintro e W8 ⟨v, rfl, ⟨A4, c4, rfl, hown8⟩, hl8⟩
          have ho8 := ownsRow_mono hown8 hx7.size
          clear hown8
          have hk8 := hk7.trans hl8
          have hx8 := hx7.trans hl8
          have BD8 := BD7.kept hl8
          have BG8 := BG7.kept hl8
          (refine hK.out _ _ (⟨BD8.cell 0, BD8.cell 1, BD8.cell 2⟩) (fun _ => ?_); clear hK K; try simp only [Act.put, List.setIfInBounds_toArray, List.set_cons_zero, List.set_cons_succ])
          refine wpAnyH_ready (rs := [11]) (by kernel_rfl) (by simp) ?_
          refine AllReadyH.cons rfl (fun K hK => ?_) AllReadyH.nil
          refine wp_app_ints _ (.tmp 10) (.tmp 13) 23 rfl (w.heap.size + 1) 3 i0 (.int .i64 0) Tryd.underlying23 HI.out.1 HI.out.2.1 HI.out.2.2.1 HI.out.2.2.2 rfl (.slice A4 (n1 + n2) c4) (n1 + n2) ((l1 ++ l2).map (Value.int .i64)) rfl ho8 (some ⟨G, 0, none⟩) 1 1 [s] rfl (blk_oneK BG8 (by omega)) (n1 + n2 + 1) rfl (by unfold maxLen; omega) (by omega) hx8.size (fun v6 W6 ho6 hg6 hat6 => ?_)
          obtain ⟨A6, c6, rfl⟩ := own_form ho6
          have hk6 : Kept w W6 := hk8.grown hg6 (fun k e => Nat.le_of_succ_le (ho8.lt k e).1)
          have BD6 := BD8.grown hg6 (fun e => by have := (ho8.lt _ e.symm).1; omega)
          refine hK.out _ _ ⟨BD6.cell 0, BD6.cell 1, BD6.cell 2⟩ (fun _ => ?_); clear hK K; try simp only [Act.put, List.setIfInBounds_toArray, List.set_cons_zero, List.set_cons_succ]
          (refine take_val (i := 12) (v := .slice A6 (n1 + n2 + 1) c6) rfl rfl (by kernel_rfl) (by kernel_rfl) (by kernel_rfl) (fun _ _ _ h => h) rfl (by intro wq hq; (try go_split_ands); go_simp; try with_reducible rfl) (⟨BD6.cell 0, BD6.cell 1, BD6.cell 2⟩) ?_; try simp only [List.setIfInBounds_toArray, List.set_cons_zero, List.set_cons_succ])
          refine wpAnyH_done (by kernel_rfl) ?_ _
          clear hHeld
          go_wp2_with fail
          go_ret
          exact ⟨_, rfl, ⟨A6, n1 + n2 + 1, c6, rfl, by simp; omega, by rw [List.map_append]; exact ownsRow_mono ho6 (Nat.le_succ _)⟩, hk6⟩
      · skip
        go_simp
        have hl10 := (Kept.refl W2).alloc (.cells #[.int .i64 s] 3)
        have BG10 := Blk.new W2 3 #[.int .i64 s]
        have hk10 := hk2.trans hl10
        have hx10 := hx2.trans hl10
        have BD10 := BD2.kept hl10
        have hIa10 := hIa2.keep hl10
        have hIb10 := hI2.keep hl10
        (refine hK.out _ _ (⟨BD10.cell 0, BD10.cell 1, BD10.cell 2⟩) (fun _ => ?_); clear hK K; try simp only [Act.put, List.setIfInBounds_toArray, List.set_cons_zero, List.set_cons_succ])
        obtain ⟨G, HG⟩ : ∃ x, Hid (W2.heap.size = x) := ⟨_, rfl⟩
        obtain ⟨W10, HW10⟩ : ∃ x, Hid (W2.alloc (.cells #[.int .i64 s] 3) = x) := ⟨_, rfl⟩
        clear hl10
        rw [HW10.out] at BG10 hk10 hx10 BD10 hIa10 hIb10
        rw [HG.out] at BG10
        rw [HG.out, HW10.out]
        refine wpAnyH_ready (rs := [6]) (by kernel_rfl) (by simp) ?_
        refine AllReadyH.cons rfl (fun K hK => ?_) AllReadyH.nil
        go_simp
        have hl11 := (Kept.refl W10).alloc (.cells #[.slice A1 n1 c1, .slice A2 n2 c2] 23)
        have BE11 := Blk.new W10 23 #[.slice A1 n1 c1, .slice A2 n2 c2]
        have hIa11 := hIa10.keep hl11
        have hIb11 := hIb10.keep hl11
        have hk11 := hk10.trans hl11
        have hx11 := hx10.trans hl11
        have BD11 := BD10.kept hl11
        have BG11 := BG10.kept hl11
        (refine hK.out _ _ (⟨BD11.cell 0, BD11.cell 1, BD11.cell 2⟩) (fun _ => ?_); clear hK K; try simp only [Act.put, List.setIfInBounds_toArray, List.set_cons_zero, List.set_cons_succ])
        obtain ⟨E, HE⟩ : ∃ x, Hid (W10.heap.size = x) := ⟨_, rfl⟩
        obtain ⟨W11, HW11⟩ : ∃ x, Hid (W10.alloc (.cells #[.slice A1 n1 c1, .slice A2 n2 c2] 23) = x) := ⟨_, rfl⟩
        clear hl11
        rw [HW11.out] at hk11 hx11 BD11 BG11 hIa11 hIb11 BE11
        rw [HE.out] at BE11
        rw [HE.out, HW11.out]
        refine wpAnyH_ready (rs := [7]) (by kernel_rfl) (by simp) ?_
        refine AllReadyH.cons rfl (fun K hK => ?_) AllReadyH.nil
        go_simp
        refine (c_concatInts E c1 c2 n1 n2 A1 A2 l1 l2 W11 hIa11 hIb11 (by omega) (by omega) BE11.lt (BE11.cell 0) (BE11.cell 1)).mono ?_; rintro e W12 ⟨v, rfl, ⟨A4, c4, rfl, hown12⟩, hl12⟩
        have ho12 := ownsRow_mono hown12 hx11.size
        clear hown12
        have hk12 := hk11.trans hl12
        have hx12 := hx11.trans hl12
        have BD12 := BD11.kept hl12
        have BG12 := BG11.kept hl12
        (refine hK.out _ _ (⟨BD12.cell 0, BD12.cell 1, BD12.cell 2⟩) (fun _ => ?_); clear hK K; try simp only [Act.put, List.setIfInBounds_toArray, List.set_cons_zero, List.set_cons_succ])
        refine wpAnyH_ready (rs := [11]) (by kernel_rfl) (by simp) ?_
        refine AllReadyH.cons rfl (fun K hK => ?_) AllReadyH.nil
        refine wp_app_ints _ (.tmp 10) (.tmp 13) 23 rfl (w.heap.size + 1) 3 i0 (.int .i64 0) Tryd.underlying23 HI.out.1 HI.out.2.1 HI.out.2.2.1 HI.out.2.2.2 rfl (.slice A4 (n1 + n2) c4) (n1 + n2) ((l1 ++ l2).map (Value.int .i64)) rfl ho12 (some ⟨G, 0, none⟩) 1 1 [s] rfl (blk_oneK BG12 (by omega)) (n1 + n2 + 1) rfl (by unfold maxLen; omega) (by omega) hx12.size (fun v6 W6 ho6 hg6 hat6 => ?_)
        obtain ⟨A6, c6, rfl⟩ := own_form ho6
        have hk6 : Kept w W6 := hk12.grown hg6 (fun k e => Nat.le_of_succ_le (ho12.lt k e).1)
        have BD6 := BD12.grown hg6 (fun e => by have := (ho12.lt _ e.symm).1; omega)
        refine hK.out _ _ ⟨BD6.cell 0, BD6.cell 1, BD6.cell 2⟩ (fun _ => ?_); clear hK K; try simp only [Act.put, List.setIfInBounds_toArray, List.set_cons_zero, List.set_cons_succ]
        (refine take_val (i := 12) (v := .slice A6 (n1 + n2 + 1) c6) rfl rfl (by kernel_rfl) (by kernel_rfl) (by kernel_rfl) (fun _ _ _ h => h) rfl (by intro wq hq; (try go_split_ands); go_simp; try with_reducible rfl) (⟨BD6.cell 0, BD6.cell 1, BD6.cell 2⟩) ?_; try simp only [List.setIfInBounds_toArray, List.set_cons_zero, List.set_cons_succ])
        refine wpAnyH_done (by kernel_rfl) ?_ _
        clear hHeld
        go_wp2_with fail
        go_ret
        exact ⟨_, rfl, ⟨A6, n1 + n2 + 1, c6, rfl, by simp; omega, by rw [List.map_append]; exact ownsRow_mono ho6 (Nat.le_succ _)⟩, hk6⟩
    · skip
      go_simp
      have hl14 := (Kept.refl W1).alloc (.cells #[.int .i64 s] 3)
      have BG14 := Blk.new W1 3 #[.int .i64 s]
      have hk14 := hk1.trans hl14
      have hx14 := hx1.trans hl14
      have BD14 := BD1.kept hl14
      have hIa14 := hI1.keep hl14
      (refine hK.out _ _ (⟨BD14.cell 0, BD14.cell 1, BD14.cell 2⟩) (fun _ => ?_); clear hK K; try simp only [Act.put, List.setIfInBounds_toArray, List.set_cons_zero, List.set_cons_succ])
      obtain ⟨G, HG⟩ : ∃ x, Hid (W1.heap.size = x) := ⟨_, rfl⟩
      obtain ⟨W14, HW14⟩ : ∃ x, Hid (W1.alloc (.cells #[.int .i64 s] 3) = x) := ⟨_, rfl⟩
      clear hl14
      rw [HW14.out] at BG14 hk14 hx14 BD14 hIa14
      rw [HG.out] at BG14
      rw [HG.out, HW14.out]
      refine wpAnyH_ready (rs := [5]) (by kernel_rfl) (by simp) ?_
      refine AllReadyH.cons rfl (fun K hK => ?_) AllReadyH.nil
      go_simp
      refine (HIH2.out W14).mono ?_; rintro e W15 ⟨v, rfl, ⟨A2, n2, c2, rfl, hln2, hown15⟩, hl15⟩
      have hI15 := own_ints2 (by omega) hown15 HR2.out
      clear hown15
      have hIa15 := hIa14.keep hl15
      have hk15 := hk14.trans hl15
      have hx15 := hx14.trans hl15
      have BD15 := BD14.kept hl15
      have BG15 := BG14.kept hl15
      (refine hK.out _ _ (⟨BD15.cell 0, BD15.cell 1, BD15.cell 2⟩) (fun _ => ?_); clear hK K; try simp only [Act.put, List.setIfInBounds_toArray, List.set_cons_zero, List.set_cons_succ])
      refine wpAnyH_ready (rs := [6]) (by kernel_rfl) (by simp) ?_
      refine AllReadyH.cons rfl (fun K hK => ?_) AllReadyH.nil
      go_simp
      have hl16 := (Kept.refl W15).alloc (.cells #[.slice A1 n1 c1, .slice A2 n2 c2] 23)
      have BE16 := Blk.new W15 23 #[.slice A1 n1 c1, .slice A2 n2 c2]
      have hIa16 := hIa15.keep hl16
      have hIb16 := hI15.keep hl16
      have hk16 := hk15.trans hl16
      have hx16 := hx15.trans hl16
      have BD16 := BD15.kept hl16
      have BG16 := BG15.kept hl16
      (refine hK.out _ _ (⟨BD16.cell 0, BD16.cell 1, BD16.cell 2⟩) (fun _ => ?_); clear hK K; try simp only [Act.put, List.setIfInBounds_toArray, List.set_cons_zero, List.set_cons_succ])
      obtain ⟨E, HE⟩ : ∃ x, Hid (W15.heap.size = x) := ⟨_, rfl⟩
      obtain ⟨W16, HW16⟩ : ∃ x, Hid (W15.alloc (.cells #[.slice A1 n1 c1, .slice A2 n2 c2] 23) = x) := ⟨_, rfl⟩
      clear hl16
      rw [HW16.out] at hk16 hx16 BD16 BG16 hIa16 hIb16 BE16
      rw [HE.out] at BE16
      rw [HE.out, HW16.out]
      refine wpAnyH_ready (rs := [7]) (by kernel_rfl) (by simp) ?_
      refine AllReadyH.cons rfl (fun K hK => ?_) AllReadyH.nil
      go_simp
      refine (c_concatInts E c1 c2 n1 n2 A1 A2 l1 l2 W16 hIa16 hIb16 (by omega) (by omega) BE16.lt (BE16.cell 0) (BE16.cell 1)).mono ?_; rintro e W17 ⟨v, rfl, ⟨A4, c4, rfl, hown17⟩, hl17⟩
      have ho17 := ownsRow_mono hown17 hx16.size
      clear hown17
      have hk17 := hk16.trans hl17
      have hx17 := hx16.trans hl17
      have BD17 := BD16.kept hl17
      have BG17 := BG16.kept hl17
      (refine hK.out _ _ (⟨BD17.cell 0, BD17.cell 1, BD17.cell 2⟩) (fun _ => ?_); clear hK K; try simp only [Act.put, List.setIfInBounds_toArray, List.set_cons_zero, List.set_cons_succ])
      refine wpAnyH_ready (rs := [11]) (by kernel_rfl) (by simp) ?_
      refine AllReadyH.cons rfl (fun K hK => ?_) AllReadyH.nil
      refine wp_app_ints _ (.tmp 10) (.tmp 13) 23 rfl (w.heap.size + 1) 3 i0 (.int .i64 0) Tryd.underlying23 HI.out.1 HI.out.2.1 HI.out.2.2.1 HI.out.2.2.2 rfl (.slice A4 (n1 + n2) c4) (n1 + n2) ((l1 ++ l2).map (Value.int .i64)) rfl ho17 (some ⟨G, 0, none⟩) 1 1 [s] rfl (blk_oneK BG17 (by omega)) (n1 + n2 + 1) rfl (by unfold maxLen; omega) (by omega) hx17.size (fun v6 W6 ho6 hg6 hat6 => ?_)
      obtain ⟨A6, c6, rfl⟩ := own_form ho6
      have hk6 : Kept w W6 := hk17.grown hg6 (fun k e => Nat.le_of_succ_le (ho17.lt k e).1)
      have BD6 := BD17.grown hg6 (fun e => by have := (ho17.lt _ e.symm).1; omega)
      refine hK.out _ _ ⟨BD6.cell 0, BD6.cell 1, BD6.cell 2⟩ (fun _ => ?_); clear hK K; try simp only [Act.put, List.setIfInBounds_toArray, List.set_cons_zero, List.set_cons_succ]
      (refine take_val (i := 12) (v := .slice A6 (n1 + n2 + 1) c6) rfl rfl (by kernel_rfl) (by kernel_rfl) (by kernel_rfl) (fun _ _ _ h => h) rfl (by intro wq hq; (try go_split_ands); go_simp; try with_reducible rfl) (⟨BD6.cell 0, BD6.cell 1, BD6.cell 2⟩) ?_; try simp only [List.setIfInBounds_toArray, List.set_cons_zero, List.set_cons_succ])
      refine wpAnyH_done (by kernel_rfl) ?_ _
      clear hHeld
      go_wp2_with fail
      go_ret
      exact ⟨_, rfl, ⟨A6, n1 + n2 + 1, c6, rfl, by simp; omega, by rw [List.map_append]; exact ownsRow_mono ho6 (Nat.le_succ _)⟩, hk6⟩
  · skip
    go_simp
    have hl19 := (Kept.refl W0).alloc (.cells #[.int .i64 s] 3)
    have BG19 := Blk.new W0 3 #[.int .i64 s]
    have hk19 := hk0.trans hl19
    have hx19 := hx1.trans hl19
    have BD19 := BD0.kept hl19
    (refine hK.out _ _ (⟨BD19.cell 0, BD19.cell 1, BD19.cell 2⟩) (fun _ => ?_); clear hK K; try simp only [Act.put, List.setIfInBounds_toArray, List.set_cons_zero, List.set_cons_succ])
    obtain ⟨G, HG⟩ : ∃ x, Hid (W0.heap.size = x) := ⟨_, rfl⟩
    obtain ⟨W19, HW19⟩ : ∃ x, Hid (W0.alloc (.cells #[.int .i64 s] 3) = x) := ⟨_, rfl⟩
    clear hl19
    rw [HW19.out] at BG19 hk19 hx19 BD19
    rw [HG.out] at BG19
    rw [HG.out, HW19.out]
    refine wpAnyH_ready (rs := [2]) (by kernel_rfl) (by simp) ?_
    refine AllReadyH.cons rfl (fun K hK => ?_) AllReadyH.nil
    go_simp
    refine (HIH1.out W19).mono ?_; rintro e W20 ⟨v, rfl, ⟨A1, n1, c1, rfl, hln1, hown20⟩, hl20⟩
    have hI20 := own_ints2 (by omega) hown20 HR1.out
    clear hown20
    have hk20 := hk19.trans hl20
    have hx20 := hx19.trans hl20
    have BD20 := BD19.kept hl20
    have BG20 := BG19.kept hl20
    (refine hK.out _ _ (⟨BD20.cell 0, BD20.cell 1, BD20.cell 2⟩) (fun _ => ?_); clear hK K; try simp only [Act.put, List.setIfInBounds_toArray, List.set_cons_zero, List.set_cons_succ])
    refine wpAnyH_ready (rs := [5]) (by kernel_rfl) (by simp) ?_
    refine AllReadyH.cons rfl (fun K hK => ?_) AllReadyH.nil
    go_simp
    refine (HIH2.out W20).mono ?_; rintro e W21 ⟨v, rfl, ⟨A2, n2, c2, rfl, hln2, hown21⟩, hl21⟩
    have hI21 := own_ints2 (by omega) hown21 HR2.out
    clear hown21
    have hIa21 := hI20.keep hl21
    have hk21 := hk20.trans hl21
    have hx21 := hx20.trans hl21
    have BD21 := BD20.kept hl21
    have BG21 := BG20.kept hl21
    (refine hK.out _ _ (⟨BD21.cell 0, BD21.cell 1, BD21.cell 2⟩) (fun _ => ?_); clear hK K; try simp only [Act.put, List.setIfInBounds_toArray, List.set_cons_zero, List.set_cons_succ])
    refine wpAnyH_ready (rs := [6]) (by kernel_rfl) (by simp) ?_
    refine AllReadyH.cons rfl (fun K hK => ?_) AllReadyH.nil
    go_simp
    have hl22 := (Kept.refl W21).alloc (.cells #[.slice A1 n1 c1, .slice A2 n2 c2] 23)
    have BE22 := Blk.new W21 23 #[.slice A1 n1 c1, .slice A2 n2 c2]
    have hIa22 := hIa21.keep hl22
    have hIb22 := hI21.keep hl22
    have hk22 := hk21.trans hl22
    have hx22 := hx21.trans hl22
    have BD22 := BD21.kept hl22
    have BG22 := BG21.kept hl22
    (refine hK.out _ _ (⟨BD22.cell 0, BD22.cell 1, BD22.cell 2⟩) (fun _ => ?_); clear hK K; try simp only [Act.put, List.setIfInBounds_toArray, List.set_cons_zero, List.set_cons_succ])
    obtain ⟨E, HE⟩ : ∃ x, Hid (W21.heap.size = x) := ⟨_, rfl⟩
    obtain ⟨W22, HW22⟩ : ∃ x, Hid (W21.alloc (.cells #[.slice A1 n1 c1, .slice A2 n2 c2] 23) = x) := ⟨_, rfl⟩
    clear hl22
    rw [HW22.out] at hk22 hx22 BD22 BG22 hIa22 hIb22 BE22
    rw [HE.out] at BE22
    rw [HE.out, HW22.out]
    refine wpAnyH_ready (rs := [7]) (by kernel_rfl) (by simp) ?_
    refine AllReadyH.cons rfl (fun K hK => ?_) AllReadyH.nil
    go_simp
    refine (c_concatInts E c1 c2 n1 n2 A1 A2 l1 l2 W22 hIa22 hIb22 (by omega) (by omega) BE22.lt (BE22.cell 0) (BE22.cell 1)).mono ?_; rintro e W23 ⟨v, rfl, ⟨A4, c4, rfl, hown23⟩, hl23⟩
    have ho23 := ownsRow_mono hown23 hx22.size
    clear hown23
    have hk23 := hk22.trans hl23
    have hx23 := hx22.trans hl23
    have BD23 := BD22.kept hl23
    have BG23 := BG22.kept hl23
    (refine hK.out _ _ (⟨BD23.cell 0, BD23.cell 1, BD23.cell 2⟩) (fun _ => ?_); clear hK K; try simp only [Act.put, List.setIfInBounds_toArray, List.set_cons_zero, List.set_cons_succ])
    refine wpAnyH_ready (rs := [11]) (by kernel_rfl) (by simp) ?_
    refine AllReadyH.cons rfl (fun K hK => ?_) AllReadyH.nil
    refine wp_app_ints _ (.tmp 10) (.tmp 13) 23 rfl (w.heap.size + 1) 3 i0 (.int .i64 0) Tryd.underlying23 HI.out.1 HI.out.2.1 HI.out.2.2.1 HI.out.2.2.2 rfl (.slice A4 (n1 + n2) c4) (n1 + n2) ((l1 ++ l2).map (Value.int .i64)) rfl ho23 (some ⟨G, 0, none⟩) 1 1 [s] rfl (blk_oneK BG23 (by omega)) (n1 + n2 + 1) rfl (by unfold maxLen; omega) (by omega) hx23.size (fun v6 W6 ho6 hg6 hat6 => ?_)
    obtain ⟨A6, c6, rfl⟩ := own_form ho6
    have hk6 : Kept w W6 := hk23.grown hg6 (fun k e => Nat.le_of_succ_le (ho23.lt k e).1)
    have BD6 := BD23.grown hg6 (fun e => by have := (ho23.lt _ e.symm).1; omega)
    refine hK.out _ _ ⟨BD6.cell 0, BD6.cell 1, BD6.cell 2⟩ (fun _ => ?_); clear hK K; try simp only [Act.put, List.setIfInBounds_toArray, List.set_cons_zero, List.set_cons_succ]
    (refine take_val (i := 12) (v := .slice A6 (n1 + n2 + 1) c6) rfl rfl (by kernel_rfl) (by kernel_rfl) (by kernel_rfl) (fun _ _ _ h => h) rfl (by intro wq hq; (try go_split_ands); go_simp; try with_reducible rfl) (⟨BD6.cell 0, BD6.cell 1, BD6.cell 2⟩) ?_; try simp only [List.setIfInBounds_toArray, List.set_cons_zero, List.set_cons_succ])
    refine wpAnyH_done (by kernel_rfl) ?_ _
    clear hHeld
    go_wp2_with fail
    go_ret
    exact ⟨_, rfl, ⟨A6, n1 + n2 + 1, c6, rfl, by simp; omega, by rw [List.map_append]; exact ownsRow_mono ho6 (Nat.le_succ _)⟩, hk6⟩

theorem c_steps (d : Sp.Cond) : d.ok → d.steps.length ≤ 40 → ∀ w : World, Calls Tryd.prog (stF d) #[stP d] w (RetS (StepQ d.steps w.heap.size) w) := by
  induction d with
  | one s => intro _ _ w; exact c_stOne s w
  | neg c ih =>
    intro hd hl w
    have hl' : c.steps.length + 1 ≤ 40 := by simp [Sp.Cond.steps] at hl; omega
    have h := c_stTurned (stT c) (stP c) (stF c) c.steps w (by omega) (st_meth c) (st_enter c) (ih hd (by omega))
    rw [← condV_eq] at h
    exact h
  | two s l r ihl ihr =>
    intro hd hl w
    obtain ⟨hs, hdl, hdr⟩ := hd
    have hl' : l.steps.length + r.steps.length + 1 ≤ 40 := by simp [Sp.Cond.steps] at hl; omega
    have h := c_stJoined (stT l) (stT r) (stP l) (stP r) (stF l) (stF r) l.steps r.steps s w (by omega) (by omega) (fun x hx => by have := steps_in hdl x hx; unfold Sp.inI; omega) (fun x hx => by have := steps_in hdr x hx; unfold Sp.inI; omega)
      (by omega) (by omega) (st_meth l) (st_enter l) (st_meth r) (st_enter r) (ihl hdl (by omega)) (ihr hdr (by omega))
    rw [← condV_eq, ← condV_eq] at h
    exact h

end Go.Proofs.YtphdojebdclonaaDoor
