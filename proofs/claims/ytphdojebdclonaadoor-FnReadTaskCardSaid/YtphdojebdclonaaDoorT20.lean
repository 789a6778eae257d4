/- The reference's readers of codes. The reference's readers of codes, all told. No condition. -/
import Derived.Test.YtphdojebdclonaaDoorT16
namespace Go.Proofs.YtphdojebdclonaaDoor
set_option linter.unusedSimpArgs false
set_option linter.unusedVariables false
open Go.RowKit

/-- what a reader of codes comes to -/
def ScQ (s : List UInt8) (p m : Nat) (w : World) (e : Ending) (w' : World) : Prop :=
  ∃ (A : Option Addr) (n c : Nat) (l : List Int) (b : Bool) (q : Nat), e = .returned (.tuple #[.slice A n c, .int .i64 (q : Int), .bool b]) ∧ w'.ownsRow w.heap.size 3 1 (.slice A n c) n (l.map (Value.int .i64)) ∧
    Kept w w' ∧ p ≤ q ∧ q ≤ s.length ∧ n + p ≤ q ∧ (∀ x ∈ l, 0 ≤ x ∧ x ≤ 9) ∧ (s.length ≤ 190 → Sp.Rds m (s.drop p) b l (s.drop q))
section
variable {P : Program} {md : Region.Mode} {ops : Array Oper} {Q : Exit → Act → World → Prop} {S S' : World → Prop}
/-- in a drawn region: more may be held from here on -/
theorem held_more (hS : ∀ w, S' w → S w) : ∀ (fuel : Nat) (listed : Array Bool) (a : Act) (w : World), wpAnyH P md ops Q S' fuel listed a w → wpAnyH P md ops Q S fuel listed a w
  | 0, _, _, _, h => h
  | fuel + 1, _, _, _, h => ⟨h.1, fun i hi => wpOp_mono (fun a' w' h' => ⟨hS _ h'.1, held_more hS fuel _ a' w' h'.2⟩) (h.2 i hi)⟩
end
theorem own_empty {w : World} {X : Nat} (hX : X ≤ w.heap.size) : (w.alloc (.cells #[] 3)).ownsRow X 3 1 (.slice (some ⟨w.heap.size, 0, none⟩) 0 0) 0 [] :=
  World.ownsRow_made (base := X) (e := 3) (size := 1) w #[] 0 hX (by unfold maxLen; omega) rfl

set_option maxHeartbeats 4000000 in
set_option maxRecDepth 100000 in
theorem c_small_end (s : List UInt8) (p : Nat) (D : Int) (w : World) (hs : s.length ≤ 199) (hp : p ≤ s.length) (hD0 : 0 ≤ D) (hD : D ≤ p)(hx : s.length ≤ p ∨ 190 < D) :
    Calls Tryd.prog 156 #[.string ⟨s.toArray⟩, .int .i64 (p : Int), .int .i64 D] w (ScQ s p 3 w) := by
  have hO0 := own_empty (Nat.le_refl w.heap.size)
  have HX : Hid (s.length ≤ 190 → Sp.Rds 3 (s.drop p) false [] (s.drop p)) := by
    intro h190
    have : s.drop p = [] := List.drop_of_length_le (by omega)
    rw [this]; exact rds_nil _
  by_cases hge : (s.length : Int) ≤ (p : Int)
  · go_enter Tryd.func156, Tryd.ntmps156
    go_wp2_with fail
    go_ret3
    exact ⟨_, 0, _, [], false, p, rfl, hO0, (Kept.refl w).alloc _, Nat.le_refl _, hp, by omega, (fun x hx => by cases hx), HX.out⟩
  · have hDl : (190 : Int) < D := by omega
    have hlt : p < 199 := by omega
    go_enter Tryd.func156, Tryd.ntmps156
    go_wp2_with fail
    go_ret3
    exact ⟨_, 0, _, [], false, p, rfl, hO0, (Kept.refl w).alloc _, Nat.le_refl _, hp, by omega, (fun x hx => by cases hx), HX.out⟩

set_option maxHeartbeats 4000000 in
set_option maxRecDepth 100000 in
theorem c_small_yes (s r : List UInt8) (p : Nat) (D : Int) (w : World) (hs : s.length ≤ 199) (hp : p ≤ s.length) (hD0 : 0 ≤ D) (hD : D ≤ p)(hD2 : D ≤ 190) (hx : s.drop p = 49 :: r) :
    Calls Tryd.prog 156 #[.string ⟨s.toArray⟩, .int .i64 (p : Int), .int .i64 D] w (ScQ s p 3 w) := by
  obtain ⟨hq1, hg, hr2⟩ := byte_at hx
  have hv : (((⟨s.toArray⟩ : ByteArray)[p]'(by simpa [ByteArray.size] using hq1)).toNat : Int) = 49 := by rw [hg]; rfl
  have HG : Hid (s.length ≤ 190 → Sp.Rds 3 (s.drop p) true [5] (s.drop (p + 1))) := by
    intro _
    rw [hx, hr2]; exact rds_one (s := 5) (by omega) (by omega)
  have hlt : (p : Int) < (s.length : Int) := by omega
  have hq199 : p < 199 := by omega
  have hnge : ¬ (s.length : Int) ≤ (p : Int) := by omega
  have hDle : ¬ (190 : Int) < D := by omega
  have hw1 : IntKind.i64.wrap ((p : Int) + 1) = ((p + 1 : Nat) : Int) := by rw [IntKind.wrap_i64]; omega
  have hwD : IntKind.i64.wrap (D + 1) = D + 1 := by rw [IntKind.wrap_i64]; omega
  clear hx hr2 hg
  go_enter Tryd.func156, Tryd.ntmps156
  go_wp2_with fail
  go_ret3
  exact ⟨_, _, _, [5], true, p + 1, rfl, own_new w [.int .i64 5] 3 (Nat.le_refl _) (by show 1 ≤ maxLen; unfold maxLen; omega), (Kept.refl w).alloc _, by omega, by omega, by omega, fun x hx => by rw [List.mem_singleton] at hx; omega, HG.out⟩

set_option maxHeartbeats 4000000 in
set_option maxRecDepth 100000 in
theorem c_small_not (s r : List UInt8) (p : Nat) (D : Int) (w : World) (hs : s.length ≤ 199) (hp : p ≤ s.length) (hD0 : 0 ≤ D) (hD : D ≤ p)(hD2 : D ≤ 190) (hx : s.drop p = 48 :: r) :
    Calls Tryd.prog 156 #[.string ⟨s.toArray⟩, .int .i64 (p : Int), .int .i64 D] w (ScQ s p 3 w) := by
  obtain ⟨hq1, hg, hr2⟩ := byte_at hx
  have hv : (((⟨s.toArray⟩ : ByteArray)[p]'(by simpa [ByteArray.size] using hq1)).toNat : Int) = 48 := by rw [hg]; rfl
  have HG : Hid (s.length ≤ 190 → Sp.Rds 3 (s.drop p) true [6] (s.drop (p + 1))) := by
    intro _
    rw [hx, hr2]; exact rds_one (s := 6) (by omega) (by omega)
  have hlt : (p : Int) < (s.length : Int) := by omega
  have hq199 : p < 199 := by omega
  have hnge : ¬ (s.length : Int) ≤ (p : Int) := by omega
  have hDle : ¬ (190 : Int) < D := by omega
  have hw1 : IntKind.i64.wrap ((p : Int) + 1) = ((p + 1 : Nat) : Int) := by rw [IntKind.wrap_i64]; omega
  have hwD : IntKind.i64.wrap (D + 1) = D + 1 := by rw [IntKind.wrap_i64]; omega
  clear hx hr2 hg
  go_enter Tryd.func156, Tryd.ntmps156
  go_wp2_with fail
  go_ret3
  exact ⟨_, _, _, [6], true, p + 1, rfl, own_new w [.int .i64 6] 3 (Nat.le_refl _) (by show 1 ≤ maxLen; unfold maxLen; omega), (Kept.refl w).alloc _, by omega, by omega, by omega, fun x hx => by rw [List.mem_singleton] at hx; omega, HG.out⟩

set_option maxHeartbeats 4000000 in
set_option maxRecDepth 100000 in
theorem c_small_let (s r : List UInt8) (p : Nat) (D : Int) (w : World) (hs : s.length ≤ 199) (hp : p ≤ s.length) (hD0 : 0 ≤ D) (hD : D ≤ p)(hD2 : D ≤ 190) (j : Nat) (hj : j < 5) (hx : s.drop p = UInt8.ofNat (97 + j) :: r) :
    Calls Tryd.prog 156 #[.string ⟨s.toArray⟩, .int .i64 (p : Int), .int .i64 D] w (ScQ s p 3 w) := by
  obtain ⟨hq1, hg, hr2⟩ := byte_at hx
  have hsg : ∀ j : Fin 5, Sp.sgn ((j.val : Nat) : Int) = UInt8.ofNat (97 + j.val) := by decide
  obtain ⟨k, HK⟩ : ∃ k : Nat, Hid (k = 97 + j) := ⟨_, rfl⟩
  have hv : (((⟨s.toArray⟩ : ByteArray)[p]'(by simpa [ByteArray.size] using hq1)).toNat : Int) = (k : Int) := by
    rw [hg, HK.out]
    have : (UInt8.ofNat (97 + j)).toNat = 97 + j := by simp [UInt8.toNat_ofNat']; omega
    rw [this]
  have HG : Hid (s.length ≤ 190 → Sp.Rds 3 (s.drop p) true [(j : Int)] (s.drop (p + 1))) := by
    intro _
    rw [hx, hr2, ← hsg ⟨j, hj⟩]; exact rds_one (by omega) (by omega)
  have hk1 : (97 : Int) ≤ (k : Int) := by rw [HK.out]; omega
  have hk2 : (k : Int) < 102 := by rw [HK.out]; omega
  have hw8 : IntKind.u8.wrap ((k : Int) - 97) = (j : Int) := by rw [HK.out]; simp [IntKind.wrap, IntKind.bits, IntKind.signed]; omega
  have hwj : IntKind.i64.wrap (j : Int) = (j : Int) := by rw [IntKind.wrap_i64]; omega
  have hlt : (p : Int) < (s.length : Int) := by omega
  have hq199 : p < 199 := by omega
  have hnge : ¬ (s.length : Int) ≤ (p : Int) := by omega
  have hDle : ¬ (190 : Int) < D := by omega
  have hw1 : IntKind.i64.wrap ((p : Int) + 1) = ((p + 1 : Nat) : Int) := by rw [IntKind.wrap_i64]; omega
  have hwD : IntKind.i64.wrap (D + 1) = D + 1 := by rw [IntKind.wrap_i64]; omega
  clear hx hr2 hg hsg
  go_enter Tryd.func156, Tryd.ntmps156
  go_wp2_with fail
  go_ret3
  exact ⟨_, _, _, [(j : Int)], true, p + 1, rfl, own_new w [.int .i64 (j : Int)] 3 (Nat.le_refl _) (by show 1 ≤ maxLen; unfold maxLen; omega), (Kept.refl w).alloc _, by omega, by omega, by omega, fun x hx => by rw [List.mem_singleton] at hx; omega, HG.out⟩

set_option maxHeartbeats 4000000 in
set_option maxRecDepth 100000 in
theorem c_small_neg (s r : List UInt8) (p : Nat) (D : Int) (w : World) (hs : s.length ≤ 199) (hp : p ≤ s.length) (hD0 : 0 ≤ D) (hD : D ≤ p)(hD2 : D ≤ 190) (hx : s.drop p = 33 :: r)
    (H3 : ∀ (p' : Nat) (D' : Int) w', p < p' → p' ≤ s.length → 0 ≤ D' → D' ≤ p' → Calls Tryd.prog 156 #[.string ⟨s.toArray⟩, .int .i64 (p' : Int), .int .i64 D'] w' (ScQ s p' 3 w')) :
    Calls Tryd.prog 156 #[.string ⟨s.toArray⟩, .int .i64 (p : Int), .int .i64 D] w (ScQ s p 3 w) := by
  obtain ⟨i0, hi0, hz0, hz1, hz2⟩ := info_parts info_int
  have HI := Lib.hid (And.intro hi0 (And.intro hz0 (And.intro hz1 hz2)))
  clear hi0 hz0 hz1 hz2
  have HH := Lib.hid H3
  obtain ⟨hq1, hg, hr2⟩ := byte_at hx
  have hv : (((⟨s.toArray⟩ : ByteArray)[p]'(by simpa [ByteArray.size] using hq1)).toNat : Int) = 33 := by rw [hg]; rfl
  have hlt : (p : Int) < (s.length : Int) := by omega
  have hq199 : p < 199 := by omega
  have hnge : ¬ (s.length : Int) ≤ (p : Int) := by omega
  have hDle : ¬ (190 : Int) < D := by omega
  have hw1 : IntKind.i64.wrap ((p : Int) + 1) = ((p + 1 : Nat) : Int) := by rw [IntKind.wrap_i64]; omega
  have hwD : IntKind.i64.wrap (D + 1) = D + 1 := by rw [IntKind.wrap_i64]; omega
  have HX := Lib.hid hx
  have HR2 := Lib.hid hr2
  clear hx hr2 hg H3
  go_enter Tryd.func156, Tryd.ntmps156
  go_wp2_with fail
  refine (HH.out (p + 1) (D + 1) _ (by omega) (by omega) (by omega) (by omega)).mono ?_; rintro e w2 ⟨A, n, c, l, b, q, rfl, hown, hk2, h1, h2, h3, h4, hg⟩
  have H4 := Lib.hid h4
  have HG : Hid (s.length ≤ 190 → Sp.Rds 3 (s.drop p) b (l ++ [7]) (s.drop q)) := by
    intro h190
    rw [HX.out, ← HR2.out]; exact rds_neg (hg h190)
  have hO0 := own_empty hk2.size
  have hkM := (Kept.refl w2).alloc (.cells #[] 3)
  have hL := (own_ints2 (by omega) hown (fun x hx => by have := h4 x hx; unfold Sp.inI; omega)).keep hkM
  have hkA := hk2.trans hkM
  clear hg h4 hown hk2 hkM
  go_wp2_with first | (at_builtin; refine wpList_app_ints _ rfl (.tmp 67) (.tmp 68) 23 rfl w.heap.size 3 i0 (.int .i64 0) Tryd.underlying23 HI.out.1 HI.out.2.1 HI.out.2.2.1 HI.out.2.2.2 rfl _ 0 [] rfl hO0 A n c l rfl hL n (by omega) (by unfold maxLen; omega) (by omega) hkA.size ?_; intro v1 w3 hown3 hg3 _; obtain ⟨A3, c3, rfl⟩ := own_form hown3; rw [List.nil_append] at hown3; have hkB := hkA.grown hg3 (fun k e => (hO0.lt k e).1); have hszB := hkB.size) | (at_builtin; refine wpList_append_own _ rfl (.tmp 69) (.tmp 70) 23 rfl (w.heap.size) 3 i0 (.int .i64 0) 1 8 Tryd.underlying23 HI.out.1 HI.out.2.1 HI.out.2.2.1 HI.out.2.2.2 rfl (by decide) (.slice A3 n c3) n _ rfl (hown3.alloc _) ⟨w3.heap.size, 0, none⟩ 1 1 [.int .i64 (7)] rfl rfl (one_new _ _ _) (by simp [Value.oneCell']) (by unfold maxLen; omega) (by omega) (by simp; omega) ?_; intro v' wapp hown2 hg2 _)
  obtain ⟨A5, c5, rfl⟩ := own_form hown2
  have hge : ∀ k, (Value.slice A3 n c3).ownBlock = some k → w.heap.size ≤ k := fun k e => (hown3.lt k e).1
  have hkC := (hkB.alloc _).grown hg2 hge
  go_wp2_with fail
  go_ret3
  refine ⟨A5, n + 1, c5, l ++ [7], b, q, rfl, ?_, hkC, by omega, h2, by omega, fun x hx => ?_, HG.out⟩
  · rw [List.map_append]; exact hown2
  · rw [List.mem_append, List.mem_singleton] at hx
    rcases hx with hx | rfl
    · exact H4.out x hx
    · decide

set_option maxHeartbeats 4000000 in
set_option maxRecDepth 100000 in
theorem c_small_brk (s r : List UInt8) (p : Nat) (D : Int) (w : World) (hs : s.length ≤ 199) (hp : p ≤ s.length) (hD0 : 0 ≤ D) (hD : D ≤ p)(hD2 : D ≤ 190) (hx : s.drop p = 40 :: r)
    (H1 : ∀ (p' : Nat) (D' : Int) w', p < p' → p' ≤ s.length → 0 ≤ D' → D' ≤ p' → Calls Tryd.prog 135 #[.string ⟨s.toArray⟩, .int .i64 (p' : Int), .int .i64 1, .int .i64 D'] w' (ScQ s p' 1 w')) :
    Calls Tryd.prog 156 #[.string ⟨s.toArray⟩, .int .i64 (p : Int), .int .i64 D] w (ScQ s p 3 w) := by
  have HH := Lib.hid H1
  obtain ⟨hq1, hg, hr2⟩ := byte_at hx
  have hv : (((⟨s.toArray⟩ : ByteArray)[p]'(by simpa [ByteArray.size] using hq1)).toNat : Int) = 40 := by rw [hg]; rfl
  have hlt : (p : Int) < (s.length : Int) := by omega
  have hq199 : p < 199 := by omega
  have hnge : ¬ (s.length : Int) ≤ (p : Int) := by omega
  have hDle : ¬ (190 : Int) < D := by omega
  have hw1 : IntKind.i64.wrap ((p : Int) + 1) = ((p + 1 : Nat) : Int) := by rw [IntKind.wrap_i64]; omega
  have hwD : IntKind.i64.wrap (D + 1) = D + 1 := by rw [IntKind.wrap_i64]; omega
  have HX := Lib.hid hx
  have HR2 := Lib.hid hr2
  clear hx hr2 hg H1
  go_enter Tryd.func156, Tryd.ntmps156
  go_wp2_with fail
  refine (HH.out (p + 1) (D + 1) _ (by omega) (by omega) (by omega) (by omega)).mono ?_; rintro e w2 ⟨A, n, c, l, b, q, rfl, hown, hk2, h1, h2, h3, h4, hg⟩
  have H4 := Lib.hid h4
  rw [HR2.out] at hg
  have HG := Lib.hid hg
  have hO0 := own_empty hk2.size
  have hkM := hk2.alloc (.cells #[] 3)
  clear hg h4 hv hlt hnge
  cases b
  · have HN : Hid (s.length ≤ 190 → Sp.Rds 3 (s.drop p) false [] (s.drop q)) := by
      intro h190
      rw [HX.out]; exact rds_brk_no (HG.out h190) (fun e => by cases e)
    clear HG
    go_wp2_with fail
    go_ret3
    exact ⟨_, 0, _, [], false, q, rfl, hO0, hkM, by omega, h2, by omega, (fun x hx => by cases hx), HN.out⟩
  · by_cases hql : q < s.length
    · have hnge2 : ¬ (s.length : Int) ≤ (q : Int) := by omega
      obtain ⟨y, r3, hr3⟩ : ∃ y r, s.drop q = y :: r := by
        cases e : s.drop q with
        | nil => have := congrArg List.length e; rw [List.length_drop, List.length_nil] at this; omega
        | cons y r => exact ⟨y, r, rfl⟩
      obtain ⟨hq3, hg3, hr4⟩ := byte_at hr3
      have hw2 : IntKind.i64.wrap ((q : Int) + 1) = ((q + 1 : Nat) : Int) := by rw [IntKind.wrap_i64]; omega
      by_cases hy : y = 41
      · have hv : (((⟨s.toArray⟩ : ByteArray)[q]'(by simpa [ByteArray.size] using hq3)).toNat : Int) = 41 := by rw [hg3, hy]; rfl
        have HN : Hid (s.length ≤ 190 → Sp.Rds 3 (s.drop p) true l (s.drop (q + 1))) := by
          intro h190
          rw [HX.out]
          have := HG.out h190
          rw [hr3, hy, ← hr4] at this
          exact rds_brk_yes this
        clear HG hy hr3 hr4 hg3
        go_wp2_with fail
        go_ret3
        exact ⟨A, n, c, l, true, q + 1, rfl, hown, hk2, by omega, by omega, by omega, H4.out, HN.out⟩
      · have hnv : ¬ (((⟨s.toArray⟩ : ByteArray)[q]'(by simpa [ByteArray.size] using hq3)).toNat : Int) = 41 := by
          rw [hg3]; intro e; exact hy (UInt8.toNat_inj.1 (by show y.toNat = 41; omega))
        have hnb : ((((⟨s.toArray⟩ : ByteArray)[q]'(by simpa [ByteArray.size] using hq3)).toNat : Int) == 41) = false := beq_eq_false_iff_ne.2 hnv
        have hnb2 : ((((⟨s.toArray⟩ : ByteArray)[q]'(by simpa [ByteArray.size] using hq3)).toNat : Int) != 41) = true := by rw [bne, hnb]; rfl
        have HN : Hid (s.length ≤ 190 → Sp.Rds 3 (s.drop p) false [] (s.drop q)) := by
          intro h190
          rw [HX.out]; exact rds_brk_no (HG.out h190) (fun _ => by rw [hr3]; intro e; injection e with e; exact hy e)
        clear HG hy hr3 hr4 hg3
        go_wp2_with fail
        go_ret3
        exact ⟨_, 0, _, [], false, q, rfl, hO0, hkM, by omega, h2, by omega, (fun x hx => by cases hx), HN.out⟩
    · have hge2 : (s.length : Int) ≤ (q : Int) := by omega
      have HN : Hid (s.length ≤ 190 → Sp.Rds 3 (s.drop p) false [] (s.drop q)) := by
        intro h190
        have e : s.drop q = [] := List.drop_of_length_le (by omega)
        rw [HX.out]; exact rds_brk_no (HG.out h190) (fun _ => by rw [e]; simp)
      clear HG
      go_wp2_with fail
      go_ret3
      exact ⟨_, 0, _, [], false, q, rfl, hO0, hkM, by omega, h2, by omega, (fun x hx => by cases hx), HN.out⟩

set_option maxHeartbeats 4000000 in
set_option maxRecDepth 100000 in
theorem c_small_no (s r : List UInt8) (p : Nat) (D : Int) (w : World) (hs : s.length ≤ 199) (hp : p ≤ s.length) (hD0 : 0 ≤ D) (hD : D ≤ p)(hD2 : D ≤ 190) (x : UInt8) (hx : s.drop p = x :: r) (hd : Sp.Rds 3 (s.drop p) false [] (s.drop p)) (N1 : x ≠ 33) (N2 : x ≠ 40) (N3 : x ≠ 49) (N4 : x ≠ 48) (N5 : ∀ k : Nat, k < 5 → x ≠ UInt8.ofNat (97 + k)) :
    Calls Tryd.prog 156 #[.string ⟨s.toArray⟩, .int .i64 (p : Int), .int .i64 D] w (ScQ s p 3 w) := by
  obtain ⟨hq1, hg, hr2⟩ := byte_at hx
  have HG : Hid (s.length ≤ 190 → Sp.Rds 3 (s.drop p) false [] (s.drop p)) := fun _ => hd
  obtain ⟨k, hk⟩ : ∃ k : Nat, x.toNat = k := ⟨_, rfl⟩
  have hv : (((⟨s.toArray⟩ : ByteArray)[p]'(by simpa [ByteArray.size] using hq1)).toNat : Int) = (k : Int) := by rw [hg, hk]
  have hne : ∀ c : Nat, c < 256 → x ≠ UInt8.ofNat c → k ≠ c := fun c hc h e => h (UInt8.toNat_inj.1 (by rw [hk, e]; simp [UInt8.toNat_ofNat']; omega))
  have n1 := hne 33 (by omega) N1
  have n2 := hne 40 (by omega) N2
  have n3 := hne 49 (by omega) N3
  have n4 := hne 48 (by omega) N4
  have n5 : ¬ (97 ≤ k ∧ k < 102) := fun h => hne k (by omega) (by have := N5 (k - 97) (by omega); rwa [show 97 + (k - 97) = k by omega] at this) rfl
  have b1 : ((k : Int) == 33) = false := beq_eq_false_iff_ne.2 (by omega)
  have b2 : ((k : Int) == 40) = false := beq_eq_false_iff_ne.2 (by omega)
  have b3 : ((k : Int) == 49) = false := beq_eq_false_iff_ne.2 (by omega)
  have b4 : ((k : Int) == 48) = false := beq_eq_false_iff_ne.2 (by omega)
  have hO0 := own_empty (Nat.le_refl w.heap.size)
  have hlt : (p : Int) < (s.length : Int) := by omega
  have hq199 : p < 199 := by omega
  have hnge : ¬ (s.length : Int) ≤ (p : Int) := by omega
  have hDle : ¬ (190 : Int) < D := by omega
  have hw1 : IntKind.i64.wrap ((p : Int) + 1) = ((p + 1 : Nat) : Int) := by rw [IntKind.wrap_i64]; omega
  have hwD : IntKind.i64.wrap (D + 1) = D + 1 := by rw [IntKind.wrap_i64]; omega
  clear hx hr2 hg hne hd N1 N2 N3 N4 N5 hk
  by_cases h97 : (97 : Int) ≤ (k : Int)
  · have h102 : ¬ (k : Int) < 102 := by omega
    clear n1 n2 n3 n4 n5
    go_enter Tryd.func156, Tryd.ntmps156
    go_wp2_with fail
    go_ret3
    exact ⟨_, 0, _, [], false, p, rfl, hO0, (Kept.refl w).alloc _, Nat.le_refl _, hp, by omega, (fun x hx => by cases hx), HG.out⟩
  · clear n1 n2 n3 n4 n5
    go_enter Tryd.func156, Tryd.ntmps156
    go_wp2_with fail
    go_ret3
    exact ⟨_, 0, _, [], false, p, rfl, hO0, (Kept.refl w).alloc _, Nat.le_refl _, hp, by omega, (fun x hx => by cases hx), HG.out⟩

theorem c_small (s : List UInt8) (p : Nat) (D : Int) (w : World) (hs : s.length ≤ 199) (hp : p ≤ s.length) (hD0 : 0 ≤ D) (hD : D ≤ p)
    (H3 : ∀ (p' : Nat) (D' : Int) w', p < p' → p' ≤ s.length → 0 ≤ D' → D' ≤ p' → Calls Tryd.prog 156 #[.string ⟨s.toArray⟩, .int .i64 (p' : Int), .int .i64 D'] w' (ScQ s p' 3 w'))
    (H1 : ∀ (p' : Nat) (D' : Int) w', p < p' → p' ≤ s.length → 0 ≤ D' → D' ≤ p' → Calls Tryd.prog 135 #[.string ⟨s.toArray⟩, .int .i64 (p' : Int), .int .i64 1, .int .i64 D'] w' (ScQ s p' 1 w')) :
    Calls Tryd.prog 156 #[.string ⟨s.toArray⟩, .int .i64 (p : Int), .int .i64 D] w (ScQ s p 3 w) := by
  by_cases hD2 : D ≤ 190
  · cases hx : s.drop p with
    | nil =>
      have := congrArg List.length hx
      rw [List.length_drop, List.length_nil] at this
      exact c_small_end s p D w hs hp hD0 hD (.inl (by omega))
    | cons x r =>
      by_cases e1 : x = 33
      · subst e1; exact c_small_neg s r p D w hs hp hD0 hD hD2 hx H3
      by_cases e2 : x = 40
      · subst e2; exact c_small_brk s r p D w hs hp hD0 hD hD2 hx H1
      by_cases e3 : x = 49
      · subst e3; exact c_small_yes s r p D w hs hp hD0 hD hD2 hx
      by_cases e4 : x = 48
      · subst e4; exact c_small_not s r p D w hs hp hD0 hD hD2 hx
      by_cases e5 : ∃ j : Nat, j < 5 ∧ x = UInt8.ofNat (97 + j)
      · obtain ⟨j, hj, rfl⟩ := e5
        exact c_small_let s r p D w hs hp hD0 hD hD2 j hj hx
      · have hd : Sp.dull x := dull_of e1 e2 e3 e4 (fun k hk e => e5 ⟨k, hk, e⟩)
        exact c_small_no s r p D w hs hp hD0 hD hD2 x hx (by rw [hx]; exact rds_dull hd) e1 e2 e3 e4 (fun k hk e => e5 ⟨k, hk, e⟩)
  · exact c_small_end s p D w hs hp hD0 hD (.inr (by omega))

end Go.Proofs.YtphdojebdclonaaDoor

namespace Go.Proofs.YtphdojebdclonaaDoor
set_option linter.unusedSimpArgs false
set_option linter.unusedVariables false
open Go.RowKit

theorem blk_int1 {w : World} {E : Nat} {x : Int} (h : Blk w E 3 #[.int .i64 x]) (hx : -9223372036854775808 ≤ x ∧ x ≤ 9223372036854775807) : Ints w (some ⟨E, 0, none⟩) 1 [x] :=
  ⟨rfl, by unfold maxLen; omega, fun y hy => by rw [List.mem_singleton] at hy; subst hy; exact hx, fun _ => ⟨E, 0, rfl, h.lt, fun k hk => by
    obtain rfl : k = 0 := by omega
    exact h.cell 0⟩⟩

set_option maxHeartbeats 2000000 in
set_option maxRecDepth 100000 in
theorem c_great3 (s : List UInt8) (p : Nat) (D : Int) (w : World) (H : Calls Tryd.prog 156 #[.string ⟨s.toArray⟩, .int .i64 (p : Int), .int .i64 D] w (ScQ s p 3 w)) :
    Calls Tryd.prog 135 #[.string ⟨s.toArray⟩, .int .i64 (p : Int), .int .i64 3, .int .i64 D] w (ScQ s p 3 w) := by
  have HH := Lib.hid H
  clear H
  go_enter Tryd.func135, Tryd.ntmps135
  go_wp2_with fail
  refine HH.out.mono ?_; rintro e w1 ⟨A, n, c, l, b, q, rfl, hrest⟩
  go_wp2_with fail
  go_ret3
  exact ⟨A, n, c, l, b, q, rfl, hrest⟩

set_option maxHeartbeats 8000000 in
set_option maxRecDepth 100000 in
theorem c_great1 (s : List UInt8) (p : Nat) (D : Int) (w : World) (hs : s.length ≤ 199) (hp : p ≤ s.length) (hD0 : 0 ≤ D) (hD : D ≤ p)
    (HP0 : ∀ (p' : Nat) w', p ≤ p' → p' ≤ s.length → Calls Tryd.prog 135 #[.string ⟨s.toArray⟩, .int .i64 (p' : Int), .int .i64 2, .int .i64 D] w' (ScQ s p' 2 w')) :
    Calls Tryd.prog 135 #[.string ⟨s.toArray⟩, .int .i64 (p : Int), .int .i64 1, .int .i64 D] w (ScQ s p 1 w) := by
  obtain ⟨i0, hi0, hz0, hz1, hz2⟩ := info_parts info_int
  have HI := Lib.hid (And.intro hi0 (And.intro hz0 (And.intro hz1 hz2)))
  clear hi0 hz0 hz1 hz2
  have HP := Lib.hid HP0
  have hwi : IntKind.i64.wrap 0 = 0 := by decide
  clear HP0
  go_enter Tryd.func135, Tryd.ntmps135
  go_wp2_with fail
  refine (HP.out p w (Nat.le_refl _) hp).mono ?_; rintro e w1 ⟨A, n, c, l, b, q, rfl, hown, hk1, h1, h2, h3, h4, hg⟩
  have HJ0 : Hid (s.length ≤ 190 → Sp.Sofar 1 (s.drop p) b l (s.drop q)) := fun h => rds_up (.inl rfl) (hg h)
  have H40 := Lib.hid h4
  clear hg h4
  go_wp2_with fail
  go_loopw [11, 12, 13, 14, 15, 16] (fun v t o _ _ _ wr => ∃ (A : Option Addr) (n c : Nat) (l : List Int) (b : Bool) (q : Nat), v = .slice A n c ∧ t = .int .i64 (q : Int) ∧ o = .bool b ∧ wr.ownsRow w.heap.size 3 1 (.slice A n c) n (l.map (Value.int .i64)) ∧ Kept w wr ∧ p ≤ q ∧ q ≤ s.length ∧ n + p ≤ q ∧ Hid (∀ x ∈ l, 0 ≤ x ∧ x ≤ 9) ∧ Hid (s.length ≤ 190 → Sp.Sofar 1 (s.drop p) b l (s.drop q))) (fun _ t _ _ _ _ _ => s.length - (intOf t).toNat)
  case atStart => exact ⟨A, n, c, l, b, q, rfl, rfl, rfl, hown, hk1, h1, h2, h3, H40, HJ0⟩
  case round =>
    clear hown hk1 h1 h2 h3 H40 HJ0
    obtain ⟨A, n, c, l, b, q, rfl, rfl, rfl, hown, hkp, h1, h2, h3, H4, HJ⟩ := hrel
    have hkd := hkp.drew
    have hownd := own_keep hown (Kept.refl wr).drew
    cases b
    · have HR : Hid (s.length ≤ 190 → Sp.Rds 1 (s.drop p) false l (s.drop q)) := fun h => sofar_stop (HJ.out h) (fun e => by cases e)
      clear HJ hown hkp
      go_wp2_with fail
      refine wp_region_held_drew (S := fun _ => True) (by kernel_rfl) trivial (fun hHeld => ?_)
      (refine take_val (i := 0) (v := .bool false) rfl rfl (by kernel_rfl) (by kernel_rfl) (by kernel_rfl) (fun _ _ _ h => h) rfl (by intro wq hq; (try go_split_ands); go_simp; try with_reducible rfl) (hHeld) ?_; try simp only [List.setIfInBounds_toArray, List.set_cons_zero, List.set_cons_succ])
      (refine take_val (i := 1) (v := .bool false) rfl rfl (by kernel_rfl) (by kernel_rfl) (by kernel_rfl) (fun _ _ _ h => h) rfl (by intro wq hq; (try go_split_ands); go_simp; try with_reducible rfl) (hHeld) ?_; try simp only [List.setIfInBounds_toArray, List.set_cons_zero, List.set_cons_succ])
      (refine take_skip (i := 2) rfl rfl (by kernel_rfl) (by kernel_rfl) (by kernel_rfl) (fun _ _ _ h => h) rfl (hHeld) ?_; try simp only [List.setIfInBounds_toArray, List.set_cons_zero, List.set_cons_succ])
      (refine take_skip (i := 3) rfl rfl (by kernel_rfl) (by kernel_rfl) (by kernel_rfl) (fun _ _ _ h => h) rfl (hHeld) ?_; try simp only [List.setIfInBounds_toArray, List.set_cons_zero, List.set_cons_succ])
      (refine take_skip (i := 4) rfl rfl (by kernel_rfl) (by kernel_rfl) (by kernel_rfl) (fun _ _ _ h => h) rfl (hHeld) ?_; try simp only [List.setIfInBounds_toArray, List.set_cons_zero, List.set_cons_succ])
      (refine take_skip (i := 5) rfl rfl (by kernel_rfl) (by kernel_rfl) (by kernel_rfl) (fun _ _ _ h => h) rfl (hHeld) ?_; try simp only [List.setIfInBounds_toArray, List.set_cons_zero, List.set_cons_succ])
      (refine take_val (i := 6) (v := .bool false) rfl rfl (by kernel_rfl) (by kernel_rfl) (by kernel_rfl) (fun _ _ _ h => h) rfl (by intro wq hq; (try go_split_ands); go_simp; try with_reducible rfl) (hHeld) ?_; try simp only [List.setIfInBounds_toArray, List.set_cons_zero, List.set_cons_succ])
      (refine take_val (i := 7) (v := .bool false) rfl rfl (by kernel_rfl) (by kernel_rfl) (by kernel_rfl) (fun _ _ _ h => h) rfl (by intro wq hq; (try go_split_ands); go_simp; try with_reducible rfl) (hHeld) ?_; try simp only [List.setIfInBounds_toArray, List.set_cons_zero, List.set_cons_succ])
      (refine take_skip (i := 8) rfl rfl (by kernel_rfl) (by kernel_rfl) (by kernel_rfl) (fun _ _ _ h => h) rfl (hHeld) ?_; try simp only [List.setIfInBounds_toArray, List.set_cons_zero, List.set_cons_succ])
      (refine take_skip (i := 9) rfl rfl (by kernel_rfl) (by kernel_rfl) (by kernel_rfl) (fun _ _ _ h => h) rfl (hHeld) ?_; try simp only [List.setIfInBounds_toArray, List.set_cons_zero, List.set_cons_succ])
      (refine take_skip (i := 10) rfl rfl (by kernel_rfl) (by kernel_rfl) (by kernel_rfl) (fun _ _ _ h => h) rfl (hHeld) ?_; try simp only [List.setIfInBounds_toArray, List.set_cons_zero, List.set_cons_succ])
      (refine take_skip (i := 11) rfl rfl (by kernel_rfl) (by kernel_rfl) (by kernel_rfl) (fun _ _ _ h => h) rfl (hHeld) ?_; try simp only [List.setIfInBounds_toArray, List.set_cons_zero, List.set_cons_succ])
      (refine take_skip (i := 12) rfl rfl (by kernel_rfl) (by kernel_rfl) (by kernel_rfl) (fun _ _ _ h => h) rfl (hHeld) ?_; try simp only [List.setIfInBounds_toArray, List.set_cons_zero, List.set_cons_succ])
      (refine take_skip (i := 13) rfl rfl (by kernel_rfl) (by kernel_rfl) (by kernel_rfl) (fun _ _ _ h => h) rfl (hHeld) ?_; try simp only [List.setIfInBounds_toArray, List.set_cons_zero, List.set_cons_succ])
      (refine take_skip (i := 14) rfl rfl (by kernel_rfl) (by kernel_rfl) (by kernel_rfl) (fun _ _ _ h => h) rfl (hHeld) ?_; try simp only [List.setIfInBounds_toArray, List.set_cons_zero, List.set_cons_succ])
      (refine take_skip (i := 15) rfl rfl (by kernel_rfl) (by kernel_rfl) (by kernel_rfl) (fun _ _ _ h => h) rfl (hHeld) ?_; try simp only [List.setIfInBounds_toArray, List.set_cons_zero, List.set_cons_succ])
      (refine take_skip (i := 16) rfl rfl (by kernel_rfl) (by kernel_rfl) (by kernel_rfl) (fun _ _ _ h => h) rfl (hHeld) ?_; try simp only [List.setIfInBounds_toArray, List.set_cons_zero, List.set_cons_succ])
      (refine take_val (i := 17) (v := .bool false) rfl rfl (by kernel_rfl) (by kernel_rfl) (by kernel_rfl) (fun _ _ _ h => h) rfl (by intro wq hq; (try go_split_ands); go_simp; try with_reducible rfl) (hHeld) ?_; try simp only [List.setIfInBounds_toArray, List.set_cons_zero, List.set_cons_succ])
      refine wpAnyH_done (by kernel_rfl) ?_ _
      clear hHeld
      go_wp2_with fail
      go_ret3
      exact ⟨A, n, c, l, false, q, rfl, hownd, hkd, h1, h2, h3, H4.out, HR.out⟩
    · by_cases hql : q < s.length
      · obtain ⟨y, r, hr⟩ : ∃ y r, s.drop q = y :: r := by
          cases e : s.drop q with
          | nil => have := congrArg List.length e; rw [List.length_drop, List.length_nil] at this; omega
          | cons y r => exact ⟨y, r, rfl⟩
        obtain ⟨hq1, hgb, hr2⟩ := byte_at hr
        have hlt : (q : Int) < (s.length : Int) := by omega
        by_cases hy : y = 124
        · have hv : (((⟨s.toArray⟩ : ByteArray)[q]'(by simpa [ByteArray.size] using hq1)).toNat : Int) = 124 := by rw [hgb, hy]; rfl
          have hw1 : IntKind.i64.wrap ((q : Int) + 1) = ((q + 1 : Nat) : Int) := by rw [IntKind.wrap_i64]; omega
          have HJ1 : Hid (s.length ≤ 190 → Sp.Sofar 1 (s.drop p) true l (Sp.opS 1 :: s.drop (q + 1))) := fun h => by
            have := HJ.out h
            rw [hr, hy, ← hr2] at this
            exact this
          clear HJ hown hkp hy hr hr2 hgb
          go_wp2_with fail
          refine wp_region_held_drew (S := fun _ => True) (by kernel_rfl) trivial (fun hHeld => ?_)
          obtain ⟨WR, HWR⟩ : ∃ x, Hid (wr.drew = x) := ⟨_, rfl⟩
          rw [HWR.out] at hkd hownd
          rw [HWR.out]
          (refine take_val (i := 0) (v := .bool true) rfl rfl (by kernel_rfl) (by kernel_rfl) (by kernel_rfl) (fun _ _ _ h => h) rfl (by intro wq hq; (try go_split_ands); go_simp; try with_reducible rfl) (trivial) ?_; try simp only [List.setIfInBounds_toArray, List.set_cons_zero, List.set_cons_succ])
          (refine take_val (i := 1) (v := .bool true) rfl rfl (by kernel_rfl) (by kernel_rfl) (by kernel_rfl) (fun _ _ _ h => h) rfl (by intro wq hq; (try go_split_ands); go_simp; try with_reducible rfl) (trivial) ?_; try simp only [List.setIfInBounds_toArray, List.set_cons_zero, List.set_cons_succ])
          (refine take_val (i := 2) (v := .int .i64 (q : Int)) rfl rfl (by kernel_rfl) (by kernel_rfl) (by kernel_rfl) (fun _ _ _ h => h) rfl (by intro wq hq; (try go_split_ands); go_simp; try with_reducible rfl) (trivial) ?_; try simp only [List.setIfInBounds_toArray, List.set_cons_zero, List.set_cons_succ])
          (refine take_val (i := 3) (v := .string ⟨s.toArray⟩) rfl rfl (by kernel_rfl) (by kernel_rfl) (by kernel_rfl) (fun _ _ _ h => h) rfl (by intro wq hq; (try go_split_ands); go_simp; (try with_reducible rfl); (try omega)) (trivial) ?_; try simp only [List.setIfInBounds_toArray, List.set_cons_zero, List.set_cons_succ])
          (refine take_val (i := 4) (v := .int .i64 (s.length : Int)) rfl rfl (by kernel_rfl) (by kernel_rfl) (by kernel_rfl) (fun _ _ _ h => h) rfl (by intro wq hq; (try go_split_ands); go_simp; try with_reducible rfl) (trivial) ?_; try simp only [List.setIfInBounds_toArray, List.set_cons_zero, List.set_cons_succ])
          (refine take_val (i := 5) (v := .bool true) rfl rfl (by kernel_rfl) (by kernel_rfl) (by kernel_rfl) (fun _ _ _ h => h) rfl (by intro wq hq; (try go_split_ands); go_simp; try with_reducible rfl) (trivial) ?_; try simp only [List.setIfInBounds_toArray, List.set_cons_zero, List.set_cons_succ])
          (refine take_val (i := 6) (v := .bool true) rfl rfl (by kernel_rfl) (by kernel_rfl) (by kernel_rfl) (fun _ _ _ h => h) rfl (by intro wq hq; (try go_split_ands); go_simp; try with_reducible rfl) (trivial) ?_; try simp only [List.setIfInBounds_toArray, List.set_cons_zero, List.set_cons_succ])
          (refine take_val (i := 7) (v := .bool true) rfl rfl (by kernel_rfl) (by kernel_rfl) (by kernel_rfl) (fun _ _ _ h => h) rfl (by intro wq hq; (try go_split_ands); go_simp; try with_reducible rfl) (trivial) ?_; try simp only [List.setIfInBounds_toArray, List.set_cons_zero, List.set_cons_succ])
          (refine take_val (i := 8) (v := .string ⟨s.toArray⟩) rfl rfl (by kernel_rfl) (by kernel_rfl) (by kernel_rfl) (fun _ _ _ h => h) rfl (by intro wq hq; (try go_split_ands); go_simp; (try with_reducible rfl); (try omega)) (trivial) ?_; try simp only [List.setIfInBounds_toArray, List.set_cons_zero, List.set_cons_succ])
          (refine take_val (i := 9) (v := .int .i64 (q : Int)) rfl rfl (by kernel_rfl) (by kernel_rfl) (by kernel_rfl) (fun _ _ _ h => h) rfl (by intro wq hq; (try go_split_ands); go_simp; try with_reducible rfl) (trivial) ?_; try simp only [List.setIfInBounds_toArray, List.set_cons_zero, List.set_cons_succ])
          (refine take_val (i := 10) (v := .int .u8 124) rfl rfl (by kernel_rfl) (by kernel_rfl) (by kernel_rfl) (fun _ _ _ h => h) rfl (by intro wq hq; (try go_split_ands); go_simp; try with_reducible rfl) (trivial) ?_; try simp only [List.setIfInBounds_toArray, List.set_cons_zero, List.set_cons_succ])
          (refine take_val (i := 12) (v := .int .i64 1) rfl rfl (by kernel_rfl) (by kernel_rfl) (by kernel_rfl) (fun _ _ _ h => h) rfl (by intro wq hq; (try go_split_ands); go_simp; try with_reducible rfl) (trivial) ?_; try simp only [List.setIfInBounds_toArray, List.set_cons_zero, List.set_cons_succ])
          (refine take_val (i := 13) (v := .int .i64 0) rfl rfl (by kernel_rfl) (by kernel_rfl) (by kernel_rfl) (fun _ _ _ h => h) rfl (by intro wq hq; (try go_split_ands); go_simp; try with_reducible rfl) (trivial) ?_; try simp only [List.setIfInBounds_toArray, List.set_cons_zero, List.set_cons_succ])
          have BS0 := Blk.new WR 5 #[.int .u8 124, .int .u8 38]
          have hkS := hkd.alloc (.cells #[.int .u8 124, .int .u8 38] 5)
          have hownS := own_keep hownd ((Kept.refl WR).alloc (.cells #[.int .u8 124, .int .u8 38] 5))
          (refine wpAnyH_ready (rs := [11]) (by kernel_rfl) (by simp) ?_; refine AllReadyH.cons rfl (fun K hK => ?_) AllReadyH.nil; go_simp)
          (refine hK.out _ _ (trivial) (fun _ => ?_); clear hK K; try simp only [Act.put, List.setIfInBounds_toArray, List.set_cons_zero, List.set_cons_succ])
          obtain ⟨DS, HDS⟩ : ∃ x, Hid (WR.heap.size = x) := ⟨_, rfl⟩
          obtain ⟨WS, HWS⟩ : ∃ x, Hid (WR.alloc (.cells #[.int .u8 124, .int .u8 38] 5) = x) := ⟨_, rfl⟩
          have BS : Blk WS DS 5 #[.int .u8 124, .int .u8 38] := by rw [← HWS.out, ← HDS.out]; exact BS0
          rw [HWS.out] at hkS hownS
          rw [HDS.out, HWS.out]
          clear BS0 hHeld hownd hkd
          refine held_more (S' := fun w' => w'.cell? ⟨DS, 0, none⟩ = some (.int .u8 124)) (fun _ _ => trivial) _ _ _ _ ?_
          have hSS : WS.cell? ⟨DS, 0, none⟩ = some (.int .u8 124) := BS.cell 0
          (refine take_val (i := 14) (v := .pointer (some ⟨DS, 0, none⟩)) rfl rfl (by kernel_rfl) (by kernel_rfl) (by kernel_rfl) (fun _ _ _ h => h) rfl (by intro wq hq; (try go_split_ands); go_simp; try with_reducible rfl) (hSS) ?_; try simp only [List.setIfInBounds_toArray, List.set_cons_zero, List.set_cons_succ])
          (refine take_val (i := 15) (v := .int .u8 124) rfl rfl (by kernel_rfl) (by kernel_rfl) (by kernel_rfl) (fun _ _ _ h => h) rfl (by intro wq hq; (try go_split_ands); go_simp; try with_reducible rfl) (hSS) ?_; try simp only [List.setIfInBounds_toArray, List.set_cons_zero, List.set_cons_succ])
          (refine take_val (i := 16) (v := .bool true) rfl rfl (by kernel_rfl) (by kernel_rfl) (by kernel_rfl) (fun _ _ _ h => h) rfl (by intro wq hq; (try go_split_ands); go_simp; try with_reducible rfl) (hSS) ?_; try simp only [List.setIfInBounds_toArray, List.set_cons_zero, List.set_cons_succ])
          (refine take_val (i := 17) (v := .bool true) rfl rfl (by kernel_rfl) (by kernel_rfl) (by kernel_rfl) (fun _ _ _ h => h) rfl (by intro wq hq; (try go_split_ands); go_simp; try with_reducible rfl) (hSS) ?_; try simp only [List.setIfInBounds_toArray, List.set_cons_zero, List.set_cons_succ])
          refine wpAnyH_done (by kernel_rfl) ?_ _
          clear hSS BS hv
          go_wp2_with fail
          refine (HP.out (q + 1) WS (by omega) (by omega)).mono ?_; rintro e w3 ⟨A3, n3, c3, l3, b3, q3, rfl, hown3, hk3, k1, k2, k3, k4, hg3⟩
          have hIa0 := own_ints2 (by omega) (own_keep hownS hk3) (fun x hx => by have := H4.out x hx; unfold Sp.inI; omega)
          have hIb0 := own_ints2 (by omega) hown3 (fun x hx => by have := k4 x hx; unfold Sp.inI; omega)
          have hk3w := hkS.trans hk3
          have HJ2 : Hid (s.length ≤ 190 → Sp.Sofar 1 (s.drop p) b3 (l ++ l3 ++ [9]) (s.drop q3)) := fun h => sofar_more (HJ1.out h) (hg3 h)
          have HL4 : Hid (∀ x ∈ l ++ l3 ++ [9], 0 ≤ x ∧ x ≤ 9) := by
            intro x hx
            simp only [List.mem_append, List.mem_singleton] at hx
            rcases hx with (hx | hx) | hx
            · exact H4.out x hx
            · exact k4 x hx
            · subst hx; decide
          have HOwn : Hid (∀ (W : World) (A5 : Option Addr) (c5 : Nat), W.ownsRow w3.heap.size 3 1 (.slice A5 (n + n3 + 1) c5) (n + n3 + 1) (l.map (Value.int .i64) ++ l3.map (Value.int .i64) ++ [9].map (Value.int .i64)) →
              W.ownsRow w.heap.size 3 1 (.slice A5 (n + n3 + 1) c5) (n + n3 + 1) ((l ++ l3 ++ [9]).map (Value.int .i64))) := by
            intro W A5 c5 h
            rw [List.map_append, List.map_append]
            exact ownsRow_mono h hk3w.size
          have HKw : Hid (∀ W, Kept w3 W → Kept w W) := fun W h => hk3w.trans h
          obtain ⟨W0, HW0⟩ : ∃ x, Hid (w3.drew = x) := ⟨_, rfl⟩
          have hk0w : Kept w3 W0 := by rw [← HW0.out]; exact (Kept.refl w3).drew
          have hIa := hIa0
          have hIb := hIb0
          clear hownS hown3 hg3 k4 HJ1 hk3w hk3 hkS hIa0 hIb0
          go_wp2_with fail
          refine wp_region_held_drew (S := fun _ => True) (by kernel_rfl) trivial (fun hHeld => ?_)
          rw [HW0.out]
          clear hHeld
          (refine take_val (i := 1) (v := .slice A n c) rfl rfl (by kernel_rfl) (by kernel_rfl) (by kernel_rfl) (fun _ _ _ h => h) rfl (by intro wq hq; (try go_split_ands); go_simp; try with_reducible rfl) (trivial) ?_; try simp only [List.setIfInBounds_toArray, List.set_cons_zero, List.set_cons_succ])
          (refine take_val (i := 3) (v := .slice A3 n3 c3) rfl rfl (by kernel_rfl) (by kernel_rfl) (by kernel_rfl) (fun _ _ _ h => h) rfl (by intro wq hq; (try go_split_ands); go_simp; try with_reducible rfl) (trivial) ?_; try simp only [List.setIfInBounds_toArray, List.set_cons_zero, List.set_cons_succ])
          (refine take_val (i := 6) (v := .int .i64 1) rfl rfl (by kernel_rfl) (by kernel_rfl) (by kernel_rfl) (fun _ _ _ h => h) rfl (by intro wq hq; (try go_split_ands); go_simp; try with_reducible rfl) (trivial) ?_; try simp only [List.setIfInBounds_toArray, List.set_cons_zero, List.set_cons_succ])
          (refine take_val (i := 7) (v := .int .i64 0) rfl rfl (by kernel_rfl) (by kernel_rfl) (by kernel_rfl) (fun _ _ _ h => h) rfl (by intro wq hq; (try go_split_ands); go_simp; try with_reducible rfl) (trivial) ?_; try simp only [List.setIfInBounds_toArray, List.set_cons_zero, List.set_cons_succ])
          refine wpAnyH_ready (rs := [0, 5]) (by kernel_rfl) (by simp) ?_
          refine AllReadyH.cons rfl (fun K hK => ?_) (AllReadyH.cons rfl (fun K hK => ?_) (AllReadyH.nil))
          · skip
            go_simp
            have hl1 := (Kept.refl W0).alloc (.cells #[] 3)
            have hk1 := hk0w.trans hl1
            have ho1 := own_empty (X := w3.heap.size) hk0w.size
            (refine hK.out _ _ (trivial) (fun _ => ?_); clear hK K; try simp only [Act.put, List.setIfInBounds_toArray, List.set_cons_zero, List.set_cons_succ])
            obtain ⟨gq, HN1⟩ : ∃ x, Hid (W0.heap.size = x) := ⟨_, rfl⟩
            obtain ⟨W1, HW1⟩ : ∃ x, Hid (W0.alloc (.cells #[] 3) = x) := ⟨_, rfl⟩
            clear hl1
            rw [HW1.out] at hk1 ho1
            rw [HN1.out] at ho1
            rw [HN1.out, HW1.out]
            refine wpAnyH_ready (rs := [2, 5]) (by kernel_rfl) (by simp) ?_
            refine AllReadyH.cons rfl (fun K hK => ?_) (AllReadyH.cons rfl (fun K hK => ?_) (AllReadyH.nil))
            · skip
              refine wp_app_ints _ (.tmp 65) (.tmp 66) 23 rfl w3.heap.size 3 i0 (.int .i64 0) Tryd.underlying23 HI.out.1 HI.out.2.1 HI.out.2.2.1 HI.out.2.2.2 rfl (.slice (some ⟨gq, 0, none⟩) 0 0) 0 [] rfl ho1 A n c l rfl (hIa.keep hk1) n (by omega) (by unfold maxLen; omega) (by omega) hk1.size (fun v2 W2 ho2 hg2 hat2 => ?_)
              obtain ⟨Az2, cz2, rfl⟩ := own_form ho2
              rw [List.nil_append] at ho2
              have hk2 := hk1.grown hg2 (fun k e => (ho1.lt k e).1)
              refine hK.out _ _ trivial (fun _ => ?_); clear hK K; try simp only [Act.put, List.setIfInBounds_toArray, List.set_cons_zero, List.set_cons_succ]
              refine wpAnyH_ready (rs := [4, 5]) (by kernel_rfl) (by simp) ?_
              refine AllReadyH.cons rfl (fun K hK => ?_) (AllReadyH.cons rfl (fun K hK => ?_) (AllReadyH.nil))
              · skip
                refine wp_app_ints _ (.tmp 67) (.tmp 68) 23 rfl w3.heap.size 3 i0 (.int .i64 0) Tryd.underlying23 HI.out.1 HI.out.2.1 HI.out.2.2.1 HI.out.2.2.2 rfl (.slice Az2 n cz2) n (l.map (Value.int .i64)) rfl ho2 A3 n3 c3 l3 rfl (hIb.keep hk2) (n + n3) (by omega) (by unfold maxLen; omega) (by omega) hk2.size (fun v3 W3 ho3 hg3 hat3 => ?_)
                obtain ⟨Az3, cz3, rfl⟩ := own_form ho3
                have hk3 := hk2.grown hg3 (fun k e => (ho2.lt k e).1)
                refine hK.out _ _ trivial (fun _ => ?_); clear hK K; try simp only [Act.put, List.setIfInBounds_toArray, List.set_cons_zero, List.set_cons_succ]
                refine wpAnyH_ready (rs := [5]) (by kernel_rfl) (by simp) ?_
                refine AllReadyH.cons rfl (fun K hK => ?_) (AllReadyH.nil)
                go_simp
                have hl4 := (Kept.refl W3).alloc (.cells #[.int .i64 9, .int .i64 8] 3)
                have hk4 := hk3.trans hl4
                have B4 := Blk.new W3 3 #[.int .i64 9, .int .i64 8]
                have ho4 := own_keep ho3 hl4
                (refine hK.out _ _ (trivial) (fun _ => ?_); clear hK K; try simp only [Act.put, List.setIfInBounds_toArray, List.set_cons_zero, List.set_cons_succ])
                obtain ⟨D5, HN4⟩ : ∃ x, Hid (W3.heap.size = x) := ⟨_, rfl⟩
                obtain ⟨W4, HW4⟩ : ∃ x, Hid (W3.alloc (.cells #[.int .i64 9, .int .i64 8] 3) = x) := ⟨_, rfl⟩
                have hne4 : (Value.slice Az3 (n + n3) cz3).ownBlock ≠ some D5 := fun e => by have h1 := (ho3.lt _ e).2; have h2 := HN4.out; omega
                clear hl4
                rw [HW4.out] at hk4 B4 ho4
                rw [HN4.out] at B4
                rw [HN4.out, HW4.out]
                refine held_more (S' := fun w' => w'.cell? ⟨D5, 0, none⟩ = some (.int .i64 9)) (fun _ _ => trivial) _ _ _ _ ?_
                have hS4 : W4.cell? ⟨D5, 0, none⟩ = some (.int .i64 9) := B4.cell 0
                (refine take_val (i := 8) (v := .pointer (some ⟨D5, 0, none⟩)) rfl rfl (by kernel_rfl) (by kernel_rfl) (by kernel_rfl) (fun _ _ _ h => h) rfl (by intro wq hq; (try go_split_ands); go_simp; try with_reducible rfl) (hS4) ?_; try simp only [List.setIfInBounds_toArray, List.set_cons_zero, List.set_cons_succ])
                (refine take_val (i := 9) (v := .int .i64 9) rfl rfl (by kernel_rfl) (by kernel_rfl) (by kernel_rfl) (fun _ _ _ h => h) rfl (by intro wq hq; (try go_split_ands); go_simp; try with_reducible rfl) (hS4) ?_; try simp only [List.setIfInBounds_toArray, List.set_cons_zero, List.set_cons_succ])
                clear hS4
                refine wpAnyH_ready (rs := [10]) (by kernel_rfl) (by simp) ?_
                refine AllReadyH.cons rfl (fun K hK => ?_) (AllReadyH.nil)
                go_simp
                have hl5 := (Kept.refl W4).alloc (.cells #[.int .i64 9] 3)
                have hk5 := hk4.trans hl5
                have B5 := Blk.new W4 3 #[.int .i64 9]
                have ho5 := own_keep ho4 hl5
                have B5_5 := B4.kept hl5
                (refine hK.out _ _ ((B5_5.cell 0)) (fun _ => ?_); clear hK K; try simp only [Act.put, List.setIfInBounds_toArray, List.set_cons_zero, List.set_cons_succ])
                obtain ⟨E10, HN5⟩ : ∃ x, Hid (W4.heap.size = x) := ⟨_, rfl⟩
                obtain ⟨W5, HW5⟩ : ∃ x, Hid (W4.alloc (.cells #[.int .i64 9] 3) = x) := ⟨_, rfl⟩
                have hne5 : (Value.slice Az3 (n + n3) cz3).ownBlock ≠ some E10 := fun e => by have h1 := (ho4.lt _ e).2; have h2 := HN5.out; omega
                clear hl5
                rw [HW5.out] at hk5 B5 ho5 B5_5
                rw [HN5.out] at B5
                rw [HN5.out, HW5.out]
                refine wpAnyH_ready (rs := [11]) (by kernel_rfl) (by simp) ?_
                refine AllReadyH.cons rfl (fun K hK => ?_) AllReadyH.nil
                refine wp_app_ints _ (.tmp 69) (.tmp 75) 23 rfl w3.heap.size 3 i0 (.int .i64 0) Tryd.underlying23 HI.out.1 HI.out.2.1 HI.out.2.2.1 HI.out.2.2.2 rfl (.slice Az3 (n + n3) cz3) (n + n3) (l.map (Value.int .i64) ++ l3.map (Value.int .i64)) rfl ho5 (some ⟨E10, 0, none⟩) 1 1 [9] rfl (blk_int1 B5 (by decide)) (n + n3 + 1) rfl (by unfold maxLen; omega) (by omega) hk5.size (fun v6 W6 ho6 hg6 _ => ?_)
                obtain ⟨Az6, cz6, rfl⟩ := own_form ho6
                have hk6 := hk5.grown hg6 (fun k e => (ho5.lt k e).1)
                have B6 := B5_5.grown hg6 (fun e => hne4 e.symm)
                refine hK.out _ _ (B6.cell 0) (fun _ => ?_); clear hK K; try simp only [Act.put, List.setIfInBounds_toArray, List.set_cons_zero, List.set_cons_succ]
                (refine take_val (i := 12) (v := .slice Az6 (n + n3 + 1) cz6) rfl rfl (by kernel_rfl) (by kernel_rfl) (by kernel_rfl) (fun _ _ _ h => h) rfl (by intro wq hq; (try go_split_ands); go_simp; try with_reducible rfl) ((B6.cell 0)) ?_; try simp only [List.setIfInBounds_toArray, List.set_cons_zero, List.set_cons_succ])
                refine wpAnyH_done (by kernel_rfl) ?_ _
                go_wp2_with fail
                exact ⟨⟨Az6, n + n3 + 1, cz6, l ++ l3 ++ [9], b3, q3, rfl, rfl, rfl, HOwn.out _ _ _ ho6, HKw.out _ hk6, by omega, k2, by omega, HL4, HJ2⟩, by simp [intOf]; omega⟩
              · skip
                go_simp
                have hl7 := (Kept.refl W2).alloc (.cells #[.int .i64 9, .int .i64 8] 3)
                have hk7 := hk2.trans hl7
                have B7 := Blk.new W2 3 #[.int .i64 9, .int .i64 8]
                have ho7 := own_keep ho2 hl7
                (refine hK.out _ _ (trivial) (fun _ => ?_); clear hK K; try simp only [Act.put, List.setIfInBounds_toArray, List.set_cons_zero, List.set_cons_succ])
                obtain ⟨D5, HN7⟩ : ∃ x, Hid (W2.heap.size = x) := ⟨_, rfl⟩
                obtain ⟨W7, HW7⟩ : ∃ x, Hid (W2.alloc (.cells #[.int .i64 9, .int .i64 8] 3) = x) := ⟨_, rfl⟩
                have hne7 : (Value.slice Az2 n cz2).ownBlock ≠ some D5 := fun e => by have h1 := (ho2.lt _ e).2; have h2 := HN7.out; omega
                clear hl7
                rw [HW7.out] at hk7 B7 ho7
                rw [HN7.out] at B7
                rw [HN7.out, HW7.out]
                refine held_more (S' := fun w' => w'.cell? ⟨D5, 0, none⟩ = some (.int .i64 9)) (fun _ _ => trivial) _ _ _ _ ?_
                have hS7 : W7.cell? ⟨D5, 0, none⟩ = some (.int .i64 9) := B7.cell 0
                (refine take_val (i := 8) (v := .pointer (some ⟨D5, 0, none⟩)) rfl rfl (by kernel_rfl) (by kernel_rfl) (by kernel_rfl) (fun _ _ _ h => h) rfl (by intro wq hq; (try go_split_ands); go_simp; try with_reducible rfl) (hS7) ?_; try simp only [List.setIfInBounds_toArray, List.set_cons_zero, List.set_cons_succ])
                (refine take_val (i := 9) (v := .int .i64 9) rfl rfl (by kernel_rfl) (by kernel_rfl) (by kernel_rfl) (fun _ _ _ h => h) rfl (by intro wq hq; (try go_split_ands); go_simp; try with_reducible rfl) (hS7) ?_; try simp only [List.setIfInBounds_toArray, List.set_cons_zero, List.set_cons_succ])
                clear hS7
                refine wpAnyH_ready (rs := [4, 10]) (by kernel_rfl) (by simp) ?_
                refine AllReadyH.cons rfl (fun K hK => ?_) (AllReadyH.cons rfl (fun K hK => ?_) (AllReadyH.nil))
                · skip
                  refine wp_app_ints _ (.tmp 67) (.tmp 68) 23 rfl w3.heap.size 3 i0 (.int .i64 0) Tryd.underlying23 HI.out.1 HI.out.2.1 HI.out.2.2.1 HI.out.2.2.2 rfl (.slice Az2 n cz2) n (l.map (Value.int .i64)) rfl ho7 A3 n3 c3 l3 rfl (hIb.keep hk7) (n + n3) (by omega) (by unfold maxLen; omega) (by omega) hk7.size (fun v8 W8 ho8 hg8 hat8 => ?_)
                  obtain ⟨Az8, cz8, rfl⟩ := own_form ho8
                  have hk8 := hk7.grown hg8 (fun k e => (ho7.lt k e).1)
                  have B8_5 := B7.grown hg8 (fun e => hne7 e.symm)
                  have hne8_5 : (Value.slice Az8 (n + n3) cz8).ownBlock ≠ some D5 := fun e => by
                    rcases hat8 with h | h
                    · exact hne7 (h.symm.trans e)
                    · have h1 := B7.lt; rw [h] at e; simp only [Option.some.injEq] at e; omega
                  refine hK.out _ _ (B8_5.cell 0) (fun _ => ?_); clear hK K; try simp only [Act.put, List.setIfInBounds_toArray, List.set_cons_zero, List.set_cons_succ]
                  refine wpAnyH_ready (rs := [10]) (by kernel_rfl) (by simp) ?_
                  refine AllReadyH.cons rfl (fun K hK => ?_) (AllReadyH.nil)
                  go_simp
                  have hl9 := (Kept.refl W8).alloc (.cells #[.int .i64 9] 3)
                  have hk9 := hk8.trans hl9
                  have B9 := Blk.new W8 3 #[.int .i64 9]
                  have ho9 := own_keep ho8 hl9
                  have B9_5 := B8_5.kept hl9
                  (refine hK.out _ _ ((B9_5.cell 0)) (fun _ => ?_); clear hK K; try simp only [Act.put, List.setIfInBounds_toArray, List.set_cons_zero, List.set_cons_succ])
                  obtain ⟨E10, HN9⟩ : ∃ x, Hid (W8.heap.size = x) := ⟨_, rfl⟩
                  obtain ⟨W9, HW9⟩ : ∃ x, Hid (W8.alloc (.cells #[.int .i64 9] 3) = x) := ⟨_, rfl⟩
                  have hne9 : (Value.slice Az8 (n + n3) cz8).ownBlock ≠ some E10 := fun e => by have h1 := (ho8.lt _ e).2; have h2 := HN9.out; omega
                  clear hl9
                  rw [HW9.out] at hk9 B9 ho9 B9_5
                  rw [HN9.out] at B9
                  rw [HN9.out, HW9.out]
                  refine wpAnyH_ready (rs := [11]) (by kernel_rfl) (by simp) ?_
                  refine AllReadyH.cons rfl (fun K hK => ?_) AllReadyH.nil
                  refine wp_app_ints _ (.tmp 69) (.tmp 75) 23 rfl w3.heap.size 3 i0 (.int .i64 0) Tryd.underlying23 HI.out.1 HI.out.2.1 HI.out.2.2.1 HI.out.2.2.2 rfl (.slice Az8 (n + n3) cz8) (n + n3) (l.map (Value.int .i64) ++ l3.map (Value.int .i64)) rfl ho9 (some ⟨E10, 0, none⟩) 1 1 [9] rfl (blk_int1 B9 (by decide)) (n + n3 + 1) rfl (by unfold maxLen; omega) (by omega) hk9.size (fun v10 W10 ho10 hg10 _ => ?_)
                  obtain ⟨Az10, cz10, rfl⟩ := own_form ho10
                  have hk10 := hk9.grown hg10 (fun k e => (ho9.lt k e).1)
                  have B10 := B9_5.grown hg10 (fun e => hne8_5 e.symm)
                  refine hK.out _ _ (B10.cell 0) (fun _ => ?_); clear hK K; try simp only [Act.put, List.setIfInBounds_toArray, List.set_cons_zero, List.set_cons_succ]
                  (refine take_val (i := 12) (v := .slice Az10 (n + n3 + 1) cz10) rfl rfl (by kernel_rfl) (by kernel_rfl) (by kernel_rfl) (fun _ _ _ h => h) rfl (by intro wq hq; (try go_split_ands); go_simp; try with_reducible rfl) ((B10.cell 0)) ?_; try simp only [List.setIfInBounds_toArray, List.set_cons_zero, List.set_cons_succ])
                  refine wpAnyH_done (by kernel_rfl) ?_ _
                  go_wp2_with fail
                  exact ⟨⟨Az10, n + n3 + 1, cz10, l ++ l3 ++ [9], b3, q3, rfl, rfl, rfl, HOwn.out _ _ _ ho10, HKw.out _ hk10, by omega, k2, by omega, HL4, HJ2⟩, by simp [intOf]; omega⟩
                · skip
                  go_simp
                  have hl11 := (Kept.refl W7).alloc (.cells #[.int .i64 9] 3)
                  have hk11 := hk7.trans hl11
                  have B11 := Blk.new W7 3 #[.int .i64 9]
                  have ho11 := own_keep ho7 hl11
                  have B11_5 := B7.kept hl11
                  (refine hK.out _ _ ((B11_5.cell 0)) (fun _ => ?_); clear hK K; try simp only [Act.put, List.setIfInBounds_toArray, List.set_cons_zero, List.set_cons_succ])
                  obtain ⟨E10, HN11⟩ : ∃ x, Hid (W7.heap.size = x) := ⟨_, rfl⟩
                  obtain ⟨W11, HW11⟩ : ∃ x, Hid (W7.alloc (.cells #[.int .i64 9] 3) = x) := ⟨_, rfl⟩
                  have hne11 : (Value.slice Az2 n cz2).ownBlock ≠ some E10 := fun e => by have h1 := (ho7.lt _ e).2; have h2 := HN11.out; omega
                  clear hl11
                  rw [HW11.out] at hk11 B11 ho11 B11_5
                  rw [HN11.out] at B11
                  rw [HN11.out, HW11.out]
                  refine wpAnyH_ready (rs := [4]) (by kernel_rfl) (by simp) ?_
                  refine AllReadyH.cons rfl (fun K hK => ?_) (AllReadyH.nil)
                  refine wp_app_ints _ (.tmp 67) (.tmp 68) 23 rfl w3.heap.size 3 i0 (.int .i64 0) Tryd.underlying23 HI.out.1 HI.out.2.1 HI.out.2.2.1 HI.out.2.2.2 rfl (.slice Az2 n cz2) n (l.map (Value.int .i64)) rfl ho11 A3 n3 c3 l3 rfl (hIb.keep hk11) (n + n3) (by omega) (by unfold maxLen; omega) (by omega) hk11.size (fun v12 W12 ho12 hg12 hat12 => ?_)
                  obtain ⟨Az12, cz12, rfl⟩ := own_form ho12
                  have hk12 := hk11.grown hg12 (fun k e => (ho11.lt k e).1)
                  have B12_5 := B11_5.grown hg12 (fun e => hne7 e.symm)
                  have hne12_5 : (Value.slice Az12 (n + n3) cz12).ownBlock ≠ some D5 := fun e => by
                    rcases hat12 with h | h
                    · exact hne7 (h.symm.trans e)
                    · have h1 := B11_5.lt; rw [h] at e; simp only [Option.some.injEq] at e; omega
                  have B12_10 := B11.grown hg12 (fun e => hne11 e.symm)
                  have hne12_10 : (Value.slice Az12 (n + n3) cz12).ownBlock ≠ some E10 := fun e => by
                    rcases hat12 with h | h
                    · exact hne11 (h.symm.trans e)
                    · have h1 := B11.lt; rw [h] at e; simp only [Option.some.injEq] at e; omega
                  refine hK.out _ _ (B12_5.cell 0) (fun _ => ?_); clear hK K; try simp only [Act.put, List.setIfInBounds_toArray, List.set_cons_zero, List.set_cons_succ]
                  refine wpAnyH_ready (rs := [11]) (by kernel_rfl) (by simp) ?_
                  refine AllReadyH.cons rfl (fun K hK => ?_) AllReadyH.nil
                  refine wp_app_ints _ (.tmp 69) (.tmp 75) 23 rfl w3.heap.size 3 i0 (.int .i64 0) Tryd.underlying23 HI.out.1 HI.out.2.1 HI.out.2.2.1 HI.out.2.2.2 rfl (.slice Az12 (n + n3) cz12) (n + n3) (l.map (Value.int .i64) ++ l3.map (Value.int .i64)) rfl ho12 (some ⟨E10, 0, none⟩) 1 1 [9] rfl (blk_int1 B12_10 (by decide)) (n + n3 + 1) rfl (by unfold maxLen; omega) (by omega) hk12.size (fun v13 W13 ho13 hg13 _ => ?_)
                  obtain ⟨Az13, cz13, rfl⟩ := own_form ho13
                  have hk13 := hk12.grown hg13 (fun k e => (ho12.lt k e).1)
                  have B13 := B12_5.grown hg13 (fun e => hne12_5 e.symm)
                  refine hK.out _ _ (B13.cell 0) (fun _ => ?_); clear hK K; try simp only [Act.put, List.setIfInBounds_toArray, List.set_cons_zero, List.set_cons_succ]
                  (refine take_val (i := 12) (v := .slice Az13 (n + n3 + 1) cz13) rfl rfl (by kernel_rfl) (by kernel_rfl) (by kernel_rfl) (fun _ _ _ h => h) rfl (by intro wq hq; (try go_split_ands); go_simp; try with_reducible rfl) ((B13.cell 0)) ?_; try simp only [List.setIfInBounds_toArray, List.set_cons_zero, List.set_cons_succ])
                  refine wpAnyH_done (by kernel_rfl) ?_ _
                  go_wp2_with fail
                  exact ⟨⟨Az13, n + n3 + 1, cz13, l ++ l3 ++ [9], b3, q3, rfl, rfl, rfl, HOwn.out _ _ _ ho13, HKw.out _ hk13, by omega, k2, by omega, HL4, HJ2⟩, by simp [intOf]; omega⟩
            · skip
              go_simp
              have hl14 := (Kept.refl W1).alloc (.cells #[.int .i64 9, .int .i64 8] 3)
              have hk14 := hk1.trans hl14
              have B14 := Blk.new W1 3 #[.int .i64 9, .int .i64 8]
              have ho14 := own_keep ho1 hl14
              (refine hK.out _ _ (trivial) (fun _ => ?_); clear hK K; try simp only [Act.put, List.setIfInBounds_toArray, List.set_cons_zero, List.set_cons_succ])
              obtain ⟨D5, HN14⟩ : ∃ x, Hid (W1.heap.size = x) := ⟨_, rfl⟩
              obtain ⟨W14, HW14⟩ : ∃ x, Hid (W1.alloc (.cells #[.int .i64 9, .int .i64 8] 3) = x) := ⟨_, rfl⟩
              have hne14 : (Value.slice (some ⟨gq, 0, none⟩) 0 0).ownBlock ≠ some D5 := fun e => by have h1 := (ho1.lt _ e).2; have h2 := HN14.out; omega
              clear hl14
              rw [HW14.out] at hk14 B14 ho14
              rw [HN14.out] at B14
              rw [HN14.out, HW14.out]
              refine held_more (S' := fun w' => w'.cell? ⟨D5, 0, none⟩ = some (.int .i64 9)) (fun _ _ => trivial) _ _ _ _ ?_
              have hS14 : W14.cell? ⟨D5, 0, none⟩ = some (.int .i64 9) := B14.cell 0
              (refine take_val (i := 8) (v := .pointer (some ⟨D5, 0, none⟩)) rfl rfl (by kernel_rfl) (by kernel_rfl) (by kernel_rfl) (fun _ _ _ h => h) rfl (by intro wq hq; (try go_split_ands); go_simp; try with_reducible rfl) (hS14) ?_; try simp only [List.setIfInBounds_toArray, List.set_cons_zero, List.set_cons_succ])
              (refine take_val (i := 9) (v := .int .i64 9) rfl rfl (by kernel_rfl) (by kernel_rfl) (by kernel_rfl) (fun _ _ _ h => h) rfl (by intro wq hq; (try go_split_ands); go_simp; try with_reducible rfl) (hS14) ?_; try simp only [List.setIfInBounds_toArray, List.set_cons_zero, List.set_cons_succ])
              clear hS14
              refine wpAnyH_ready (rs := [2, 10]) (by kernel_rfl) (by simp) ?_
              refine AllReadyH.cons rfl (fun K hK => ?_) (AllReadyH.cons rfl (fun K hK => ?_) (AllReadyH.nil))
              · skip
                refine wp_app_ints _ (.tmp 65) (.tmp 66) 23 rfl w3.heap.size 3 i0 (.int .i64 0) Tryd.underlying23 HI.out.1 HI.out.2.1 HI.out.2.2.1 HI.out.2.2.2 rfl (.slice (some ⟨gq, 0, none⟩) 0 0) 0 [] rfl ho14 A n c l rfl (hIa.keep hk14) n (by omega) (by unfold maxLen; omega) (by omega) hk14.size (fun v15 W15 ho15 hg15 hat15 => ?_)
                obtain ⟨Az15, cz15, rfl⟩ := own_form ho15
                rw [List.nil_append] at ho15
                have hk15 := hk14.grown hg15 (fun k e => (ho14.lt k e).1)
                have B15_5 := B14.grown hg15 (fun e => hne14 e.symm)
                have hne15_5 : (Value.slice Az15 n cz15).ownBlock ≠ some D5 := fun e => by
                  rcases hat15 with h | h
                  · exact hne14 (h.symm.trans e)
                  · have h1 := B14.lt; rw [h] at e; simp only [Option.some.injEq] at e; omega
                refine hK.out _ _ (B15_5.cell 0) (fun _ => ?_); clear hK K; try simp only [Act.put, List.setIfInBounds_toArray, List.set_cons_zero, List.set_cons_succ]
                refine wpAnyH_ready (rs := [4, 10]) (by kernel_rfl) (by simp) ?_
                refine AllReadyH.cons rfl (fun K hK => ?_) (AllReadyH.cons rfl (fun K hK => ?_) (AllReadyH.nil))
                · skip
                  refine wp_app_ints _ (.tmp 67) (.tmp 68) 23 rfl w3.heap.size 3 i0 (.int .i64 0) Tryd.underlying23 HI.out.1 HI.out.2.1 HI.out.2.2.1 HI.out.2.2.2 rfl (.slice Az15 n cz15) n (l.map (Value.int .i64)) rfl ho15 A3 n3 c3 l3 rfl (hIb.keep hk15) (n + n3) (by omega) (by unfold maxLen; omega) (by omega) hk15.size (fun v16 W16 ho16 hg16 hat16 => ?_)
                  obtain ⟨Az16, cz16, rfl⟩ := own_form ho16
                  have hk16 := hk15.grown hg16 (fun k e => (ho15.lt k e).1)
                  have B16_5 := B15_5.grown hg16 (fun e => hne15_5 e.symm)
                  have hne16_5 : (Value.slice Az16 (n + n3) cz16).ownBlock ≠ some D5 := fun e => by
                    rcases hat16 with h | h
                    · exact hne15_5 (h.symm.trans e)
                    · have h1 := B15_5.lt; rw [h] at e; simp only [Option.some.injEq] at e; omega
                  refine hK.out _ _ (B16_5.cell 0) (fun _ => ?_); clear hK K; try simp only [Act.put, List.setIfInBounds_toArray, List.set_cons_zero, List.set_cons_succ]
                  refine wpAnyH_ready (rs := [10]) (by kernel_rfl) (by simp) ?_
                  refine AllReadyH.cons rfl (fun K hK => ?_) (AllReadyH.nil)
                  go_simp
                  have hl17 := (Kept.refl W16).alloc (.cells #[.int .i64 9] 3)
                  have hk17 := hk16.trans hl17
                  have B17 := Blk.new W16 3 #[.int .i64 9]
                  have ho17 := own_keep ho16 hl17
                  have B17_5 := B16_5.kept hl17
                  (refine hK.out _ _ ((B17_5.cell 0)) (fun _ => ?_); clear hK K; try simp only [Act.put, List.setIfInBounds_toArray, List.set_cons_zero, List.set_cons_succ])
                  obtain ⟨E10, HN17⟩ : ∃ x, Hid (W16.heap.size = x) := ⟨_, rfl⟩
                  obtain ⟨W17, HW17⟩ : ∃ x, Hid (W16.alloc (.cells #[.int .i64 9] 3) = x) := ⟨_, rfl⟩
                  have hne17 : (Value.slice Az16 (n + n3) cz16).ownBlock ≠ some E10 := fun e => by have h1 := (ho16.lt _ e).2; have h2 := HN17.out; omega
                  clear hl17
                  rw [HW17.out] at hk17 B17 ho17 B17_5
                  rw [HN17.out] at B17
                  rw [HN17.out, HW17.out]
                  refine wpAnyH_ready (rs := [11]) (by kernel_rfl) (by simp) ?_
                  refine AllReadyH.cons rfl (fun K hK => ?_) AllReadyH.nil
                  refine wp_app_ints _ (.tmp 69) (.tmp 75) 23 rfl w3.heap.size 3 i0 (.int .i64 0) Tryd.underlying23 HI.out.1 HI.out.2.1 HI.out.2.2.1 HI.out.2.2.2 rfl (.slice Az16 (n + n3) cz16) (n + n3) (l.map (Value.int .i64) ++ l3.map (Value.int .i64)) rfl ho17 (some ⟨E10, 0, none⟩) 1 1 [9] rfl (blk_int1 B17 (by decide)) (n + n3 + 1) rfl (by unfold maxLen; omega) (by omega) hk17.size (fun v18 W18 ho18 hg18 _ => ?_)
                  obtain ⟨Az18, cz18, rfl⟩ := own_form ho18
                  have hk18 := hk17.grown hg18 (fun k e => (ho17.lt k e).1)
                  have B18 := B17_5.grown hg18 (fun e => hne16_5 e.symm)
                  refine hK.out _ _ (B18.cell 0) (fun _ => ?_); clear hK K; try simp only [Act.put, List.setIfInBounds_toArray, List.set_cons_zero, List.set_cons_succ]
                  (refine take_val (i := 12) (v := .slice Az18 (n + n3 + 1) cz18) rfl rfl (by kernel_rfl) (by kernel_rfl) (by kernel_rfl) (fun _ _ _ h => h) rfl (by intro wq hq; (try go_split_ands); go_simp; try with_reducible rfl) ((B18.cell 0)) ?_; try simp only [List.setIfInBounds_toArray, List.set_cons_zero, List.set_cons_succ])
                  refine wpAnyH_done (by kernel_rfl) ?_ _
                  go_wp2_with fail
                  exact ⟨⟨Az18, n + n3 + 1, cz18, l ++ l3 ++ [9], b3, q3, rfl, rfl, rfl, HOwn.out _ _ _ ho18, HKw.out _ hk18, by omega, k2, by omega, HL4, HJ2⟩, by simp [intOf]; omega⟩
                · skip
                  go_simp
                  have hl19 := (Kept.refl W15).alloc (.cells #[.int .i64 9] 3)
                  have hk19 := hk15.trans hl19
                  have B19 := Blk.new W15 3 #[.int .i64 9]
                  have ho19 := own_keep ho15 hl19
                  have B19_5 := B15_5.kept hl19
                  (refine hK.out _ _ ((B19_5.cell 0)) (fun _ => ?_); clear hK K; try simp only [Act.put, List.setIfInBounds_toArray, List.set_cons_zero, List.set_cons_succ])
                  obtain ⟨E10, HN19⟩ : ∃ x, Hid (W15.heap.size = x) := ⟨_, rfl⟩
                  obtain ⟨W19, HW19⟩ : ∃ x, Hid (W15.alloc (.cells #[.int .i64 9] 3) = x) := ⟨_, rfl⟩
                  have hne19 : (Value.slice Az15 n cz15).ownBlock ≠ some E10 := fun e => by have h1 := (ho15.lt _ e).2; have h2 := HN19.out; omega
                  clear hl19
                  rw [HW19.out] at hk19 B19 ho19 B19_5
                  rw [HN19.out] at B19
                  rw [HN19.out, HW19.out]
                  refine wpAnyH_ready (rs := [4]) (by kernel_rfl) (by simp) ?_
                  refine AllReadyH.cons rfl (fun K hK => ?_) (AllReadyH.nil)
                  refine wp_app_ints _ (.tmp 67) (.tmp 68) 23 rfl w3.heap.size 3 i0 (.int .i64 0) Tryd.underlying23 HI.out.1 HI.out.2.1 HI.out.2.2.1 HI.out.2.2.2 rfl (.slice Az15 n cz15) n (l.map (Value.int .i64)) rfl ho19 A3 n3 c3 l3 rfl (hIb.keep hk19) (n + n3) (by omega) (by unfold maxLen; omega) (by omega) hk19.size (fun v20 W20 ho20 hg20 hat20 => ?_)
                  obtain ⟨Az20, cz20, rfl⟩ := own_form ho20
                  have hk20 := hk19.grown hg20 (fun k e => (ho19.lt k e).1)
                  have B20_5 := B19_5.grown hg20 (fun e => hne15_5 e.symm)
                  have hne20_5 : (Value.slice Az20 (n + n3) cz20).ownBlock ≠ some D5 := fun e => by
                    rcases hat20 with h | h
                    · exact hne15_5 (h.symm.trans e)
                    · have h1 := B19_5.lt; rw [h] at e; simp only [Option.some.injEq] at e; omega
                  have B20_10 := B19.grown hg20 (fun e => hne19 e.symm)
                  have hne20_10 : (Value.slice Az20 (n + n3) cz20).ownBlock ≠ some E10 := fun e => by
                    rcases hat20 with h | h
                    · exact hne19 (h.symm.trans e)
                    · have h1 := B19.lt; rw [h] at e; simp only [Option.some.injEq] at e; omega
                  refine hK.out _ _ (B20_5.cell 0) (fun _ => ?_); clear hK K; try simp only [Act.put, List.setIfInBounds_toArray, List.set_cons_zero, List.set_cons_succ]
                  refine wpAnyH_ready (rs := [11]) (by kernel_rfl) (by simp) ?_
                  refine AllReadyH.cons rfl (fun K hK => ?_) AllReadyH.nil
                  refine wp_app_ints _ (.tmp 69) (.tmp 75) 23 rfl w3.heap.size 3 i0 (.int .i64 0) Tryd.underlying23 HI.out.1 HI.out.2.1 HI.out.2.2.1 HI.out.2.2.2 rfl (.slice Az20 (n + n3) cz20) (n + n3) (l.map (Value.int .i64) ++ l3.map (Value.int .i64)) rfl ho20 (some ⟨E10, 0, none⟩) 1 1 [9] rfl (blk_int1 B20_10 (by decide)) (n + n3 + 1) rfl (by unfold maxLen; omega) (by omega) hk20.size (fun v21 W21 ho21 hg21 _ => ?_)
                  obtain ⟨Az21, cz21, rfl⟩ := own_form ho21
                  have hk21 := hk20.grown hg21 (fun k e => (ho20.lt k e).1)
                  have B21 := B20_5.grown hg21 (fun e => hne20_5 e.symm)
                  refine hK.out _ _ (B21.cell 0) (fun _ => ?_); clear hK K; try simp only [Act.put, List.setIfInBounds_toArray, List.set_cons_zero, List.set_cons_succ]
                  (refine take_val (i := 12) (v := .slice Az21 (n + n3 + 1) cz21) rfl rfl (by kernel_rfl) (by kernel_rfl) (by kernel_rfl) (fun _ _ _ h => h) rfl (by intro wq hq; (try go_split_ands); go_simp; try with_reducible rfl) ((B21.cell 0)) ?_; try simp only [List.setIfInBounds_toArray, List.set_cons_zero, List.set_cons_succ])
                  refine wpAnyH_done (by kernel_rfl) ?_ _
                  go_wp2_with fail
                  exact ⟨⟨Az21, n + n3 + 1, cz21, l ++ l3 ++ [9], b3, q3, rfl, rfl, rfl, HOwn.out _ _ _ ho21, HKw.out _ hk21, by omega, k2, by omega, HL4, HJ2⟩, by simp [intOf]; omega⟩
              · skip
                go_simp
                have hl22 := (Kept.refl W14).alloc (.cells #[.int .i64 9] 3)
                have hk22 := hk14.trans hl22
                have B22 := Blk.new W14 3 #[.int .i64 9]
                have ho22 := own_keep ho14 hl22
                have B22_5 := B14.kept hl22
                (refine hK.out _ _ ((B22_5.cell 0)) (fun _ => ?_); clear hK K; try simp only [Act.put, List.setIfInBounds_toArray, List.set_cons_zero, List.set_cons_succ])
                obtain ⟨E10, HN22⟩ : ∃ x, Hid (W14.heap.size = x) := ⟨_, rfl⟩
                obtain ⟨W22, HW22⟩ : ∃ x, Hid (W14.alloc (.cells #[.int .i64 9] 3) = x) := ⟨_, rfl⟩
                have hne22 : (Value.slice (some ⟨gq, 0, none⟩) 0 0).ownBlock ≠ some E10 := fun e => by have h1 := (ho14.lt _ e).2; have h2 := HN22.out; omega
                clear hl22
                rw [HW22.out] at hk22 B22 ho22 B22_5
                rw [HN22.out] at B22
                rw [HN22.out, HW22.out]
                refine wpAnyH_ready (rs := [2]) (by kernel_rfl) (by simp) ?_
                refine AllReadyH.cons rfl (fun K hK => ?_) (AllReadyH.nil)
                refine wp_app_ints _ (.tmp 65) (.tmp 66) 23 rfl w3.heap.size 3 i0 (.int .i64 0) Tryd.underlying23 HI.out.1 HI.out.2.1 HI.out.2.2.1 HI.out.2.2.2 rfl (.slice (some ⟨gq, 0, none⟩) 0 0) 0 [] rfl ho22 A n c l rfl (hIa.keep hk22) n (by omega) (by unfold maxLen; omega) (by omega) hk22.size (fun v23 W23 ho23 hg23 hat23 => ?_)
                obtain ⟨Az23, cz23, rfl⟩ := own_form ho23
                rw [List.nil_append] at ho23
                have hk23 := hk22.grown hg23 (fun k e => (ho22.lt k e).1)
                have B23_5 := B22_5.grown hg23 (fun e => hne14 e.symm)
                have hne23_5 : (Value.slice Az23 n cz23).ownBlock ≠ some D5 := fun e => by
                  rcases hat23 with h | h
                  · exact hne14 (h.symm.trans e)
                  · have h1 := B22_5.lt; rw [h] at e; simp only [Option.some.injEq] at e; omega
                have B23_10 := B22.grown hg23 (fun e => hne22 e.symm)
                have hne23_10 : (Value.slice Az23 n cz23).ownBlock ≠ some E10 := fun e => by
                  rcases hat23 with h | h
                  · exact hne22 (h.symm.trans e)
                  · have h1 := B22.lt; rw [h] at e; simp only [Option.some.injEq] at e; omega
                refine hK.out _ _ (B23_5.cell 0) (fun _ => ?_); clear hK K; try simp only [Act.put, List.setIfInBounds_toArray, List.set_cons_zero, List.set_cons_succ]
                refine wpAnyH_ready (rs := [4]) (by kernel_rfl) (by simp) ?_
                refine AllReadyH.cons rfl (fun K hK => ?_) (AllReadyH.nil)
                refine wp_app_ints _ (.tmp 67) (.tmp 68) 23 rfl w3.heap.size 3 i0 (.int .i64 0) Tryd.underlying23 HI.out.1 HI.out.2.1 HI.out.2.2.1 HI.out.2.2.2 rfl (.slice Az23 n cz23) n (l.map (Value.int .i64)) rfl ho23 A3 n3 c3 l3 rfl (hIb.keep hk23) (n + n3) (by omega) (by unfold maxLen; omega) (by omega) hk23.size (fun v24 W24 ho24 hg24 hat24 => ?_)
                obtain ⟨Az24, cz24, rfl⟩ := own_form ho24
                have hk24 := hk23.grown hg24 (fun k e => (ho23.lt k e).1)
                have B24_5 := B23_5.grown hg24 (fun e => hne23_5 e.symm)
                have hne24_5 : (Value.slice Az24 (n + n3) cz24).ownBlock ≠ some D5 := fun e => by
                  rcases hat24 with h | h
                  · exact hne23_5 (h.symm.trans e)
                  · have h1 := B23_5.lt; rw [h] at e; simp only [Option.some.injEq] at e; omega
                have B24_10 := B23_10.grown hg24 (fun e => hne23_10 e.symm)
                have hne24_10 : (Value.slice Az24 (n + n3) cz24).ownBlock ≠ some E10 := fun e => by
                  rcases hat24 with h | h
                  · exact hne23_10 (h.symm.trans e)
                  · have h1 := B23_10.lt; rw [h] at e; simp only [Option.some.injEq] at e; omega
                refine hK.out _ _ (B24_5.cell 0) (fun _ => ?_); clear hK K; try simp only [Act.put, List.setIfInBounds_toArray, List.set_cons_zero, List.set_cons_succ]
                refine wpAnyH_ready (rs := [11]) (by kernel_rfl) (by simp) ?_
                refine AllReadyH.cons rfl (fun K hK => ?_) AllReadyH.nil
                refine wp_app_ints _ (.tmp 69) (.tmp 75) 23 rfl w3.heap.size 3 i0 (.int .i64 0) Tryd.underlying23 HI.out.1 HI.out.2.1 HI.out.2.2.1 HI.out.2.2.2 rfl (.slice Az24 (n + n3) cz24) (n + n3) (l.map (Value.int .i64) ++ l3.map (Value.int .i64)) rfl ho24 (some ⟨E10, 0, none⟩) 1 1 [9] rfl (blk_int1 B24_10 (by decide)) (n + n3 + 1) rfl (by unfold maxLen; omega) (by omega) hk24.size (fun v25 W25 ho25 hg25 _ => ?_)
                obtain ⟨Az25, cz25, rfl⟩ := own_form ho25
                have hk25 := hk24.grown hg25 (fun k e => (ho24.lt k e).1)
                have B25 := B24_5.grown hg25 (fun e => hne24_5 e.symm)
                refine hK.out _ _ (B25.cell 0) (fun _ => ?_); clear hK K; try simp only [Act.put, List.setIfInBounds_toArray, List.set_cons_zero, List.set_cons_succ]
                (refine take_val (i := 12) (v := .slice Az25 (n + n3 + 1) cz25) rfl rfl (by kernel_rfl) (by kernel_rfl) (by kernel_rfl) (fun _ _ _ h => h) rfl (by intro wq hq; (try go_split_ands); go_simp; try with_reducible rfl) ((B25.cell 0)) ?_; try simp only [List.setIfInBounds_toArray, List.set_cons_zero, List.set_cons_succ])
                refine wpAnyH_done (by kernel_rfl) ?_ _
                go_wp2_with fail
                exact ⟨⟨Az25, n + n3 + 1, cz25, l ++ l3 ++ [9], b3, q3, rfl, rfl, rfl, HOwn.out _ _ _ ho25, HKw.out _ hk25, by omega, k2, by omega, HL4, HJ2⟩, by simp [intOf]; omega⟩
          · skip
            go_simp
            have hl26 := (Kept.refl W0).alloc (.cells #[.int .i64 9, .int .i64 8] 3)
            have hk26 := hk0w.trans hl26
            have B26 := Blk.new W0 3 #[.int .i64 9, .int .i64 8]
            (refine hK.out _ _ (trivial) (fun _ => ?_); clear hK K; try simp only [Act.put, List.setIfInBounds_toArray, List.set_cons_zero, List.set_cons_succ])
            obtain ⟨D5, HN26⟩ : ∃ x, Hid (W0.heap.size = x) := ⟨_, rfl⟩
            obtain ⟨W26, HW26⟩ : ∃ x, Hid (W0.alloc (.cells #[.int .i64 9, .int .i64 8] 3) = x) := ⟨_, rfl⟩
            clear hl26
            rw [HW26.out] at hk26 B26
            rw [HN26.out] at B26
            rw [HN26.out, HW26.out]
            refine held_more (S' := fun w' => w'.cell? ⟨D5, 0, none⟩ = some (.int .i64 9)) (fun _ _ => trivial) _ _ _ _ ?_
            have hS26 : W26.cell? ⟨D5, 0, none⟩ = some (.int .i64 9) := B26.cell 0
            (refine take_val (i := 8) (v := .pointer (some ⟨D5, 0, none⟩)) rfl rfl (by kernel_rfl) (by kernel_rfl) (by kernel_rfl) (fun _ _ _ h => h) rfl (by intro wq hq; (try go_split_ands); go_simp; try with_reducible rfl) (hS26) ?_; try simp only [List.setIfInBounds_toArray, List.set_cons_zero, List.set_cons_succ])
            (refine take_val (i := 9) (v := .int .i64 9) rfl rfl (by kernel_rfl) (by kernel_rfl) (by kernel_rfl) (fun _ _ _ h => h) rfl (by intro wq hq; (try go_split_ands); go_simp; try with_reducible rfl) (hS26) ?_; try simp only [List.setIfInBounds_toArray, List.set_cons_zero, List.set_cons_succ])
            clear hS26
            refine wpAnyH_ready (rs := [0, 10]) (by kernel_rfl) (by simp) ?_
            refine AllReadyH.cons rfl (fun K hK => ?_) (AllReadyH.cons rfl (fun K hK => ?_) (AllReadyH.nil))
            · skip
              go_simp
              have hl27 := (Kept.refl W26).alloc (.cells #[] 3)
              have hk27 := hk26.trans hl27
              have ho27 := own_empty (X := w3.heap.size) hk26.size
              have B27_5 := B26.kept hl27
              (refine hK.out _ _ ((B27_5.cell 0)) (fun _ => ?_); clear hK K; try simp only [Act.put, List.setIfInBounds_toArray, List.set_cons_zero, List.set_cons_succ])
              obtain ⟨gq, HN27⟩ : ∃ x, Hid (W26.heap.size = x) := ⟨_, rfl⟩
              obtain ⟨W27, HW27⟩ : ∃ x, Hid (W26.alloc (.cells #[] 3) = x) := ⟨_, rfl⟩
              have hne27_5 : (Value.slice (some ⟨gq, 0, none⟩) 0 0).ownBlock ≠ some D5 := by intro e; simp only [Value.ownBlock, Option.some.injEq] at e; have h1 := B26.lt; have h2 := HN27.out; omega
              clear hl27
              rw [HW27.out] at hk27 ho27 B27_5
              rw [HN27.out] at ho27
              rw [HN27.out, HW27.out]
              refine wpAnyH_ready (rs := [2, 10]) (by kernel_rfl) (by simp) ?_
              refine AllReadyH.cons rfl (fun K hK => ?_) (AllReadyH.cons rfl (fun K hK => ?_) (AllReadyH.nil))
              · skip
                refine wp_app_ints _ (.tmp 65) (.tmp 66) 23 rfl w3.heap.size 3 i0 (.int .i64 0) Tryd.underlying23 HI.out.1 HI.out.2.1 HI.out.2.2.1 HI.out.2.2.2 rfl (.slice (some ⟨gq, 0, none⟩) 0 0) 0 [] rfl ho27 A n c l rfl (hIa.keep hk27) n (by omega) (by unfold maxLen; omega) (by omega) hk27.size (fun v28 W28 ho28 hg28 hat28 => ?_)
                obtain ⟨Az28, cz28, rfl⟩ := own_form ho28
                rw [List.nil_append] at ho28
                have hk28 := hk27.grown hg28 (fun k e => (ho27.lt k e).1)
                have B28_5 := B27_5.grown hg28 (fun e => hne27_5 e.symm)
                have hne28_5 : (Value.slice Az28 n cz28).ownBlock ≠ some D5 := fun e => by
                  rcases hat28 with h | h
                  · exact hne27_5 (h.symm.trans e)
                  · have h1 := B27_5.lt; rw [h] at e; simp only [Option.some.injEq] at e; omega
                refine hK.out _ _ (B28_5.cell 0) (fun _ => ?_); clear hK K; try simp only [Act.put, List.setIfInBounds_toArray, List.set_cons_zero, List.set_cons_succ]
                refine wpAnyH_ready (rs := [4, 10]) (by kernel_rfl) (by simp) ?_
                refine AllReadyH.cons rfl (fun K hK => ?_) (AllReadyH.cons rfl (fun K hK => ?_) (AllReadyH.nil))
                · skip
                  refine wp_app_ints _ (.tmp 67) (.tmp 68) 23 rfl w3.heap.size 3 i0 (.int .i64 0) Tryd.underlying23 HI.out.1 HI.out.2.1 HI.out.2.2.1 HI.out.2.2.2 rfl (.slice Az28 n cz28) n (l.map (Value.int .i64)) rfl ho28 A3 n3 c3 l3 rfl (hIb.keep hk28) (n + n3) (by omega) (by unfold maxLen; omega) (by omega) hk28.size (fun v29 W29 ho29 hg29 hat29 => ?_)
                  obtain ⟨Az29, cz29, rfl⟩ := own_form ho29
                  have hk29 := hk28.grown hg29 (fun k e => (ho28.lt k e).1)
                  have B29_5 := B28_5.grown hg29 (fun e => hne28_5 e.symm)
                  have hne29_5 : (Value.slice Az29 (n + n3) cz29).ownBlock ≠ some D5 := fun e => by
                    rcases hat29 with h | h
                    · exact hne28_5 (h.symm.trans e)
                    · have h1 := B28_5.lt; rw [h] at e; simp only [Option.some.injEq] at e; omega
                  refine hK.out _ _ (B29_5.cell 0) (fun _ => ?_); clear hK K; try simp only [Act.put, List.setIfInBounds_toArray, List.set_cons_zero, List.set_cons_succ]
                  refine wpAnyH_ready (rs := [10]) (by kernel_rfl) (by simp) ?_
                  refine AllReadyH.cons rfl (fun K hK => ?_) (AllReadyH.nil)
                  go_simp
                  have hl30 := (Kept.refl W29).alloc (.cells #[.int .i64 9] 3)
                  have hk30 := hk29.trans hl30
                  have B30 := Blk.new W29 3 #[.int .i64 9]
                  have ho30 := own_keep ho29 hl30
                  have B30_5 := B29_5.kept hl30
                  (refine hK.out _ _ ((B30_5.cell 0)) (fun _ => ?_); clear hK K; try simp only [Act.put, List.setIfInBounds_toArray, List.set_cons_zero, List.set_cons_succ])
                  obtain ⟨E10, HN30⟩ : ∃ x, Hid (W29.heap.size = x) := ⟨_, rfl⟩
                  obtain ⟨W30, HW30⟩ : ∃ x, Hid (W29.alloc (.cells #[.int .i64 9] 3) = x) := ⟨_, rfl⟩
                  have hne30 : (Value.slice Az29 (n + n3) cz29).ownBlock ≠ some E10 := fun e => by have h1 := (ho29.lt _ e).2; have h2 := HN30.out; omega
                  clear hl30
                  rw [HW30.out] at hk30 B30 ho30 B30_5
                  rw [HN30.out] at B30
                  rw [HN30.out, HW30.out]
                  refine wpAnyH_ready (rs := [11]) (by kernel_rfl) (by simp) ?_
                  refine AllReadyH.cons rfl (fun K hK => ?_) AllReadyH.nil
                  refine wp_app_ints _ (.tmp 69) (.tmp 75) 23 rfl w3.heap.size 3 i0 (.int .i64 0) Tryd.underlying23 HI.out.1 HI.out.2.1 HI.out.2.2.1 HI.out.2.2.2 rfl (.slice Az29 (n + n3) cz29) (n + n3) (l.map (Value.int .i64) ++ l3.map (Value.int .i64)) rfl ho30 (some ⟨E10, 0, none⟩) 1 1 [9] rfl (blk_int1 B30 (by decide)) (n + n3 + 1) rfl (by unfold maxLen; omega) (by omega) hk30.size (fun v31 W31 ho31 hg31 _ => ?_)
                  obtain ⟨Az31, cz31, rfl⟩ := own_form ho31
                  have hk31 := hk30.grown hg31 (fun k e => (ho30.lt k e).1)
                  have B31 := B30_5.grown hg31 (fun e => hne29_5 e.symm)
                  refine hK.out _ _ (B31.cell 0) (fun _ => ?_); clear hK K; try simp only [Act.put, List.setIfInBounds_toArray, List.set_cons_zero, List.set_cons_succ]
                  (refine take_val (i := 12) (v := .slice Az31 (n + n3 + 1) cz31) rfl rfl (by kernel_rfl) (by kernel_rfl) (by kernel_rfl) (fun _ _ _ h => h) rfl (by intro wq hq; (try go_split_ands); go_simp; try with_reducible rfl) ((B31.cell 0)) ?_; try simp only [List.setIfInBounds_toArray, List.set_cons_zero, List.set_cons_succ])
                  refine wpAnyH_done (by kernel_rfl) ?_ _
                  go_wp2_with fail
                  exact ⟨⟨Az31, n + n3 + 1, cz31, l ++ l3 ++ [9], b3, q3, rfl, rfl, rfl, HOwn.out _ _ _ ho31, HKw.out _ hk31, by omega, k2, by omega, HL4, HJ2⟩, by simp [intOf]; omega⟩
                · skip
                  go_simp
                  have hl32 := (Kept.refl W28).alloc (.cells #[.int .i64 9] 3)
                  have hk32 := hk28.trans hl32
                  have B32 := Blk.new W28 3 #[.int .i64 9]
                  have ho32 := own_keep ho28 hl32
                  have B32_5 := B28_5.kept hl32
                  (refine hK.out _ _ ((B32_5.cell 0)) (fun _ => ?_); clear hK K; try simp only [Act.put, List.setIfInBounds_toArray, List.set_cons_zero, List.set_cons_succ])
                  obtain ⟨E10, HN32⟩ : ∃ x, Hid (W28.heap.size = x) := ⟨_, rfl⟩
                  obtain ⟨W32, HW32⟩ : ∃ x, Hid (W28.alloc (.cells #[.int .i64 9] 3) = x) := ⟨_, rfl⟩
                  have hne32 : (Value.slice Az28 n cz28).ownBlock ≠ some E10 := fun e => by have h1 := (ho28.lt _ e).2; have h2 := HN32.out; omega
                  clear hl32
                  rw [HW32.out] at hk32 B32 ho32 B32_5
                  rw [HN32.out] at B32
                  rw [HN32.out, HW32.out]
                  refine wpAnyH_ready (rs := [4]) (by kernel_rfl) (by simp) ?_
                  refine AllReadyH.cons rfl (fun K hK => ?_) (AllReadyH.nil)
                  refine wp_app_ints _ (.tmp 67) (.tmp 68) 23 rfl w3.heap.size 3 i0 (.int .i64 0) Tryd.underlying23 HI.out.1 HI.out.2.1 HI.out.2.2.1 HI.out.2.2.2 rfl (.slice Az28 n cz28) n (l.map (Value.int .i64)) rfl ho32 A3 n3 c3 l3 rfl (hIb.keep hk32) (n + n3) (by omega) (by unfold maxLen; omega) (by omega) hk32.size (fun v33 W33 ho33 hg33 hat33 => ?_)
                  obtain ⟨Az33, cz33, rfl⟩ := own_form ho33
                  have hk33 := hk32.grown hg33 (fun k e => (ho32.lt k e).1)
                  have B33_5 := B32_5.grown hg33 (fun e => hne28_5 e.symm)
                  have hne33_5 : (Value.slice Az33 (n + n3) cz33).ownBlock ≠ some D5 := fun e => by
                    rcases hat33 with h | h
                    · exact hne28_5 (h.symm.trans e)
                    · have h1 := B32_5.lt; rw [h] at e; simp only [Option.some.injEq] at e; omega
                  have B33_10 := B32.grown hg33 (fun e => hne32 e.symm)
                  have hne33_10 : (Value.slice Az33 (n + n3) cz33).ownBlock ≠ some E10 := fun e => by
                    rcases hat33 with h | h
                    · exact hne32 (h.symm.trans e)
                    · have h1 := B32.lt; rw [h] at e; simp only [Option.some.injEq] at e; omega
                  refine hK.out _ _ (B33_5.cell 0) (fun _ => ?_); clear hK K; try simp only [Act.put, List.setIfInBounds_toArray, List.set_cons_zero, List.set_cons_succ]
                  refine wpAnyH_ready (rs := [11]) (by kernel_rfl) (by simp) ?_
                  refine AllReadyH.cons rfl (fun K hK => ?_) AllReadyH.nil
                  refine wp_app_ints _ (.tmp 69) (.tmp 75) 23 rfl w3.heap.size 3 i0 (.int .i64 0) Tryd.underlying23 HI.out.1 HI.out.2.1 HI.out.2.2.1 HI.out.2.2.2 rfl (.slice Az33 (n + n3) cz33) (n + n3) (l.map (Value.int .i64) ++ l3.map (Value.int .i64)) rfl ho33 (some ⟨E10, 0, none⟩) 1 1 [9] rfl (blk_int1 B33_10 (by decide)) (n + n3 + 1) rfl (by unfold maxLen; omega) (by omega) hk33.size (fun v34 W34 ho34 hg34 _ => ?_)
                  obtain ⟨Az34, cz34, rfl⟩ := own_form ho34
                  have hk34 := hk33.grown hg34 (fun k e => (ho33.lt k e).1)
                  have B34 := B33_5.grown hg34 (fun e => hne33_5 e.symm)
                  refine hK.out _ _ (B34.cell 0) (fun _ => ?_); clear hK K; try simp only [Act.put, List.setIfInBounds_toArray, List.set_cons_zero, List.set_cons_succ]
                  (refine take_val (i := 12) (v := .slice Az34 (n + n3 + 1) cz34) rfl rfl (by kernel_rfl) (by kernel_rfl) (by kernel_rfl) (fun _ _ _ h => h) rfl (by intro wq hq; (try go_split_ands); go_simp; try with_reducible rfl) ((B34.cell 0)) ?_; try simp only [List.setIfInBounds_toArray, List.set_cons_zero, List.set_cons_succ])
                  refine wpAnyH_done (by kernel_rfl) ?_ _
                  go_wp2_with fail
                  exact ⟨⟨Az34, n + n3 + 1, cz34, l ++ l3 ++ [9], b3, q3, rfl, rfl, rfl, HOwn.out _ _ _ ho34, HKw.out _ hk34, by omega, k2, by omega, HL4, HJ2⟩, by simp [intOf]; omega⟩
              · skip
                go_simp
                have hl35 := (Kept.refl W27).alloc (.cells #[.int .i64 9] 3)
                have hk35 := hk27.trans hl35
                have B35 := Blk.new W27 3 #[.int .i64 9]
                have ho35 := own_keep ho27 hl35
                have B35_5 := B27_5.kept hl35
                (refine hK.out _ _ ((B35_5.cell 0)) (fun _ => ?_); clear hK K; try simp only [Act.put, List.setIfInBounds_toArray, List.set_cons_zero, List.set_cons_succ])
                obtain ⟨E10, HN35⟩ : ∃ x, Hid (W27.heap.size = x) := ⟨_, rfl⟩
                obtain ⟨W35, HW35⟩ : ∃ x, Hid (W27.alloc (.cells #[.int .i64 9] 3) = x) := ⟨_, rfl⟩
                have hne35 : (Value.slice (some ⟨gq, 0, none⟩) 0 0).ownBlock ≠ some E10 := fun e => by have h1 := (ho27.lt _ e).2; have h2 := HN35.out; omega
                clear hl35
                rw [HW35.out] at hk35 B35 ho35 B35_5
                rw [HN35.out] at B35
                rw [HN35.out, HW35.out]
                refine wpAnyH_ready (rs := [2]) (by kernel_rfl) (by simp) ?_
                refine AllReadyH.cons rfl (fun K hK => ?_) (AllReadyH.nil)
                refine wp_app_ints _ (.tmp 65) (.tmp 66) 23 rfl w3.heap.size 3 i0 (.int .i64 0) Tryd.underlying23 HI.out.1 HI.out.2.1 HI.out.2.2.1 HI.out.2.2.2 rfl (.slice (some ⟨gq, 0, none⟩) 0 0) 0 [] rfl ho35 A n c l rfl (hIa.keep hk35) n (by omega) (by unfold maxLen; omega) (by omega) hk35.size (fun v36 W36 ho36 hg36 hat36 => ?_)
                obtain ⟨Az36, cz36, rfl⟩ := own_form ho36
                rw [List.nil_append] at ho36
                have hk36 := hk35.grown hg36 (fun k e => (ho35.lt k e).1)
                have B36_5 := B35_5.grown hg36 (fun e => hne27_5 e.symm)
                have hne36_5 : (Value.slice Az36 n cz36).ownBlock ≠ some D5 := fun e => by
                  rcases hat36 with h | h
                  · exact hne27_5 (h.symm.trans e)
                  · have h1 := B35_5.lt; rw [h] at e; simp only [Option.some.injEq] at e; omega
                have B36_10 := B35.grown hg36 (fun e => hne35 e.symm)
                have hne36_10 : (Value.slice Az36 n cz36).ownBlock ≠ some E10 := fun e => by
                  rcases hat36 with h | h
                  · exact hne35 (h.symm.trans e)
                  · have h1 := B35.lt; rw [h] at e; simp only [Option.some.injEq] at e; omega
                refine hK.out _ _ (B36_5.cell 0) (fun _ => ?_); clear hK K; try simp only [Act.put, List.setIfInBounds_toArray, List.set_cons_zero, List.set_cons_succ]
                refine wpAnyH_ready (rs := [4]) (by kernel_rfl) (by simp) ?_
                refine AllReadyH.cons rfl (fun K hK => ?_) (AllReadyH.nil)
                refine wp_app_ints _ (.tmp 67) (.tmp 68) 23 rfl w3.heap.size 3 i0 (.int .i64 0) Tryd.underlying23 HI.out.1 HI.out.2.1 HI.out.2.2.1 HI.out.2.2.2 rfl (.slice Az36 n cz36) n (l.map (Value.int .i64)) rfl ho36 A3 n3 c3 l3 rfl (hIb.keep hk36) (n + n3) (by omega) (by unfold maxLen; omega) (by omega) hk36.size (fun v37 W37 ho37 hg37 hat37 => ?_)
                obtain ⟨Az37, cz37, rfl⟩ := own_form ho37
                have hk37 := hk36.grown hg37 (fun k e => (ho36.lt k e).1)
                have B37_5 := B36_5.grown hg37 (fun e => hne36_5 e.symm)
                have hne37_5 : (Value.slice Az37 (n + n3) cz37).ownBlock ≠ some D5 := fun e => by
                  rcases hat37 with h | h
                  · exact hne36_5 (h.symm.trans e)
                  · have h1 := B36_5.lt; rw [h] at e; simp only [Option.some.injEq] at e; omega
                have B37_10 := B36_10.grown hg37 (fun e => hne36_10 e.symm)
                have hne37_10 : (Value.slice Az37 (n + n3) cz37).ownBlock ≠ some E10 := fun e => by
                  rcases hat37 with h | h
                  · exact hne36_10 (h.symm.trans e)
                  · have h1 := B36_10.lt; rw [h] at e; simp only [Option.some.injEq] at e; omega
                refine hK.out _ _ (B37_5.cell 0) (fun _ => ?_); clear hK K; try simp only [Act.put, List.setIfInBounds_toArray, List.set_cons_zero, List.set_cons_succ]
                refine wpAnyH_ready (rs := [11]) (by kernel_rfl) (by simp) ?_
                refine AllReadyH.cons rfl (fun K hK => ?_) AllReadyH.nil
                refine wp_app_ints _ (.tmp 69) (.tmp 75) 23 rfl w3.heap.size 3 i0 (.int .i64 0) Tryd.underlying23 HI.out.1 HI.out.2.1 HI.out.2.2.1 HI.out.2.2.2 rfl (.slice Az37 (n + n3) cz37) (n + n3) (l.map (Value.int .i64) ++ l3.map (Value.int .i64)) rfl ho37 (some ⟨E10, 0, none⟩) 1 1 [9] rfl (blk_int1 B37_10 (by decide)) (n + n3 + 1) rfl (by unfold maxLen; omega) (by omega) hk37.size (fun v38 W38 ho38 hg38 _ => ?_)
                obtain ⟨Az38, cz38, rfl⟩ := own_form ho38
                have hk38 := hk37.grown hg38 (fun k e => (ho37.lt k e).1)
                have B38 := B37_5.grown hg38 (fun e => hne37_5 e.symm)
                refine hK.out _ _ (B38.cell 0) (fun _ => ?_); clear hK K; try simp only [Act.put, List.setIfInBounds_toArray, List.set_cons_zero, List.set_cons_succ]
                (refine take_val (i := 12) (v := .slice Az38 (n + n3 + 1) cz38) rfl rfl (by kernel_rfl) (by kernel_rfl) (by kernel_rfl) (fun _ _ _ h => h) rfl (by intro wq hq; (try go_split_ands); go_simp; try with_reducible rfl) ((B38.cell 0)) ?_; try simp only [List.setIfInBounds_toArray, List.set_cons_zero, List.set_cons_succ])
                refine wpAnyH_done (by kernel_rfl) ?_ _
                go_wp2_with fail
                exact ⟨⟨Az38, n + n3 + 1, cz38, l ++ l3 ++ [9], b3, q3, rfl, rfl, rfl, HOwn.out _ _ _ ho38, HKw.out _ hk38, by omega, k2, by omega, HL4, HJ2⟩, by simp [intOf]; omega⟩
            · skip
              go_simp
              have hl39 := (Kept.refl W26).alloc (.cells #[.int .i64 9] 3)
              have hk39 := hk26.trans hl39
              have B39 := Blk.new W26 3 #[.int .i64 9]
              have B39_5 := B26.kept hl39
              (refine hK.out _ _ ((B39_5.cell 0)) (fun _ => ?_); clear hK K; try simp only [Act.put, List.setIfInBounds_toArray, List.set_cons_zero, List.set_cons_succ])
              obtain ⟨E10, HN39⟩ : ∃ x, Hid (W26.heap.size = x) := ⟨_, rfl⟩
              obtain ⟨W39, HW39⟩ : ∃ x, Hid (W26.alloc (.cells #[.int .i64 9] 3) = x) := ⟨_, rfl⟩
              clear hl39
              rw [HW39.out] at hk39 B39 B39_5
              rw [HN39.out] at B39
              rw [HN39.out, HW39.out]
              refine wpAnyH_ready (rs := [0]) (by kernel_rfl) (by simp) ?_
              refine AllReadyH.cons rfl (fun K hK => ?_) (AllReadyH.nil)
              go_simp
              have hl40 := (Kept.refl W39).alloc (.cells #[] 3)
              have hk40 := hk39.trans hl40
              have ho40 := own_empty (X := w3.heap.size) hk39.size
              have B40_5 := B39_5.kept hl40
              have B40_10 := B39.kept hl40
              (refine hK.out _ _ ((B40_5.cell 0)) (fun _ => ?_); clear hK K; try simp only [Act.put, List.setIfInBounds_toArray, List.set_cons_zero, List.set_cons_succ])
              obtain ⟨gq, HN40⟩ : ∃ x, Hid (W39.heap.size = x) := ⟨_, rfl⟩
              obtain ⟨W40, HW40⟩ : ∃ x, Hid (W39.alloc (.cells #[] 3) = x) := ⟨_, rfl⟩
              have hne40_5 : (Value.slice (some ⟨gq, 0, none⟩) 0 0).ownBlock ≠ some D5 := by intro e; simp only [Value.ownBlock, Option.some.injEq] at e; have h1 := B39_5.lt; have h2 := HN40.out; omega
              have hne40_10 : (Value.slice (some ⟨gq, 0, none⟩) 0 0).ownBlock ≠ some E10 := by intro e; simp only [Value.ownBlock, Option.some.injEq] at e; have h1 := B39.lt; have h2 := HN40.out; omega
              clear hl40
              rw [HW40.out] at hk40 ho40 B40_5 B40_10
              rw [HN40.out] at ho40
              rw [HN40.out, HW40.out]
              refine wpAnyH_ready (rs := [2]) (by kernel_rfl) (by simp) ?_
              refine AllReadyH.cons rfl (fun K hK => ?_) (AllReadyH.nil)
              refine wp_app_ints _ (.tmp 65) (.tmp 66) 23 rfl w3.heap.size 3 i0 (.int .i64 0) Tryd.underlying23 HI.out.1 HI.out.2.1 HI.out.2.2.1 HI.out.2.2.2 rfl (.slice (some ⟨gq, 0, none⟩) 0 0) 0 [] rfl ho40 A n c l rfl (hIa.keep hk40) n (by omega) (by unfold maxLen; omega) (by omega) hk40.size (fun v41 W41 ho41 hg41 hat41 => ?_)
              obtain ⟨Az41, cz41, rfl⟩ := own_form ho41
              rw [List.nil_append] at ho41
              have hk41 := hk40.grown hg41 (fun k e => (ho40.lt k e).1)
              have B41_5 := B40_5.grown hg41 (fun e => hne40_5 e.symm)
              have hne41_5 : (Value.slice Az41 n cz41).ownBlock ≠ some D5 := fun e => by
                rcases hat41 with h | h
                · exact hne40_5 (h.symm.trans e)
                · have h1 := B40_5.lt; rw [h] at e; simp only [Option.some.injEq] at e; omega
              have B41_10 := B40_10.grown hg41 (fun e => hne40_10 e.symm)
              have hne41_10 : (Value.slice Az41 n cz41).ownBlock ≠ some E10 := fun e => by
                rcases hat41 with h | h
                · exact hne40_10 (h.symm.trans e)
                · have h1 := B40_10.lt; rw [h] at e; simp only [Option.some.injEq] at e; omega
              refine hK.out _ _ (B41_5.cell 0) (fun _ => ?_); clear hK K; try simp only [Act.put, List.setIfInBounds_toArray, List.set_cons_zero, List.set_cons_succ]
              refine wpAnyH_ready (rs := [4]) (by kernel_rfl) (by simp) ?_
              refine AllReadyH.cons rfl (fun K hK => ?_) (AllReadyH.nil)
              refine wp_app_ints _ (.tmp 67) (.tmp 68) 23 rfl w3.heap.size 3 i0 (.int .i64 0) Tryd.underlying23 HI.out.1 HI.out.2.1 HI.out.2.2.1 HI.out.2.2.2 rfl (.slice Az41 n cz41) n (l.map (Value.int .i64)) rfl ho41 A3 n3 c3 l3 rfl (hIb.keep hk41) (n + n3) (by omega) (by unfold maxLen; omega) (by omega) hk41.size (fun v42 W42 ho42 hg42 hat42 => ?_)
              obtain ⟨Az42, cz42, rfl⟩ := own_form ho42
              have hk42 := hk41.grown hg42 (fun k e => (ho41.lt k e).1)
              have B42_5 := B41_5.grown hg42 (fun e => hne41_5 e.symm)
              have hne42_5 : (Value.slice Az42 (n + n3) cz42).ownBlock ≠ some D5 := fun e => by
                rcases hat42 with h | h
                · exact hne41_5 (h.symm.trans e)
                · have h1 := B41_5.lt; rw [h] at e; simp only [Option.some.injEq] at e; omega
              have B42_10 := B41_10.grown hg42 (fun e => hne41_10 e.symm)
              have hne42_10 : (Value.slice Az42 (n + n3) cz42).ownBlock ≠ some E10 := fun e => by
                rcases hat42 with h | h
                · exact hne41_10 (h.symm.trans e)
                · have h1 := B41_10.lt; rw [h] at e; simp only [Option.some.injEq] at e; omega
              refine hK.out _ _ (B42_5.cell 0) (fun _ => ?_); clear hK K; try simp only [Act.put, List.setIfInBounds_toArray, List.set_cons_zero, List.set_cons_succ]
              refine wpAnyH_ready (rs := [11]) (by kernel_rfl) (by simp) ?_
              refine AllReadyH.cons rfl (fun K hK => ?_) AllReadyH.nil
              refine wp_app_ints _ (.tmp 69) (.tmp 75) 23 rfl w3.heap.size 3 i0 (.int .i64 0) Tryd.underlying23 HI.out.1 HI.out.2.1 HI.out.2.2.1 HI.out.2.2.2 rfl (.slice Az42 (n + n3) cz42) (n + n3) (l.map (Value.int .i64) ++ l3.map (Value.int .i64)) rfl ho42 (some ⟨E10, 0, none⟩) 1 1 [9] rfl (blk_int1 B42_10 (by decide)) (n + n3 + 1) rfl (by unfold maxLen; omega) (by omega) hk42.size (fun v43 W43 ho43 hg43 _ => ?_)
              obtain ⟨Az43, cz43, rfl⟩ := own_form ho43
              have hk43 := hk42.grown hg43 (fun k e => (ho42.lt k e).1)
              have B43 := B42_5.grown hg43 (fun e => hne42_5 e.symm)
              refine hK.out _ _ (B43.cell 0) (fun _ => ?_); clear hK K; try simp only [Act.put, List.setIfInBounds_toArray, List.set_cons_zero, List.set_cons_succ]
              (refine take_val (i := 12) (v := .slice Az43 (n + n3 + 1) cz43) rfl rfl (by kernel_rfl) (by kernel_rfl) (by kernel_rfl) (fun _ _ _ h => h) rfl (by intro wq hq; (try go_split_ands); go_simp; try with_reducible rfl) ((B43.cell 0)) ?_; try simp only [List.setIfInBounds_toArray, List.set_cons_zero, List.set_cons_succ])
              refine wpAnyH_done (by kernel_rfl) ?_ _
              go_wp2_with fail
              exact ⟨⟨Az43, n + n3 + 1, cz43, l ++ l3 ++ [9], b3, q3, rfl, rfl, rfl, HOwn.out _ _ _ ho43, HKw.out _ hk43, by omega, k2, by omega, HL4, HJ2⟩, by simp [intOf]; omega⟩
        · have hnv : ¬ (((⟨s.toArray⟩ : ByteArray)[q]'(by simpa [ByteArray.size] using hq1)).toNat : Int) = 124 := by
            rw [hgb]; intro e; exact hy (UInt8.toNat_inj.1 (by show y.toNat = 124; omega))
          have hnb : ((((⟨s.toArray⟩ : ByteArray)[q]'(by simpa [ByteArray.size] using hq1)).toNat : Int) == 124) = false := beq_eq_false_iff_ne.2 hnv
          have HR : Hid (s.length ≤ 190 → Sp.Rds 1 (s.drop p) true l (s.drop q)) := fun h => sofar_stop (HJ.out h) (fun _ => by rw [hr]; intro e; injection e with e; exact hy e)
          clear HJ hown hkp hy hr hr2 hgb
          go_wp2_with fail
          refine wp_region_held_drew (S := fun _ => True) (by kernel_rfl) trivial (fun hHeld => ?_)
          obtain ⟨WR, HWR⟩ : ∃ x, Hid (wr.drew = x) := ⟨_, rfl⟩
          rw [HWR.out] at hkd hownd
          rw [HWR.out]
          (refine take_val (i := 0) (v := .bool true) rfl rfl (by kernel_rfl) (by kernel_rfl) (by kernel_rfl) (fun _ _ _ h => h) rfl (by intro wq hq; (try go_split_ands); go_simp; try with_reducible rfl) (trivial) ?_; try simp only [List.setIfInBounds_toArray, List.set_cons_zero, List.set_cons_succ])
          (refine take_val (i := 1) (v := .bool true) rfl rfl (by kernel_rfl) (by kernel_rfl) (by kernel_rfl) (fun _ _ _ h => h) rfl (by intro wq hq; (try go_split_ands); go_simp; try with_reducible rfl) (trivial) ?_; try simp only [List.setIfInBounds_toArray, List.set_cons_zero, List.set_cons_succ])
          (refine take_val (i := 2) (v := .int .i64 (q : Int)) rfl rfl (by kernel_rfl) (by kernel_rfl) (by kernel_rfl) (fun _ _ _ h => h) rfl (by intro wq hq; (try go_split_ands); go_simp; try with_reducible rfl) (trivial) ?_; try simp only [List.setIfInBounds_toArray, List.set_cons_zero, List.set_cons_succ])
          (refine take_val (i := 3) (v := .string ⟨s.toArray⟩) rfl rfl (by kernel_rfl) (by kernel_rfl) (by kernel_rfl) (fun _ _ _ h => h) rfl (by intro wq hq; (try go_split_ands); go_simp; (try with_reducible rfl); (try omega)) (trivial) ?_; try simp only [List.setIfInBounds_toArray, List.set_cons_zero, List.set_cons_succ])
          (refine take_val (i := 4) (v := .int .i64 (s.length : Int)) rfl rfl (by kernel_rfl) (by kernel_rfl) (by kernel_rfl) (fun _ _ _ h => h) rfl (by intro wq hq; (try go_split_ands); go_simp; try with_reducible rfl) (trivial) ?_; try simp only [List.setIfInBounds_toArray, List.set_cons_zero, List.set_cons_succ])
          (refine take_val (i := 5) (v := .bool true) rfl rfl (by kernel_rfl) (by kernel_rfl) (by kernel_rfl) (fun _ _ _ h => h) rfl (by intro wq hq; (try go_split_ands); go_simp; try with_reducible rfl) (trivial) ?_; try simp only [List.setIfInBounds_toArray, List.set_cons_zero, List.set_cons_succ])
          (refine take_val (i := 6) (v := .bool true) rfl rfl (by kernel_rfl) (by kernel_rfl) (by kernel_rfl) (fun _ _ _ h => h) rfl (by intro wq hq; (try go_split_ands); go_simp; try with_reducible rfl) (trivial) ?_; try simp only [List.setIfInBounds_toArray, List.set_cons_zero, List.set_cons_succ])
          (refine take_val (i := 7) (v := .bool true) rfl rfl (by kernel_rfl) (by kernel_rfl) (by kernel_rfl) (fun _ _ _ h => h) rfl (by intro wq hq; (try go_split_ands); go_simp; try with_reducible rfl) (trivial) ?_; try simp only [List.setIfInBounds_toArray, List.set_cons_zero, List.set_cons_succ])
          (refine take_val (i := 8) (v := .string ⟨s.toArray⟩) rfl rfl (by kernel_rfl) (by kernel_rfl) (by kernel_rfl) (fun _ _ _ h => h) rfl (by intro wq hq; (try go_split_ands); go_simp; (try with_reducible rfl); (try omega)) (trivial) ?_; try simp only [List.setIfInBounds_toArray, List.set_cons_zero, List.set_cons_succ])
          (refine take_val (i := 9) (v := .int .i64 (q : Int)) rfl rfl (by kernel_rfl) (by kernel_rfl) (by kernel_rfl) (fun _ _ _ h => h) rfl (by intro wq hq; (try go_split_ands); go_simp; try with_reducible rfl) (trivial) ?_; try simp only [List.setIfInBounds_toArray, List.set_cons_zero, List.set_cons_succ])
          (refine take_val (i := 10) (v := .int .u8 (((⟨s.toArray⟩ : ByteArray)[q]'(by simpa [ByteArray.size] using hq1)).toNat : Int)) rfl rfl (by kernel_rfl) (by kernel_rfl) (by kernel_rfl) (fun _ _ _ h => h) rfl (by intro wq hq; (try go_split_ands); go_simp; try with_reducible rfl) (trivial) ?_; try simp only [List.setIfInBounds_toArray, List.set_cons_zero, List.set_cons_succ])
          (refine take_val (i := 12) (v := .int .i64 1) rfl rfl (by kernel_rfl) (by kernel_rfl) (by kernel_rfl) (fun _ _ _ h => h) rfl (by intro wq hq; (try go_split_ands); go_simp; try with_reducible rfl) (trivial) ?_; try simp only [List.setIfInBounds_toArray, List.set_cons_zero, List.set_cons_succ])
          (refine take_val (i := 13) (v := .int .i64 0) rfl rfl (by kernel_rfl) (by kernel_rfl) (by kernel_rfl) (fun _ _ _ h => h) rfl (by intro wq hq; (try go_split_ands); go_simp; try with_reducible rfl) (trivial) ?_; try simp only [List.setIfInBounds_toArray, List.set_cons_zero, List.set_cons_succ])
          have BS0 := Blk.new WR 5 #[.int .u8 124, .int .u8 38]
          have hkS := hkd.alloc (.cells #[.int .u8 124, .int .u8 38] 5)
          have hownS := own_keep hownd ((Kept.refl WR).alloc (.cells #[.int .u8 124, .int .u8 38] 5))
          (refine wpAnyH_ready (rs := [11]) (by kernel_rfl) (by simp) ?_; refine AllReadyH.cons rfl (fun K hK => ?_) AllReadyH.nil; go_simp)
          (refine hK.out _ _ (trivial) (fun _ => ?_); clear hK K; try simp only [Act.put, List.setIfInBounds_toArray, List.set_cons_zero, List.set_cons_succ])
          obtain ⟨DS, HDS⟩ : ∃ x, Hid (WR.heap.size = x) := ⟨_, rfl⟩
          obtain ⟨WS, HWS⟩ : ∃ x, Hid (WR.alloc (.cells #[.int .u8 124, .int .u8 38] 5) = x) := ⟨_, rfl⟩
          have BS : Blk WS DS 5 #[.int .u8 124, .int .u8 38] := by rw [← HWS.out, ← HDS.out]; exact BS0
          rw [HWS.out] at hkS hownS
          rw [HDS.out, HWS.out]
          clear BS0 hHeld hownd hkd
          refine held_more (S' := fun w' => w'.cell? ⟨DS, 0, none⟩ = some (.int .u8 124)) (fun _ _ => trivial) _ _ _ _ ?_
          have hSS : WS.cell? ⟨DS, 0, none⟩ = some (.int .u8 124) := BS.cell 0
          (refine take_val (i := 14) (v := .pointer (some ⟨DS, 0, none⟩)) rfl rfl (by kernel_rfl) (by kernel_rfl) (by kernel_rfl) (fun _ _ _ h => h) rfl (by intro wq hq; (try go_split_ands); go_simp; try with_reducible rfl) (hSS) ?_; try simp only [List.setIfInBounds_toArray, List.set_cons_zero, List.set_cons_succ])
          (refine take_val (i := 15) (v := .int .u8 124) rfl rfl (by kernel_rfl) (by kernel_rfl) (by kernel_rfl) (fun _ _ _ h => h) rfl (by intro wq hq; (try go_split_ands); go_simp; try with_reducible rfl) (hSS) ?_; try simp only [List.setIfInBounds_toArray, List.set_cons_zero, List.set_cons_succ])
          (refine take_val (i := 16) (v := .bool false) rfl rfl (by kernel_rfl) (by kernel_rfl) (by kernel_rfl) (fun _ _ _ h => h) rfl (by intro wq hq; (try go_split_ands); go_simp; try with_reducible rfl) (hSS) ?_; try simp only [List.setIfInBounds_toArray, List.set_cons_zero, List.set_cons_succ])
          (refine take_val (i := 17) (v := .bool false) rfl rfl (by kernel_rfl) (by kernel_rfl) (by kernel_rfl) (fun _ _ _ h => h) rfl (by intro wq hq; (try go_split_ands); go_simp; try with_reducible rfl) (hSS) ?_; try simp only [List.setIfInBounds_toArray, List.set_cons_zero, List.set_cons_succ])
          refine wpAnyH_done (by kernel_rfl) ?_ _
          clear hSS BS
          go_wp2_with fail
          go_ret3
          exact ⟨A, n, c, l, true, q, rfl, hownS, hkS, h1, h2, h3, H4.out, HR.out⟩
      · have hnlt : ¬ (q : Int) < (s.length : Int) := by omega
        have HR : Hid (s.length ≤ 190 → Sp.Rds 1 (s.drop p) true l (s.drop q)) := fun h => sofar_stop (HJ.out h) (fun _ => by rw [List.drop_of_length_le (by omega)]; simp)
        clear HJ hown hkp
        go_wp2_with fail
        refine wp_region_held_drew (S := fun _ => True) (by kernel_rfl) trivial (fun hHeld => ?_)
        (refine take_val (i := 0) (v := .bool true) rfl rfl (by kernel_rfl) (by kernel_rfl) (by kernel_rfl) (fun _ _ _ h => h) rfl (by intro wq hq; (try go_split_ands); go_simp; try with_reducible rfl) (hHeld) ?_; try simp only [List.setIfInBounds_toArray, List.set_cons_zero, List.set_cons_succ])
        (refine take_val (i := 1) (v := .bool true) rfl rfl (by kernel_rfl) (by kernel_rfl) (by kernel_rfl) (fun _ _ _ h => h) rfl (by intro wq hq; (try go_split_ands); go_simp; try with_reducible rfl) (hHeld) ?_; try simp only [List.setIfInBounds_toArray, List.set_cons_zero, List.set_cons_succ])
        (refine take_val (i := 2) (v := .int .i64 (q : Int)) rfl rfl (by kernel_rfl) (by kernel_rfl) (by kernel_rfl) (fun _ _ _ h => h) rfl (by intro wq hq; (try go_split_ands); go_simp; try with_reducible rfl) (hHeld) ?_; try simp only [List.setIfInBounds_toArray, List.set_cons_zero, List.set_cons_succ])
        (refine take_val (i := 3) (v := .string ⟨s.toArray⟩) rfl rfl (by kernel_rfl) (by kernel_rfl) (by kernel_rfl) (fun _ _ _ h => h) rfl (by intro wq hq; (try go_split_ands); go_simp; (try with_reducible rfl); (try omega)) (hHeld) ?_; try simp only [List.setIfInBounds_toArray, List.set_cons_zero, List.set_cons_succ])
        (refine take_val (i := 4) (v := .int .i64 (s.length : Int)) rfl rfl (by kernel_rfl) (by kernel_rfl) (by kernel_rfl) (fun _ _ _ h => h) rfl (by intro wq hq; (try go_split_ands); go_simp; try with_reducible rfl) (hHeld) ?_; try simp only [List.setIfInBounds_toArray, List.set_cons_zero, List.set_cons_succ])
        (refine take_val (i := 5) (v := .bool false) rfl rfl (by kernel_rfl) (by kernel_rfl) (by kernel_rfl) (fun _ _ _ h => h) rfl (by intro wq hq; (try go_split_ands); go_simp; try with_reducible rfl) (hHeld) ?_; try simp only [List.setIfInBounds_toArray, List.set_cons_zero, List.set_cons_succ])
        (refine take_val (i := 6) (v := .bool false) rfl rfl (by kernel_rfl) (by kernel_rfl) (by kernel_rfl) (fun _ _ _ h => h) rfl (by intro wq hq; (try go_split_ands); go_simp; try with_reducible rfl) (hHeld) ?_; try simp only [List.setIfInBounds_toArray, List.set_cons_zero, List.set_cons_succ])
        (refine take_val (i := 7) (v := .bool false) rfl rfl (by kernel_rfl) (by kernel_rfl) (by kernel_rfl) (fun _ _ _ h => h) rfl (by intro wq hq; (try go_split_ands); go_simp; try with_reducible rfl) (hHeld) ?_; try simp only [List.setIfInBounds_toArray, List.set_cons_zero, List.set_cons_succ])
        (refine take_skip (i := 8) rfl rfl (by kernel_rfl) (by kernel_rfl) (by kernel_rfl) (fun _ _ _ h => h) rfl (hHeld) ?_; try simp only [List.setIfInBounds_toArray, List.set_cons_zero, List.set_cons_succ])
        (refine take_skip (i := 9) rfl rfl (by kernel_rfl) (by kernel_rfl) (by kernel_rfl) (fun _ _ _ h => h) rfl (hHeld) ?_; try simp only [List.setIfInBounds_toArray, List.set_cons_zero, List.set_cons_succ])
        (refine take_skip (i := 10) rfl rfl (by kernel_rfl) (by kernel_rfl) (by kernel_rfl) (fun _ _ _ h => h) rfl (hHeld) ?_; try simp only [List.setIfInBounds_toArray, List.set_cons_zero, List.set_cons_succ])
        (refine take_skip (i := 11) rfl rfl (by kernel_rfl) (by kernel_rfl) (by kernel_rfl) (fun _ _ _ h => h) rfl (hHeld) ?_; try simp only [List.setIfInBounds_toArray, List.set_cons_zero, List.set_cons_succ])
        (refine take_skip (i := 12) rfl rfl (by kernel_rfl) (by kernel_rfl) (by kernel_rfl) (fun _ _ _ h => h) rfl (hHeld) ?_; try simp only [List.setIfInBounds_toArray, List.set_cons_zero, List.set_cons_succ])
        (refine take_skip (i := 13) rfl rfl (by kernel_rfl) (by kernel_rfl) (by kernel_rfl) (fun _ _ _ h => h) rfl (hHeld) ?_; try simp only [List.setIfInBounds_toArray, List.set_cons_zero, List.set_cons_succ])
        (refine take_skip (i := 14) rfl rfl (by kernel_rfl) (by kernel_rfl) (by kernel_rfl) (fun _ _ _ h => h) rfl (hHeld) ?_; try simp only [List.setIfInBounds_toArray, List.set_cons_zero, List.set_cons_succ])
        (refine take_skip (i := 15) rfl rfl (by kernel_rfl) (by kernel_rfl) (by kernel_rfl) (fun _ _ _ h => h) rfl (hHeld) ?_; try simp only [List.setIfInBounds_toArray, List.set_cons_zero, List.set_cons_succ])
        (refine take_skip (i := 16) rfl rfl (by kernel_rfl) (by kernel_rfl) (by kernel_rfl) (fun _ _ _ h => h) rfl (hHeld) ?_; try simp only [List.setIfInBounds_toArray, List.set_cons_zero, List.set_cons_succ])
        (refine take_val (i := 17) (v := .bool false) rfl rfl (by kernel_rfl) (by kernel_rfl) (by kernel_rfl) (fun _ _ _ h => h) rfl (by intro wq hq; (try go_split_ands); go_simp; try with_reducible rfl) (hHeld) ?_; try simp only [List.setIfInBounds_toArray, List.set_cons_zero, List.set_cons_succ])
        refine wpAnyH_done (by kernel_rfl) ?_ _
        clear hHeld
        go_wp2_with fail
        go_ret3
        exact ⟨A, n, c, l, true, q, rfl, hownd, hkd, h1, h2, h3, H4.out, HR.out⟩

set_option maxHeartbeats 8000000 in
set_option maxRecDepth 100000 in
theorem c_great2 (s : List UInt8) (p : Nat) (D : Int) (w : World) (hs : s.length ≤ 199) (hp : p ≤ s.length) (hD0 : 0 ≤ D) (hD : D ≤ p)
    (HP0 : ∀ (p' : Nat) w', p ≤ p' → p' ≤ s.length → Calls Tryd.prog 135 #[.string ⟨s.toArray⟩, .int .i64 (p' : Int), .int .i64 3, .int .i64 D] w' (ScQ s p' 3 w')) :
    Calls Tryd.prog 135 #[.string ⟨s.toArray⟩, .int .i64 (p : Int), .int .i64 2, .int .i64 D] w (ScQ s p 2 w) := by
  obtain ⟨i0, hi0, hz0, hz1, hz2⟩ := info_parts info_int
  have HI := Lib.hid (And.intro hi0 (And.intro hz0 (And.intro hz1 hz2)))
  clear hi0 hz0 hz1 hz2
  have HP := Lib.hid HP0
  have hwi : IntKind.i64.wrap 1 = 1 := by decide
  clear HP0
  go_enter Tryd.func135, Tryd.ntmps135
  go_wp2_with fail
  refine (HP.out p w (Nat.le_refl _) hp).mono ?_; rintro e w1 ⟨A, n, c, l, b, q, rfl, hown, hk1, h1, h2, h3, h4, hg⟩
  have HJ0 : Hid (s.length ≤ 190 → Sp.Sofar 2 (s.drop p) b l (s.drop q)) := fun h => rds_up (.inr rfl) (hg h)
  have H40 := Lib.hid h4
  clear hg h4
  go_wp2_with fail
  go_loopw [11, 12, 13, 14, 15, 16] (fun v t o _ _ _ wr => ∃ (A : Option Addr) (n c : Nat) (l : List Int) (b : Bool) (q : Nat), v = .slice A n c ∧ t = .int .i64 (q : Int) ∧ o = .bool b ∧ wr.ownsRow w.heap.size 3 1 (.slice A n c) n (l.map (Value.int .i64)) ∧ Kept w wr ∧ p ≤ q ∧ q ≤ s.length ∧ n + p ≤ q ∧ Hid (∀ x ∈ l, 0 ≤ x ∧ x ≤ 9) ∧ Hid (s.length ≤ 190 → Sp.Sofar 2 (s.drop p) b l (s.drop q))) (fun _ t _ _ _ _ _ => s.length - (intOf t).toNat)
  case atStart => exact ⟨A, n, c, l, b, q, rfl, rfl, rfl, hown, hk1, h1, h2, h3, H40, HJ0⟩
  case round =>
    clear hown hk1 h1 h2 h3 H40 HJ0
    obtain ⟨A, n, c, l, b, q, rfl, rfl, rfl, hown, hkp, h1, h2, h3, H4, HJ⟩ := hrel
    have hkd := hkp.drew
    have hownd := own_keep hown (Kept.refl wr).drew
    cases b
    · have HR : Hid (s.length ≤ 190 → Sp.Rds 2 (s.drop p) false l (s.drop q)) := fun h => sofar_stop (HJ.out h) (fun e => by cases e)
      clear HJ hown hkp
      go_wp2_with fail
      refine wp_region_held_drew (S := fun _ => True) (by kernel_rfl) trivial (fun hHeld => ?_)
      (refine take_val (i := 0) (v := .bool false) rfl rfl (by kernel_rfl) (by kernel_rfl) (by kernel_rfl) (fun _ _ _ h => h) rfl (by intro wq hq; (try go_split_ands); go_simp; try with_reducible rfl) (hHeld) ?_; try simp only [List.setIfInBounds_toArray, List.set_cons_zero, List.set_cons_succ])
      (refine take_val (i := 1) (v := .bool false) rfl rfl (by kernel_rfl) (by kernel_rfl) (by kernel_rfl) (fun _ _ _ h => h) rfl (by intro wq hq; (try go_split_ands); go_simp; try with_reducible rfl) (hHeld) ?_; try simp only [List.setIfInBounds_toArray, List.set_cons_zero, List.set_cons_succ])
      (refine take_skip (i := 2) rfl rfl (by kernel_rfl) (by kernel_rfl) (by kernel_rfl) (fun _ _ _ h => h) rfl (hHeld) ?_; try simp only [List.setIfInBounds_toArray, List.set_cons_zero, List.set_cons_succ])
      (refine take_skip (i := 3) rfl rfl (by kernel_rfl) (by kernel_rfl) (by kernel_rfl) (fun _ _ _ h => h) rfl (hHeld) ?_; try simp only [List.setIfInBounds_toArray, List.set_cons_zero, List.set_cons_succ])
      (refine take_skip (i := 4) rfl rfl (by kernel_rfl) (by kernel_rfl) (by kernel_rfl) (fun _ _ _ h => h) rfl (hHeld) ?_; try simp only [List.setIfInBounds_toArray, List.set_cons_zero, List.set_cons_succ])
      (refine take_skip (i := 5) rfl rfl (by kernel_rfl) (by kernel_rfl) (by kernel_rfl) (fun _ _ _ h => h) rfl (hHeld) ?_; try simp only [List.setIfInBounds_toArray, List.set_cons_zero, List.set_cons_succ])
      (refine take_val (i := 6) (v := .bool false) rfl rfl (by kernel_rfl) (by kernel_rfl) (by kernel_rfl) (fun _ _ _ h => h) rfl (by intro wq hq; (try go_split_ands); go_simp; try with_reducible rfl) (hHeld) ?_; try simp only [List.setIfInBounds_toArray, List.set_cons_zero, List.set_cons_succ])
      (refine take_val (i := 7) (v := .bool false) rfl rfl (by kernel_rfl) (by kernel_rfl) (by kernel_rfl) (fun _ _ _ h => h) rfl (by intro wq hq; (try go_split_ands); go_simp; try with_reducible rfl) (hHeld) ?_; try simp only [List.setIfInBounds_toArray, List.set_cons_zero, List.set_cons_succ])
      (refine take_skip (i := 8) rfl rfl (by kernel_rfl) (by kernel_rfl) (by kernel_rfl) (fun _ _ _ h => h) rfl (hHeld) ?_; try simp only [List.setIfInBounds_toArray, List.set_cons_zero, List.set_cons_succ])
      (refine take_skip (i := 9) rfl rfl (by kernel_rfl) (by kernel_rfl) (by kernel_rfl) (fun _ _ _ h => h) rfl (hHeld) ?_; try simp only [List.setIfInBounds_toArray, List.set_cons_zero, List.set_cons_succ])
      (refine take_skip (i := 10) rfl rfl (by kernel_rfl) (by kernel_rfl) (by kernel_rfl) (fun _ _ _ h => h) rfl (hHeld) ?_; try simp only [List.setIfInBounds_toArray, List.set_cons_zero, List.set_cons_succ])
      (refine take_skip (i := 11) rfl rfl (by kernel_rfl) (by kernel_rfl) (by kernel_rfl) (fun _ _ _ h => h) rfl (hHeld) ?_; try simp only [List.setIfInBounds_toArray, List.set_cons_zero, List.set_cons_succ])
      (refine take_skip (i := 12) rfl rfl (by kernel_rfl) (by kernel_rfl) (by kernel_rfl) (fun _ _ _ h => h) rfl (hHeld) ?_; try simp only [List.setIfInBounds_toArray, List.set_cons_zero, List.set_cons_succ])
      (refine take_skip (i := 13) rfl rfl (by kernel_rfl) (by kernel_rfl) (by kernel_rfl) (fun _ _ _ h => h) rfl (hHeld) ?_; try simp only [List.setIfInBounds_toArray, List.set_cons_zero, List.set_cons_succ])
      (refine take_skip (i := 14) rfl rfl (by kernel_rfl) (by kernel_rfl) (by kernel_rfl) (fun _ _ _ h => h) rfl (hHeld) ?_; try simp only [List.setIfInBounds_toArray, List.set_cons_zero, List.set_cons_succ])
      (refine take_skip (i := 15) rfl rfl (by kernel_rfl) (by kernel_rfl) (by kernel_rfl) (fun _ _ _ h => h) rfl (hHeld) ?_; try simp only [List.setIfInBounds_toArray, List.set_cons_zero, List.set_cons_succ])
      (refine take_skip (i := 16) rfl rfl (by kernel_rfl) (by kernel_rfl) (by kernel_rfl) (fun _ _ _ h => h) rfl (hHeld) ?_; try simp only [List.setIfInBounds_toArray, List.set_cons_zero, List.set_cons_succ])
      (refine take_val (i := 17) (v := .bool false) rfl rfl (by kernel_rfl) (by kernel_rfl) (by kernel_rfl) (fun _ _ _ h => h) rfl (by intro wq hq; (try go_split_ands); go_simp; try with_reducible rfl) (hHeld) ?_; try simp only [List.setIfInBounds_toArray, List.set_cons_zero, List.set_cons_succ])
      refine wpAnyH_done (by kernel_rfl) ?_ _
      clear hHeld
      go_wp2_with fail
      go_ret3
      exact ⟨A, n, c, l, false, q, rfl, hownd, hkd, h1, h2, h3, H4.out, HR.out⟩
    · by_cases hql : q < s.length
      · obtain ⟨y, r, hr⟩ : ∃ y r, s.drop q = y :: r := by
          cases e : s.drop q with
          | nil => have := congrArg List.length e; rw [List.length_drop, List.length_nil] at this; omega
          | cons y r => exact ⟨y, r, rfl⟩
        obtain ⟨hq1, hgb, hr2⟩ := byte_at hr
        have hlt : (q : Int) < (s.length : Int) := by omega
        by_cases hy : y = 38
        · have hv : (((⟨s.toArray⟩ : ByteArray)[q]'(by simpa [ByteArray.size] using hq1)).toNat : Int) = 38 := by rw [hgb, hy]; rfl
          have hw1 : IntKind.i64.wrap ((q : Int) + 1) = ((q + 1 : Nat) : Int) := by rw [IntKind.wrap_i64]; omega
          have HJ1 : Hid (s.length ≤ 190 → Sp.Sofar 2 (s.drop p) true l (Sp.opS 2 :: s.drop (q + 1))) := fun h => by
            have := HJ.out h
            rw [hr, hy, ← hr2] at this
            exact this
          clear HJ hown hkp hy hr hr2 hgb
          go_wp2_with fail
          refine wp_region_held_drew (S := fun _ => True) (by kernel_rfl) trivial (fun hHeld => ?_)
          obtain ⟨WR, HWR⟩ : ∃ x, Hid (wr.drew = x) := ⟨_, rfl⟩
          rw [HWR.out] at hkd hownd
          rw [HWR.out]
          (refine take_val (i := 0) (v := .bool true) rfl rfl (by kernel_rfl) (by kernel_rfl) (by kernel_rfl) (fun _ _ _ h => h) rfl (by intro wq hq; (try go_split_ands); go_simp; try with_reducible rfl) (trivial) ?_; try simp only [List.setIfInBounds_toArray, List.set_cons_zero, List.set_cons_succ])
          (refine take_val (i := 1) (v := .bool true) rfl rfl (by kernel_rfl) (by kernel_rfl) (by kernel_rfl) (fun _ _ _ h => h) rfl (by intro wq hq; (try go_split_ands); go_simp; try with_reducible rfl) (trivial) ?_; try simp only [List.setIfInBounds_toArray, List.set_cons_zero, List.set_cons_succ])
          (refine take_val (i := 2) (v := .int .i64 (q : Int)) rfl rfl (by kernel_rfl) (by kernel_rfl) (by kernel_rfl) (fun _ _ _ h => h) rfl (by intro wq hq; (try go_split_ands); go_simp; try with_reducible rfl) (trivial) ?_; try simp only [List.setIfInBounds_toArray, List.set_cons_zero, List.set_cons_succ])
          (refine take_val (i := 3) (v := .string ⟨s.toArray⟩) rfl rfl (by kernel_rfl) (by kernel_rfl) (by kernel_rfl) (fun _ _ _ h => h) rfl (by intro wq hq; (try go_split_ands); go_simp; (try with_reducible rfl); (try omega)) (trivial) ?_; try simp only [List.setIfInBounds_toArray, List.set_cons_zero, List.set_cons_succ])
          (refine take_val (i := 4) (v := .int .i64 (s.length : Int)) rfl rfl (by kernel_rfl) (by kernel_rfl) (by kernel_rfl) (fun _ _ _ h => h) rfl (by intro wq hq; (try go_split_ands); go_simp; try with_reducible rfl) (trivial) ?_; try simp only [List.setIfInBounds_toArray, List.set_cons_zero, List.set_cons_succ])
          (refine take_val (i := 5) (v := .bool true) rfl rfl (by kernel_rfl) (by kernel_rfl) (by kernel_rfl) (fun _ _ _ h => h) rfl (by intro wq hq; (try go_split_ands); go_simp; try with_reducible rfl) (trivial) ?_; try simp only [List.setIfInBounds_toArray, List.set_cons_zero, List.set_cons_succ])
          (refine take_val (i := 6) (v := .bool true) rfl rfl (by kernel_rfl) (by kernel_rfl) (by kernel_rfl) (fun _ _ _ h => h) rfl (by intro wq hq; (try go_split_ands); go_simp; try with_reducible rfl) (trivial) ?_; try simp only [List.setIfInBounds_toArray, List.set_cons_zero, List.set_cons_succ])
          (refine take_val (i := 7) (v := .bool true) rfl rfl (by kernel_rfl) (by kernel_rfl) (by kernel_rfl) (fun _ _ _ h => h) rfl (by intro wq hq; (try go_split_ands); go_simp; try with_reducible rfl) (trivial) ?_; try simp only [List.setIfInBounds_toArray, List.set_cons_zero, List.set_cons_succ])
          (refine take_val (i := 8) (v := .string ⟨s.toArray⟩) rfl rfl (by kernel_rfl) (by kernel_rfl) (by kernel_rfl) (fun _ _ _ h => h) rfl (by intro wq hq; (try go_split_ands); go_simp; (try with_reducible rfl); (try omega)) (trivial) ?_; try simp only [List.setIfInBounds_toArray, List.set_cons_zero, List.set_cons_succ])
          (refine take_val (i := 9) (v := .int .i64 (q : Int)) rfl rfl (by kernel_rfl) (by kernel_rfl) (by kernel_rfl) (fun _ _ _ h => h) rfl (by intro wq hq; (try go_split_ands); go_simp; try with_reducible rfl) (trivial) ?_; try simp only [List.setIfInBounds_toArray, List.set_cons_zero, List.set_cons_succ])
          (refine take_val (i := 10) (v := .int .u8 38) rfl rfl (by kernel_rfl) (by kernel_rfl) (by kernel_rfl) (fun _ _ _ h => h) rfl (by intro wq hq; (try go_split_ands); go_simp; try with_reducible rfl) (trivial) ?_; try simp only [List.setIfInBounds_toArray, List.set_cons_zero, List.set_cons_succ])
          (refine take_val (i := 12) (v := .int .i64 2) rfl rfl (by kernel_rfl) (by kernel_rfl) (by kernel_rfl) (fun _ _ _ h => h) rfl (by intro wq hq; (try go_split_ands); go_simp; try with_reducible rfl) (trivial) ?_; try simp only [List.setIfInBounds_toArray, List.set_cons_zero, List.set_cons_succ])
          (refine take_val (i := 13) (v := .int .i64 1) rfl rfl (by kernel_rfl) (by kernel_rfl) (by kernel_rfl) (fun _ _ _ h => h) rfl (by intro wq hq; (try go_split_ands); go_simp; try with_reducible rfl) (trivial) ?_; try simp only [List.setIfInBounds_toArray, List.set_cons_zero, List.set_cons_succ])
          have BS0 := Blk.new WR 5 #[.int .u8 124, .int .u8 38]
          have hkS := hkd.alloc (.cells #[.int .u8 124, .int .u8 38] 5)
          have hownS := own_keep hownd ((Kept.refl WR).alloc (.cells #[.int .u8 124, .int .u8 38] 5))
          (refine wpAnyH_ready (rs := [11]) (by kernel_rfl) (by simp) ?_; refine AllReadyH.cons rfl (fun K hK => ?_) AllReadyH.nil; go_simp)
          (refine hK.out _ _ (trivial) (fun _ => ?_); clear hK K; try simp only [Act.put, List.setIfInBounds_toArray, List.set_cons_zero, List.set_cons_succ])
          obtain ⟨DS, HDS⟩ : ∃ x, Hid (WR.heap.size = x) := ⟨_, rfl⟩
          obtain ⟨WS, HWS⟩ : ∃ x, Hid (WR.alloc (.cells #[.int .u8 124, .int .u8 38] 5) = x) := ⟨_, rfl⟩
          have BS : Blk WS DS 5 #[.int .u8 124, .int .u8 38] := by rw [← HWS.out, ← HDS.out]; exact BS0
          rw [HWS.out] at hkS hownS
          rw [HDS.out, HWS.out]
          clear BS0 hHeld hownd hkd
          refine held_more (S' := fun w' => w'.cell? ⟨DS, 1, none⟩ = some (.int .u8 38)) (fun _ _ => trivial) _ _ _ _ ?_
          have hSS : WS.cell? ⟨DS, 1, none⟩ = some (.int .u8 38) := BS.cell 1
          (refine take_val (i := 14) (v := .pointer (some ⟨DS, 1, none⟩)) rfl rfl (by kernel_rfl) (by kernel_rfl) (by kernel_rfl) (fun _ _ _ h => h) rfl (by intro wq hq; (try go_split_ands); go_simp; try with_reducible rfl) (hSS) ?_; try simp only [List.setIfInBounds_toArray, List.set_cons_zero, List.set_cons_succ])
          (refine take_val (i := 15) (v := .int .u8 38) rfl rfl (by kernel_rfl) (by kernel_rfl) (by kernel_rfl) (fun _ _ _ h => h) rfl (by intro wq hq; (try go_split_ands); go_simp; try with_reducible rfl) (hSS) ?_; try simp only [List.setIfInBounds_toArray, List.set_cons_zero, List.set_cons_succ])
          (refine take_val (i := 16) (v := .bool true) rfl rfl (by kernel_rfl) (by kernel_rfl) (by kernel_rfl) (fun _ _ _ h => h) rfl (by intro wq hq; (try go_split_ands); go_simp; try with_reducible rfl) (hSS) ?_; try simp only [List.setIfInBounds_toArray, List.set_cons_zero, List.set_cons_succ])
          (refine take_val (i := 17) (v := .bool true) rfl rfl (by kernel_rfl) (by kernel_rfl) (by kernel_rfl) (fun _ _ _ h => h) rfl (by intro wq hq; (try go_split_ands); go_simp; try with_reducible rfl) (hSS) ?_; try simp only [List.setIfInBounds_toArray, List.set_cons_zero, List.set_cons_succ])
          refine wpAnyH_done (by kernel_rfl) ?_ _
          clear hSS BS hv
          go_wp2_with fail
          refine (HP.out (q + 1) WS (by omega) (by omega)).mono ?_; rintro e w3 ⟨A3, n3, c3, l3, b3, q3, rfl, hown3, hk3, k1, k2, k3, k4, hg3⟩
          have hIa0 := own_ints2 (by omega) (own_keep hownS hk3) (fun x hx => by have := H4.out x hx; unfold Sp.inI; omega)
          have hIb0 := own_ints2 (by omega) hown3 (fun x hx => by have := k4 x hx; unfold Sp.inI; omega)
          have hk3w := hkS.trans hk3
          have HJ2 : Hid (s.length ≤ 190 → Sp.Sofar 2 (s.drop p) b3 (l ++ l3 ++ [8]) (s.drop q3)) := fun h => sofar_more (HJ1.out h) (hg3 h)
          have HL4 : Hid (∀ x ∈ l ++ l3 ++ [8], 0 ≤ x ∧ x ≤ 9) := by
            intro x hx
            simp only [List.mem_append, List.mem_singleton] at hx
            rcases hx with (hx | hx) | hx
            · exact H4.out x hx
            · exact k4 x hx
            · subst hx; decide
          have HOwn : Hid (∀ (W : World) (A5 : Option Addr) (c5 : Nat), W.ownsRow w3.heap.size 3 1 (.slice A5 (n + n3 + 1) c5) (n + n3 + 1) (l.map (Value.int .i64) ++ l3.map (Value.int .i64) ++ [8].map (Value.int .i64)) →
              W.ownsRow w.heap.size 3 1 (.slice A5 (n + n3 + 1) c5) (n + n3 + 1) ((l ++ l3 ++ [8]).map (Value.int .i64))) := by
            intro W A5 c5 h
            rw [List.map_append, List.map_append]
            exact ownsRow_mono h hk3w.size
          have HKw : Hid (∀ W, Kept w3 W → Kept w W) := fun W h => hk3w.trans h
          obtain ⟨W0, HW0⟩ : ∃ x, Hid (w3.drew = x) := ⟨_, rfl⟩
          have hk0w : Kept w3 W0 := by rw [← HW0.out]; exact (Kept.refl w3).drew
          have hIa := hIa0
          have hIb := hIb0
          clear hownS hown3 hg3 k4 HJ1 hk3w hk3 hkS hIa0 hIb0
          go_wp2_with fail
          refine wp_region_held_drew (S := fun _ => True) (by kernel_rfl) trivial (fun hHeld => ?_)
          rw [HW0.out]
          clear hHeld
          (refine take_val (i := 1) (v := .slice A n c) rfl rfl (by kernel_rfl) (by kernel_rfl) (by kernel_rfl) (fun _ _ _ h => h) rfl (by intro wq hq; (try go_split_ands); go_simp; try with_reducible rfl) (trivial) ?_; try simp only [List.setIfInBounds_toArray, List.set_cons_zero, List.set_cons_succ])
          (refine take_val (i := 3) (v := .slice A3 n3 c3) rfl rfl (by kernel_rfl) (by kernel_rfl) (by kernel_rfl) (fun _ _ _ h => h) rfl (by intro wq hq; (try go_split_ands); go_simp; try with_reducible rfl) (trivial) ?_; try simp only [List.setIfInBounds_toArray, List.set_cons_zero, List.set_cons_succ])
          (refine take_val (i := 6) (v := .int .i64 2) rfl rfl (by kernel_rfl) (by kernel_rfl) (by kernel_rfl) (fun _ _ _ h => h) rfl (by intro wq hq; (try go_split_ands); go_simp; try with_reducible rfl) (trivial) ?_; try simp only [List.setIfInBounds_toArray, List.set_cons_zero, List.set_cons_succ])
          (refine take_val (i := 7) (v := .int .i64 1) rfl rfl (by kernel_rfl) (by kernel_rfl) (by kernel_rfl) (fun _ _ _ h => h) rfl (by intro wq hq; (try go_split_ands); go_simp; try with_reducible rfl) (trivial) ?_; try simp only [List.setIfInBounds_toArray, List.set_cons_zero, List.set_cons_succ])
          refine wpAnyH_ready (rs := [0, 5]) (by kernel_rfl) (by simp) ?_
          refine AllReadyH.cons rfl (fun K hK => ?_) (AllReadyH.cons rfl (fun K hK => ?_) (AllReadyH.nil))
          · skip
            go_simp
            have hl1 := (Kept.refl W0).alloc (.cells #[] 3)
            have hk1 := hk0w.trans hl1
            have ho1 := own_empty (X := w3.heap.size) hk0w.size
            (refine hK.out _ _ (trivial) (fun _ => ?_); clear hK K; try simp only [Act.put, List.setIfInBounds_toArray, List.set_cons_zero, List.set_cons_succ])
            obtain ⟨gq, HN1⟩ : ∃ x, Hid (W0.heap.size = x) := ⟨_, rfl⟩
            obtain ⟨W1, HW1⟩ : ∃ x, Hid (W0.alloc (.cells #[] 3) = x) := ⟨_, rfl⟩
            clear hl1
            rw [HW1.out] at hk1 ho1
            rw [HN1.out] at ho1
            rw [HN1.out, HW1.out]
            refine wpAnyH_ready (rs := [2, 5]) (by kernel_rfl) (by simp) ?_
            refine AllReadyH.cons rfl (fun K hK => ?_) (AllReadyH.cons rfl (fun K hK => ?_) (AllReadyH.nil))
            · skip
              refine wp_app_ints _ (.tmp 65) (.tmp 66) 23 rfl w3.heap.size 3 i0 (.int .i64 0) Tryd.underlying23 HI.out.1 HI.out.2.1 HI.out.2.2.1 HI.out.2.2.2 rfl (.slice (some ⟨gq, 0, none⟩) 0 0) 0 [] rfl ho1 A n c l rfl (hIa.keep hk1) n (by omega) (by unfold maxLen; omega) (by omega) hk1.size (fun v2 W2 ho2 hg2 hat2 => ?_)
              obtain ⟨Az2, cz2, rfl⟩ := own_form ho2
              rw [List.nil_append] at ho2
              have hk2 := hk1.grown hg2 (fun k e => (ho1.lt k e).1)
              refine hK.out _ _ trivial (fun _ => ?_); clear hK K; try simp only [Act.put, List.setIfInBounds_toArray, List.set_cons_zero, List.set_cons_succ]
              refine wpAnyH_ready (rs := [4, 5]) (by kernel_rfl) (by simp) ?_
              refine AllReadyH.cons rfl (fun K hK => ?_) (AllReadyH.cons rfl (fun K hK => ?_) (AllReadyH.nil))
              · skip
                refine wp_app_ints _ (.tmp 67) (.tmp 68) 23 rfl w3.heap.size 3 i0 (.int .i64 0) Tryd.underlying23 HI.out.1 HI.out.2.1 HI.out.2.2.1 HI.out.2.2.2 rfl (.slice Az2 n cz2) n (l.map (Value.int .i64)) rfl ho2 A3 n3 c3 l3 rfl (hIb.keep hk2) (n + n3) (by omega) (by unfold maxLen; omega) (by omega) hk2.size (fun v3 W3 ho3 hg3 hat3 => ?_)
                obtain ⟨Az3, cz3, rfl⟩ := own_form ho3
                have hk3 := hk2.grown hg3 (fun k e => (ho2.lt k e).1)
                refine hK.out _ _ trivial (fun _ => ?_); clear hK K; try simp only [Act.put, List.setIfInBounds_toArray, List.set_cons_zero, List.set_cons_succ]
                refine wpAnyH_ready (rs := [5]) (by kernel_rfl) (by simp) ?_
                refine AllReadyH.cons rfl (fun K hK => ?_) (AllReadyH.nil)
                go_simp
                have hl4 := (Kept.refl W3).alloc (.cells #[.int .i64 9, .int .i64 8] 3)
                have hk4 := hk3.trans hl4
                have B4 := Blk.new W3 3 #[.int .i64 9, .int .i64 8]
                have ho4 := own_keep ho3 hl4
                (refine hK.out _ _ (trivial) (fun _ => ?_); clear hK K; try simp only [Act.put, List.setIfInBounds_toArray, List.set_cons_zero, List.set_cons_succ])
                obtain ⟨D5, HN4⟩ : ∃ x, Hid (W3.heap.size = x) := ⟨_, rfl⟩
                obtain ⟨W4, HW4⟩ : ∃ x, Hid (W3.alloc (.cells #[.int .i64 9, .int .i64 8] 3) = x) := ⟨_, rfl⟩
                have hne4 : (Value.slice Az3 (n + n3) cz3).ownBlock ≠ some D5 := fun e => by have h1 := (ho3.lt _ e).2; have h2 := HN4.out; omega
                clear hl4
                rw [HW4.out] at hk4 B4 ho4
                rw [HN4.out] at B4
                rw [HN4.out, HW4.out]
                refine held_more (S' := fun w' => w'.cell? ⟨D5, 1, none⟩ = some (.int .i64 8)) (fun _ _ => trivial) _ _ _ _ ?_
                have hS4 : W4.cell? ⟨D5, 1, none⟩ = some (.int .i64 8) := B4.cell 1
                (refine take_val (i := 8) (v := .pointer (some ⟨D5, 1, none⟩)) rfl rfl (by kernel_rfl) (by kernel_rfl) (by kernel_rfl) (fun _ _ _ h => h) rfl (by intro wq hq; (try go_split_ands); go_simp; try with_reducible rfl) (hS4) ?_; try simp only [List.setIfInBounds_toArray, List.set_cons_zero, List.set_cons_succ])
                (refine take_val (i := 9) (v := .int .i64 8) rfl rfl (by kernel_rfl) (by kernel_rfl) (by kernel_rfl) (fun _ _ _ h => h) rfl (by intro wq hq; (try go_split_ands); go_simp; try with_reducible rfl) (hS4) ?_; try simp only [List.setIfInBounds_toArray, List.set_cons_zero, List.set_cons_succ])
                clear hS4
                refine wpAnyH_ready (rs := [10]) (by kernel_rfl) (by simp) ?_
                refine AllReadyH.cons rfl (fun K hK => ?_) (AllReadyH.nil)
                go_simp
                have hl5 := (Kept.refl W4).alloc (.cells #[.int .i64 8] 3)
                have hk5 := hk4.trans hl5
                have B5 := Blk.new W4 3 #[.int .i64 8]
                have ho5 := own_keep ho4 hl5
                have B5_5 := B4.kept hl5
                (refine hK.out _ _ ((B5_5.cell 1)) (fun _ => ?_); clear hK K; try simp only [Act.put, List.setIfInBounds_toArray, List.set_cons_zero, List.set_cons_succ])
                obtain ⟨E10, HN5⟩ : ∃ x, Hid (W4.heap.size = x) := ⟨_, rfl⟩
                obtain ⟨W5, HW5⟩ : ∃ x, Hid (W4.alloc (.cells #[.int .i64 8] 3) = x) := ⟨_, rfl⟩
                have hne5 : (Value.slice Az3 (n + n3) cz3).ownBlock ≠ some E10 := fun e => by have h1 := (ho4.lt _ e).2; have h2 := HN5.out; omega
                clear hl5
                rw [HW5.out] at hk5 B5 ho5 B5_5
                rw [HN5.out] at B5
                rw [HN5.out, HW5.out]
                refine wpAnyH_ready (rs := [11]) (by kernel_rfl) (by simp) ?_
                refine AllReadyH.cons rfl (fun K hK => ?_) AllReadyH.nil
                refine wp_app_ints _ (.tmp 69) (.tmp 75) 23 rfl w3.heap.size 3 i0 (.int .i64 0) Tryd.underlying23 HI.out.1 HI.out.2.1 HI.out.2.2.1 HI.out.2.2.2 rfl (.slice Az3 (n + n3) cz3) (n + n3) (l.map (Value.int .i64) ++ l3.map (Value.int .i64)) rfl ho5 (some ⟨E10, 0, none⟩) 1 1 [8] rfl (blk_int1 B5 (by decide)) (n + n3 + 1) rfl (by unfold maxLen; omega) (by omega) hk5.size (fun v6 W6 ho6 hg6 _ => ?_)
                obtain ⟨Az6, cz6, rfl⟩ := own_form ho6
                have hk6 := hk5.grown hg6 (fun k e => (ho5.lt k e).1)
                have B6 := B5_5.grown hg6 (fun e => hne4 e.symm)
                refine hK.out _ _ (B6.cell 1) (fun _ => ?_); clear hK K; try simp only [Act.put, List.setIfInBounds_toArray, List.set_cons_zero, List.set_cons_succ]
                (refine take_val (i := 12) (v := .slice Az6 (n + n3 + 1) cz6) rfl rfl (by kernel_rfl) (by kernel_rfl) (by kernel_rfl) (fun _ _ _ h => h) rfl (by intro wq hq; (try go_split_ands); go_simp; try with_reducible rfl) ((B6.cell 1)) ?_; try simp only [List.setIfInBounds_toArray, List.set_cons_zero, List.set_cons_succ])
                refine wpAnyH_done (by kernel_rfl) ?_ _
                go_wp2_with fail
                exact ⟨⟨Az6, n + n3 + 1, cz6, l ++ l3 ++ [8], b3, q3, rfl, rfl, rfl, HOwn.out _ _ _ ho6, HKw.out _ hk6, by omega, k2, by omega, HL4, HJ2⟩, by simp [intOf]; omega⟩
              · skip
                go_simp
                have hl7 := (Kept.refl W2).alloc (.cells #[.int .i64 9, .int .i64 8] 3)
                have hk7 := hk2.trans hl7
                have B7 := Blk.new W2 3 #[.int .i64 9, .int .i64 8]
                have ho7 := own_keep ho2 hl7
                (refine hK.out _ _ (trivial) (fun _ => ?_); clear hK K; try simp only [Act.put, List.setIfInBounds_toArray, List.set_cons_zero, List.set_cons_succ])
                obtain ⟨D5, HN7⟩ : ∃ x, Hid (W2.heap.size = x) := ⟨_, rfl⟩
                obtain ⟨W7, HW7⟩ : ∃ x, Hid (W2.alloc (.cells #[.int .i64 9, .int .i64 8] 3) = x) := ⟨_, rfl⟩
                have hne7 : (Value.slice Az2 n cz2).ownBlock ≠ some D5 := fun e => by have h1 := (ho2.lt _ e).2; have h2 := HN7.out; omega
                clear hl7
                rw [HW7.out] at hk7 B7 ho7
                rw [HN7.out] at B7
                rw [HN7.out, HW7.out]
                refine held_more (S' := fun w' => w'.cell? ⟨D5, 1, none⟩ = some (.int .i64 8)) (fun _ _ => trivial) _ _ _ _ ?_
                have hS7 : W7.cell? ⟨D5, 1, none⟩ = some (.int .i64 8) := B7.cell 1
                (refine take_val (i := 8) (v := .pointer (some ⟨D5, 1, none⟩)) rfl rfl (by kernel_rfl) (by kernel_rfl) (by kernel_rfl) (fun _ _ _ h => h) rfl (by intro wq hq; (try go_split_ands); go_simp; try with_reducible rfl) (hS7) ?_; try simp only [List.setIfInBounds_toArray, List.set_cons_zero, List.set_cons_succ])
                (refine take_val (i := 9) (v := .int .i64 8) rfl rfl (by kernel_rfl) (by kernel_rfl) (by kernel_rfl) (fun _ _ _ h => h) rfl (by intro wq hq; (try go_split_ands); go_simp; try with_reducible rfl) (hS7) ?_; try simp only [List.setIfInBounds_toArray, List.set_cons_zero, List.set_cons_succ])
                clear hS7
                refine wpAnyH_ready (rs := [4, 10]) (by kernel_rfl) (by simp) ?_
                refine AllReadyH.cons rfl (fun K hK => ?_) (AllReadyH.cons rfl (fun K hK => ?_) (AllReadyH.nil))
                · skip
                  refine wp_app_ints _ (.tmp 67) (.tmp 68) 23 rfl w3.heap.size 3 i0 (.int .i64 0) Tryd.underlying23 HI.out.1 HI.out.2.1 HI.out.2.2.1 HI.out.2.2.2 rfl (.slice Az2 n cz2) n (l.map (Value.int .i64)) rfl ho7 A3 n3 c3 l3 rfl (hIb.keep hk7) (n + n3) (by omega) (by unfold maxLen; omega) (by omega) hk7.size (fun v8 W8 ho8 hg8 hat8 => ?_)
                  obtain ⟨Az8, cz8, rfl⟩ := own_form ho8
                  have hk8 := hk7.grown hg8 (fun k e => (ho7.lt k e).1)
                  have B8_5 := B7.grown hg8 (fun e => hne7 e.symm)
                  have hne8_5 : (Value.slice Az8 (n + n3) cz8).ownBlock ≠ some D5 := fun e => by
                    rcases hat8 with h | h
                    · exact hne7 (h.symm.trans e)
                    · have h1 := B7.lt; rw [h] at e; simp only [Option.some.injEq] at e; omega
                  refine hK.out _ _ (B8_5.cell 1) (fun _ => ?_); clear hK K; try simp only [Act.put, List.setIfInBounds_toArray, List.set_cons_zero, List.set_cons_succ]
                  refine wpAnyH_ready (rs := [10]) (by kernel_rfl) (by simp) ?_
                  refine AllReadyH.cons rfl (fun K hK => ?_) (AllReadyH.nil)
                  go_simp
                  have hl9 := (Kept.refl W8).alloc (.cells #[.int .i64 8] 3)
                  have hk9 := hk8.trans hl9
                  have B9 := Blk.new W8 3 #[.int .i64 8]
                  have ho9 := own_keep ho8 hl9
                  have B9_5 := B8_5.kept hl9
                  (refine hK.out _ _ ((B9_5.cell 1)) (fun _ => ?_); clear hK K; try simp only [Act.put, List.setIfInBounds_toArray, List.set_cons_zero, List.set_cons_succ])
                  obtain ⟨E10, HN9⟩ : ∃ x, Hid (W8.heap.size = x) := ⟨_, rfl⟩
                  obtain ⟨W9, HW9⟩ : ∃ x, Hid (W8.alloc (.cells #[.int .i64 8] 3) = x) := ⟨_, rfl⟩
                  have hne9 : (Value.slice Az8 (n + n3) cz8).ownBlock ≠ some E10 := fun e => by have h1 := (ho8.lt _ e).2; have h2 := HN9.out; omega
                  clear hl9
                  rw [HW9.out] at hk9 B9 ho9 B9_5
                  rw [HN9.out] at B9
                  rw [HN9.out, HW9.out]
                  refine wpAnyH_ready (rs := [11]) (by kernel_rfl) (by simp) ?_
                  refine AllReadyH.cons rfl (fun K hK => ?_) AllReadyH.nil
                  refine wp_app_ints _ (.tmp 69) (.tmp 75) 23 rfl w3.heap.size 3 i0 (.int .i64 0) Tryd.underlying23 HI.out.1 HI.out.2.1 HI.out.2.2.1 HI.out.2.2.2 rfl (.slice Az8 (n + n3) cz8) (n + n3) (l.map (Value.int .i64) ++ l3.map (Value.int .i64)) rfl ho9 (some ⟨E10, 0, none⟩) 1 1 [8] rfl (blk_int1 B9 (by decide)) (n + n3 + 1) rfl (by unfold maxLen; omega) (by omega) hk9.size (fun v10 W10 ho10 hg10 _ => ?_)
                  obtain ⟨Az10, cz10, rfl⟩ := own_form ho10
                  have hk10 := hk9.grown hg10 (fun k e => (ho9.lt k e).1)
                  have B10 := B9_5.grown hg10 (fun e => hne8_5 e.symm)
                  refine hK.out _ _ (B10.cell 1) (fun _ => ?_); clear hK K; try simp only [Act.put, List.setIfInBounds_toArray, List.set_cons_zero, List.set_cons_succ]
                  (refine take_val (i := 12) (v := .slice Az10 (n + n3 + 1) cz10) rfl rfl (by kernel_rfl) (by kernel_rfl) (by kernel_rfl) (fun _ _ _ h => h) rfl (by intro wq hq; (try go_split_ands); go_simp; try with_reducible rfl) ((B10.cell 1)) ?_; try simp only [List.setIfInBounds_toArray, List.set_cons_zero, List.set_cons_succ])
                  refine wpAnyH_done (by kernel_rfl) ?_ _
                  go_wp2_with fail
                  exact ⟨⟨Az10, n + n3 + 1, cz10, l ++ l3 ++ [8], b3, q3, rfl, rfl, rfl, HOwn.out _ _ _ ho10, HKw.out _ hk10, by omega, k2, by omega, HL4, HJ2⟩, by simp [intOf]; omega⟩
                · skip
                  go_simp
                  have hl11 := (Kept.refl W7).alloc (.cells #[.int .i64 8] 3)
                  have hk11 := hk7.trans hl11
                  have B11 := Blk.new W7 3 #[.int .i64 8]
                  have ho11 := own_keep ho7 hl11
                  have B11_5 := B7.kept hl11
                  (refine hK.out _ _ ((B11_5.cell 1)) (fun _ => ?_); clear hK K; try simp only [Act.put, List.setIfInBounds_toArray, List.set_cons_zero, List.set_cons_succ])
                  obtain ⟨E10, HN11⟩ : ∃ x, Hid (W7.heap.size = x) := ⟨_, rfl⟩
                  obtain ⟨W11, HW11⟩ : ∃ x, Hid (W7.alloc (.cells #[.int .i64 8] 3) = x) := ⟨_, rfl⟩
                  have hne11 : (Value.slice Az2 n cz2).ownBlock ≠ some E10 := fun e => by have h1 := (ho7.lt _ e).2; have h2 := HN11.out; omega
                  clear hl11
                  rw [HW11.out] at hk11 B11 ho11 B11_5
                  rw [HN11.out] at B11
                  rw [HN11.out, HW11.out]
                  refine wpAnyH_ready (rs := [4]) (by kernel_rfl) (by simp) ?_
                  refine AllReadyH.cons rfl (fun K hK => ?_) (AllReadyH.nil)
                  refine wp_app_ints _ (.tmp 67) (.tmp 68) 23 rfl w3.heap.size 3 i0 (.int .i64 0) Tryd.underlying23 HI.out.1 HI.out.2.1 HI.out.2.2.1 HI.out.2.2.2 rfl (.slice Az2 n cz2) n (l.map (Value.int .i64)) rfl ho11 A3 n3 c3 l3 rfl (hIb.keep hk11) (n + n3) (by omega) (by unfold maxLen; omega) (by omega) hk11.size (fun v12 W12 ho12 hg12 hat12 => ?_)
                  obtain ⟨Az12, cz12, rfl⟩ := own_form ho12
                  have hk12 := hk11.grown hg12 (fun k e => (ho11.lt k e).1)
                  have B12_5 := B11_5.grown hg12 (fun e => hne7 e.symm)
                  have hne12_5 : (Value.slice Az12 (n + n3) cz12).ownBlock ≠ some D5 := fun e => by
                    rcases hat12 with h | h
                    · exact hne7 (h.symm.trans e)
                    · have h1 := B11_5.lt; rw [h] at e; simp only [Option.some.injEq] at e; omega
                  have B12_10 := B11.grown hg12 (fun e => hne11 e.symm)
                  have hne12_10 : (Value.slice Az12 (n + n3) cz12).ownBlock ≠ some E10 := fun e => by
                    rcases hat12 with h | h
                    · exact hne11 (h.symm.trans e)
                    · have h1 := B11.lt; rw [h] at e; simp only [Option.some.injEq] at e; omega
                  refine hK.out _ _ (B12_5.cell 1) (fun _ => ?_); clear hK K; try simp only [Act.put, List.setIfInBounds_toArray, List.set_cons_zero, List.set_cons_succ]
                  refine wpAnyH_ready (rs := [11]) (by kernel_rfl) (by simp) ?_
                  refine AllReadyH.cons rfl (fun K hK => ?_) AllReadyH.nil
                  refine wp_app_ints _ (.tmp 69) (.tmp 75) 23 rfl w3.heap.size 3 i0 (.int .i64 0) Tryd.underlying23 HI.out.1 HI.out.2.1 HI.out.2.2.1 HI.out.2.2.2 rfl (.slice Az12 (n + n3) cz12) (n + n3) (l.map (Value.int .i64) ++ l3.map (Value.int .i64)) rfl ho12 (some ⟨E10, 0, none⟩) 1 1 [8] rfl (blk_int1 B12_10 (by decide)) (n + n3 + 1) rfl (by unfold maxLen; omega) (by omega) hk12.size (fun v13 W13 ho13 hg13 _ => ?_)
                  obtain ⟨Az13, cz13, rfl⟩ := own_form ho13
                  have hk13 := hk12.grown hg13 (fun k e => (ho12.lt k e).1)
                  have B13 := B12_5.grown hg13 (fun e => hne12_5 e.symm)
                  refine hK.out _ _ (B13.cell 1) (fun _ => ?_); clear hK K; try simp only [Act.put, List.setIfInBounds_toArray, List.set_cons_zero, List.set_cons_succ]
                  (refine take_val (i := 12) (v := .slice Az13 (n + n3 + 1) cz13) rfl rfl (by kernel_rfl) (by kernel_rfl) (by kernel_rfl) (fun _ _ _ h => h) rfl (by intro wq hq; (try go_split_ands); go_simp; try with_reducible rfl) ((B13.cell 1)) ?_; try simp only [List.setIfInBounds_toArray, List.set_cons_zero, List.set_cons_succ])
                  refine wpAnyH_done (by kernel_rfl) ?_ _
                  go_wp2_with fail
                  exact ⟨⟨Az13, n + n3 + 1, cz13, l ++ l3 ++ [8], b3, q3, rfl, rfl, rfl, HOwn.out _ _ _ ho13, HKw.out _ hk13, by omega, k2, by omega, HL4, HJ2⟩, by simp [intOf]; omega⟩
            · skip
              go_simp
              have hl14 := (Kept.refl W1).alloc (.cells #[.int .i64 9, .int .i64 8] 3)
              have hk14 := hk1.trans hl14
              have B14 := Blk.new W1 3 #[.int .i64 9, .int .i64 8]
              have ho14 := own_keep ho1 hl14
              (refine hK.out _ _ (trivial) (fun _ => ?_); clear hK K; try simp only [Act.put, List.setIfInBounds_toArray, List.set_cons_zero, List.set_cons_succ])
              obtain ⟨D5, HN14⟩ : ∃ x, Hid (W1.heap.size = x) := ⟨_, rfl⟩
              obtain ⟨W14, HW14⟩ : ∃ x, Hid (W1.alloc (.cells #[.int .i64 9, .int .i64 8] 3) = x) := ⟨_, rfl⟩
              have hne14 : (Value.slice (some ⟨gq, 0, none⟩) 0 0).ownBlock ≠ some D5 := fun e => by have h1 := (ho1.lt _ e).2; have h2 := HN14.out; omega
              clear hl14
              rw [HW14.out] at hk14 B14 ho14
              rw [HN14.out] at B14
              rw [HN14.out, HW14.out]
              refine held_more (S' := fun w' => w'.cell? ⟨D5, 1, none⟩ = some (.int .i64 8)) (fun _ _ => trivial) _ _ _ _ ?_
              have hS14 : W14.cell? ⟨D5, 1, none⟩ = some (.int .i64 8) := B14.cell 1
              (refine take_val (i := 8) (v := .pointer (some ⟨D5, 1, none⟩)) rfl rfl (by kernel_rfl) (by kernel_rfl) (by kernel_rfl) (fun _ _ _ h => h) rfl (by intro wq hq; (try go_split_ands); go_simp; try with_reducible rfl) (hS14) ?_; try simp only [List.setIfInBounds_toArray, List.set_cons_zero, List.set_cons_succ])
              (refine take_val (i := 9) (v := .int .i64 8) rfl rfl (by kernel_rfl) (by kernel_rfl) (by kernel_rfl) (fun _ _ _ h => h) rfl (by intro wq hq; (try go_split_ands); go_simp; try with_reducible rfl) (hS14) ?_; try simp only [List.setIfInBounds_toArray, List.set_cons_zero, List.set_cons_succ])
              clear hS14
              refine wpAnyH_ready (rs := [2, 10]) (by kernel_rfl) (by simp) ?_
              refine AllReadyH.cons rfl (fun K hK => ?_) (AllReadyH.cons rfl (fun K hK => ?_) (AllReadyH.nil))
              · skip
                refine wp_app_ints _ (.tmp 65) (.tmp 66) 23 rfl w3.heap.size 3 i0 (.int .i64 0) Tryd.underlying23 HI.out.1 HI.out.2.1 HI.out.2.2.1 HI.out.2.2.2 rfl (.slice (some ⟨gq, 0, none⟩) 0 0) 0 [] rfl ho14 A n c l rfl (hIa.keep hk14) n (by omega) (by unfold maxLen; omega) (by omega) hk14.size (fun v15 W15 ho15 hg15 hat15 => ?_)
                obtain ⟨Az15, cz15, rfl⟩ := own_form ho15
                rw [List.nil_append] at ho15
                have hk15 := hk14.grown hg15 (fun k e => (ho14.lt k e).1)
                have B15_5 := B14.grown hg15 (fun e => hne14 e.symm)
                have hne15_5 : (Value.slice Az15 n cz15).ownBlock ≠ some D5 := fun e => by
                  rcases hat15 with h | h
                  · exact hne14 (h.symm.trans e)
                  · have h1 := B14.lt; rw [h] at e; simp only [Option.some.injEq] at e; omega
                refine hK.out _ _ (B15_5.cell 1) (fun _ => ?_); clear hK K; try simp only [Act.put, List.setIfInBounds_toArray, List.set_cons_zero, List.set_cons_succ]
                refine wpAnyH_ready (rs := [4, 10]) (by kernel_rfl) (by simp) ?_
                refine AllReadyH.cons rfl (fun K hK => ?_) (AllReadyH.cons rfl (fun K hK => ?_) (AllReadyH.nil))
                · skip
                  refine wp_app_ints _ (.tmp 67) (.tmp 68) 23 rfl w3.heap.size 3 i0 (.int .i64 0) Tryd.underlying23 HI.out.1 HI.out.2.1 HI.out.2.2.1 HI.out.2.2.2 rfl (.slice Az15 n cz15) n (l.map (Value.int .i64)) rfl ho15 A3 n3 c3 l3 rfl (hIb.keep hk15) (n + n3) (by omega) (by unfold maxLen; omega) (by omega) hk15.size (fun v16 W16 ho16 hg16 hat16 => ?_)
                  obtain ⟨Az16, cz16, rfl⟩ := own_form ho16
                  have hk16 := hk15.grown hg16 (fun k e => (ho15.lt k e).1)
                  have B16_5 := B15_5.grown hg16 (fun e => hne15_5 e.symm)
                  have hne16_5 : (Value.slice Az16 (n + n3) cz16).ownBlock ≠ some D5 := fun e => by
                    rcases hat16 with h | h
                    · exact hne15_5 (h.symm.trans e)
                    · have h1 := B15_5.lt; rw [h] at e; simp only [Option.some.injEq] at e; omega
                  refine hK.out _ _ (B16_5.cell 1) (fun _ => ?_); clear hK K; try simp only [Act.put, List.setIfInBounds_toArray, List.set_cons_zero, List.set_cons_succ]
                  refine wpAnyH_ready (rs := [10]) (by kernel_rfl) (by simp) ?_
                  refine AllReadyH.cons rfl (fun K hK => ?_) (AllReadyH.nil)
                  go_simp
                  have hl17 := (Kept.refl W16).alloc (.cells #[.int .i64 8] 3)
                  have hk17 := hk16.trans hl17
                  have B17 := Blk.new W16 3 #[.int .i64 8]
                  have ho17 := own_keep ho16 hl17
                  have B17_5 := B16_5.kept hl17
                  (refine hK.out _ _ ((B17_5.cell 1)) (fun _ => ?_); clear hK K; try simp only [Act.put, List.setIfInBounds_toArray, List.set_cons_zero, List.set_cons_succ])
                  obtain ⟨E10, HN17⟩ : ∃ x, Hid (W16.heap.size = x) := ⟨_, rfl⟩
                  obtain ⟨W17, HW17⟩ : ∃ x, Hid (W16.alloc (.cells #[.int .i64 8] 3) = x) := ⟨_, rfl⟩
                  have hne17 : (Value.slice Az16 (n + n3) cz16).ownBlock ≠ some E10 := fun e => by have h1 := (ho16.lt _ e).2; have h2 := HN17.out; omega
                  clear hl17
                  rw [HW17.out] at hk17 B17 ho17 B17_5
                  rw [HN17.out] at B17
                  rw [HN17.out, HW17.out]
                  refine wpAnyH_ready (rs := [11]) (by kernel_rfl) (by simp) ?_
                  refine AllReadyH.cons rfl (fun K hK => ?_) AllReadyH.nil
                  refine wp_app_ints _ (.tmp 69) (.tmp 75) 23 rfl w3.heap.size 3 i0 (.int .i64 0) Tryd.underlying23 HI.out.1 HI.out.2.1 HI.out.2.2.1 HI.out.2.2.2 rfl (.slice Az16 (n + n3) cz16) (n + n3) (l.map (Value.int .i64) ++ l3.map (Value.int .i64)) rfl ho17 (some ⟨E10, 0, none⟩) 1 1 [8] rfl (blk_int1 B17 (by decide)) (n + n3 + 1) rfl (by unfold maxLen; omega) (by omega) hk17.size (fun v18 W18 ho18 hg18 _ => ?_)
                  obtain ⟨Az18, cz18, rfl⟩ := own_form ho18
                  have hk18 := hk17.grown hg18 (fun k e => (ho17.lt k e).1)
                  have B18 := B17_5.grown hg18 (fun e => hne16_5 e.symm)
                  refine hK.out _ _ (B18.cell 1) (fun _ => ?_); clear hK K; try simp only [Act.put, List.setIfInBounds_toArray, List.set_cons_zero, List.set_cons_succ]
                  (refine take_val (i := 12) (v := .slice Az18 (n + n3 + 1) cz18) rfl rfl (by kernel_rfl) (by kernel_rfl) (by kernel_rfl) (fun _ _ _ h => h) rfl (by intro wq hq; (try go_split_ands); go_simp; try with_reducible rfl) ((B18.cell 1)) ?_; try simp only [List.setIfInBounds_toArray, List.set_cons_zero, List.set_cons_succ])
                  refine wpAnyH_done (by kernel_rfl) ?_ _
                  go_wp2_with fail
                  exact ⟨⟨Az18, n + n3 + 1, cz18, l ++ l3 ++ [8], b3, q3, rfl, rfl, rfl, HOwn.out _ _ _ ho18, HKw.out _ hk18, by omega, k2, by omega, HL4, HJ2⟩, by simp [intOf]; omega⟩
                · skip
                  go_simp
                  have hl19 := (Kept.refl W15).alloc (.cells #[.int .i64 8] 3)
                  have hk19 := hk15.trans hl19
                  have B19 := Blk.new W15 3 #[.int .i64 8]
                  have ho19 := own_keep ho15 hl19
                  have B19_5 := B15_5.kept hl19
                  (refine hK.out _ _ ((B19_5.cell 1)) (fun _ => ?_); clear hK K; try simp only [Act.put, List.setIfInBounds_toArray, List.set_cons_zero, List.set_cons_succ])
                  obtain ⟨E10, HN19⟩ : ∃ x, Hid (W15.heap.size = x) := ⟨_, rfl⟩
                  obtain ⟨W19, HW19⟩ : ∃ x, Hid (W15.alloc (.cells #[.int .i64 8] 3) = x) := ⟨_, rfl⟩
                  have hne19 : (Value.slice Az15 n cz15).ownBlock ≠ some E10 := fun e => by have h1 := (ho15.lt _ e).2; have h2 := HN19.out; omega
                  clear hl19
                  rw [HW19.out] at hk19 B19 ho19 B19_5
                  rw [HN19.out] at B19
                  rw [HN19.out, HW19.out]
                  refine wpAnyH_ready (rs := [4]) (by kernel_rfl) (by simp) ?_
                  refine AllReadyH.cons rfl (fun K hK => ?_) (AllReadyH.nil)
                  refine wp_app_ints _ (.tmp 67) (.tmp 68) 23 rfl w3.heap.size 3 i0 (.int .i64 0) Tryd.underlying23 HI.out.1 HI.out.2.1 HI.out.2.2.1 HI.out.2.2.2 rfl (.slice Az15 n cz15) n (l.map (Value.int .i64)) rfl ho19 A3 n3 c3 l3 rfl (hIb.keep hk19) (n + n3) (by omega) (by unfold maxLen; omega) (by omega) hk19.size (fun v20 W20 ho20 hg20 hat20 => ?_)
                  obtain ⟨Az20, cz20, rfl⟩ := own_form ho20
                  have hk20 := hk19.grown hg20 (fun k e => (ho19.lt k e).1)
                  have B20_5 := B19_5.grown hg20 (fun e => hne15_5 e.symm)
                  have hne20_5 : (Value.slice Az20 (n + n3) cz20).ownBlock ≠ some D5 := fun e => by
                    rcases hat20 with h | h
                    · exact hne15_5 (h.symm.trans e)
                    · have h1 := B19_5.lt; rw [h] at e; simp only [Option.some.injEq] at e; omega
                  have B20_10 := B19.grown hg20 (fun e => hne19 e.symm)
                  have hne20_10 : (Value.slice Az20 (n + n3) cz20).ownBlock ≠ some E10 := fun e => by
                    rcases hat20 with h | h
                    · exact hne19 (h.symm.trans e)
                    · have h1 := B19.lt; rw [h] at e; simp only [Option.some.injEq] at e; omega
                  refine hK.out _ _ (B20_5.cell 1) (fun _ => ?_); clear hK K; try simp only [Act.put, List.setIfInBounds_toArray, List.set_cons_zero, List.set_cons_succ]
                  refine wpAnyH_ready (rs := [11]) (by kernel_rfl) (by simp) ?_
                  refine AllReadyH.cons rfl (fun K hK => ?_) AllReadyH.nil
                  refine wp_app_ints _ (.tmp 69) (.tmp 75) 23 rfl w3.heap.size 3 i0 (.int .i64 0) Tryd.underlying23 HI.out.1 HI.out.2.1 HI.out.2.2.1 HI.out.2.2.2 rfl (.slice Az20 (n + n3) cz20) (n + n3) (l.map (Value.int .i64) ++ l3.map (Value.int .i64)) rfl ho20 (some ⟨E10, 0, none⟩) 1 1 [8] rfl (blk_int1 B20_10 (by decide)) (n + n3 + 1) rfl (by unfold maxLen; omega) (by omega) hk20.size (fun v21 W21 ho21 hg21 _ => ?_)
                  obtain ⟨Az21, cz21, rfl⟩ := own_form ho21
                  have hk21 := hk20.grown hg21 (fun k e => (ho20.lt k e).1)
                  have B21 := B20_5.grown hg21 (fun e => hne20_5 e.symm)
                  refine hK.out _ _ (B21.cell 1) (fun _ => ?_); clear hK K; try simp only [Act.put, List.setIfInBounds_toArray, List.set_cons_zero, List.set_cons_succ]
                  (refine take_val (i := 12) (v := .slice Az21 (n + n3 + 1) cz21) rfl rfl (by kernel_rfl) (by kernel_rfl) (by kernel_rfl) (fun _ _ _ h => h) rfl (by intro wq hq; (try go_split_ands); go_simp; try with_reducible rfl) ((B21.cell 1)) ?_; try simp only [List.setIfInBounds_toArray, List.set_cons_zero, List.set_cons_succ])
                  refine wpAnyH_done (by kernel_rfl) ?_ _
                  go_wp2_with fail
                  exact ⟨⟨Az21, n + n3 + 1, cz21, l ++ l3 ++ [8], b3, q3, rfl, rfl, rfl, HOwn.out _ _ _ ho21, HKw.out _ hk21, by omega, k2, by omega, HL4, HJ2⟩, by simp [intOf]; omega⟩
              · skip
                go_simp
                have hl22 := (Kept.refl W14).alloc (.cells #[.int .i64 8] 3)
                have hk22 := hk14.trans hl22
                have B22 := Blk.new W14 3 #[.int .i64 8]
                have ho22 := own_keep ho14 hl22
                have B22_5 := B14.kept hl22
                (refine hK.out _ _ ((B22_5.cell 1)) (fun _ => ?_); clear hK K; try simp only [Act.put, List.setIfInBounds_toArray, List.set_cons_zero, List.set_cons_succ])
                obtain ⟨E10, HN22⟩ : ∃ x, Hid (W14.heap.size = x) := ⟨_, rfl⟩
                obtain ⟨W22, HW22⟩ : ∃ x, Hid (W14.alloc (.cells #[.int .i64 8] 3) = x) := ⟨_, rfl⟩
                have hne22 : (Value.slice (some ⟨gq, 0, none⟩) 0 0).ownBlock ≠ some E10 := fun e => by have h1 := (ho14.lt _ e).2; have h2 := HN22.out; omega
                clear hl22
                rw [HW22.out] at hk22 B22 ho22 B22_5
                rw [HN22.out] at B22
                rw [HN22.out, HW22.out]
                refine wpAnyH_ready (rs := [2]) (by kernel_rfl) (by simp) ?_
                refine AllReadyH.cons rfl (fun K hK => ?_) (AllReadyH.nil)
                refine wp_app_ints _ (.tmp 65) (.tmp 66) 23 rfl w3.heap.size 3 i0 (.int .i64 0) Tryd.underlying23 HI.out.1 HI.out.2.1 HI.out.2.2.1 HI.out.2.2.2 rfl (.slice (some ⟨gq, 0, none⟩) 0 0) 0 [] rfl ho22 A n c l rfl (hIa.keep hk22) n (by omega) (by unfold maxLen; omega) (by omega) hk22.size (fun v23 W23 ho23 hg23 hat23 => ?_)
                obtain ⟨Az23, cz23, rfl⟩ := own_form ho23
                rw [List.nil_append] at ho23
                have hk23 := hk22.grown hg23 (fun k e => (ho22.lt k e).1)
                have B23_5 := B22_5.grown hg23 (fun e => hne14 e.symm)
                have hne23_5 : (Value.slice Az23 n cz23).ownBlock ≠ some D5 := fun e => by
                  rcases hat23 with h | h
                  · exact hne14 (h.symm.trans e)
                  · have h1 := B22_5.lt; rw [h] at e; simp only [Option.some.injEq] at e; omega
                have B23_10 := B22.grown hg23 (fun e => hne22 e.symm)
                have hne23_10 : (Value.slice Az23 n cz23).ownBlock ≠ some E10 := fun e => by
                  rcases hat23 with h | h
                  · exact hne22 (h.symm.trans e)
                  · have h1 := B22.lt; rw [h] at e; simp only [Option.some.injEq] at e; omega
                refine hK.out _ _ (B23_5.cell 1) (fun _ => ?_); clear hK K; try simp only [Act.put, List.setIfInBounds_toArray, List.set_cons_zero, List.set_cons_succ]
                refine wpAnyH_ready (rs := [4]) (by kernel_rfl) (by simp) ?_
                refine AllReadyH.cons rfl (fun K hK => ?_) (AllReadyH.nil)
                refine wp_app_ints _ (.tmp 67) (.tmp 68) 23 rfl w3.heap.size 3 i0 (.int .i64 0) Tryd.underlying23 HI.out.1 HI.out.2.1 HI.out.2.2.1 HI.out.2.2.2 rfl (.slice Az23 n cz23) n (l.map (Value.int .i64)) rfl ho23 A3 n3 c3 l3 rfl (hIb.keep hk23) (n + n3) (by omega) (by unfold maxLen; omega) (by omega) hk23.size (fun v24 W24 ho24 hg24 hat24 => ?_)
                obtain ⟨Az24, cz24, rfl⟩ := own_form ho24
                have hk24 := hk23.grown hg24 (fun k e => (ho23.lt k e).1)
                have B24_5 := B23_5.grown hg24 (fun e => hne23_5 e.symm)
                have hne24_5 : (Value.slice Az24 (n + n3) cz24).ownBlock ≠ some D5 := fun e => by
                  rcases hat24 with h | h
                  · exact hne23_5 (h.symm.trans e)
                  · have h1 := B23_5.lt; rw [h] at e; simp only [Option.some.injEq] at e; omega
                have B24_10 := B23_10.grown hg24 (fun e => hne23_10 e.symm)
                have hne24_10 : (Value.slice Az24 (n + n3) cz24).ownBlock ≠ some E10 := fun e => by
                  rcases hat24 with h | h
                  · exact hne23_10 (h.symm.trans e)
                  · have h1 := B23_10.lt; rw [h] at e; simp only [Option.some.injEq] at e; omega
                refine hK.out _ _ (B24_5.cell 1) (fun _ => ?_); clear hK K; try simp only [Act.put, List.setIfInBounds_toArray, List.set_cons_zero, List.set_cons_succ]
                refine wpAnyH_ready (rs := [11]) (by kernel_rfl) (by simp) ?_
                refine AllReadyH.cons rfl (fun K hK => ?_) AllReadyH.nil
                refine wp_app_ints _ (.tmp 69) (.tmp 75) 23 rfl w3.heap.size 3 i0 (.int .i64 0) Tryd.underlying23 HI.out.1 HI.out.2.1 HI.out.2.2.1 HI.out.2.2.2 rfl (.slice Az24 (n + n3) cz24) (n + n3) (l.map (Value.int .i64) ++ l3.map (Value.int .i64)) rfl ho24 (some ⟨E10, 0, none⟩) 1 1 [8] rfl (blk_int1 B24_10 (by decide)) (n + n3 + 1) rfl (by unfold maxLen; omega) (by omega) hk24.size (fun v25 W25 ho25 hg25 _ => ?_)
                obtain ⟨Az25, cz25, rfl⟩ := own_form ho25
                have hk25 := hk24.grown hg25 (fun k e => (ho24.lt k e).1)
                have B25 := B24_5.grown hg25 (fun e => hne24_5 e.symm)
                refine hK.out _ _ (B25.cell 1) (fun _ => ?_); clear hK K; try simp only [Act.put, List.setIfInBounds_toArray, List.set_cons_zero, List.set_cons_succ]
                (refine take_val (i := 12) (v := .slice Az25 (n + n3 + 1) cz25) rfl rfl (by kernel_rfl) (by kernel_rfl) (by kernel_rfl) (fun _ _ _ h => h) rfl (by intro wq hq; (try go_split_ands); go_simp; try with_reducible rfl) ((B25.cell 1)) ?_; try simp only [List.setIfInBounds_toArray, List.set_cons_zero, List.set_cons_succ])
                refine wpAnyH_done (by kernel_rfl) ?_ _
                go_wp2_with fail
                exact ⟨⟨Az25, n + n3 + 1, cz25, l ++ l3 ++ [8], b3, q3, rfl, rfl, rfl, HOwn.out _ _ _ ho25, HKw.out _ hk25, by omega, k2, by omega, HL4, HJ2⟩, by simp [intOf]; omega⟩
          · skip
            go_simp
            have hl26 := (Kept.refl W0).alloc (.cells #[.int .i64 9, .int .i64 8] 3)
            have hk26 := hk0w.trans hl26
            have B26 := Blk.new W0 3 #[.int .i64 9, .int .i64 8]
            (refine hK.out _ _ (trivial) (fun _ => ?_); clear hK K; try simp only [Act.put, List.setIfInBounds_toArray, List.set_cons_zero, List.set_cons_succ])
            obtain ⟨D5, HN26⟩ : ∃ x, Hid (W0.heap.size = x) := ⟨_, rfl⟩
            obtain ⟨W26, HW26⟩ : ∃ x, Hid (W0.alloc (.cells #[.int .i64 9, .int .i64 8] 3) = x) := ⟨_, rfl⟩
            clear hl26
            rw [HW26.out] at hk26 B26
            rw [HN26.out] at B26
            rw [HN26.out, HW26.out]
            refine held_more (S' := fun w' => w'.cell? ⟨D5, 1, none⟩ = some (.int .i64 8)) (fun _ _ => trivial) _ _ _ _ ?_
            have hS26 : W26.cell? ⟨D5, 1, none⟩ = some (.int .i64 8) := B26.cell 1
            (refine take_val (i := 8) (v := .pointer (some ⟨D5, 1, none⟩)) rfl rfl (by kernel_rfl) (by kernel_rfl) (by kernel_rfl) (fun _ _ _ h => h) rfl (by intro wq hq; (try go_split_ands); go_simp; try with_reducible rfl) (hS26) ?_; try simp only [List.setIfInBounds_toArray, List.set_cons_zero, List.set_cons_succ])
            (refine take_val (i := 9) (v := .int .i64 8) rfl rfl (by kernel_rfl) (by kernel_rfl) (by kernel_rfl) (fun _ _ _ h => h) rfl (by intro wq hq; (try go_split_ands); go_simp; try with_reducible rfl) (hS26) ?_; try simp only [List.setIfInBounds_toArray, List.set_cons_zero, List.set_cons_succ])
            clear hS26
            refine wpAnyH_ready (rs := [0, 10]) (by kernel_rfl) (by simp) ?_
            refine AllReadyH.cons rfl (fun K hK => ?_) (AllReadyH.cons rfl (fun K hK => ?_) (AllReadyH.nil))
            · skip
              go_simp
              have hl27 := (Kept.refl W26).alloc (.cells #[] 3)
              have hk27 := hk26.trans hl27
              have ho27 := own_empty (X := w3.heap.size) hk26.size
              have B27_5 := B26.kept hl27
              (refine hK.out _ _ ((B27_5.cell 1)) (fun _ => ?_); clear hK K; try simp only [Act.put, List.setIfInBounds_toArray, List.set_cons_zero, List.set_cons_succ])
              obtain ⟨gq, HN27⟩ : ∃ x, Hid (W26.heap.size = x) := ⟨_, rfl⟩
              obtain ⟨W27, HW27⟩ : ∃ x, Hid (W26.alloc (.cells #[] 3) = x) := ⟨_, rfl⟩
              have hne27_5 : (Value.slice (some ⟨gq, 0, none⟩) 0 0).ownBlock ≠ some D5 := by intro e; simp only [Value.ownBlock, Option.some.injEq] at e; have h1 := B26.lt; have h2 := HN27.out; omega
              clear hl27
              rw [HW27.out] at hk27 ho27 B27_5
              rw [HN27.out] at ho27
              rw [HN27.out, HW27.out]
              refine wpAnyH_ready (rs := [2, 10]) (by kernel_rfl) (by simp) ?_
              refine AllReadyH.cons rfl (fun K hK => ?_) (AllReadyH.cons rfl (fun K hK => ?_) (AllReadyH.nil))
              · skip
                refine wp_app_ints _ (.tmp 65) (.tmp 66) 23 rfl w3.heap.size 3 i0 (.int .i64 0) Tryd.underlying23 HI.out.1 HI.out.2.1 HI.out.2.2.1 HI.out.2.2.2 rfl (.slice (some ⟨gq, 0, none⟩) 0 0) 0 [] rfl ho27 A n c l rfl (hIa.keep hk27) n (by omega) (by unfold maxLen; omega) (by omega) hk27.size (fun v28 W28 ho28 hg28 hat28 => ?_)
                obtain ⟨Az28, cz28, rfl⟩ := own_form ho28
                rw [List.nil_append] at ho28
                have hk28 := hk27.grown hg28 (fun k e => (ho27.lt k e).1)
                have B28_5 := B27_5.grown hg28 (fun e => hne27_5 e.symm)
                have hne28_5 : (Value.slice Az28 n cz28).ownBlock ≠ some D5 := fun e => by
                  rcases hat28 with h | h
                  · exact hne27_5 (h.symm.trans e)
                  · have h1 := B27_5.lt; rw [h] at e; simp only [Option.some.injEq] at e; omega
                refine hK.out _ _ (B28_5.cell 1) (fun _ => ?_); clear hK K; try simp only [Act.put, List.setIfInBounds_toArray, List.set_cons_zero, List.set_cons_succ]
                refine wpAnyH_ready (rs := [4, 10]) (by kernel_rfl) (by simp) ?_
                refine AllReadyH.cons rfl (fun K hK => ?_) (AllReadyH.cons rfl (fun K hK => ?_) (AllReadyH.nil))
                · skip
                  refine wp_app_ints _ (.tmp 67) (.tmp 68) 23 rfl w3.heap.size 3 i0 (.int .i64 0) Tryd.underlying23 HI.out.1 HI.out.2.1 HI.out.2.2.1 HI.out.2.2.2 rfl (.slice Az28 n cz28) n (l.map (Value.int .i64)) rfl ho28 A3 n3 c3 l3 rfl (hIb.keep hk28) (n + n3) (by omega) (by unfold maxLen; omega) (by omega) hk28.size (fun v29 W29 ho29 hg29 hat29 => ?_)
                  obtain ⟨Az29, cz29, rfl⟩ := own_form ho29
                  have hk29 := hk28.grown hg29 (fun k e => (ho28.lt k e).1)
                  have B29_5 := B28_5.grown hg29 (fun e => hne28_5 e.symm)
                  have hne29_5 : (Value.slice Az29 (n + n3) cz29).ownBlock ≠ some D5 := fun e => by
                    rcases hat29 with h | h
                    · exact hne28_5 (h.symm.trans e)
                    · have h1 := B28_5.lt; rw [h] at e; simp only [Option.some.injEq] at e; omega
                  refine hK.out _ _ (B29_5.cell 1) (fun _ => ?_); clear hK K; try simp only [Act.put, List.setIfInBounds_toArray, List.set_cons_zero, List.set_cons_succ]
                  refine wpAnyH_ready (rs := [10]) (by kernel_rfl) (by simp) ?_
                  refine AllReadyH.cons rfl (fun K hK => ?_) (AllReadyH.nil)
                  go_simp
                  have hl30 := (Kept.refl W29).alloc (.cells #[.int .i64 8] 3)
                  have hk30 := hk29.trans hl30
                  have B30 := Blk.new W29 3 #[.int .i64 8]
                  have ho30 := own_keep ho29 hl30
                  have B30_5 := B29_5.kept hl30
                  (refine hK.out _ _ ((B30_5.cell 1)) (fun _ => ?_); clear hK K; try simp only [Act.put, List.setIfInBounds_toArray, List.set_cons_zero, List.set_cons_succ])
                  obtain ⟨E10, HN30⟩ : ∃ x, Hid (W29.heap.size = x) := ⟨_, rfl⟩
                  obtain ⟨W30, HW30⟩ : ∃ x, Hid (W29.alloc (.cells #[.int .i64 8] 3) = x) := ⟨_, rfl⟩
                  have hne30 : (Value.slice Az29 (n + n3) cz29).ownBlock ≠ some E10 := fun e => by have h1 := (ho29.lt _ e).2; have h2 := HN30.out; omega
                  clear hl30
                  rw [HW30.out] at hk30 B30 ho30 B30_5
                  rw [HN30.out] at B30
                  rw [HN30.out, HW30.out]
                  refine wpAnyH_ready (rs := [11]) (by kernel_rfl) (by simp) ?_
                  refine AllReadyH.cons rfl (fun K hK => ?_) AllReadyH.nil
                  refine wp_app_ints _ (.tmp 69) (.tmp 75) 23 rfl w3.heap.size 3 i0 (.int .i64 0) Tryd.underlying23 HI.out.1 HI.out.2.1 HI.out.2.2.1 HI.out.2.2.2 rfl (.slice Az29 (n + n3) cz29) (n + n3) (l.map (Value.int .i64) ++ l3.map (Value.int .i64)) rfl ho30 (some ⟨E10, 0, none⟩) 1 1 [8] rfl (blk_int1 B30 (by decide)) (n + n3 + 1) rfl (by unfold maxLen; omega) (by omega) hk30.size (fun v31 W31 ho31 hg31 _ => ?_)
                  obtain ⟨Az31, cz31, rfl⟩ := own_form ho31
                  have hk31 := hk30.grown hg31 (fun k e => (ho30.lt k e).1)
                  have B31 := B30_5.grown hg31 (fun e => hne29_5 e.symm)
                  refine hK.out _ _ (B31.cell 1) (fun _ => ?_); clear hK K; try simp only [Act.put, List.setIfInBounds_toArray, List.set_cons_zero, List.set_cons_succ]
                  (refine take_val (i := 12) (v := .slice Az31 (n + n3 + 1) cz31) rfl rfl (by kernel_rfl) (by kernel_rfl) (by kernel_rfl) (fun _ _ _ h => h) rfl (by intro wq hq; (try go_split_ands); go_simp; try with_reducible rfl) ((B31.cell 1)) ?_; try simp only [List.setIfInBounds_toArray, List.set_cons_zero, List.set_cons_succ])
                  refine wpAnyH_done (by kernel_rfl) ?_ _
                  go_wp2_with fail
                  exact ⟨⟨Az31, n + n3 + 1, cz31, l ++ l3 ++ [8], b3, q3, rfl, rfl, rfl, HOwn.out _ _ _ ho31, HKw.out _ hk31, by omega, k2, by omega, HL4, HJ2⟩, by simp [intOf]; omega⟩
                · skip
                  go_simp
                  have hl32 := (Kept.refl W28).alloc (.cells #[.int .i64 8] 3)
                  have hk32 := hk28.trans hl32
                  have B32 := Blk.new W28 3 #[.int .i64 8]
                  have ho32 := own_keep ho28 hl32
                  have B32_5 := B28_5.kept hl32
                  (refine hK.out _ _ ((B32_5.cell 1)) (fun _ => ?_); clear hK K; try simp only [Act.put, List.setIfInBounds_toArray, List.set_cons_zero, List.set_cons_succ])
                  obtain ⟨E10, HN32⟩ : ∃ x, Hid (W28.heap.size = x) := ⟨_, rfl⟩
                  obtain ⟨W32, HW32⟩ : ∃ x, Hid (W28.alloc (.cells #[.int .i64 8] 3) = x) := ⟨_, rfl⟩
                  have hne32 : (Value.slice Az28 n cz28).ownBlock ≠ some E10 := fun e => by have h1 := (ho28.lt _ e).2; have h2 := HN32.out; omega
                  clear hl32
                  rw [HW32.out] at hk32 B32 ho32 B32_5
                  rw [HN32.out] at B32
                  rw [HN32.out, HW32.out]
                  refine wpAnyH_ready (rs := [4]) (by kernel_rfl) (by simp) ?_
                  refine AllReadyH.cons rfl (fun K hK => ?_) (AllReadyH.nil)
                  refine wp_app_ints _ (.tmp 67) (.tmp 68) 23 rfl w3.heap.size 3 i0 (.int .i64 0) Tryd.underlying23 HI.out.1 HI.out.2.1 HI.out.2.2.1 HI.out.2.2.2 rfl (.slice Az28 n cz28) n (l.map (Value.int .i64)) rfl ho32 A3 n3 c3 l3 rfl (hIb.keep hk32) (n + n3) (by omega) (by unfold maxLen; omega) (by omega) hk32.size (fun v33 W33 ho33 hg33 hat33 => ?_)
                  obtain ⟨Az33, cz33, rfl⟩ := own_form ho33
                  have hk33 := hk32.grown hg33 (fun k e => (ho32.lt k e).1)
                  have B33_5 := B32_5.grown hg33 (fun e => hne28_5 e.symm)
                  have hne33_5 : (Value.slice Az33 (n + n3) cz33).ownBlock ≠ some D5 := fun e => by
                    rcases hat33 with h | h
                    · exact hne28_5 (h.symm.trans e)
                    · have h1 := B32_5.lt; rw [h] at e; simp only [Option.some.injEq] at e; omega
                  have B33_10 := B32.grown hg33 (fun e => hne32 e.symm)
                  have hne33_10 : (Value.slice Az33 (n + n3) cz33).ownBlock ≠ some E10 := fun e => by
                    rcases hat33 with h | h
                    · exact hne32 (h.symm.trans e)
                    · have h1 := B32.lt; rw [h] at e; simp only [Option.some.injEq] at e; omega
                  refine hK.out _ _ (B33_5.cell 1) (fun _ => ?_); clear hK K; try simp only [Act.put, List.setIfInBounds_toArray, List.set_cons_zero, List.set_cons_succ]
                  refine wpAnyH_ready (rs := [11]) (by kernel_rfl) (by simp) ?_
                  refine AllReadyH.cons rfl (fun K hK => ?_) AllReadyH.nil
                  refine wp_app_ints _ (.tmp 69) (.tmp 75) 23 rfl w3.heap.size 3 i0 (.int .i64 0) Tryd.underlying23 HI.out.1 HI.out.2.1 HI.out.2.2.1 HI.out.2.2.2 rfl (.slice Az33 (n + n3) cz33) (n + n3) (l.map (Value.int .i64) ++ l3.map (Value.int .i64)) rfl ho33 (some ⟨E10, 0, none⟩) 1 1 [8] rfl (blk_int1 B33_10 (by decide)) (n + n3 + 1) rfl (by unfold maxLen; omega) (by omega) hk33.size (fun v34 W34 ho34 hg34 _ => ?_)
                  obtain ⟨Az34, cz34, rfl⟩ := own_form ho34
                  have hk34 := hk33.grown hg34 (fun k e => (ho33.lt k e).1)
                  have B34 := B33_5.grown hg34 (fun e => hne33_5 e.symm)
                  refine hK.out _ _ (B34.cell 1) (fun _ => ?_); clear hK K; try simp only [Act.put, List.setIfInBounds_toArray, List.set_cons_zero, List.set_cons_succ]
                  (refine take_val (i := 12) (v := .slice Az34 (n + n3 + 1) cz34) rfl rfl (by kernel_rfl) (by kernel_rfl) (by kernel_rfl) (fun _ _ _ h => h) rfl (by intro wq hq; (try go_split_ands); go_simp; try with_reducible rfl) ((B34.cell 1)) ?_; try simp only [List.setIfInBounds_toArray, List.set_cons_zero, List.set_cons_succ])
                  refine wpAnyH_done (by kernel_rfl) ?_ _
                  go_wp2_with fail
                  exact ⟨⟨Az34, n + n3 + 1, cz34, l ++ l3 ++ [8], b3, q3, rfl, rfl, rfl, HOwn.out _ _ _ ho34, HKw.out _ hk34, by omega, k2, by omega, HL4, HJ2⟩, by simp [intOf]; omega⟩
              · skip
                go_simp
                have hl35 := (Kept.refl W27).alloc (.cells #[.int .i64 8] 3)
                have hk35 := hk27.trans hl35
                have B35 := Blk.new W27 3 #[.int .i64 8]
                have ho35 := own_keep ho27 hl35
                have B35_5 := B27_5.kept hl35
                (refine hK.out _ _ ((B35_5.cell 1)) (fun _ => ?_); clear hK K; try simp only [Act.put, List.setIfInBounds_toArray, List.set_cons_zero, List.set_cons_succ])
                obtain ⟨E10, HN35⟩ : ∃ x, Hid (W27.heap.size = x) := ⟨_, rfl⟩
                obtain ⟨W35, HW35⟩ : ∃ x, Hid (W27.alloc (.cells #[.int .i64 8] 3) = x) := ⟨_, rfl⟩
                have hne35 : (Value.slice (some ⟨gq, 0, none⟩) 0 0).ownBlock ≠ some E10 := fun e => by have h1 := (ho27.lt _ e).2; have h2 := HN35.out; omega
                clear hl35
                rw [HW35.out] at hk35 B35 ho35 B35_5
                rw [HN35.out] at B35
                rw [HN35.out, HW35.out]
                refine wpAnyH_ready (rs := [2]) (by kernel_rfl) (by simp) ?_
                refine AllReadyH.cons rfl (fun K hK => ?_) (AllReadyH.nil)
                refine wp_app_ints _ (.tmp 65) (.tmp 66) 23 rfl w3.heap.size 3 i0 (.int .i64 0) Tryd.underlying23 HI.out.1 HI.out.2.1 HI.out.2.2.1 HI.out.2.2.2 rfl (.slice (some ⟨gq, 0, none⟩) 0 0) 0 [] rfl ho35 A n c l rfl (hIa.keep hk35) n (by omega) (by unfold maxLen; omega) (by omega) hk35.size (fun v36 W36 ho36 hg36 hat36 => ?_)
                obtain ⟨Az36, cz36, rfl⟩ := own_form ho36
                rw [List.nil_append] at ho36
                have hk36 := hk35.grown hg36 (fun k e => (ho35.lt k e).1)
                have B36_5 := B35_5.grown hg36 (fun e => hne27_5 e.symm)
                have hne36_5 : (Value.slice Az36 n cz36).ownBlock ≠ some D5 := fun e => by
                  rcases hat36 with h | h
                  · exact hne27_5 (h.symm.trans e)
                  · have h1 := B35_5.lt; rw [h] at e; simp only [Option.some.injEq] at e; omega
                have B36_10 := B35.grown hg36 (fun e => hne35 e.symm)
                have hne36_10 : (Value.slice Az36 n cz36).ownBlock ≠ some E10 := fun e => by
                  rcases hat36 with h | h
                  · exact hne35 (h.symm.trans e)
                  · have h1 := B35.lt; rw [h] at e; simp only [Option.some.injEq] at e; omega
                refine hK.out _ _ (B36_5.cell 1) (fun _ => ?_); clear hK K; try simp only [Act.put, List.setIfInBounds_toArray, List.set_cons_zero, List.set_cons_succ]
                refine wpAnyH_ready (rs := [4]) (by kernel_rfl) (by simp) ?_
                refine AllReadyH.cons rfl (fun K hK => ?_) (AllReadyH.nil)
                refine wp_app_ints _ (.tmp 67) (.tmp 68) 23 rfl w3.heap.size 3 i0 (.int .i64 0) Tryd.underlying23 HI.out.1 HI.out.2.1 HI.out.2.2.1 HI.out.2.2.2 rfl (.slice Az36 n cz36) n (l.map (Value.int .i64)) rfl ho36 A3 n3 c3 l3 rfl (hIb.keep hk36) (n + n3) (by omega) (by unfold maxLen; omega) (by omega) hk36.size (fun v37 W37 ho37 hg37 hat37 => ?_)
                obtain ⟨Az37, cz37, rfl⟩ := own_form ho37
                have hk37 := hk36.grown hg37 (fun k e => (ho36.lt k e).1)
                have B37_5 := B36_5.grown hg37 (fun e => hne36_5 e.symm)
                have hne37_5 : (Value.slice Az37 (n + n3) cz37).ownBlock ≠ some D5 := fun e => by
                  rcases hat37 with h | h
                  · exact hne36_5 (h.symm.trans e)
                  · have h1 := B36_5.lt; rw [h] at e; simp only [Option.some.injEq] at e; omega
                have B37_10 := B36_10.grown hg37 (fun e => hne36_10 e.symm)
                have hne37_10 : (Value.slice Az37 (n + n3) cz37).ownBlock ≠ some E10 := fun e => by
                  rcases hat37 with h | h
                  · exact hne36_10 (h.symm.trans e)
                  · have h1 := B36_10.lt; rw [h] at e; simp only [Option.some.injEq] at e; omega
                refine hK.out _ _ (B37_5.cell 1) (fun _ => ?_); clear hK K; try simp only [Act.put, List.setIfInBounds_toArray, List.set_cons_zero, List.set_cons_succ]
                refine wpAnyH_ready (rs := [11]) (by kernel_rfl) (by simp) ?_
                refine AllReadyH.cons rfl (fun K hK => ?_) AllReadyH.nil
                refine wp_app_ints _ (.tmp 69) (.tmp 75) 23 rfl w3.heap.size 3 i0 (.int .i64 0) Tryd.underlying23 HI.out.1 HI.out.2.1 HI.out.2.2.1 HI.out.2.2.2 rfl (.slice Az37 (n + n3) cz37) (n + n3) (l.map (Value.int .i64) ++ l3.map (Value.int .i64)) rfl ho37 (some ⟨E10, 0, none⟩) 1 1 [8] rfl (blk_int1 B37_10 (by decide)) (n + n3 + 1) rfl (by unfold maxLen; omega) (by omega) hk37.size (fun v38 W38 ho38 hg38 _ => ?_)
                obtain ⟨Az38, cz38, rfl⟩ := own_form ho38
                have hk38 := hk37.grown hg38 (fun k e => (ho37.lt k e).1)
                have B38 := B37_5.grown hg38 (fun e => hne37_5 e.symm)
                refine hK.out _ _ (B38.cell 1) (fun _ => ?_); clear hK K; try simp only [Act.put, List.setIfInBounds_toArray, List.set_cons_zero, List.set_cons_succ]
                (refine take_val (i := 12) (v := .slice Az38 (n + n3 + 1) cz38) rfl rfl (by kernel_rfl) (by kernel_rfl) (by kernel_rfl) (fun _ _ _ h => h) rfl (by intro wq hq; (try go_split_ands); go_simp; try with_reducible rfl) ((B38.cell 1)) ?_; try simp only [List.setIfInBounds_toArray, List.set_cons_zero, List.set_cons_succ])
                refine wpAnyH_done (by kernel_rfl) ?_ _
                go_wp2_with fail
                exact ⟨⟨Az38, n + n3 + 1, cz38, l ++ l3 ++ [8], b3, q3, rfl, rfl, rfl, HOwn.out _ _ _ ho38, HKw.out _ hk38, by omega, k2, by omega, HL4, HJ2⟩, by simp [intOf]; omega⟩
            · skip
              go_simp
              have hl39 := (Kept.refl W26).alloc (.cells #[.int .i64 8] 3)
              have hk39 := hk26.trans hl39
              have B39 := Blk.new W26 3 #[.int .i64 8]
              have B39_5 := B26.kept hl39
              (refine hK.out _ _ ((B39_5.cell 1)) (fun _ => ?_); clear hK K; try simp only [Act.put, List.setIfInBounds_toArray, List.set_cons_zero, List.set_cons_succ])
              obtain ⟨E10, HN39⟩ : ∃ x, Hid (W26.heap.size = x) := ⟨_, rfl⟩
              obtain ⟨W39, HW39⟩ : ∃ x, Hid (W26.alloc (.cells #[.int .i64 8] 3) = x) := ⟨_, rfl⟩
              clear hl39
              rw [HW39.out] at hk39 B39 B39_5
              rw [HN39.out] at B39
              rw [HN39.out, HW39.out]
              refine wpAnyH_ready (rs := [0]) (by kernel_rfl) (by simp) ?_
              refine AllReadyH.cons rfl (fun K hK => ?_) (AllReadyH.nil)
              go_simp
              have hl40 := (Kept.refl W39).alloc (.cells #[] 3)
              have hk40 := hk39.trans hl40
              have ho40 := own_empty (X := w3.heap.size) hk39.size
              have B40_5 := B39_5.kept hl40
              have B40_10 := B39.kept hl40
              (refine hK.out _ _ ((B40_5.cell 1)) (fun _ => ?_); clear hK K; try simp only [Act.put, List.setIfInBounds_toArray, List.set_cons_zero, List.set_cons_succ])
              obtain ⟨gq, HN40⟩ : ∃ x, Hid (W39.heap.size = x) := ⟨_, rfl⟩
              obtain ⟨W40, HW40⟩ : ∃ x, Hid (W39.alloc (.cells #[] 3) = x) := ⟨_, rfl⟩
              have hne40_5 : (Value.slice (some ⟨gq, 0, none⟩) 0 0).ownBlock ≠ some D5 := by intro e; simp only [Value.ownBlock, Option.some.injEq] at e; have h1 := B39_5.lt; have h2 := HN40.out; omega
              have hne40_10 : (Value.slice (some ⟨gq, 0, none⟩) 0 0).ownBlock ≠ some E10 := by intro e; simp only [Value.ownBlock, Option.some.injEq] at e; have h1 := B39.lt; have h2 := HN40.out; omega
              clear hl40
              rw [HW40.out] at hk40 ho40 B40_5 B40_10
              rw [HN40.out] at ho40
              rw [HN40.out, HW40.out]
              refine wpAnyH_ready (rs := [2]) (by kernel_rfl) (by simp) ?_
              refine AllReadyH.cons rfl (fun K hK => ?_) (AllReadyH.nil)
              refine wp_app_ints _ (.tmp 65) (.tmp 66) 23 rfl w3.heap.size 3 i0 (.int .i64 0) Tryd.underlying23 HI.out.1 HI.out.2.1 HI.out.2.2.1 HI.out.2.2.2 rfl (.slice (some ⟨gq, 0, none⟩) 0 0) 0 [] rfl ho40 A n c l rfl (hIa.keep hk40) n (by omega) (by unfold maxLen; omega) (by omega) hk40.size (fun v41 W41 ho41 hg41 hat41 => ?_)
              obtain ⟨Az41, cz41, rfl⟩ := own_form ho41
              rw [List.nil_append] at ho41
              have hk41 := hk40.grown hg41 (fun k e => (ho40.lt k e).1)
              have B41_5 := B40_5.grown hg41 (fun e => hne40_5 e.symm)
              have hne41_5 : (Value.slice Az41 n cz41).ownBlock ≠ some D5 := fun e => by
                rcases hat41 with h | h
                · exact hne40_5 (h.symm.trans e)
                · have h1 := B40_5.lt; rw [h] at e; simp only [Option.some.injEq] at e; omega
              have B41_10 := B40_10.grown hg41 (fun e => hne40_10 e.symm)
              have hne41_10 : (Value.slice Az41 n cz41).ownBlock ≠ some E10 := fun e => by
                rcases hat41 with h | h
                · exact hne40_10 (h.symm.trans e)
                · have h1 := B40_10.lt; rw [h] at e; simp only [Option.some.injEq] at e; omega
              refine hK.out _ _ (B41_5.cell 1) (fun _ => ?_); clear hK K; try simp only [Act.put, List.setIfInBounds_toArray, List.set_cons_zero, List.set_cons_succ]
              refine wpAnyH_ready (rs := [4]) (by kernel_rfl) (by simp) ?_
              refine AllReadyH.cons rfl (fun K hK => ?_) (AllReadyH.nil)
              refine wp_app_ints _ (.tmp 67) (.tmp 68) 23 rfl w3.heap.size 3 i0 (.int .i64 0) Tryd.underlying23 HI.out.1 HI.out.2.1 HI.out.2.2.1 HI.out.2.2.2 rfl (.slice Az41 n cz41) n (l.map (Value.int .i64)) rfl ho41 A3 n3 c3 l3 rfl (hIb.keep hk41) (n + n3) (by omega) (by unfold maxLen; omega) (by omega) hk41.size (fun v42 W42 ho42 hg42 hat42 => ?_)
              obtain ⟨Az42, cz42, rfl⟩ := own_form ho42
              have hk42 := hk41.grown hg42 (fun k e => (ho41.lt k e).1)
              have B42_5 := B41_5.grown hg42 (fun e => hne41_5 e.symm)
              have hne42_5 : (Value.slice Az42 (n + n3) cz42).ownBlock ≠ some D5 := fun e => by
                rcases hat42 with h | h
                · exact hne41_5 (h.symm.trans e)
                · have h1 := B41_5.lt; rw [h] at e; simp only [Option.some.injEq] at e; omega
              have B42_10 := B41_10.grown hg42 (fun e => hne41_10 e.symm)
              have hne42_10 : (Value.slice Az42 (n + n3) cz42).ownBlock ≠ some E10 := fun e => by
                rcases hat42 with h | h
                · exact hne41_10 (h.symm.trans e)
                · have h1 := B41_10.lt; rw [h] at e; simp only [Option.some.injEq] at e; omega
              refine hK.out _ _ (B42_5.cell 1) (fun _ => ?_); clear hK K; try simp only [Act.put, List.setIfInBounds_toArray, List.set_cons_zero, List.set_cons_succ]
              refine wpAnyH_ready (rs := [11]) (by kernel_rfl) (by simp) ?_
              refine AllReadyH.cons rfl (fun K hK => ?_) AllReadyH.nil
              refine wp_app_ints _ (.tmp 69) (.tmp 75) 23 rfl w3.heap.size 3 i0 (.int .i64 0) Tryd.underlying23 HI.out.1 HI.out.2.1 HI.out.2.2.1 HI.out.2.2.2 rfl (.slice Az42 (n + n3) cz42) (n + n3) (l.map (Value.int .i64) ++ l3.map (Value.int .i64)) rfl ho42 (some ⟨E10, 0, none⟩) 1 1 [8] rfl (blk_int1 B42_10 (by decide)) (n + n3 + 1) rfl (by unfold maxLen; omega) (by omega) hk42.size (fun v43 W43 ho43 hg43 _ => ?_)
              obtain ⟨Az43, cz43, rfl⟩ := own_form ho43
              have hk43 := hk42.grown hg43 (fun k e => (ho42.lt k e).1)
              have B43 := B42_5.grown hg43 (fun e => hne42_5 e.symm)
              refine hK.out _ _ (B43.cell 1) (fun _ => ?_); clear hK K; try simp only [Act.put, List.setIfInBounds_toArray, List.set_cons_zero, List.set_cons_succ]
              (refine take_val (i := 12) (v := .slice Az43 (n + n3 + 1) cz43) rfl rfl (by kernel_rfl) (by kernel_rfl) (by kernel_rfl) (fun _ _ _ h => h) rfl (by intro wq hq; (try go_split_ands); go_simp; try with_reducible rfl) ((B43.cell 1)) ?_; try simp only [List.setIfInBounds_toArray, List.set_cons_zero, List.set_cons_succ])
              refine wpAnyH_done (by kernel_rfl) ?_ _
              go_wp2_with fail
              exact ⟨⟨Az43, n + n3 + 1, cz43, l ++ l3 ++ [8], b3, q3, rfl, rfl, rfl, HOwn.out _ _ _ ho43, HKw.out _ hk43, by omega, k2, by omega, HL4, HJ2⟩, by simp [intOf]; omega⟩
        · have hnv : ¬ (((⟨s.toArray⟩ : ByteArray)[q]'(by simpa [ByteArray.size] using hq1)).toNat : Int) = 38 := by
            rw [hgb]; intro e; exact hy (UInt8.toNat_inj.1 (by show y.toNat = 38; omega))
          have hnb : ((((⟨s.toArray⟩ : ByteArray)[q]'(by simpa [ByteArray.size] using hq1)).toNat : Int) == 38) = false := beq_eq_false_iff_ne.2 hnv
          have HR : Hid (s.length ≤ 190 → Sp.Rds 2 (s.drop p) true l (s.drop q)) := fun h => sofar_stop (HJ.out h) (fun _ => by rw [hr]; intro e; injection e with e; exact hy e)
          clear HJ hown hkp hy hr hr2 hgb
          go_wp2_with fail
          refine wp_region_held_drew (S := fun _ => True) (by kernel_rfl) trivial (fun hHeld => ?_)
          obtain ⟨WR, HWR⟩ : ∃ x, Hid (wr.drew = x) := ⟨_, rfl⟩
          rw [HWR.out] at hkd hownd
          rw [HWR.out]
          (refine take_val (i := 0) (v := .bool true) rfl rfl (by kernel_rfl) (by kernel_rfl) (by kernel_rfl) (fun _ _ _ h => h) rfl (by intro wq hq; (try go_split_ands); go_simp; try with_reducible rfl) (trivial) ?_; try simp only [List.setIfInBounds_toArray, List.set_cons_zero, List.set_cons_succ])
          (refine take_val (i := 1) (v := .bool true) rfl rfl (by kernel_rfl) (by kernel_rfl) (by kernel_rfl) (fun _ _ _ h => h) rfl (by intro wq hq; (try go_split_ands); go_simp; try with_reducible rfl) (trivial) ?_; try simp only [List.setIfInBounds_toArray, List.set_cons_zero, List.set_cons_succ])
          (refine take_val (i := 2) (v := .int .i64 (q : Int)) rfl rfl (by kernel_rfl) (by kernel_rfl) (by kernel_rfl) (fun _ _ _ h => h) rfl (by intro wq hq; (try go_split_ands); go_simp; try with_reducible rfl) (trivial) ?_; try simp only [List.setIfInBounds_toArray, List.set_cons_zero, List.set_cons_succ])
          (refine take_val (i := 3) (v := .string ⟨s.toArray⟩) rfl rfl (by kernel_rfl) (by kernel_rfl) (by kernel_rfl) (fun _ _ _ h => h) rfl (by intro wq hq; (try go_split_ands); go_simp; (try with_reducible rfl); (try omega)) (trivial) ?_; try simp only [List.setIfInBounds_toArray, List.set_cons_zero, List.set_cons_succ])
          (refine take_val (i := 4) (v := .int .i64 (s.length : Int)) rfl rfl (by kernel_rfl) (by kernel_rfl) (by kernel_rfl) (fun _ _ _ h => h) rfl (by intro wq hq; (try go_split_ands); go_simp; try with_reducible rfl) (trivial) ?_; try simp only [List.setIfInBounds_toArray, List.set_cons_zero, List.set_cons_succ])
          (refine take_val (i := 5) (v := .bool true) rfl rfl (by kernel_rfl) (by kernel_rfl) (by kernel_rfl) (fun _ _ _ h => h) rfl (by intro wq hq; (try go_split_ands); go_simp; try with_reducible rfl) (trivial) ?_; try simp only [List.setIfInBounds_toArray, List.set_cons_zero, List.set_cons_succ])
          (refine take_val (i := 6) (v := .bool true) rfl rfl (by kernel_rfl) (by kernel_rfl) (by kernel_rfl) (fun _ _ _ h => h) rfl (by intro wq hq; (try go_split_ands); go_simp; try with_reducible rfl) (trivial) ?_; try simp only [List.setIfInBounds_toArray, List.set_cons_zero, List.set_cons_succ])
          (refine take_val (i := 7) (v := .bool true) rfl rfl (by kernel_rfl) (by kernel_rfl) (by kernel_rfl) (fun _ _ _ h => h) rfl (by intro wq hq; (try go_split_ands); go_simp; try with_reducible rfl) (trivial) ?_; try simp only [List.setIfInBounds_toArray, List.set_cons_zero, List.set_cons_succ])
          (refine take_val (i := 8) (v := .string ⟨s.toArray⟩) rfl rfl (by kernel_rfl) (by kernel_rfl) (by kernel_rfl) (fun _ _ _ h => h) rfl (by intro wq hq; (try go_split_ands); go_simp; (try with_reducible rfl); (try omega)) (trivial) ?_; try simp only [List.setIfInBounds_toArray, List.set_cons_zero, List.set_cons_succ])
          (refine take_val (i := 9) (v := .int .i64 (q : Int)) rfl rfl (by kernel_rfl) (by kernel_rfl) (by kernel_rfl) (fun _ _ _ h => h) rfl (by intro wq hq; (try go_split_ands); go_simp; try with_reducible rfl) (trivial) ?_; try simp only [List.setIfInBounds_toArray, List.set_cons_zero, List.set_cons_succ])
          (refine take_val (i := 10) (v := .int .u8 (((⟨s.toArray⟩ : ByteArray)[q]'(by simpa [ByteArray.size] using hq1)).toNat : Int)) rfl rfl (by kernel_rfl) (by kernel_rfl) (by kernel_rfl) (fun _ _ _ h => h) rfl (by intro wq hq; (try go_split_ands); go_simp; try with_reducible rfl) (trivial) ?_; try simp only [List.setIfInBounds_toArray, List.set_cons_zero, List.set_cons_succ])
          (refine take_val (i := 12) (v := .int .i64 2) rfl rfl (by kernel_rfl) (by kernel_rfl) (by kernel_rfl) (fun _ _ _ h => h) rfl (by intro wq hq; (try go_split_ands); go_simp; try with_reducible rfl) (trivial) ?_; try simp only [List.setIfInBounds_toArray, List.set_cons_zero, List.set_cons_succ])
          (refine take_val (i := 13) (v := .int .i64 1) rfl rfl (by kernel_rfl) (by kernel_rfl) (by kernel_rfl) (fun _ _ _ h => h) rfl (by intro wq hq; (try go_split_ands); go_simp; try with_reducible rfl) (trivial) ?_; try simp only [List.setIfInBounds_toArray, List.set_cons_zero, List.set_cons_succ])
          have BS0 := Blk.new WR 5 #[.int .u8 124, .int .u8 38]
          have hkS := hkd.alloc (.cells #[.int .u8 124, .int .u8 38] 5)
          have hownS := own_keep hownd ((Kept.refl WR).alloc (.cells #[.int .u8 124, .int .u8 38] 5))
          (refine wpAnyH_ready (rs := [11]) (by kernel_rfl) (by simp) ?_; refine AllReadyH.cons rfl (fun K hK => ?_) AllReadyH.nil; go_simp)
          (refine hK.out _ _ (trivial) (fun _ => ?_); clear hK K; try simp only [Act.put, List.setIfInBounds_toArray, List.set_cons_zero, List.set_cons_succ])
          obtain ⟨DS, HDS⟩ : ∃ x, Hid (WR.heap.size = x) := ⟨_, rfl⟩
          obtain ⟨WS, HWS⟩ : ∃ x, Hid (WR.alloc (.cells #[.int .u8 124, .int .u8 38] 5) = x) := ⟨_, rfl⟩
          have BS : Blk WS DS 5 #[.int .u8 124, .int .u8 38] := by rw [← HWS.out, ← HDS.out]; exact BS0
          rw [HWS.out] at hkS hownS
          rw [HDS.out, HWS.out]
          clear BS0 hHeld hownd hkd
          refine held_more (S' := fun w' => w'.cell? ⟨DS, 1, none⟩ = some (.int .u8 38)) (fun _ _ => trivial) _ _ _ _ ?_
          have hSS : WS.cell? ⟨DS, 1, none⟩ = some (.int .u8 38) := BS.cell 1
          (refine take_val (i := 14) (v := .pointer (some ⟨DS, 1, none⟩)) rfl rfl (by kernel_rfl) (by kernel_rfl) (by kernel_rfl) (fun _ _ _ h => h) rfl (by intro wq hq; (try go_split_ands); go_simp; try with_reducible rfl) (hSS) ?_; try simp only [List.setIfInBounds_toArray, List.set_cons_zero, List.set_cons_succ])
          (refine take_val (i := 15) (v := .int .u8 38) rfl rfl (by kernel_rfl) (by kernel_rfl) (by kernel_rfl) (fun _ _ _ h => h) rfl (by intro wq hq; (try go_split_ands); go_simp; try with_reducible rfl) (hSS) ?_; try simp only [List.setIfInBounds_toArray, List.set_cons_zero, List.set_cons_succ])
          (refine take_val (i := 16) (v := .bool false) rfl rfl (by kernel_rfl) (by kernel_rfl) (by kernel_rfl) (fun _ _ _ h => h) rfl (by intro wq hq; (try go_split_ands); go_simp; try with_reducible rfl) (hSS) ?_; try simp only [List.setIfInBounds_toArray, List.set_cons_zero, List.set_cons_succ])
          (refine take_val (i := 17) (v := .bool false) rfl rfl (by kernel_rfl) (by kernel_rfl) (by kernel_rfl) (fun _ _ _ h => h) rfl (by intro wq hq; (try go_split_ands); go_simp; try with_reducible rfl) (hSS) ?_; try simp only [List.setIfInBounds_toArray, List.set_cons_zero, List.set_cons_succ])
          refine wpAnyH_done (by kernel_rfl) ?_ _
          clear hSS BS
          go_wp2_with fail
          go_ret3
          exact ⟨A, n, c, l, true, q, rfl, hownS, hkS, h1, h2, h3, H4.out, HR.out⟩
      · have hnlt : ¬ (q : Int) < (s.length : Int) := by omega
        have HR : Hid (s.length ≤ 190 → Sp.Rds 2 (s.drop p) true l (s.drop q)) := fun h => sofar_stop (HJ.out h) (fun _ => by rw [List.drop_of_length_le (by omega)]; simp)
        clear HJ hown hkp
        go_wp2_with fail
        refine wp_region_held_drew (S := fun _ => True) (by kernel_rfl) trivial (fun hHeld => ?_)
        (refine take_val (i := 0) (v := .bool true) rfl rfl (by kernel_rfl) (by kernel_rfl) (by kernel_rfl) (fun _ _ _ h => h) rfl (by intro wq hq; (try go_split_ands); go_simp; try with_reducible rfl) (hHeld) ?_; try simp only [List.setIfInBounds_toArray, List.set_cons_zero, List.set_cons_succ])
        (refine take_val (i := 1) (v := .bool true) rfl rfl (by kernel_rfl) (by kernel_rfl) (by kernel_rfl) (fun _ _ _ h => h) rfl (by intro wq hq; (try go_split_ands); go_simp; try with_reducible rfl) (hHeld) ?_; try simp only [List.setIfInBounds_toArray, List.set_cons_zero, List.set_cons_succ])
        (refine take_val (i := 2) (v := .int .i64 (q : Int)) rfl rfl (by kernel_rfl) (by kernel_rfl) (by kernel_rfl) (fun _ _ _ h => h) rfl (by intro wq hq; (try go_split_ands); go_simp; try with_reducible rfl) (hHeld) ?_; try simp only [List.setIfInBounds_toArray, List.set_cons_zero, List.set_cons_succ])
        (refine take_val (i := 3) (v := .string ⟨s.toArray⟩) rfl rfl (by kernel_rfl) (by kernel_rfl) (by kernel_rfl) (fun _ _ _ h => h) rfl (by intro wq hq; (try go_split_ands); go_simp; (try with_reducible rfl); (try omega)) (hHeld) ?_; try simp only [List.setIfInBounds_toArray, List.set_cons_zero, List.set_cons_succ])
        (refine take_val (i := 4) (v := .int .i64 (s.length : Int)) rfl rfl (by kernel_rfl) (by kernel_rfl) (by kernel_rfl) (fun _ _ _ h => h) rfl (by intro wq hq; (try go_split_ands); go_simp; try with_reducible rfl) (hHeld) ?_; try simp only [List.setIfInBounds_toArray, List.set_cons_zero, List.set_cons_succ])
        (refine take_val (i := 5) (v := .bool false) rfl rfl (by kernel_rfl) (by kernel_rfl) (by kernel_rfl) (fun _ _ _ h => h) rfl (by intro wq hq; (try go_split_ands); go_simp; try with_reducible rfl) (hHeld) ?_; try simp only [List.setIfInBounds_toArray, List.set_cons_zero, List.set_cons_succ])
        (refine take_val (i := 6) (v := .bool false) rfl rfl (by kernel_rfl) (by kernel_rfl) (by kernel_rfl) (fun _ _ _ h => h) rfl (by intro wq hq; (try go_split_ands); go_simp; try with_reducible rfl) (hHeld) ?_; try simp only [List.setIfInBounds_toArray, List.set_cons_zero, List.set_cons_succ])
        (refine take_val (i := 7) (v := .bool false) rfl rfl (by kernel_rfl) (by kernel_rfl) (by kernel_rfl) (fun _ _ _ h => h) rfl (by intro wq hq; (try go_split_ands); go_simp; try with_reducible rfl) (hHeld) ?_; try simp only [List.setIfInBounds_toArray, List.set_cons_zero, List.set_cons_succ])
        (refine take_skip (i := 8) rfl rfl (by kernel_rfl) (by kernel_rfl) (by kernel_rfl) (fun _ _ _ h => h) rfl (hHeld) ?_; try simp only [List.setIfInBounds_toArray, List.set_cons_zero, List.set_cons_succ])
        (refine take_skip (i := 9) rfl rfl (by kernel_rfl) (by kernel_rfl) (by kernel_rfl) (fun _ _ _ h => h) rfl (hHeld) ?_; try simp only [List.setIfInBounds_toArray, List.set_cons_zero, List.set_cons_succ])
        (refine take_skip (i := 10) rfl rfl (by kernel_rfl) (by kernel_rfl) (by kernel_rfl) (fun _ _ _ h => h) rfl (hHeld) ?_; try simp only [List.setIfInBounds_toArray, List.set_cons_zero, List.set_cons_succ])
        (refine take_skip (i := 11) rfl rfl (by kernel_rfl) (by kernel_rfl) (by kernel_rfl) (fun _ _ _ h => h) rfl (hHeld) ?_; try simp only [List.setIfInBounds_toArray, List.set_cons_zero, List.set_cons_succ])
        (refine take_skip (i := 12) rfl rfl (by kernel_rfl) (by kernel_rfl) (by kernel_rfl) (fun _ _ _ h => h) rfl (hHeld) ?_; try simp only [List.setIfInBounds_toArray, List.set_cons_zero, List.set_cons_succ])
        (refine take_skip (i := 13) rfl rfl (by kernel_rfl) (by kernel_rfl) (by kernel_rfl) (fun _ _ _ h => h) rfl (hHeld) ?_; try simp only [List.setIfInBounds_toArray, List.set_cons_zero, List.set_cons_succ])
        (refine take_skip (i := 14) rfl rfl (by kernel_rfl) (by kernel_rfl) (by kernel_rfl) (fun _ _ _ h => h) rfl (hHeld) ?_; try simp only [List.setIfInBounds_toArray, List.set_cons_zero, List.set_cons_succ])
        (refine take_skip (i := 15) rfl rfl (by kernel_rfl) (by kernel_rfl) (by kernel_rfl) (fun _ _ _ h => h) rfl (hHeld) ?_; try simp only [List.setIfInBounds_toArray, List.set_cons_zero, List.set_cons_succ])
        (refine take_skip (i := 16) rfl rfl (by kernel_rfl) (by kernel_rfl) (by kernel_rfl) (fun _ _ _ h => h) rfl (hHeld) ?_; try simp only [List.setIfInBounds_toArray, List.set_cons_zero, List.set_cons_succ])
        (refine take_val (i := 17) (v := .bool false) rfl rfl (by kernel_rfl) (by kernel_rfl) (by kernel_rfl) (fun _ _ _ h => h) rfl (by intro wq hq; (try go_split_ands); go_simp; try with_reducible rfl) (hHeld) ?_; try simp only [List.setIfInBounds_toArray, List.set_cons_zero, List.set_cons_succ])
        refine wpAnyH_done (by kernel_rfl) ?_ _
        clear hHeld
        go_wp2_with fail
        go_ret3
        exact ⟨A, n, c, l, true, q, rfl, hownd, hkd, h1, h2, h3, H4.out, HR.out⟩

/-- all readers at once -/
theorem c_sreaders (s : List UInt8) (hs : s.length ≤ 199) : ∀ n p, s.length - p < n → p ≤ s.length → ∀ D : Int, 0 ≤ D → D ≤ p →
    (∀ w, Calls Tryd.prog 156 #[.string ⟨s.toArray⟩, .int .i64 (p : Int), .int .i64 D] w (ScQ s p 3 w)) ∧
    (∀ w, Calls Tryd.prog 135 #[.string ⟨s.toArray⟩, .int .i64 (p : Int), .int .i64 3, .int .i64 D] w (ScQ s p 3 w)) ∧
    (∀ w, Calls Tryd.prog 135 #[.string ⟨s.toArray⟩, .int .i64 (p : Int), .int .i64 2, .int .i64 D] w (ScQ s p 2 w)) ∧
    (∀ w, Calls Tryd.prog 135 #[.string ⟨s.toArray⟩, .int .i64 (p : Int), .int .i64 1, .int .i64 D] w (ScQ s p 1 w)) := by
  intro n
  induction n with
  | zero => intro p h; omega
  | succ n ih =>
    intro p hn hp D hD0 hD
    have K1 : ∀ w, Calls Tryd.prog 156 #[.string ⟨s.toArray⟩, .int .i64 (p : Int), .int .i64 D] w (ScQ s p 3 w) := fun w =>
      c_small s p D w hs hp hD0 hD (fun p' D' w' h1 h2 h3 h4 => (ih p' (by omega) h2 D' h3 h4).1 w') (fun p' D' w' h1 h2 h3 h4 => (ih p' (by omega) h2 D' h3 h4).2.2.2 w')
    have K2 : ∀ w, Calls Tryd.prog 135 #[.string ⟨s.toArray⟩, .int .i64 (p : Int), .int .i64 3, .int .i64 D] w (ScQ s p 3 w) := fun w => c_great3 s p D w (K1 w)
    have K3 : ∀ w, Calls Tryd.prog 135 #[.string ⟨s.toArray⟩, .int .i64 (p : Int), .int .i64 2, .int .i64 D] w (ScQ s p 2 w) := fun w =>
      c_great2 s p D w hs hp hD0 hD (fun p' w' h1 h2 => by
        rcases Nat.eq_or_lt_of_le h1 with e | e
        · subst e; exact K2 w'
        · exact (ih p' (by omega) h2 D hD0 (by omega)).2.1 w')
    refine ⟨K1, K2, K3, fun w => c_great1 s p D w hs hp hD0 hD (fun p' w' h1 h2 => ?_)⟩
    rcases Nat.eq_or_lt_of_le h1 with e | e
    · subst e; exact K3 w'
    · exact (ih p' (by omega) h2 D hD0 (by omega)).2.2.1 w'

end Go.Proofs.YtphdojebdclonaaDoor
