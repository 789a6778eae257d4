/- Joined texts. No condition. -/
import Derived.Test.YtphdojebdclonaaDoorQ19
import Derived.Test.YtphdojebdclonaaDoorQ32
/- Walks: the draw of a code, and of a task and a code. No condition. -/
namespace Go.Proofs.YtphdojebdclonaaDoor
set_option linter.unusedSimpArgs false
set_option linter.unusedVariables false
open Go.RowKit

/-- a row of integers that a draw has made so far -/
def CSt (R : Nat) (w : World) (p K : Int) (M : Nat) (v : Value) (w' : World) : Prop :=
  ∃ (A : Option Addr) (n c : Nat) (l : List Int) (p' : Int), v = .slice A n c ∧ 1 ≤ n ∧ n ≤ M ∧ w'.ownsRow w.heap.size 3 1 (.slice A n c) n (l.map (Value.int .i64)) ∧ (∀ x ∈ l, Sp.inI x) ∧ Rd R w' p' ∧ p ≤ p' ∧ p' ≤ p + K ∧ But R (R + 1) w w'
theorem rowQ_of {X : Nat} {w : World} {A : Option Addr} {n c : Nat} {l : List Int} (hn : n ≤ 64) (ho : w.ownsRow X 3 1 (.slice A n c) n (l.map (Value.int .i64))) (hi : ∀ x ∈ l, Sp.inI x) : RowQ X (.slice A n c) w := ⟨A, n, c, l, rfl, hn, ho, hi⟩
theorem blk_oneD {w : World} {E : Nat} {x : Int} (h : Blk w E 3 #[.int .i64 x]) (hx : -9223372036854775808 ≤ x ∧ x ≤ 9223372036854775807) : Ints w (some ⟨E, 0, none⟩) 1 [x] :=
  ⟨rfl, by unfold maxLen; omega, fun y hy => by rw [List.mem_singleton] at hy; subst hy; exact hx, fun _ => ⟨E, 0, rfl, h.lt, fun k hk => by
    obtain rfl : k = 0 := by omega
    exact h.cell 0⟩⟩
/-- how many a slice has -/
def lenOf : Value → Nat
  | .slice _ n _ => n
  | _ => 0
theorem inI_app {l m : List Int} (h1 : ∀ x ∈ l, Sp.inI x) (h2 : ∀ x ∈ m, Sp.inI x) : ∀ x ∈ l ++ m, Sp.inI x := fun x hx => (List.mem_append.1 hx).elim (h1 x) (h2 x)
theorem inI_one {y : Int} (h0 : -100 ≤ y) (h1 : y ≤ 1000) : ∀ x ∈ [y], Sp.inI x := fun x hx => by rw [List.mem_singleton] at hx; subst hx; unfold Sp.inI; omega

set_option maxHeartbeats 8000000 in
set_option maxRecDepth 100000 in
theorem c_l20Code3 (R : Nat) (p : Int) (w : World) (h : Rd R w p) (hp : p ≤ 800000000) :
    Calls Tryd.prog 61 #[.pointer (some ⟨R, 0, none⟩), .int .i64 3, .int .i64 12] w (RetD R p 100 w (RowQ w.heap.size)) := by
  obtain ⟨i0, hi0, hz0, hz1, hz2⟩ := info_parts info_int
  have HI := Lib.hid (And.intro hi0 (And.intro hz0 (And.intro hz1 hz2)))
  clear hi0 hz0 hz1 hz2
  have hRlt := h.lt
  go_enter Tryd.func61, Tryd.ntmps61
  go_wp2_with fail
  refine (c_pick R 7 p w h (by omega) (by omega)).mono ?_; rintro e w2 ⟨v, p2, rfl, hR2, hp1, hp2, hb2, x, rfl, hx0, hx1⟩
  replace hx1 := hx1 (by omega)
  have hsz2 := hb2.size
  have hown := own_new (X := w.heap.size) w2 [.int .i64 x] 3 hsz2 (by show 1 ≤ maxLen; unfold maxLen; omega)
  have hb3 := hb2.kept_ ((Kept.refl w2).alloc (.cells #[.int .i64 x] 3))
  have hR3 := hR2.keep ((Kept.refl w2).alloc (.cells #[.int .i64 x] 3))
  clear h hb2 hR2
  go_wp2_with fail
  refine (c_pick R 4 p2 _ hR3 (by omega) (by omega)).mono ?_; rintro e w4 ⟨v, p4, rfl, hR4, hp3, hp4, hb4, kk0, rfl, hk00, hk01⟩
  replace hk01 := hk01 (by omega)
  obtain ⟨k0, rfl⟩ := Int.eq_ofNat_of_zero_le hk00
  have hown4 := own_but hown hb4 hRlt
  have hb5 := hb3.trans hb4
  clear hown hb3 hb4 hR3
  go_wp2_with fail
  go_loopw [7, 8] (fun v k wr => ∃ (j : Nat), k = .int .i64 (j : Int) ∧ j ≤ 3 ∧ CSt R w p (40 - 10 * (j : Int)) (196 - 65 * j) v wr) (fun _ k _ => (intOf k).toNat)
  case atStart => exact ⟨k0, rfl, by omega, _, 1, _, [x], p4, rfl, by omega, by omega, hown4, fun y hy => by rw [List.mem_singleton] at hy; subst hy; unfold Sp.inI; omega, hR4, by omega, by omega, hb5⟩
  case round =>
    clear hown4 hb5 hR4 hp1 hp2 hp3 hp4 hk00 hk01 hsz2
    obtain ⟨j, rfl, hj3, A, n, c, l, p5, rfl, hn1, hn2, hown, hin, hR, q1, q2, hb⟩ := hrel
    by_cases hj : 0 < j
    · have hji : (0 : Int) < (j : Int) := by omega
      have hwj : IntKind.i64.wrap ((j : Int) - 1) = ((j - 1 : Nat) : Int) := by rw [IntKind.wrap_i64]; omega
      go_wp2_with fail
      refine (c_pick R 4 p5 _ hR (by omega) (by omega)).mono ?_; rintro e w6 ⟨v, p6, rfl, hR6, hp5, hp6, hb6, y, rfl, hy0, hy1⟩
      replace hown := own_but hown hb6 hRlt
      replace hb := hb.trans hb6
      clear hb6 hR
      have hs6 := hb.size
      by_cases hy : y = 0
      · subst hy
        have hbk := hown.lt
        go_wp2_with (first | (at_builtin; refine wpList_append_own _ rfl (.tmp 33) (.tmp 34) 23 rfl (w.heap.size) 3 i0 (.int .i64 0) 1 8 Tryd.underlying23 HI.out.1 HI.out.2.1 HI.out.2.2.1 HI.out.2.2.2 rfl (by decide) (.slice A n c) n _ rfl (hown.alloc _) ⟨w6.heap.size, 0, none⟩ 1 1 [.int .i64 (7)] rfl rfl (one_new _ _ _) (by simp [Value.oneCell']) (by unfold maxLen; omega) (by omega) (by simp; omega) ?_; intro v' wapp hown2 hg2 _))
        obtain ⟨A3, c3, rfl⟩ := own_form hown2
        have HE : Hid (CSt R w p (40 - 10 * ((j - 1 : Nat) : Int)) (196 - 65 * (j - 1)) (.slice A3 (n + 1) c3) wapp) :=
          ⟨A3, n + 1, c3, l ++ [7], p6, rfl, by omega, by omega, by rw [List.map_append]; exact hown2, inI_app hin (inI_one (by omega) (by omega)), (hR6.keep ((Kept.refl w6).alloc _)).grown hg2 (fun k e => by have := (hbk k e).1; omega), by omega, by omega, (hb.kept_ ((Kept.refl w6).alloc _)).grown hg2 (fun k e => (hbk k e).1)⟩
        clear hR6 hb hown hown2 hg2 hbk
        go_wp2_with fail
        exact ⟨⟨j - 1, by rfl, by omega, HE.out⟩, by simp [intOf]; omega⟩
      · have hy0f : (y == 0) = false := beq_eq_false_iff_ne.2 hy
        by_cases hy1' : y = 1
        · subst hy1'
          have hO0 := World.ownsRow_made (base := w6.heap.size) (e := 3) (size := 1) w6 #[] 0 (Nat.le_refl _) (by unfold maxLen; omega) rfl
          have hkE := (Kept.refl w6).alloc (.cells #[] 3)
          have hbE : But R (R + 1) w6 _ := But.of_kept hkE
          have hRE := hR6.keep hkE
          obtain ⟨E, HE⟩ : ∃ x, Hid (w6.heap.size = x) := ⟨_, rfl⟩
          obtain ⟨w7, HW7⟩ : ∃ x, Hid (w6.alloc (.cells #[] 3) = x) := ⟨_, rfl⟩
          have hO1 : w7.ownsRow w6.heap.size 3 1 (.slice (some ⟨E, 0, none⟩) 0 0) 0 [] := by rw [← HW7.out, ← HE.out]; exact hO0
          rw [HW7.out] at hRE hbE
          have hR6l : R < w6.heap.size := by omega
          clear hO0 hkE hR6
          go_wp2_with fail
          rw [HE.out, HW7.out]
          refine (c_l20Leaf R p6 w7 hRE (by omega)).mono ?_; rintro e w8 ⟨v, p8, rfl, hR8, hp8, hp8', hb8, A4, n4, c4, l4, rfl, hn4, hown4, hin4⟩
          have hO8 := own_but hO1 hb8 (by omega)
          have hb68 := hbE.trans hb8
          have hs8 := hb68.size
          have hbk8 := hO8.lt
          have hI4 := own_ints2 (by omega) hown4 hin4
          clear hb8 hRE hbE hO1 hown4
          go_wp2_with (first
            | ((at_builtin; refine wpList_app_ints _ rfl (.tmp 38) (.tmp 40) 23 rfl w6.heap.size 3 i0 (.int .i64 0) Tryd.underlying23 HI.out.1 HI.out.2.1 HI.out.2.2.1 HI.out.2.2.2 rfl (.slice (some ⟨E, 0, none⟩) 0 0) (0) ([]) rfl hO8 A4 (n4) (c4) (l4) rfl hI4 n4 (Nat.zero_add _) (by unfold maxLen; omega) (by omega) hs8 ?_; intro v' wapp hown2 hg2 hat2); obtain ⟨A5, c5, rfl⟩ := own_form hown2; have hR9 := hR8.grown hg2 (fun k e => by have := (hbk8 k e).1; omega); have hb69 := hb68.grown hg2 (fun k e => (hbk8 k e).1); rw [List.nil_append] at hown2; have hIo := own_ints2 (by omega) (own_but hown hb69 hRlt) hin; have hs9 := hb69.size; have hbk9 := hown2.lt)
            | (at_builtin; refine wpList_app_ints _ rfl (.tmp 41) (.tmp 42) 23 rfl w6.heap.size 3 i0 (.int .i64 0) Tryd.underlying23 HI.out.1 HI.out.2.1 HI.out.2.2.1 HI.out.2.2.2 rfl (.slice A5 n4 c5) (n4) (l4.map (Value.int .i64)) rfl hown2 A (n) (c) (l) rfl hIo _ rfl (by unfold maxLen; omega) (by omega) hs9 ?_; intro v' wappb hown2b hg2b hat2b))
          obtain ⟨A6, c6, rfl⟩ := own_form hown2b
          have hR10 := hR9.grown hg2b (fun k e => by have := (hbk9 k e).1; omega)
          have hb610 := hb69.grown hg2b (fun k e => (hbk9 k e).1)
          rw [← List.map_append] at hown2b
          clear hown2 hR9 hb69 hg2b hIo hO8 hR8 hb68 hg2 hI4
          go_wp2_with fail
          refine (c_pick R 2 p8 _ hR10 (by omega) (by omega)).mono ?_; rintro e w11 ⟨v, p11, rfl, hR11, hp11, hp11', hb11, u, rfl, hu0, hu1⟩
          replace hu1 := hu1 (by omega)
          have hown11 := own_but hown2b hb11 (by omega)
          have hb12 := hb610.trans hb11
          have hs11 := hb12.size
          have hbk := hown11.lt
          have hwu : IntKind.i64.wrap (8 + u) = 8 + u := by rw [IntKind.wrap_i64]; omega
          clear hown2b hb610 hb11 hR10
          go_wp2_with (first | (at_builtin; refine wpList_append_own _ rfl (.tmp 43) (.tmp 47) 23 rfl (w6.heap.size) 3 i0 (.int .i64 0) 1 8 Tryd.underlying23 HI.out.1 HI.out.2.1 HI.out.2.2.1 HI.out.2.2.2 rfl (by decide) (.slice A6 (n4 + n) c6) (n4 + n) _ rfl (hown11.alloc _) ⟨w11.heap.size, 0, none⟩ 1 1 [.int .i64 (8 + u)] rfl rfl (one_new _ _ _) (by simp [Value.oneCell']) (by unfold maxLen; omega) (by omega) (by simp; omega) ?_; intro v' wapp2 hown3 hg3 _))
          obtain ⟨A7, c7, rfl⟩ := own_form hown3
          have HCE : Hid (CSt R w p (40 - 10 * ((j - 1 : Nat) : Int)) (196 - 65 * (j - 1)) (.slice A7 (n4 + n + 1) c7) wapp2) :=
            ⟨A7, n4 + n + 1, c7, l4 ++ l ++ [8 + u], p11, rfl, by omega, by omega, ownsRow_mono (by rw [List.map_append]; exact hown3) hs6, inI_app (inI_app hin4 hin) (inI_one (by omega) (by omega)), (hR11.keep ((Kept.refl w11).alloc _)).grown hg3 (fun k e => by have := (hbk k e).1; omega), by omega, by omega, ((hb.trans hb12).kept_ ((Kept.refl w11).alloc _)).grown hg3 (fun k e => Nat.le_trans hs6 (hbk k e).1)⟩
          clear hR11 hb12 hown11 hown3 hg3 hbk hb hown
          go_wp2_with fail
          exact ⟨⟨j - 1, by rfl, by omega, HCE.out⟩, by simp [intOf]; omega⟩
        · have hy1f : (y == 1) = false := beq_eq_false_iff_ne.2 hy1'
          go_wp2_with fail
          refine (c_l20Leaf R p6 _ hR6 (by omega)).mono ?_; rintro e w7 ⟨v, p7, rfl, hR7, hp7, hp7', hb7, A4, n4, c4, l4, rfl, hn4, hown4, hin4⟩
          replace hown := own_but hown hb7 hRlt
          replace hb := hb.trans hb7
          have hs7 := hb.size
          have hbk := hown.lt
          have hI4 := own_ints2 (by omega) hown4 hin4
          clear hb7 hR6 hown4
          go_wp2_with (at_builtin; refine wpList_app_ints _ rfl (.tmp 22) (.tmp 24) 23 rfl w.heap.size 3 i0 (.int .i64 0) Tryd.underlying23 HI.out.1 HI.out.2.1 HI.out.2.2.1 HI.out.2.2.2 rfl (.slice A n c) (n) (l.map (Value.int .i64)) rfl hown A4 (n4) (c4) (l4) rfl hI4 _ rfl (by unfold maxLen; omega) (by omega) hs7 ?_; intro v' wapp hown2 hg2 hat2)
          obtain ⟨A5, c5, rfl⟩ := own_form hown2
          have hR8 := hR7.grown hg2 (fun k e => by have := (hbk k e).1; omega)
          have hb8 := hb.grown hg2 (fun k e => (hbk k e).1)
          rw [← List.map_append] at hown2
          clear hown hb hbk hR7 hg2 hI4
          go_wp2_with fail
          refine (c_pick R 2 p7 _ hR8 (by omega) (by omega)).mono ?_; rintro e w9 ⟨v, p9, rfl, hR9, hp9, hp9', hb9, u, rfl, hu0, hu1⟩
          replace hu1 := hu1 (by omega)
          have hown9 := own_but hown2 hb9 hRlt
          have hb10 := hb8.trans hb9
          have hs9 := hb10.size
          have hbk := hown9.lt
          have hwu : IntKind.i64.wrap (8 + u) = 8 + u := by rw [IntKind.wrap_i64]; omega
          clear hown2 hb8 hb9 hR8
          go_wp2_with (first | (at_builtin; refine wpList_append_own _ rfl (.tmp 25) (.tmp 29) 23 rfl (w.heap.size) 3 i0 (.int .i64 0) 1 8 Tryd.underlying23 HI.out.1 HI.out.2.1 HI.out.2.2.1 HI.out.2.2.2 rfl (by decide) (.slice A5 (n + n4) c5) (n + n4) _ rfl (hown9.alloc _) ⟨w9.heap.size, 0, none⟩ 1 1 [.int .i64 (8 + u)] rfl rfl (one_new _ _ _) (by simp [Value.oneCell']) (by unfold maxLen; omega) (by omega) (by simp; omega) ?_; intro v' wapp2 hown3 hg3 _))
          obtain ⟨A6, c6, rfl⟩ := own_form hown3
          have HE : Hid (CSt R w p (40 - 10 * ((j - 1 : Nat) : Int)) (196 - 65 * (j - 1)) (.slice A6 (n + n4 + 1) c6) wapp2) :=
            ⟨A6, n + n4 + 1, c6, l ++ l4 ++ [8 + u], p9, rfl, by omega, by omega, by rw [List.map_append]; exact hown3, inI_app (inI_app hin hin4) (inI_one (by omega) (by omega)), (hR9.keep ((Kept.refl w9).alloc _)).grown hg3 (fun k e => by have := (hbk k e).1; omega), by omega, by omega, (hb10.kept_ ((Kept.refl w9).alloc _)).grown hg3 (fun k e => (hbk k e).1)⟩
          clear hR9 hb10 hown9 hown3 hg3 hbk
          go_wp2_with fail
          exact ⟨⟨j - 1, by rfl, by omega, HE.out⟩, by simp [intOf]; omega⟩
    · obtain rfl : j = 0 := by omega
      clear hj
      go_upto_if 51 with fail
      go_cut [7] from 9 (fun v w' => CSt R w p 50 40 v w')
      case first =>
        by_cases hn : 40 < n
        · have hni : (40 : Int) < (n : Int) := by omega
          go_wp2_with fail
          refine (c_pick R 5 p5 _ hR (by omega) (by omega)).mono ?_; rintro e w6 ⟨v, p6, rfl, hR6, hp5, hp6, hb6, y, rfl, hy0, hy1⟩
          replace hy1 := hy1 (by omega)
          replace hb := hb.trans hb6
          have hs6 := hb.size
          have hownN := own_new (X := w.heap.size) w6 [.int .i64 y] 3 hs6 (by show 1 ≤ maxLen; unfold maxLen; omega)
          have HC : Hid (CSt R w p 50 40 (.slice (some ⟨w6.heap.size, 0, none⟩) 1 1) (w6.alloc (.cells #[.int .i64 y] 3))) :=
            ⟨_, 1, _, [y], p6, rfl, by omega, by omega, hownN, inI_one (by omega) (by omega), hR6.keep ((Kept.refl w6).alloc _), by omega, by omega, hb.kept_ ((Kept.refl w6).alloc _)⟩
          clear hownN hR6 hb hb6 hown hR
          go_wp2_with fail
          go_meet
          case rel => exact HC.out
        · have hni : ¬ (40 : Int) < (n : Int) := by omega
          have HC : Hid (CSt R w p 50 40 (.slice A n c) wr) := ⟨A, n, c, l, p5, rfl, hn1, by omega, hown, hin, hR, by omega, by omega, hb⟩
          clear hown hR hb
          go_wp2_with fail
          go_meet
          case rel => exact HC.out
      case rest =>
        clear hown hb hR hin q1 q2 hn1 hn2
        obtain ⟨A, n, c, l, p6, rfl, hn1, hn2, hown, hin, hR, q1, q2, hb⟩ := hcut
        go_wp2_with fail
        refine (c_odd R 12 p6 _ hR (by omega) (by omega) (by omega)).mono ?_; rintro e w7 ⟨v, p7, rfl, hR7, hp7, hp7', hb7, bb, rfl⟩
        replace hown := own_but hown hb7 hRlt
        replace hb := hb.trans hb7
        have hs7 := hb.size
        clear hb7 hR
        cases bb
        · have HO := Lib.hid hown
          have HB := Lib.hid hb
          have HRd := Lib.hid hR7
          clear hown hb hR7
          go_wp2_with fail
          go_ret
          exact ⟨_, p7, rfl, HRd.out, by omega, by omega, HB.out, rowQ_of (by omega) HO.out hin⟩
        · go_wp2_with fail
          refine (c_pick R 5 p7 _ hR7 (by omega) (by omega)).mono ?_; rintro e w8 ⟨v, p8, rfl, hR8, hp8, hp8', hb8, y, rfl, hy0, hy1⟩
          replace hy1 := hy1 (by omega)
          replace hown := own_but hown hb8 hRlt
          replace hb := hb.trans hb8
          have hs8 := hb.size
          have hbk := hown.lt
          clear hb8 hR7
          by_cases hy : y = 0
          · subst hy
            have hO0 := World.ownsRow_made (base := w.heap.size) (e := 3) (size := 1) w8 #[] 0 hs8 (by unfold maxLen; omega) rfl
            have HO := Lib.hid hO0
            have HRd := Lib.hid (hR8.keep ((Kept.refl w8).alloc (.cells #[] 3)))
            have HB := Lib.hid (hb.kept_ ((Kept.refl w8).alloc (.cells #[] 3)))
            clear hO0 hown hb hR8
            go_wp2_with fail
            go_ret
            exact ⟨_, p8, rfl, HRd.out, by omega, by omega, HB.out, rowQ_of (l := []) (by omega) HO.out (fun x hx => by cases hx)⟩
          have hy0f : (y == 0) = false := beq_eq_false_iff_ne.2 hy
          by_cases hya : y = 1
          · subst hya
            go_wp2_with fail
            refine (c_pick R 5 p8 _ hR8 (by omega) (by omega)).mono ?_; rintro e w9 ⟨v, p9, rfl, hR9, hp9, hp9', hb9, z, rfl, hz0, hz1⟩
            replace hz1 := hz1 (by omega)
            replace hown := own_but hown hb9 hRlt
            replace hb := hb.trans hb9
            have hs9 := hb.size
            have hbk9 := hown.lt
            clear hb9 hR8
            go_wp2_with (first | (at_builtin; refine wpList_append_own _ rfl (.tmp 71) (.tmp 74) 23 rfl (w.heap.size) 3 i0 (.int .i64 0) 1 8 Tryd.underlying23 HI.out.1 HI.out.2.1 HI.out.2.2.1 HI.out.2.2.2 rfl (by decide) (.slice A n c) n _ rfl (hown.alloc _) ⟨w9.heap.size, 0, none⟩ 1 1 [.int .i64 z] rfl rfl (one_new _ _ _) (by simp [Value.oneCell']) (by unfold maxLen; omega) (by omega) (by simp; omega) ?_; intro v' wapp hown2 hg2 _))
            obtain ⟨A6, c6, rfl⟩ := own_form hown2
            have HO := Lib.hid hown2
            have HRd := Lib.hid ((hR9.keep ((Kept.refl w9).alloc _)).grown hg2 (fun k e => by have := (hbk9 k e).1; omega))
            have HB := Lib.hid ((hb.kept_ ((Kept.refl w9).alloc _)).grown hg2 (fun k e => (hbk9 k e).1))
            clear hown2 hown hb hR9 hg2
            go_wp2_with fail
            go_ret
            exact ⟨_, p9, rfl, HRd.out, by omega, by omega, HB.out, rowQ_of (l := l ++ [z]) (by omega) (by rw [List.map_append]; exact HO.out) (inI_app hin (inI_one (by omega) (by omega)))⟩
          have hyaf : (y == 1) = false := beq_eq_false_iff_ne.2 hya
          by_cases hyb : y = 2
          · subst hyb
            have hkE := (Kept.refl w8).alloc (.cells #[.int .i64 8] 3)
            have hO1 := own_new (X := w8.heap.size) w8 [.int .i64 8] 3 (Nat.le_refl _) (by show 1 ≤ maxLen; unfold maxLen; omega)
            have hIl := own_ints2 (by omega) (own_keep hown hkE) hin
            have hRE := hR8.keep hkE
            have hbE := hb.kept_ hkE
            have hsE := hkE.size
            have hbkE := hO1.lt
            obtain ⟨w9, HW9⟩ : ∃ x, Hid (w8.alloc (.cells #[.int .i64 8] 3) = x) := ⟨_, rfl⟩
            have hO1' : w9.ownsRow w8.heap.size 3 1 (.slice (some ⟨w8.heap.size, 0, none⟩) 1 1) 1 [.int .i64 8] := by rw [← HW9.out]; exact hO1
            rw [HW9.out] at hIl hRE hbE hsE hbkE
            clear hO1 hkE hown hb hR8
            go_upto_region 22 with fail
            go_wp2_with (first | (rw [HW9.out]; (at_builtin; refine wpList_app_ints _ rfl (.tmp 78) (.tmp 79) 23 rfl w8.heap.size 3 i0 (.int .i64 0) Tryd.underlying23 HI.out.1 HI.out.2.1 HI.out.2.2.1 HI.out.2.2.2 rfl (.slice (some ⟨w8.heap.size, 0, none⟩) 1 1) (1) ([.int .i64 8]) rfl hO1' A (n) (c) (l) rfl hIl _ rfl (by unfold maxLen; omega) (by omega) hsE ?_; intro v' wapp hown2 hg2 hat2)))
            obtain ⟨A6, c6, rfl⟩ := own_form hown2
            have HO := Lib.hid (ownsRow_mono hown2 hs8)
            have HRd := Lib.hid (hRE.grown hg2 (fun k e => by have := (hbkE k e).1; omega))
            have HB := Lib.hid (hbE.grown hg2 (fun k e => Nat.le_trans hs8 (hbkE k e).1))
            clear hown2 hO1' hbE hRE hg2 hIl
            go_wp2_with fail
            go_ret
            exact ⟨_, p8, rfl, HRd.out, by omega, by omega, HB.out, rowQ_of (l := [8] ++ l) (by omega) (by rw [List.map_append]; exact HO.out) (inI_app (inI_one (by omega) (by omega)) hin)⟩
          have hybf : (y == 2) = false := beq_eq_false_iff_ne.2 hyb
          by_cases hyc : y = 3
          · subst hyc
            have hkE := (Kept.refl w8).alloc (.cells #[.int .i64 (-1), .int .i64 10] 3)
            have BE := Blk.new w8 3 #[.int .i64 (-1), .int .i64 10]
            replace hown := own_keep hown hkE
            replace hR8 := hR8.keep hkE
            replace hb := hb.kept_ hkE
            obtain ⟨E, HE⟩ : ∃ x, Hid (w8.heap.size = x) := ⟨_, rfl⟩
            obtain ⟨w9, HW9⟩ : ∃ x, Hid (w8.alloc (.cells #[.int .i64 (-1), .int .i64 10] 3) = x) := ⟨_, rfl⟩
            have hRE : R < E := by have := HE.out; omega
            rw [HW9.out] at BE hown hR8 hb
            rw [HE.out] at BE
            clear hkE
            go_wp2_with fail
            rw [HE.out, HW9.out]
            refine (c_pick R 2 p8 _ hR8 (by omega) (by omega)).mono ?_; rintro e w10 ⟨v, p10, rfl, hR10, hp10, hp10', hb10, zz, rfl, hzz0, hzz1⟩
            replace hzz1 := hzz1 (by omega)
            obtain ⟨z, rfl⟩ := Int.eq_ofNat_of_zero_le hzz0
            have hz2 : z < 2 := by omega
            replace BE := hb10.blk BE (.inr (by omega))
            replace hown := own_but hown hb10 hRlt
            replace hb := hb.trans hb10
            have hs10 := hb.size
            have hbk10 := hown.lt
            clear hb10 hR8
            obtain ⟨q, hq0, hq1, hcE⟩ : ∃ q : Int, -1 ≤ q ∧ q ≤ 10 ∧ w10.cell? ⟨E, z, none⟩ = some (.int .i64 q) := by
              rw [BE.cell]
              rcases (by omega : z = 0 ∨ z = 1) with rfl | rfl
              · exact ⟨-1, by omega, by omega, rfl⟩
              · exact ⟨10, by omega, by omega, rfl⟩
            clear BE
            go_wp2_with (first | (at_builtin; refine wpList_append_own _ rfl (.tmp 83) (.tmp 89) 23 rfl (w.heap.size) 3 i0 (.int .i64 0) 1 8 Tryd.underlying23 HI.out.1 HI.out.2.1 HI.out.2.2.1 HI.out.2.2.2 rfl (by decide) (.slice A n c) n _ rfl (hown.alloc _) ⟨w10.heap.size, 0, none⟩ 1 1 [.int .i64 q] rfl rfl (one_new _ _ _) (by simp [Value.oneCell']) (by unfold maxLen; omega) (by omega) (by simp; omega) ?_; intro v' wapp hown2 hg2 _))
            obtain ⟨A6, c6, rfl⟩ := own_form hown2
            have HO := Lib.hid hown2
            have HRd := Lib.hid ((hR10.keep ((Kept.refl w10).alloc _)).grown hg2 (fun k e => by have := (hbk10 k e).1; omega))
            have HB := Lib.hid ((hb.kept_ ((Kept.refl w10).alloc _)).grown hg2 (fun k e => (hbk10 k e).1))
            clear hown2 hown hb hR10 hg2
            go_wp2_with fail
            go_ret
            exact ⟨_, p10, rfl, HRd.out, by omega, by omega, HB.out, rowQ_of (l := l ++ [q]) (by omega) (by rw [List.map_append]; exact HO.out) (inI_app hin (inI_one (by omega) (by omega)))⟩
          have hycf : (y == 3) = false := beq_eq_false_iff_ne.2 hyc
          go_wp2_with fail
          go_loopw [7] (fun v wr => ∃ (A : Option Addr) (n c : Nat) (l : List Int), v = .slice A n c ∧ 1 ≤ n ∧ n ≤ 41 ∧ wr.ownsRow w.heap.size 3 1 (.slice A n c) n (l.map (Value.int .i64)) ∧ (∀ x ∈ l, Sp.inI x) ∧ Rd R wr p8 ∧ But R (R + 1) w wr) (fun v _ => 41 - lenOf v)
          case atStart => exact ⟨A, n, c, l, rfl, hn1, by omega, hown, hin, hR8, hb⟩
          case round =>
            clear hown hb hR8 hin hbk
            obtain ⟨A, n, c, l, rfl, hn1, hn2, hown, hin, hR, hb⟩ := hrel
            have hs9 := hb.size
            have hbk9 := hown.lt
            by_cases h40 : n ≤ 40
            · have h40i : (n : Int) ≤ 40 := by omega
              go_wp2_with (first | (at_builtin; refine wpList_append_own _ rfl (.tmp 63) (.tmp 64) 23 rfl (w.heap.size) 3 i0 (.int .i64 0) 1 8 Tryd.underlying23 HI.out.1 HI.out.2.1 HI.out.2.2.1 HI.out.2.2.2 rfl (by decide) (.slice A n c) n _ rfl (hown.alloc _) ⟨wr.heap.size, 0, none⟩ 1 1 [.int .i64 7] rfl rfl (one_new _ _ _) (by simp [Value.oneCell']) (by unfold maxLen; omega) (by omega) (by simp; omega) ?_; intro v' wapp hown2 hg2 _))
              obtain ⟨A6, c6, rfl⟩ := own_form hown2
              have HO := Lib.hid hown2
              have HRd := Lib.hid ((hR.keep ((Kept.refl wr).alloc _)).grown hg2 (fun k e => by have := (hbk9 k e).1; omega))
              have HB := Lib.hid ((hb.kept_ ((Kept.refl wr).alloc _)).grown hg2 (fun k e => (hbk9 k e).1))
              clear hown2 hown hb hR hg2
              go_wp2_with fail
              exact ⟨⟨A6, n + 1, c6, l ++ [7], rfl, by omega, by omega, by rw [List.map_append]; exact HO.out, inI_app hin (inI_one (by omega) (by omega)), HRd.out, HB.out⟩, by simp [lenOf]; omega⟩
            · have h40i : ¬ (n : Int) ≤ 40 := by omega
              have HO := Lib.hid hown
              have HB := Lib.hid hb
              have HRd := Lib.hid hR
              clear hown hb hR
              go_wp2_with fail
              go_ret
              exact ⟨_, p8, rfl, HRd.out, by omega, by omega, HB.out, rowQ_of (by omega) HO.out hin⟩

end Go.Proofs.YtphdojebdclonaaDoor
