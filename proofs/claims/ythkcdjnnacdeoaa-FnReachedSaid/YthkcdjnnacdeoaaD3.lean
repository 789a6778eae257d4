/- Walks: draws: deeds. No condition. -/
import Derived.Test.YthkcdjnnacdeoaaD2
import Derived.StillTailTactics
namespace Go.Proofs.Ythkcdjnnacdeoaa
open Go.RowKit

theorem inI_small {x : Int} (h0 : -100 ≤ x) (h1 : x ≤ 1000000000) : Sp.inI x := by unfold Sp.inI; omega
theorem rowQ_new {w : World} {X : Nat} (l : List Int) (hX : X ≤ w.heap.size) (hl : l.length ≤ 64) (hi : ∀ x ∈ l, Sp.inI x) :
    RowQ X (.slice (some ⟨w.heap.size, 0, none⟩) l.length l.length) (w.alloc (.cells (l.map (Value.int .i64)).toArray 3)) := by
  have := own_new (X := X) w (l.map (Value.int .i64)) 3 hX (by simp [maxLen]; omega)
  rw [List.length_map] at this
  exact ⟨_, _, _, l, rfl, hl, this, hi⟩

theorem c_l20Need (R : Nat) (p : Int) (w : World) (h : Rd R w p) (hp : p ≤ 980000000) : Calls Try.prog 114 #[.pointer (some ⟨R, 0, none⟩)] w (RetD R p 8 w (RowQ w.heap.size)) := by
  have hRlt := h.lt
  go_enter Try.func114, Try.ntmps114
  go_wp2_with fail
  refine (c_pick R 4 p w h (by omega) (by omega)).mono ?_; rintro e w2 ⟨v, p2, rfl, hR2, hp1, hp2, hb2, x, rfl, hx0, hx1⟩
  have hsz := hb2.size
  by_cases e0 : x = 0
  · subst e0
    go_wp2_with fail
    go_ret
    exact ⟨_, p2, rfl, hR2.keep ((Kept.refl w2).alloc _), by omega, by omega, hb2.kept_ ((Kept.refl w2).alloc _), rowQ_new [5] hsz (by simp) (fun x hx => by simp at hx; subst hx; exact inI_small (by omega) (by omega))⟩
  by_cases e1 : x = 1
  · subst e1
    go_wp2_with fail
    refine (c_pick R 5 p2 w2 hR2 (by omega) (by omega)).mono ?_; rintro e w3 ⟨v, p3, rfl, hR3, hp3, hp3', hb3, y, rfl, hy0, hy1⟩
    have hsz3 := hb3.size
    go_wp2_with fail
    go_ret
    exact ⟨_, p3, rfl, hR3.keep ((Kept.refl w3).alloc _), by omega, by omega, (hb2.trans hb3).kept_ ((Kept.refl w3).alloc _), rowQ_new [y] (by omega) (by simp) (fun x hx => by simp at hx; subst hx; exact inI_small (by omega) (by omega))⟩
  by_cases e2 : x = 2
  · subst e2
    go_wp2_with fail
    refine (c_pick R 5 p2 w2 hR2 (by omega) (by omega)).mono ?_; rintro e w3 ⟨v, p3, rfl, hR3, hp3, hp3', hb3, y, rfl, hy0, hy1⟩
    have hsz3 := hb3.size
    go_wp2_with fail
    go_ret
    exact ⟨_, p3, rfl, hR3.keep ((Kept.refl w3).alloc _), by omega, by omega, (hb2.trans hb3).kept_ ((Kept.refl w3).alloc _), rowQ_new [y, 7] (by omega) (by simp) (fun x hx => by simp at hx; rcases hx with rfl | rfl <;> exact inI_small (by omega) (by omega))⟩
  · go_wp2_with fail
    refine (c_l20Leaf R p2 w2 hR2 (by omega)).mono ?_; rintro e w3 ⟨v, p3, rfl, hR3, hp3, hp3', hb3, A, n, c, l, rfl, hn, hown, hin⟩
    go_wp2_with fail
    go_ret
    exact ⟨_, p3, rfl, hR3, by omega, by omega, hb2.trans hb3, A, n, c, l, rfl, hn, ownsRow_mono hown hsz, hin⟩

theorem p2_zero : p2 0 = 1 := by rw [p2_nat]; rfl
theorem p2_five : p2 5 = 32 := by rw [p2_nat]; rfl
theorem p2_succ (k : Nat) : p2 (k + 1) = p2 k + p2 k := by
  rw [p2_nat, p2_nat, Nat.pow_succ]
  omega

/-- a deed that a draw made -/
def DeedQ (X : Nat) (v : Value) (w : World) : Prop :=
  ∃ (A : Option Addr) (n c : Nat) (l : List Int) (on off flip : Int), v = .agg #[.slice A n c, .int .i64 on, .int .i64 off, .int .i64 flip] ∧ n ≤ 64 ∧ w.ownsRow X 3 1 (.slice A n c) n (l.map (Value.int .i64)) ∧ (∀ x ∈ l, Sp.inI x) ∧
    (-1 ≤ on ∧ on ≤ 32) ∧ (-1 ≤ off ∧ off ≤ 32) ∧ (-1 ≤ flip ∧ flip ≤ 32)

/-- the draw's deed, under way -/
def DSt (R : Nat) (w : World) (p K : Int) (E : Nat) (m : Int) (w' : World) : Prop :=
  ∃ (A : Option Addr) (n c : Nat) (l : List Int) (on off flip p' : Int), Blk w' E 39 #[.slice A n c, .int .i64 on, .int .i64 off, .int .i64 flip] ∧ n ≤ 64 ∧ w'.ownsRow w.heap.size 3 1 (.slice A n c) n (l.map (Value.int .i64)) ∧ (∀ x ∈ l, Sp.inI x) ∧
    (-1 ≤ on ∧ on < m) ∧ (-1 ≤ off ∧ off < m) ∧ (-1 ≤ flip ∧ flip < m) ∧ Rd R w' p' ∧ p ≤ p' ∧ p' ≤ p + K ∧ But R (R + 1) w w' ∧
    Blk w' w.heap.size 39 #[.slice none 0 0, .int .i64 0, .int .i64 0, .int .i64 0]

set_option maxHeartbeats 1000000 in
theorem own_far {D n X : Nat} {w5 : World} {cs : Array Value} {v : Value} {xs : List Value} (hB : Blk w5 D 39 cs) (ho : w5.ownsRow X 3 1 v n xs) (i : Nat) (u : Value) : (w5.setCell ⟨D, i, none⟩ u).ownsRow X 3 1 v n xs := by
  refine ⟨ho.1, ?_⟩
  rcases ho.2 with hn | ⟨g, cap, cur, hv, hg, hh, rest⟩
  · exact .inl hn
  · refine .inr ⟨g, cap, cur, hv, hg, ?_, rest⟩
    have hne : g ≠ D := by
      rintro rfl
      unfold Blk at hB
      rw [hh] at hB
      simp at hB
    exact (Below.heap_setCell w5 _ u g hne).trans hh

theorem deed_put {R E n : Nat} {w w4 w5 : World} {cs cs0 : Array Value} {v : Value} {xs : List Value} {p4 : Int} (hBE : Blk w4 E 39 cs) (hown : w4.ownsRow w.heap.size 3 1 v n xs) (hR : Rd R w4 p4) (hb : But R (R + 1) w w4)
    (hB0 : Blk w4 w.heap.size 39 cs0) (hRw : R < w.heap.size) (hE : w.heap.size < E) (hk : Kept w4 w5) (i : Nat) (u : Value) :
    Blk (w5.setCell ⟨E, i, none⟩ u) E 39 (cs.setIfInBounds i u) ∧ (w5.setCell ⟨E, i, none⟩ u).ownsRow w.heap.size 3 1 v n xs ∧ Rd R (w5.setCell ⟨E, i, none⟩ u) p4 ∧ But R (R + 1) w (w5.setCell ⟨E, i, none⟩ u) ∧ Blk (w5.setCell ⟨E, i, none⟩ u) w.heap.size 39 cs0 := by
  refine ⟨(hBE.kept hk).set_ i u, ?_, (hR.keep hk).setFar (show R < E by omega) u, (hb.kept_ hk).setNew (show w.heap.size ≤ E by omega) u, (hB0.kept hk).far (show w.heap.size ≠ E by omega) u⟩
  have ho := own_keep hown hk
  refine ⟨ho.1, ?_⟩
  rcases ho.2 with hn | ⟨g, cap, cur, hv, hg, hh, rest⟩
  · exact .inl hn
  · refine .inr ⟨g, cap, cur, hv, hg, ?_, rest⟩
    have hne : g ≠ E := by
      rintro rfl
      have := hBE.kept hk
      unfold Blk at this
      rw [hh] at this
      simp at this
    exact (Below.heap_setCell w5 _ u g hne).trans hh

set_option maxHeartbeats 3000000 in
set_option maxRecDepth 100000 in
theorem c_l20Deed (R : Nat) (n0 : Int) (p : Int) (w : World) (h : Rd R w p) (hp : p ≤ 970000000) (hn0 : 0 ≤ n0) (hn1 : n0 ≤ 1000) : Calls Try.prog 115 #[.pointer (some ⟨R, 0, none⟩), .int .i64 n0] w (RetD R p 15 w (DeedQ w.heap.size)) := by
  have hRlt := h.lt
  have hk0 := (Kept.refl w).alloc (.cells #[.slice none 0 0, .int .i64 0, .int .i64 0, .int .i64 0] 39)
  have B0 := Blk.new w 39 #[.slice none 0 0, .int .i64 0, .int .i64 0, .int .i64 0]
  have hb0 : But R (R + 1) w _ := But.of_kept hk0
  go_enter Try.func115, Try.ntmps115
  go_wp2_with fail
  refine (c_l20Need R p _ (h.keep hk0) (by omega)).mono ?_; rintro e w2 ⟨v, p2', rfl, hR2, hp1, hp2, hb2, A, n, c, l, rfl, hn, hown, hin⟩
  replace hb0 := hb0.trans hb2
  replace B0 := hb2.blk B0 (.inr (by omega))
  have hsz := hb0.size
  have hlt0 := B0.lt
  have hown1 := ownsRow_mono hown (X := w.heap.size) (by simp)
  clear hb2 hk0 hown
  go_wp2_with fail
  have hkE := (Kept.refl w2).alloc (.cells #[.slice A n c, .int .i64 0, .int .i64 0, .int .i64 0] 39)
  have BE := Blk.new w2 39 #[.slice A n c, .int .i64 0, .int .i64 0, .int .i64 0]
  have hst0 : DSt R w p 8 w2.heap.size (p2 0) (w2.alloc (.cells #[.slice A n c, .int .i64 0, .int .i64 0, .int .i64 0] 39)) :=
    ⟨A, n, c, l, 0, 0, 0, p2', BE, hn, own_keep hown1 hkE, hin, by rw [p2_zero]; omega, by rw [p2_zero]; omega, by rw [p2_zero]; omega, hR2.keep hkE, by omega, by omega, hb0.kept_ hkE, B0.kept hkE⟩
  have hEw : w.heap.size < w2.heap.size := hlt0
  obtain ⟨E, HE⟩ : ∃ E, Hid (E = w2.heap.size) := ⟨_, rfl⟩
  rw [← HE.out] at hst0 hEw ⊢
  clear hkE BE hown1 hin hR2 hb0 B0 hsz hlt0 hn hp1 hp2
  go_loopw [6] (fun i wr => ∃ k : Nat, k ≤ 5 ∧ i = .int .i64 k ∧ DSt R w p (8 + k) E (p2 k) wr) (fun i _ => 5 - (intOf i).toNat)
  case atStart => exact ⟨0, by omega, rfl, by simpa using hst0⟩
  case round =>
    obtain ⟨k, hk, rfl, A, n, c, l, on, off, flip, p3, hBE, hn, hown, hin, hon, hoff, hflip, hR3, hp1, hp2, hb3, hB0⟩ := hrel
    by_cases hlt : k < 5
    · go_wp2_with fail
      refine (c_pick R 6 p3 _ hR3 (by omega) (by omega)).mono ?_; rintro e w4 ⟨v, p4, rfl, hR4, hp3, hp4, hb4, x, rfl, hx0, hx1⟩
      replace hBE := hb4.blk hBE (.inr (by omega))
      replace hB0 := hb4.blk hB0 (.inr (by omega))
      replace hown := own_but hown hb4 hRlt
      replace hb3 := hb3.trans hb4
      clear hb4 hR3
      have hsh := bin_shl_one k (by omega)
      have HP := Lib.hid (p2_succ k)
      have hpb := p2_bd k 5 (by omega)
      rw [p2_five] at hpb
      have c0 := hBE.cell
      have f0 := hBE.frozen
      by_cases e0 : x = 0
      · subst e0
        go_wp2_with fail
        go_still_tail 6, (by kernel_rfl)
        change wpList _ _ _ _ _ w4.drew
        rw [show IntKind.i64.wrap (on + p2 k) = on + p2 k from IntWalk.i64_in _ (by omega)]
        obtain ⟨d1, d2, d3, d4, d5⟩ := deed_put hBE hown hR4 hb3 hB0 hRlt hEw (Kept.refl w4) 1 (.int .i64 (on + p2 k))
        clear hBE hown hR4 hb3 hB0
        go_wp2_with fail
        exact ⟨⟨k + 1, by omega, by go_num, A, n, c, l, on + p2 k, off, flip, p4, by have := d1.drew; simpa using this, hn, d2.drew, hin, by rw [HP.out]; omega, by rw [HP.out]; omega, by rw [HP.out]; omega, d3.keep (Kept.refl _).drew, by omega, by omega, d4.kept_ (Kept.refl _).drew, d5.drew⟩, by simp [intOf]; omega⟩
      by_cases e1 : x = 1
      · subst e1
        go_wp2_with fail
        go_still_tail 6, (by kernel_rfl)
        change wpList _ _ _ _ _ w4.drew
        rw [show IntKind.i64.wrap (off + p2 k) = off + p2 k from IntWalk.i64_in _ (by omega)]
        obtain ⟨d1, d2, d3, d4, d5⟩ := deed_put hBE hown hR4 hb3 hB0 hRlt hEw (Kept.refl w4) 2 (.int .i64 (off + p2 k))
        clear hBE hown hR4 hb3 hB0
        go_wp2_with fail
        exact ⟨⟨k + 1, by omega, by go_num, A, n, c, l, on, off + p2 k, flip, p4, by have := d1.drew; simpa using this, hn, d2.drew, hin, by rw [HP.out]; omega, by rw [HP.out]; omega, by rw [HP.out]; omega, d3.keep (Kept.refl _).drew, by omega, by omega, d4.kept_ (Kept.refl _).drew, d5.drew⟩, by simp [intOf]; omega⟩
      by_cases e2 : x = 2
      · subst e2
        go_wp2_with fail
        go_still_tail 6, (by kernel_rfl)
        change wpList _ _ _ _ _ w4.drew
        rw [show IntKind.i64.wrap (flip + p2 k) = flip + p2 k from IntWalk.i64_in _ (by omega)]
        obtain ⟨d1, d2, d3, d4, d5⟩ := deed_put hBE hown hR4 hb3 hB0 hRlt hEw (Kept.refl w4) 3 (.int .i64 (flip + p2 k))
        clear hBE hown hR4 hb3 hB0
        go_wp2_with fail
        exact ⟨⟨k + 1, by omega, by go_num, A, n, c, l, on, off, flip + p2 k, p4, by have := d1.drew; simpa using this, hn, d2.drew, hin, by rw [HP.out]; omega, by rw [HP.out]; omega, by rw [HP.out]; omega, d3.keep (Kept.refl _).drew, by omega, by omega, d4.kept_ (Kept.refl _).drew, d5.drew⟩, by simp [intOf]; omega⟩
      · clear c0 f0
        go_wp2_with fail
        exact ⟨⟨k + 1, by omega, by go_num, A, n, c, l, on, off, flip, p4, hBE, hn, hown, hin, by rw [HP.out]; omega, by rw [HP.out]; omega, by rw [HP.out]; omega, hR4, by omega, by omega, hb3, hB0⟩, by simp [intOf]; omega⟩
    · rw [show k = 5 by omega, p2_five] at hon hoff hflip
      have hk5 : (k : Int) ≤ 5 := by omega
      go_wp2_with fail
      refine (c_odd R n0 p3 _ hR3 (by omega) (by omega) hn0).mono ?_; rintro e w4 ⟨v, p4, rfl, hR4, hp3, hp4, hb4, y, rfl⟩
      replace hBE := hb4.blk hBE (.inr (by omega))
      replace hB0 := hb4.blk hB0 (.inr (by omega))
      replace hown := own_but hown hb4 hRlt
      replace hb3 := hb3.trans hb4
      clear hb4 hR3
      go_upto_if 42 with fail
      go_cut [5] from 7 (fun v w' => v = .pointer (some ⟨E, 0, none⟩) ∧ DSt R w p 15 E 33 w')
      case first =>
        have c0 := hBE.cell
        have f0 := hBE.frozen
        cases y
        · go_wp2_with fail
          go_meet
          case rel => exact ⟨rfl, A, n, c, l, on, off, flip, p4, hBE, hn, hown, hin, by omega, by omega, by omega, hR4, by omega, by omega, hb3, hB0⟩
        · go_wp2_with fail
          refine (c_pick R 4 p4 _ hR4 (by omega) (by omega)).mono ?_; rintro e w5 ⟨v, p5, rfl, hR5, hp5, hp5', hb5, x, rfl, hx0, hx1⟩
          replace hBE := hb5.blk hBE (.inr (by omega))
          replace hB0 := hb5.blk hB0 (.inr (by omega))
          replace hown := own_but hown hb5 hRlt
          replace hb3 := hb3.trans hb5
          clear hb5 hR4 c0 f0
          have c0 := hBE.cell
          have f0 := hBE.frozen
          by_cases e0 : x = 0
          · subst e0
            have hka := (Kept.refl w5).alloc (.cells #[.int .i64 7] 3)
            have hsz := hb3.size
            have hnew := own_new (X := w.heap.size) w5 [.int .i64 7] 3 hsz (by simp [maxLen])
            obtain ⟨d1, d2, d3, d4, d5⟩ := deed_put (hBE.kept hka) hnew (hR5.keep hka) (hb3.kept_ hka) (hB0.kept hka) hRlt hEw (Kept.refl _) 0 (.slice (some ⟨w5.heap.size, 0, none⟩) 1 1)
            have c1 := (hBE.kept hka).cell
            have f1 := (hBE.kept hka).frozen
            clear hBE hown hR5 hb3 hB0 hka hnew
            go_wp2_with fail
            go_meet
            case rel => exact ⟨rfl, _, 1, _, [7], on, off, flip, p5, by simpa using d1, by omega, d2, fun x hx => by simp at hx; subst hx; exact inI_small (by omega) (by omega), by omega, by omega, by omega, d3, by omega, by omega, d4, d5⟩
          by_cases e1 : x = 1
          · subst e1
            obtain ⟨d1, d2, d3, d4, d5⟩ := deed_put hBE hown hR5 hb3 hB0 hRlt hEw (Kept.refl _) 1 (.int .i64 32)
            clear hBE hown hR5 hb3 hB0
            go_wp2_with fail
            go_meet
            case rel => exact ⟨rfl, A, n, c, l, 32, off, flip, p5, by simpa using d1, hn, d2, hin, by omega, by omega, by omega, d3, by omega, by omega, d4, d5⟩
          by_cases e2 : x = 2
          · subst e2
            obtain ⟨d1, d2, d3, d4, d5⟩ := deed_put hBE hown hR5 hb3 hB0 hRlt hEw (Kept.refl _) 2 (.int .i64 (-1))
            clear hBE hown hR5 hb3 hB0
            go_wp2_with fail
            go_meet
            case rel => exact ⟨rfl, A, n, c, l, on, -1, flip, p5, by simpa using d1, hn, d2, hin, by omega, by omega, by omega, d3, by omega, by omega, d4, d5⟩
          · obtain ⟨d1, d2, d3, d4, d5⟩ := deed_put hBE hown hR5 hb3 hB0 hRlt hEw (Kept.refl _) 1 (.int .i64 1)
            obtain ⟨g1, g2, g3, g4, g5⟩ := deed_put d1 d2 d3 d4 d5 hRlt hEw (Kept.refl _) 3 (.int .i64 1)
            obtain ⟨k1, k2, k3, k4, k5⟩ := deed_put g1 g2 g3 g4 g5 hRlt hEw (Kept.refl _) 2 (.int .i64 0)
            clear hBE hown hR5 hb3 hB0 d1 d2 d3 d4 d5 g1 g2 g3 g4 g5
            go_wp2_with fail
            go_meet
            case rel => exact ⟨rfl, A, n, c, l, 1, 0, 1, p5, by simpa using k1, hn, k2, hin, by omega, by omega, by omega, k3, by omega, by omega, k4, k5⟩
      case rest =>
        clear hBE hB0 hown hb3 hR4 hin hp1 hp2 hp3 hp4 hon hoff hflip hn hst0
        obtain ⟨rfl, A, n, c, l, on, off, flip, p5, hBE, hn, hown, hin, hon, hoff, hflip, hR, q1, q2, hb, hB0⟩ := hcut
        have c0 := hBE.cell
        have c1 := hB0.cell
        have f1 := hB0.frozen
        have hle := Nat.le_refl w.heap.size
        have o1 := own_far hB0 hown 0 (.slice A n c)
        have b1 := hB0.set_ 0 (.slice A n c)
        have o2 := own_far b1 o1 1 (.int .i64 on)
        have b2 := b1.set_ 1 (.int .i64 on)
        have o3 := own_far b2 o2 2 (.int .i64 off)
        have b3 := b2.set_ 2 (.int .i64 off)
        have o4 := own_far b3 o3 3 (.int .i64 flip)
        have r4 := (((hR.setFar (a := ⟨w.heap.size, 0, none⟩) hRlt (.slice A n c)).setFar (a := ⟨w.heap.size, 1, none⟩) hRlt (.int .i64 on)).setFar (a := ⟨w.heap.size, 2, none⟩) hRlt (.int .i64 off)).setFar (a := ⟨w.heap.size, 3, none⟩) hRlt (.int .i64 flip)
        have t4 := (((hb.setNew (p := ⟨w.heap.size, 0, none⟩) hle (.slice A n c)).setNew (p := ⟨w.heap.size, 1, none⟩) hle (.int .i64 on)).setNew (p := ⟨w.heap.size, 2, none⟩) hle (.int .i64 off)).setNew (p := ⟨w.heap.size, 3, none⟩) hle (.int .i64 flip)
        clear hB0 hBE hown hR hb o1 o2 o3 b1 b2 b3 HE hEw hlt hk
        go_wp2_with fail
        refine bodyPost_ret (v := .agg #[.slice A n c, .int .i64 on, .int .i64 off, .int .i64 flip]) (by simp [results, Try.results115, go_sem, c1]) rfl ?_
        exact ⟨_, p5, rfl, r4, q1, q2, t4, A, n, c, l, on, off, flip, rfl, hn, o4, hin, by omega, by omega, by omega⟩

end Go.Proofs.Ythkcdjnnacdeoaa
