/- Walks: what a draw reads. No condition. -/
import Derived.Test.YtjmpfemlihjibaaDoorHar
import Derived.Test.YtjmpfemlihjibaaDoorR5
import Derived.Deep.RegionHeld3
namespace Go.Proofs.YtjmpfemlihjibaaDoor
open Go.RowKit

/-- a reader at block R, behind p picks -/
def Rd (R : Nat) (w : World) (p : Int) : Prop :=
  ∃ A n c, Blk w R 114 #[.slice A n c, .int .i64 p] ∧ n ≤ 2000 ∧ 0 ≤ p ∧
    (0 < n → ∃ b o, A = some ⟨b, o, none⟩ ∧ b < R ∧ ∀ k, k < n → ∃ x, w.cell? ⟨b, o + k, none⟩ = some (.int .u8 x) ∧ 0 ≤ x ∧ x ≤ 255)
theorem Rd.lt {R : Nat} {w : World} {p : Int} (h : Rd R w p) : R < w.heap.size := by obtain ⟨A, n, c, h, _⟩ := h; exact h.lt
theorem Rd.p0 {R : Nat} {w : World} {p : Int} (h : Rd R w p) : 0 ≤ p := by obtain ⟨A, n, c, _, _, h, _⟩ := h; exact h
theorem Rd.keep {R : Nat} {w w' : World} {p : Int} (h : Rd R w p) (hk : Kept w w') : Rd R w' p := by
  obtain ⟨A, n, c, h1, h2, h3, h4⟩ := h
  refine ⟨A, n, c, h1.kept hk, h2, h3, fun hn => ?_⟩
  obtain ⟨b, o, e, h5, h6⟩ := h4 hn
  have hb : b < w.heap.size := Nat.lt_trans h5 h1.lt
  exact ⟨b, o, e, h5, fun k hk2 => by obtain ⟨x, h7, h8⟩ := h6 k hk2; exact ⟨x, by rw [hk.cell hb]; exact h7, h8⟩⟩

/-- what a call with the reader comes to -/
def RetD (R : Nat) (p K : Int) (w : World) (Q : Value → World → Prop) (e : Ending) (w' : World) : Prop :=
  ∃ v p', e = .returned v ∧ Rd R w' p' ∧ p ≤ p' ∧ p' ≤ p + K ∧ But R (R + 1) w w' ∧ Q v w'
def PickQ (n : Int) (v : Value) (_w : World) : Prop := ∃ x, v = .int .i64 x ∧ 0 ≤ x ∧ (1 ≤ n → x < n)

theorem tmod_bd (x n : Int) (h0 : 0 ≤ x) (h1 : 1 ≤ n) : 0 ≤ x.tmod n ∧ x.tmod n < n := by
  rw [Int.tmod_eq_emod_of_nonneg h0]
  exact ⟨Int.emod_nonneg _ (by omega), Int.emod_lt_of_pos _ (by omega)⟩
theorem emod_bd (x n : Int) (h1 : 1 ≤ n) : 0 ≤ x % n ∧ x % n < n := ⟨Int.emod_nonneg _ (by omega), Int.emod_lt_of_pos _ (by omega)⟩

theorem Rd.next {R : Nat} {w : World} {A : Option Addr} {m c : Nat} {p : Int} (hB : Blk w R 114 #[.slice A m c, .int .i64 p]) (hm : m ≤ 2000) (hp : 0 ≤ p)
    (hby : 0 < m → ∃ b o, A = some ⟨b, o, none⟩ ∧ b < R ∧ ∀ k, k < m → ∃ x, w.cell? ⟨b, o + k, none⟩ = some (.int .u8 x) ∧ 0 ≤ x ∧ x ≤ 255) (Q : Value → World → Prop) (v : Value)
    (w' : World) (hk : Kept (w.setCell ⟨R, 1, none⟩ (.int .i64 (p + 1))) w') (hQ : Q v w') : RetD R p 1 w Q (.returned v) w' := by
  refine ⟨v, p + 1, rfl, Rd.keep ⟨A, m, c, by have := hB.set_ 1 (.int .i64 (p + 1)); simpa using this, hm, by omega, fun hn => ?_⟩ hk, by omega, Int.le_refl _, ((But.refl w).set (x := p) (by rw [hB.cell]; rfl) (Nat.le_refl R) (Nat.lt_succ_self R) _).trans (But.of_kept hk), hQ⟩
  obtain ⟨b, o, e, h1, h2⟩ := hby hn
  refine ⟨b, o, e, h1, fun k hk => ?_⟩
  obtain ⟨x, h3, h4⟩ := h2 k hk
  exact ⟨x, by rw [World.cell?_setCell_other _ _ _ _ (by intro e2; simp only [Addr.mk.injEq] at e2; omega)]; exact h3, h4⟩

set_option maxHeartbeats 1000000 in
set_option maxRecDepth 100000 in
theorem c_pick (R : Nat) (n : Int) (p : Int) (w : World) (h : Rd R w p) (hp : p ≤ 1000000000) (hn : n ≤ 1000000000) :
    Calls Tryd.prog 69 #[.pointer (some ⟨R, 0, none⟩), .int .i64 n] w (RetD R p 1 w (PickQ n)) := by
  obtain ⟨A, m, c, hB, hm, hp0, hby⟩ := h
  have HN := Lib.hid (Rd.next hB hm hp0 hby (PickQ n))
  have c0 := hB.cell
  have f0 := hB.frozen
  by_cases hn1 : n < 1
  · go_enter Tryd.func69, Tryd.ntmps69
    go_wp2_with fail
    go_ret
    exact HN.out _ _ (Kept.refl _) ⟨_, rfl, by omega, by omega⟩
  by_cases hm0 : m = 0
  · subst hm0
    go_enter Tryd.func69, Tryd.ntmps69
    go_wp2_with fail
    go_ret
    exact HN.out _ _ (Kept.refl _) ⟨_, rfl, by omega, by omega⟩
  obtain ⟨q, rfl⟩ := Int.eq_ofNat_of_zero_le hp0
  obtain ⟨b, o, rfl, hbR, hby⟩ := hby (by omega)
  have hother : ∀ k, (w.setCell ⟨R, 1, none⟩ (.int .i64 ((q : Int) + 1))).cell? ⟨b, k, none⟩ = w.cell? ⟨b, k, none⟩ := fun k => World.cell?_setCell_other _ _ _ _ (by intro e2; simp only [Addr.mk.injEq] at e2; omega)
  by_cases hq : q < m
  · obtain ⟨x, hx, hx0, hx1⟩ := hby q hq
    have hx' := (hother (o + q)).trans hx
    obtain ⟨y0, y1⟩ := emod_bd x n (by omega)
    have hn0 : n ≠ 0 := by omega
    clear hx hother hby
    go_enter Tryd.func69, Tryd.ntmps69
    go_wp2_with fail
    go_ret
    exact HN.out _ _ (Kept.refl _) ⟨_, rfl, y0, fun _ => y1⟩
  · obtain ⟨x, hx, hx0, hx1⟩ := hby (q % m) (Nat.mod_lt _ (by omega))
    obtain ⟨y, hy, hy0, hy1⟩ := hby ((q * 7 + 3) % m) (Nat.mod_lt _ (by omega))
    have hx' := (hother _).trans hx
    have hy' := (hother _).trans hy
    have hlt1 : q % m < m := Nat.mod_lt _ (by omega)
    have hlt2 : (q * 7 + 3) % m < m := Nat.mod_lt _ (by omega)
    have hd : q / m ≤ q := Nat.div_le_self _ _
    have t1 : (q : Int) % (m : Int) = ((q % m : Nat) : Int) := by simp
    have t2 : ((q : Int) * 7 + 3) % (m : Int) = (((q * 7 + 3) % m : Nat) : Int) := by simp
    have t3 : (q : Int) / (m : Int) = ((q / m : Nat) : Int) := by simp
    have t1' : (q : Int).tmod (m : Int) = ((q % m : Nat) : Int) := by rw [Int.tmod_eq_emod_of_nonneg (by omega)]; simp
    have t2' : ((q : Int) * 7 + 3).tmod (m : Int) = (((q * 7 + 3) % m : Nat) : Int) := by rw [Int.tmod_eq_emod_of_nonneg (by omega)]; simp
    have t3' : (q : Int).tdiv (m : Int) = ((q / m : Nat) : Int) := by rw [Int.tdiv_eq_ediv_of_nonneg (by omega)]; simp
    generalize q % m = u1 at *
    generalize (q * 7 + 3) % m = u2 at *
    generalize q / m = u3 at *
    have hi1 : (0 : Int) ≤ (u1 : Int) ∧ (u1 : Int) < (m : Int) := by omega
    have hi2 : (0 : Int) ≤ (u2 : Int) ∧ (u2 : Int) < (m : Int) := by omega
    have hw1 : IntKind.i64.wrap ((q : Int) * 7) = (q : Int) * 7 := IntWalk.i64_in _ (by omega)
    have hw2 : IntKind.i64.wrap ((q : Int) * 7 + 3) = (q : Int) * 7 + 3 := IntWalk.i64_in _ (by omega)
    have hw3 : IntKind.i64.wrap (x * 131) = x * 131 := IntWalk.i64_in _ (by omega)
    have hw4 : IntKind.i64.wrap (y * 1117) = y * 1117 := IntWalk.i64_in _ (by omega)
    have hw5 : IntKind.i64.wrap (x * 131 + y * 1117) = x * 131 + y * 1117 := IntWalk.i64_in _ (by omega)
    have hw6 : IntKind.i64.wrap ((q : Int) * 29) = (q : Int) * 29 := IntWalk.i64_in _ (by omega)
    have hw7 : IntKind.i64.wrap (x * 131 + y * 1117 + (q : Int) * 29) = x * 131 + y * 1117 + (q : Int) * 29 := IntWalk.i64_in _ (by omega)
    have hw8 : IntKind.i64.wrap ((u3 : Int) * 53) = (u3 : Int) * 53 := IntWalk.i64_in _ (by omega)
    have hw9 : IntKind.i64.wrap (x * 131 + y * 1117 + (q : Int) * 29 + (u3 : Int) * 53) = x * 131 + y * 1117 + (q : Int) * 29 + (u3 : Int) * 53 := IntWalk.i64_in _ (by omega)
    have hn0 : n ≠ 0 := by omega
    clear hx hy hother hby
    go_enter Tryd.func69, Tryd.ntmps69
    go_wp2_with fail
    have d0 := c0 0
    have d1 := (hB.set_ 1 (.int .i64 ((q : Int) + 1))).cell 0
    have HS : Hid (∀ w' : World, Kept (w.setCell ⟨R, 1, none⟩ (.int .i64 ((q : Int) + 1))) w' → (w'.cell? ⟨R, 0, none⟩ = some (.slice (some ⟨b, o, none⟩) m c) ∧ w'.cell? ⟨b, o + u1, none⟩ = some (.int .u8 x) ∧ w'.cell? ⟨b, o + u2, none⟩ = some (.int .u8 y))) :=
      fun w' hk => ⟨by rw [hk.at_ d1]; rfl, hk.at_ hx', hk.at_ hy'⟩
    clear hx' hy' c0 d0 d1
    go_region_held3 (fun w' => w'.cell? ⟨R, 0, none⟩ = some (.slice (some ⟨b, o, none⟩) m c) ∧ w'.cell? ⟨b, o + u1, none⟩ = some (.int .u8 x) ∧ w'.cell? ⟨b, o + u2, none⟩ = some (.int .u8 y))
      (first | exact HS.out _ (Kept.refl _).drew | assumption) (fail)
    have e1 : IntKind.i64.wrap x = x := IntWalk.i64_in _ (by omega)
    have e2 : IntKind.i64.wrap y = y := IntWalk.i64_in _ (by omega)
    have e3 : IntKind.i64.wrap (u3 : Int) = (u3 : Int) := IntWalk.i64_in _ (by omega)
    simp only [e1, e2, e3, hw3, hw4, hw5, hw7, hw8, hw9]
    obtain ⟨z, hz⟩ := Int.eq_ofNat_of_zero_le (show 0 ≤ x * 131 + y * 1117 + (q : Int) * 29 + (u3 : Int) * 53 by omega)
    have hz1 : (z : Int) ≤ 100000000000 := by omega
    rw [hz]
    clear hz hw1 hw2 hw3 hw4 hw5 hw6 hw7 hw8 hw9 e1 e2 e3 t1 t2 t3 t1' t2' t3' hi1 hi2
    have t4 : (z : Int) / 64 = ((z / 64 : Nat) : Int) := by simp
    have t4' : (z : Int).tdiv 64 = ((z / 64 : Nat) : Int) := by rw [Int.tdiv_eq_ediv_of_nonneg (by omega)]; simp
    have hv : z / 64 ≤ z := Nat.div_le_self _ _
    generalize z / 64 = v at *
    have hxor := i64_xor_nat z v (by omega) (by omega)
    have hxl : z ^^^ v < 2 ^ 40 := Nat.xor_lt_two_pow (by omega) (by omega)
    generalize z ^^^ v = zz at *
    obtain ⟨y0, y1⟩ := emod_bd (zz : Int) n (by omega)
    go_wp2_with fail
    go_ret
    exact HN.out _ _ (Kept.refl _).drew ⟨_, rfl, y0, fun _ => y1⟩

end Go.Proofs.YtjmpfemlihjibaaDoor
