/- Joined texts. No condition. -/
import Derived.Deep.RegionHeld3
import Derived.Deep.Cut
import Derived.StillTailTactics
import Derived.Test.YtphdojebdclonaaDoorQ3
import Derived.Test.YtphdojebdclonaaDoorQ4
import Derived.Test.YtphdojebdclonaaDoorQ7
/- Walks: what a draw reads. Walks: draws: the reader, small codes. Walks: draws: deeds. No condition. -/
namespace Go.Proofs.YtphdojebdclonaaDoor
set_option linter.unusedSimpArgs false
set_option linter.unusedVariables false
open Go.RowKit

/-- a reader at block R, behind p picks -/
def Rd (R : Nat) (w : World) (p : Int) : Prop :=
  ∃ A n c, Blk w R 124 #[.slice A n c, .int .i64 p] ∧ n ≤ 2000 ∧ 0 ≤ p ∧
    (0 < n → ∃ b o, A = some ⟨b, o, none⟩ ∧ b < R ∧ ∀ k, k < n → ∃ x, w.cell? ⟨b, o + k, none⟩ = some (.int .u8 x) ∧ 0 ≤ x ∧ x ≤ 255)
theorem Rd.lt {R : Nat} {w : World} {p : Int} (h : Rd R w p) : R < w.heap.size := by obtain ⟨A, n, c, h, _⟩ := h; exact h.lt
theorem Rd.p0 {R : Nat} {w : World} {p : Int} (h : Rd R w p) : 0 ≤ p := by obtain ⟨A, n, c, _, _, h, _⟩ := h; exact h
theorem Rd.keep {R : Nat} {w w' : World} {p : Int} (h : Rd R w p) (hk : Kept w w') : Rd R w' p := by
  obtain ⟨A, n, c, h1, h2, h3, h4⟩ := h
  refine ⟨A, n, c, h1.kept hk, h2, h3, fun hn => ?_⟩
  obtain ⟨b, o, e, h5, h6⟩ := h4 hn
  have hb : b < w.heap.size := Nat.lt_trans h5 h1.lt
  exact ⟨b, o, e, h5, fun k hk2 => by obtain ⟨x, h7, h8⟩ := h6 k hk2; exact ⟨x, by rw [hk.cell hb]; exact h7, h8⟩⟩

/-- what a call with the reader comes to -/
def RetD (R : Nat) (p K : Int) (w : World) (Q : Value → World → Prop) (e : Ending) (w' : World) : Prop :=
  ∃ v p', e = .returned v ∧ Rd R w' p' ∧ p ≤ p' ∧ p' ≤ p + K ∧ But R (R + 1) w w' ∧ Q v w'
def PickQ (n : Int) (v : Value) (_w : World) : Prop := ∃ x, v = .int .i64 x ∧ 0 ≤ x ∧ (1 ≤ n → x < n)

theorem tmod_bd (x n : Int) (h0 : 0 ≤ x) (h1 : 1 ≤ n) : 0 ≤ x.tmod n ∧ x.tmod n < n := by
  rw [Int.tmod_eq_emod_of_nonneg h0]
  exact ⟨Int.emod_nonneg _ (by omega), Int.emod_lt_of_pos _ (by omega)⟩
theorem emod_bd (x n : Int) (h1 : 1 ≤ n) : 0 ≤ x % n ∧ x % n < n := ⟨Int.emod_nonneg _ (by omega), Int.emod_lt_of_pos _ (by omega)⟩

theorem Rd.next {R : Nat} {w : World} {A : Option Addr} {m c : Nat} {p : Int} (hB : Blk w R 124 #[.slice A m c, .int .i64 p]) (hm : m ≤ 2000) (hp : 0 ≤ p)
    (hby : 0 < m → ∃ b o, A = some ⟨b, o, none⟩ ∧ b < R ∧ ∀ k, k < m → ∃ x, w.cell? ⟨b, o + k, none⟩ = some (.int .u8 x) ∧ 0 ≤ x ∧ x ≤ 255) (Q : Value → World → Prop) (v : Value)
    (w' : World) (hk : Kept (w.setCell ⟨R, 1, none⟩ (.int .i64 (p + 1))) w') (hQ : Q v w') : RetD R p 1 w Q (.returned v) w' := by
  refine ⟨v, p + 1, rfl, Rd.keep ⟨A, m, c, by have := hB.set_ 1 (.int .i64 (p + 1)); simpa using this, hm, by omega, fun hn => ?_⟩ hk, by omega, Int.le_refl _, ((But.refl w).set (x := p) (by rw [hB.cell]; rfl) (Nat.le_refl R) (Nat.lt_succ_self R) _).trans (But.of_kept hk), hQ⟩
  obtain ⟨b, o, e, h1, h2⟩ := hby hn
  refine ⟨b, o, e, h1, fun k hk => ?_⟩
  obtain ⟨x, h3, h4⟩ := h2 k hk
  exact ⟨x, by rw [World.cell?_setCell_other _ _ _ _ (by intro e2; simp only [Addr.mk.injEq] at e2; omega)]; exact h3, h4⟩

set_option maxHeartbeats 1000000 in
set_option maxRecDepth 100000 in
theorem c_pick (R : Nat) (n : Int) (p : Int) (w : World) (h : Rd R w p) (hp : p ≤ 1000000000) (hn : n ≤ 1000000000) :
    Calls Tryd.prog 42 #[.pointer (some ⟨R, 0, none⟩), .int .i64 n] w (RetD R p 1 w (PickQ n)) := by
  obtain ⟨A, m, c, hB, hm, hp0, hby⟩ := h
  have HN := Lib.hid (Rd.next hB hm hp0 hby (PickQ n))
  have c0 := hB.cell
  have f0 := hB.frozen
  by_cases hn1 : n < 1
  · go_enter Tryd.func42, Tryd.ntmps42
    go_wp2_with fail
    go_ret
    exact HN.out _ _ (Kept.refl _) ⟨_, rfl, by omega, by omega⟩
  by_cases hm0 : m = 0
  · subst hm0
    go_enter Tryd.func42, Tryd.ntmps42
    go_wp2_with fail
    go_ret
    exact HN.out _ _ (Kept.refl _) ⟨_, rfl, by omega, by omega⟩
  obtain ⟨q, rfl⟩ := Int.eq_ofNat_of_zero_le hp0
  obtain ⟨b, o, rfl, hbR, hby⟩ := hby (by omega)
  have hother : ∀ k, (w.setCell ⟨R, 1, none⟩ (.int .i64 ((q : Int) + 1))).cell? ⟨b, k, none⟩ = w.cell? ⟨b, k, none⟩ := fun k => World.cell?_setCell_other _ _ _ _ (by intro e2; simp only [Addr.mk.injEq] at e2; omega)
  by_cases hq : q < m
  · obtain ⟨x, hx, hx0, hx1⟩ := hby q hq
    have hx' := (hother (o + q)).trans hx
    obtain ⟨y0, y1⟩ := emod_bd x n (by omega)
    have hn0 : n ≠ 0 := by omega
    clear hx hother hby
    go_enter Tryd.func42, Tryd.ntmps42
    go_wp2_with fail
    go_ret
    exact HN.out _ _ (Kept.refl _) ⟨_, rfl, y0, fun _ => y1⟩
  · obtain ⟨x, hx, hx0, hx1⟩ := hby (q % m) (Nat.mod_lt _ (by omega))
    obtain ⟨y, hy, hy0, hy1⟩ := hby ((q * 7 + 3) % m) (Nat.mod_lt _ (by omega))
    have hx' := (hother _).trans hx
    have hy' := (hother _).trans hy
    have hlt1 : q % m < m := Nat.mod_lt _ (by omega)
    have hlt2 : (q * 7 + 3) % m < m := Nat.mod_lt _ (by omega)
    have hd : q / m ≤ q := Nat.div_le_self _ _
    have t1 : (q : Int) % (m : Int) = ((q % m : Nat) : Int) := by simp
    have t2 : ((q : Int) * 7 + 3) % (m : Int) = (((q * 7 + 3) % m : Nat) : Int) := by simp
    have t3 : (q : Int) / (m : Int) = ((q / m : Nat) : Int) := by simp
    have t1' : (q : Int).tmod (m : Int) = ((q % m : Nat) : Int) := by rw [Int.tmod_eq_emod_of_nonneg (by omega)]; simp
    have t2' : ((q : Int) * 7 + 3).tmod (m : Int) = (((q * 7 + 3) % m : Nat) : Int) := by rw [Int.tmod_eq_emod_of_nonneg (by omega)]; simp
    have t3' : (q : Int).tdiv (m : Int) = ((q / m : Nat) : Int) := by rw [Int.tdiv_eq_ediv_of_nonneg (by omega)]; simp
    generalize q % m = u1 at *
    generalize (q * 7 + 3) % m = u2 at *
    generalize q / m = u3 at *
    have hi1 : (0 : Int) ≤ (u1 : Int) ∧ (u1 : Int) < (m : Int) := by omega
    have hi2 : (0 : Int) ≤ (u2 : Int) ∧ (u2 : Int) < (m : Int) := by omega
    have hw1 : IntKind.i64.wrap ((q : Int) * 7) = (q : Int) * 7 := IntWalk.i64_in _ (by omega)
    have hw2 : IntKind.i64.wrap ((q : Int) * 7 + 3) = (q : Int) * 7 + 3 := IntWalk.i64_in _ (by omega)
    have hw3 : IntKind.i64.wrap (x * 131) = x * 131 := IntWalk.i64_in _ (by omega)
    have hw4 : IntKind.i64.wrap (y * 1117) = y * 1117 := IntWalk.i64_in _ (by omega)
    have hw5 : IntKind.i64.wrap (x * 131 + y * 1117) = x * 131 + y * 1117 := IntWalk.i64_in _ (by omega)
    have hw6 : IntKind.i64.wrap ((q : Int) * 29) = (q : Int) * 29 := IntWalk.i64_in _ (by omega)
    have hw7 : IntKind.i64.wrap (x * 131 + y * 1117 + (q : Int) * 29) = x * 131 + y * 1117 + (q : Int) * 29 := IntWalk.i64_in _ (by omega)
    have hw8 : IntKind.i64.wrap ((u3 : Int) * 53) = (u3 : Int) * 53 := IntWalk.i64_in _ (by omega)
    have hw9 : IntKind.i64.wrap (x * 131 + y * 1117 + (q : Int) * 29 + (u3 : Int) * 53) = x * 131 + y * 1117 + (q : Int) * 29 + (u3 : Int) * 53 := IntWalk.i64_in _ (by omega)
    have hn0 : n ≠ 0 := by omega
    clear hx hy hother hby
    go_enter Tryd.func42, Tryd.ntmps42
    go_wp2_with fail
    have d0 := c0 0
    have d1 := (hB.set_ 1 (.int .i64 ((q : Int) + 1))).cell 0
    have HS : Hid (∀ w' : World, Kept (w.setCell ⟨R, 1, none⟩ (.int .i64 ((q : Int) + 1))) w' → (w'.cell? ⟨R, 0, none⟩ = some (.slice (some ⟨b, o, none⟩) m c) ∧ w'.cell? ⟨b, o + u1, none⟩ = some (.int .u8 x) ∧ w'.cell? ⟨b, o + u2, none⟩ = some (.int .u8 y))) :=
      fun w' hk => ⟨by rw [hk.at_ d1]; rfl, hk.at_ hx', hk.at_ hy'⟩
    clear hx' hy' c0 d0 d1
    go_region_held3 (fun w' => w'.cell? ⟨R, 0, none⟩ = some (.slice (some ⟨b, o, none⟩) m c) ∧ w'.cell? ⟨b, o + u1, none⟩ = some (.int .u8 x) ∧ w'.cell? ⟨b, o + u2, none⟩ = some (.int .u8 y))
      (first | exact HS.out _ (Kept.refl _).drew | assumption) (fail)
    have e1 : IntKind.i64.wrap x = x := IntWalk.i64_in _ (by omega)
    have e2 : IntKind.i64.wrap y = y := IntWalk.i64_in _ (by omega)
    have e3 : IntKind.i64.wrap (u3 : Int) = (u3 : Int) := IntWalk.i64_in _ (by omega)
    simp only [e1, e2, e3, hw3, hw4, hw5, hw7, hw8, hw9]
    obtain ⟨z, hz⟩ := Int.eq_ofNat_of_zero_le (show 0 ≤ x * 131 + y * 1117 + (q : Int) * 29 + (u3 : Int) * 53 by omega)
    have hz1 : (z : Int) ≤ 100000000000 := by omega
    rw [hz]
    clear hz hw1 hw2 hw3 hw4 hw5 hw6 hw7 hw8 hw9 e1 e2 e3 t1 t2 t3 t1' t2' t3' hi1 hi2
    have t4 : (z : Int) / 64 = ((z / 64 : Nat) : Int) := by simp
    have t4' : (z : Int).tdiv 64 = ((z / 64 : Nat) : Int) := by rw [Int.tdiv_eq_ediv_of_nonneg (by omega)]; simp
    have hv : z / 64 ≤ z := Nat.div_le_self _ _
    generalize z / 64 = v at *
    have hxor := i64_xor_nat z v (by omega) (by omega)
    have hxl : z ^^^ v < 2 ^ 40 := Nat.xor_lt_two_pow (by omega) (by omega)
    generalize z ^^^ v = zz at *
    obtain ⟨y0, y1⟩ := emod_bd (zz : Int) n (by omega)
    go_wp2_with fail
    go_ret
    exact HN.out _ _ (Kept.refl _).drew ⟨_, rfl, y0, fun _ => y1⟩

end Go.Proofs.YtphdojebdclonaaDoor

namespace Go.Proofs.YtphdojebdclonaaDoor
set_option linter.unusedSimpArgs false
set_option linter.unusedVariables false
open Go.RowKit

def BytesV (w : World) (A : Option Addr) (n : Nat) : Prop :=
  n ≤ maxLen ∧ (0 < n → ∃ b o, A = some ⟨b, o, none⟩ ∧ b < w.heap.size ∧ ∀ k, k < n → ∃ x, w.cell? ⟨b, o + k, none⟩ = some (.int .u8 x) ∧ 0 ≤ x ∧ x ≤ 255)
def OpenQ (w : World) (v : Value) (w' : World) : Prop := ∃ R, v = .pointer (some ⟨R, 0, none⟩) ∧ w.heap.size ≤ R ∧ Rd R w' 0

theorem Rd.new {w : World} {A : Option Addr} {n c m : Nat} (h : BytesV w A n) (hm : m ≤ n) (hm2 : m ≤ 2000) : Rd w.heap.size (w.alloc (.cells #[.slice A m c, .int .i64 0] 124)) 0 := by
  refine ⟨A, m, c, Blk.new _ _ _, hm2, Int.le_refl 0, fun h0 => ?_⟩
  obtain ⟨b, o, e, hb, hc⟩ := h.2 (by omega)
  exact ⟨b, o, e, hb, fun k hk => by obtain ⟨x, h1, h2⟩ := hc k (by omega); exact ⟨x, by rw [World.cell?_alloc_lt _ _ _ hb]; exact h1, h2⟩⟩

theorem c_l20Open (A : Option Addr) (n c : Nat) (w : World) (h : BytesV w A n) (hnc : n ≤ c) (_hc : c ≤ maxLen) : Calls Tryd.prog 39 #[.slice A n c] w (RetS (OpenQ w) w) := by
  by_cases hn : n ≤ 2000
  · go_enter Tryd.func39, Tryd.ntmps39
    go_wp2_with fail
    go_ret
    exact ⟨_, rfl, ⟨_, rfl, Nat.le_refl _, Rd.new h (Nat.le_refl n) hn⟩, (Kept.refl w).alloc _⟩
  · obtain ⟨b, o, rfl, hb, _⟩ := h.2 (by omega)
    go_enter Tryd.func39, Tryd.ntmps39
    go_wp2_with fail
    go_ret
    exact ⟨_, rfl, ⟨_, rfl, Nat.le_refl _, Rd.new h (m := 2000) (by omega) (by omega)⟩, (Kept.refl w).alloc _⟩

def BoolQ (v : Value) (_w : World) : Prop := ∃ b, v = .bool b
theorem c_odd (R : Nat) (n : Int) (p : Int) (w : World) (h : Rd R w p) (hp : p ≤ 1000000000) (hn : n ≤ 1000000000) (h0 : 0 ≤ n) :
    Calls Tryd.prog 43 #[.pointer (some ⟨R, 0, none⟩), .int .i64 n] w (RetD R p 1 w BoolQ) := by
  by_cases hn0 : 0 < n
  · go_enter Tryd.func43, Tryd.ntmps43
    go_wp2_with fail
    refine (c_pick R n p w h hp hn).mono ?_; rintro e w2 ⟨v, p', rfl, hR, hp1, hp2, hb, x, rfl, hx0, hx1⟩
    go_wp2_with fail
    go_ret
    exact ⟨_, p', rfl, hR, hp1, hp2, hb, _, rfl⟩
  · go_enter Tryd.func43, Tryd.ntmps43
    go_wp2_with fail
    go_ret
    exact ⟨_, p, rfl, h, Int.le_refl _, by omega, But.refl w, _, rfl⟩

section
variable {B C : Nat} {w wr w2 : World}
theorem But.size (h : But B C w wr) : w.heap.size ≤ wr.heap.size := h.2.2.1
theorem But.of_old (h : But B C w wr) (hk : ∀ a, a.heap.size ≤ w.heap.size → Kept a wr → Kept a w2) (hs : wr.heap.size ≤ w2.heap.size) (he : ∀ b, b < w.heap.size → w2.heap[b]? = wr.heap[b]?) : But B C w w2 := by
  refine ⟨fun a ha hB => hk a ha.size (h.1 a ha hB), fun b hb hr => (he b hb).trans (h.2.1 b hb hr), Nat.le_trans h.2.2.1 hs, fun p v hv => ?_, fun p hp => ?_⟩
  · have hlt := World.block_lt_of_cell? _ _ hv
    rw [World.cell?_of_block (he _ hlt)]
    exact h.2.2.2.1 p v hv
  · rw [← h.2.2.2.2 p hp]
    unfold World.frozen?
    rw [he _ hp]
theorem But.grown {row : Option Nat} (h : But B C w wr) (hg : wr.grownBy w2 row) (hr : ∀ k, row = some k → w.heap.size ≤ k) : But B C w w2 :=
  h.of_old (fun a ha hk => hk.grown hg (fun k e => Nat.le_trans ha (hr k e))) hg.size (fun b hb => hg.block b (Nat.lt_of_lt_of_le hb h.size) (fun e => by have := hr b e.symm; omega))
theorem But.setNew (h : But B C w wr) {p : Addr} (hp : w.heap.size ≤ p.block) (v : Value) : But B C w (wr.setCell p v) :=
  h.of_old (fun a ha hk => hk.setCell (Nat.le_trans ha hp) v) (by simp) (fun b hb => Below.heap_setCell wr p v b (by omega))
theorem But.kept_ (h : But B C w wr) (hk : Kept wr w2) : But B C w w2 := h.trans (But.of_kept hk)
theorem own_but {X : Nat} {T : TypeId} {sz n : Nat} {v : Value} {xs : List Value} (h : w.ownsRow X T sz v n xs) (hb : But B C w w2) (hX : C ≤ X) : w2.ownsRow X T sz v n xs := by
  refine ⟨h.1, ?_⟩
  rcases h.2 with hn | ⟨g, cap, cur, hv, hg, hh, rest⟩
  · exact .inl hn
  · refine .inr ⟨g, cap, cur, hv, hg, ?_, rest⟩
    have hlt : g < w.heap.size := by
      rcases Nat.lt_or_ge g w.heap.size with h | h
      · exact h
      · rw [Array.getElem?_eq_none h] at hh; cases hh
    exact (hb.2.1 g hlt (.inr (by omega))).trans hh
end
theorem ownsRow_mono {X Y : Nat} {T : TypeId} {sz n : Nat} {v : Value} {w : World} {xs : List Value} (h : w.ownsRow Y T sz v n xs) (hX : X ≤ Y) : w.ownsRow X T sz v n xs := by
  refine ⟨h.1, ?_⟩
  rcases h.2 with hn | ⟨g, cap, cur, hv, hg, rest⟩
  · exact .inl hn
  · exact .inr ⟨g, cap, cur, hv, Nat.le_trans hX hg, rest⟩
theorem list_new (w : World) (xs : List Value) (T : TypeId) : ∀ (j : Nat) (u : Value), xs[j]? = some u → (w.alloc (.cells xs.toArray T)).cell? ((⟨w.heap.size, 0, none⟩ : Addr).add j) = some u := by
  intro j u hu
  have : (⟨w.heap.size, 0, none⟩ : Addr).add j = ⟨w.heap.size, j, none⟩ := by unfold Addr.add; split <;> simp_all
  rw [this, World.cell?_alloc_new]
  simpa using hu
theorem own_new {X : Nat} (w : World) (xs : List Value) (T : TypeId) (hX : X ≤ w.heap.size) (hm : xs.length ≤ maxLen) : (w.alloc (.cells xs.toArray T)).ownsRow X T 1 (.slice (some ⟨w.heap.size, 0, none⟩) xs.length xs.length) xs.length xs :=
  ⟨by simp, .inr ⟨w.heap.size, xs.length, xs.toArray, rfl, hX, heap_alloc_last w _, Nat.le_refl _, hm, by simp, by simp⟩⟩

/-- a small row of integers that a draw made -/
def RowQ (X : Nat) (v : Value) (w : World) : Prop := ∃ (A : Option Addr) (n c : Nat) (l : List Int), v = .slice A n c ∧ n ≤ 64 ∧ w.ownsRow X 3 1 (.slice A n c) n (l.map (Value.int .i64)) ∧ ∀ x ∈ l, Sp.inI x

theorem Rd.setFar {R : Nat} {w : World} {p : Int} (h : Rd R w p) {a : Addr} (ha : R < a.block) (v : Value) : Rd R (w.setCell a v) p := by
  obtain ⟨A, n, c, h1, h2, h3, h4⟩ := h
  refine ⟨A, n, c, h1.far (by omega) v, h2, h3, fun hn => ?_⟩
  obtain ⟨b, o, e, h5, h6⟩ := h4 hn
  exact ⟨b, o, e, h5, fun k hk2 => by obtain ⟨x, h7, h8⟩ := h6 k hk2; exact ⟨x, by rw [World.cell?_setCell_other _ _ _ _ (by intro e2; subst e2; simp at ha; omega)]; exact h7, h8⟩⟩
theorem Rd.grown {R : Nat} {w w' : World} {p : Int} (h : Rd R w p) {row : Option Nat} (hg : w.grownBy w' row) (hr : ∀ k, row = some k → R < k) : Rd R w' p := by
  obtain ⟨A, n, c, h1, h2, h3, h4⟩ := h
  refine ⟨A, n, c, h1.grown hg (fun e => by have := hr R e.symm; omega), h2, h3, fun hn => ?_⟩
  obtain ⟨b, o, e, h5, h6⟩ := h4 hn
  have hb : b < w.heap.size := Nat.lt_trans h5 h1.lt
  exact ⟨b, o, e, h5, fun k hk2 => by obtain ⟨x, h7, h8⟩ := h6 k hk2; exact ⟨x, by rw [World.cell?_of_block (a := ⟨b, o + k, none⟩) (hg.block b hb (fun e2 => by have := hr b e2.symm; omega))]; exact h7, h8⟩⟩

/-- a row that grows, while the reader reads -/
def LSt (R : Nat) (w : World) (p K : Int) (M : Nat) (v : Value) (w' : World) : Prop :=
  ∃ (A : Option Addr) (n c : Nat) (l : List Int) (p' : Int), v = .slice A n c ∧ 1 ≤ n ∧ n ≤ M ∧ w'.ownsRow w.heap.size 3 1 (.slice A n c) n (l.map (Value.int .i64)) ∧ (∀ x ∈ l, Sp.inI x) ∧ Rd R w' p' ∧ p ≤ p' ∧ p' ≤ p + K ∧ But R (R + 1) w w'

set_option maxHeartbeats 1000000 in
theorem c_l20Leaf (R : Nat) (p : Int) (w : World) (h : Rd R w p) (hp : p ≤ 990000000) : Calls Tryd.prog 119 #[.pointer (some ⟨R, 0, none⟩)] w (RetD R p 7 w (RowQ w.heap.size)) := by
  obtain ⟨i0, hi0, hz0, hz1, hz2⟩ := info_parts info_int
  have HI := Lib.hid (And.intro hi0 (And.intro hz0 (And.intro hz1 hz2)))
  clear hi0 hz0 hz1 hz2
  have hRlt := h.lt
  go_enter Tryd.func119, Tryd.ntmps119
  go_wp2_with fail
  refine (c_pick R 5 p w h (by omega) (by omega)).mono ?_; rintro e w2 ⟨v, p2, rfl, hR2, hp1, hp2, hb2, x, rfl, hx0, hx1⟩
  have hsz2 := hb2.size
  have hown := own_new (X := w.heap.size) w2 [.int .i64 x] 3 hsz2 (by simp [maxLen])
  have hb3 := hb2.kept_ ((Kept.refl w2).alloc (.cells #[.int .i64 x] 3))
  have hR3 := hR2.keep ((Kept.refl w2).alloc (.cells #[.int .i64 x] 3))
  clear h hb2 hR2
  go_upto_if 9 with fail
  refine (c_pick R 9 p2 _ hR3 (by omega) (by omega)).mono ?_; rintro e w4 ⟨v, p4, rfl, hR4, hp3, hp4, hb4, y, rfl, hy0, hy1⟩
  have hown4 := own_but hown hb4 hRlt
  have hb5 := hb3.trans hb4
  have hlt4 := hb4.size
  simp only [World.size_alloc] at hlt4
  clear hown hb3 hb4 hR3
  go_upto_if 9 with fail
  go_cut [3] from 4 (fun v w' => LSt R w p 3 1 v w')
  case first =>
    by_cases hy : y = 0
    · subst hy
      go_wp2_with fail
      refine (c_pick R 2 p4 _ hR4 (by omega) (by omega)).mono ?_; rintro e w6 ⟨v, p6, rfl, hR6, hp5, hp6, hb6, z, rfl, hz0, hz1⟩
      have hown6 := own_but hown4 hb6 hRlt
      have hb7 := hb5.trans hb6
      obtain ⟨_, g, e, hg, hgl, _, hfr⟩ := own_some hown6 (by simp)
      simp only [Option.some.injEq, Addr.mk.injEq, and_true] at e
      subst e
      have hce : w6.cell? ⟨w2.heap.size, 0, none⟩ = some (.int .i64 x) := own_cell hown6 rfl
      have hf0 := hfr 0
      have hst := (hown6.stored 0 (.int .i64 (5 + z))).1
      clear hown6 hown4 hb5 hR4 hb6 hfr
      go_wp2_with fail
      go_meet
      case rel =>
        exact ⟨_, 1, _, [5 + z], p6, rfl, by omega, by omega, hst, fun x hx => by simp at hx; subst hx; unfold Sp.inI; omega, Rd.setFar hR6 (show R < w2.heap.size by omega) _, by omega, by omega, hb7.setNew hsz2 _⟩
    · go_wp2_with fail
      go_meet
      case rel =>
        exact ⟨_, 1, _, [x], p4, rfl, by omega, by omega, hown4, fun x hx => by simp at hx; subst hx; unfold Sp.inI; omega, hR4, by omega, by omega, hb5⟩
  case rest =>
    clear hown4 hb5 hR4 hlt4 hsz2 hp1 hp2 hp3 hp4 hx0 hx1 hy0 hy1
    obtain ⟨A, n, c, l, p5, rfl, hn1, hn2, hown, hin, hR, q1, q2, hb⟩ := hcut
    go_upto_if 17 with fail
    refine (c_pick R 3 p5 _ hR (by omega) (by omega)).mono ?_; rintro e w6 ⟨v, p6, rfl, hR6, hp5, hp6, hb6, y, rfl, hy0, hy1⟩
    replace hown := own_but hown hb6 hRlt
    replace hb := hb.trans hb6
    clear hb6 hR
    go_upto_if 17 with fail
    go_cut [3] from 4 (fun v w' => LSt R w p 6 3 v w')
    case first =>
      by_cases hy : y = 0
      · subst hy
        go_wp2_with fail
        refine (c_pick R 5 p6 _ hR6 (by omega) (by omega)).mono ?_; rintro e w7 ⟨v, p7, rfl, hR7, hp7, hp7', hb7, z, rfl, hz0, hz1⟩
        replace hown := own_but hown hb7 hRlt
        replace hb := hb.trans hb7
        clear hb7 hR6
        go_wp2_with fail
        refine (c_pick R 2 p7 _ hR7 (by omega) (by omega)).mono ?_; rintro e w8 ⟨v, p8, rfl, hR8, hp8, hp8', hb8, u, rfl, hu0, hu1⟩
        replace hown := own_but hown hb8 hRlt
        replace hb := hb.trans hb8
        clear hb8 hR7
        have hs8 := hb.size
        have hbk := hown.lt
        go_wp2_with (first | (at_builtin; refine wpList_append_own _ rfl (.tmp 18) (.tmp 24) 23 rfl (w.heap.size) 3 i0 (.int .i64 0) 1 8 Tryd.underlying23 HI.out.1 HI.out.2.1 HI.out.2.2.1 HI.out.2.2.2 rfl (by decide) (.slice A n c) n _ rfl (hown.alloc _) ⟨w8.heap.size, 0, none⟩ 2 2 [.int .i64 (z), .int .i64 (8 + u)] rfl rfl (list_new _ _ _) (by simp [Value.oneCell']) (by unfold maxLen; omega) (by omega) (by simp; omega) ?_; intro v' wapp hown2 hg2 _))
        obtain ⟨A3, c3, rfl⟩ := own_form hown2
        go_meet
        case rel =>
          refine ⟨A3, n + 2, c3, l ++ [z, 8 + u], p8, rfl, by omega, by omega, by rw [List.map_append]; exact hown2, fun x hx => ?_, (hR8.keep ((Kept.refl w8).alloc _)).grown hg2 (fun k e => by have := (hbk k e).1; omega), by omega, by omega, (hb.kept_ ((Kept.refl w8).alloc _)).grown hg2 (fun k e => (hbk k e).1)⟩
          rcases List.mem_append.1 hx with hx | hx
          · exact hin x hx
          · simp at hx; unfold Sp.inI; omega
      · go_wp2_with fail
        go_meet
        case rel => exact ⟨A, n, c, l, p6, rfl, hn1, by omega, hown, hin, hR6, by omega, by omega, hb⟩
    case rest =>
      clear hown hb hR6 hp5 hp6 hy0 hy1 hin q1 q2
      obtain ⟨A, n, c, l, p7, rfl, hn1, hn2, hown, hin, hR, q1, q2, hb⟩ := hcut
      go_wp2_with fail
      refine (c_pick R 4 p7 _ hR (by omega) (by omega)).mono ?_; rintro e w6 ⟨v, p8, rfl, hR6, hp5, hp6, hb6, y, rfl, hy0, hy1⟩
      replace hown := own_but hown hb6 hRlt
      replace hb := hb.trans hb6
      clear hb6 hR
      have hs8 := hb.size
      have hbk := hown.lt
      by_cases hy : y = 0
      · subst hy
        go_wp2_with (first | (at_builtin; refine wpList_append_own _ rfl (.tmp 29) (.tmp 30) 23 rfl (w.heap.size) 3 i0 (.int .i64 0) 1 8 Tryd.underlying23 HI.out.1 HI.out.2.1 HI.out.2.2.1 HI.out.2.2.2 rfl (by decide) (.slice A n c) n _ rfl (hown.alloc _) ⟨w6.heap.size, 0, none⟩ 1 1 [.int .i64 (7)] rfl rfl (one_new _ _ _) (by simp [Value.oneCell']) (by unfold maxLen; omega) (by omega) (by simp; omega) ?_; intro v' wapp hown2 hg2 _))
        obtain ⟨A3, c3, rfl⟩ := own_form hown2
        go_wp2_with fail
        go_ret
        refine ⟨_, p8, rfl, (hR6.keep ((Kept.refl w6).alloc _)).grown hg2 (fun k e => by have := (hbk k e).1; omega), by omega, by omega, (hb.kept_ ((Kept.refl w6).alloc _)).grown hg2 (fun k e => (hbk k e).1), A3, n + 1, c3, l ++ [7], rfl, by omega, by rw [List.map_append]; exact hown2, fun x hx => ?_⟩
        rcases List.mem_append.1 hx with hx | hx
        · exact hin x hx
        · simp at hx; subst hx; unfold Sp.inI; omega
      · go_wp2_with fail
        go_ret
        exact ⟨_, p8, rfl, hR6, by omega, by omega, hb, A, n, c, l, rfl, by omega, hown, hin⟩

end Go.Proofs.YtphdojebdclonaaDoor

namespace Go.Proofs.YtphdojebdclonaaDoor
set_option linter.unusedSimpArgs false
set_option linter.unusedVariables false
open Go.RowKit

theorem inI_small {x : Int} (h0 : -100 ≤ x) (h1 : x ≤ 1000000000) : Sp.inI x := by unfold Sp.inI; omega
theorem rowQ_new {w : World} {X : Nat} (l : List Int) (hX : X ≤ w.heap.size) (hl : l.length ≤ 64) (hi : ∀ x ∈ l, Sp.inI x) :
    RowQ X (.slice (some ⟨w.heap.size, 0, none⟩) l.length l.length) (w.alloc (.cells (l.map (Value.int .i64)).toArray 3)) := by
  have := own_new (X := X) w (l.map (Value.int .i64)) 3 hX (by simp [maxLen]; omega)
  rw [List.length_map] at this
  exact ⟨_, _, _, l, rfl, hl, this, hi⟩

theorem c_l20Need (R : Nat) (p : Int) (w : World) (h : Rd R w p) (hp : p ≤ 980000000) : Calls Tryd.prog 127 #[.pointer (some ⟨R, 0, none⟩)] w (RetD R p 8 w (RowQ w.heap.size)) := by
  have hRlt := h.lt
  go_enter Tryd.func127, Tryd.ntmps127
  go_wp2_with fail
  refine (c_pick R 4 p w h (by omega) (by omega)).mono ?_; rintro e w2 ⟨v, p2, rfl, hR2, hp1, hp2, hb2, x, rfl, hx0, hx1⟩
  have hsz := hb2.size
  by_cases e0 : x = 0
  · subst e0
    go_wp2_with fail
    go_ret
    exact ⟨_, p2, rfl, hR2.keep ((Kept.refl w2).alloc _), by omega, by omega, hb2.kept_ ((Kept.refl w2).alloc _), rowQ_new [5] hsz (by simp) (fun x hx => by simp at hx; subst hx; exact inI_small (by omega) (by omega))⟩
  by_cases e1 : x = 1
  · subst e1
    go_wp2_with fail
    refine (c_pick R 5 p2 w2 hR2 (by omega) (by omega)).mono ?_; rintro e w3 ⟨v, p3, rfl, hR3, hp3, hp3', hb3, y, rfl, hy0, hy1⟩
    have hsz3 := hb3.size
    go_wp2_with fail
    go_ret
    exact ⟨_, p3, rfl, hR3.keep ((Kept.refl w3).alloc _), by omega, by omega, (hb2.trans hb3).kept_ ((Kept.refl w3).alloc _), rowQ_new [y] (by omega) (by simp) (fun x hx => by simp at hx; subst hx; exact inI_small (by omega) (by omega))⟩
  by_cases e2 : x = 2
  · subst e2
    go_wp2_with fail
    refine (c_pick R 5 p2 w2 hR2 (by omega) (by omega)).mono ?_; rintro e w3 ⟨v, p3, rfl, hR3, hp3, hp3', hb3, y, rfl, hy0, hy1⟩
    have hsz3 := hb3.size
    go_wp2_with fail
    go_ret
    exact ⟨_, p3, rfl, hR3.keep ((Kept.refl w3).alloc _), by omega, by omega, (hb2.trans hb3).kept_ ((Kept.refl w3).alloc _), rowQ_new [y, 7] (by omega) (by simp) (fun x hx => by simp at hx; rcases hx with rfl | rfl <;> exact inI_small (by omega) (by omega))⟩
  · go_wp2_with fail
    refine (c_l20Leaf R p2 w2 hR2 (by omega)).mono ?_; rintro e w3 ⟨v, p3, rfl, hR3, hp3, hp3', hb3, A, n, c, l, rfl, hn, hown, hin⟩
    go_wp2_with fail
    go_ret
    exact ⟨_, p3, rfl, hR3, by omega, by omega, hb2.trans hb3, A, n, c, l, rfl, hn, ownsRow_mono hown hsz, hin⟩

theorem p2_zero : p2 0 = 1 := by rw [p2_nat]; rfl
theorem p2_five : p2 5 = 32 := by rw [p2_nat]; rfl
theorem p2_succ (k : Nat) : p2 (k + 1) = p2 k + p2 k := by
  rw [p2_nat, p2_nat, Nat.pow_succ]
  omega

/-- a deed that a draw made -/
def DeedQ (X : Nat) (v : Value) (w : World) : Prop :=
  ∃ (A : Option Addr) (n c : Nat) (l : List Int) (on off flip : Int), v = .agg #[.slice A n c, .int .i64 on, .int .i64 off, .int .i64 flip] ∧ n ≤ 64 ∧ w.ownsRow X 3 1 (.slice A n c) n (l.map (Value.int .i64)) ∧ (∀ x ∈ l, Sp.inI x) ∧
    (-1 ≤ on ∧ on ≤ 32) ∧ (-1 ≤ off ∧ off ≤ 32) ∧ (-1 ≤ flip ∧ flip ≤ 32)

/-- the draw's deed, under way -/
def DSt (R : Nat) (w : World) (p K : Int) (E : Nat) (m : Int) (w' : World) : Prop :=
  ∃ (A : Option Addr) (n c : Nat) (l : List Int) (on off flip p' : Int), Blk w' E 72 #[.slice A n c, .int .i64 on, .int .i64 off, .int .i64 flip] ∧ n ≤ 64 ∧ w'.ownsRow w.heap.size 3 1 (.slice A n c) n (l.map (Value.int .i64)) ∧ (∀ x ∈ l, Sp.inI x) ∧
    (-1 ≤ on ∧ on < m) ∧ (-1 ≤ off ∧ off < m) ∧ (-1 ≤ flip ∧ flip < m) ∧ Rd R w' p' ∧ p ≤ p' ∧ p' ≤ p + K ∧ But R (R + 1) w w' ∧
    Blk w' w.heap.size 72 #[.slice none 0 0, .int .i64 0, .int .i64 0, .int .i64 0]

set_option maxHeartbeats 1000000 in
theorem own_far {D n X : Nat} {w5 : World} {cs : Array Value} {v : Value} {xs : List Value} (hB : Blk w5 D 72 cs) (ho : w5.ownsRow X 3 1 v n xs) (i : Nat) (u : Value) : (w5.setCell ⟨D, i, none⟩ u).ownsRow X 3 1 v n xs := by
  refine ⟨ho.1, ?_⟩
  rcases ho.2 with hn | ⟨g, cap, cur, hv, hg, hh, rest⟩
  · exact .inl hn
  · refine .inr ⟨g, cap, cur, hv, hg, ?_, rest⟩
    have hne : g ≠ D := by
      rintro rfl
      unfold Blk at hB
      rw [hh] at hB
      simp at hB
    exact (Below.heap_setCell w5 _ u g hne).trans hh

theorem deed_put {R E n : Nat} {w w4 w5 : World} {cs cs0 : Array Value} {v : Value} {xs : List Value} {p4 : Int} (hBE : Blk w4 E 72 cs) (hown : w4.ownsRow w.heap.size 3 1 v n xs) (hR : Rd R w4 p4) (hb : But R (R + 1) w w4)
    (hB0 : Blk w4 w.heap.size 72 cs0) (hRw : R < w.heap.size) (hE : w.heap.size < E) (hk : Kept w4 w5) (i : Nat) (u : Value) :
    Blk (w5.setCell ⟨E, i, none⟩ u) E 72 (cs.setIfInBounds i u) ∧ (w5.setCell ⟨E, i, none⟩ u).ownsRow w.heap.size 3 1 v n xs ∧ Rd R (w5.setCell ⟨E, i, none⟩ u) p4 ∧ But R (R + 1) w (w5.setCell ⟨E, i, none⟩ u) ∧ Blk (w5.setCell ⟨E, i, none⟩ u) w.heap.size 72 cs0 := by
  refine ⟨(hBE.kept hk).set_ i u, ?_, (hR.keep hk).setFar (show R < E by omega) u, (hb.kept_ hk).setNew (show w.heap.size ≤ E by omega) u, (hB0.kept hk).far (show w.heap.size ≠ E by omega) u⟩
  have ho := own_keep hown hk
  refine ⟨ho.1, ?_⟩
  rcases ho.2 with hn | ⟨g, cap, cur, hv, hg, hh, rest⟩
  · exact .inl hn
  · refine .inr ⟨g, cap, cur, hv, hg, ?_, rest⟩
    have hne : g ≠ E := by
      rintro rfl
      have := hBE.kept hk
      unfold Blk at this
      rw [hh] at this
      simp at this
    exact (Below.heap_setCell w5 _ u g hne).trans hh

set_option maxHeartbeats 3000000 in
set_option maxRecDepth 100000 in
theorem c_l20Deed (R : Nat) (n0 : Int) (p : Int) (w : World) (h : Rd R w p) (hp : p ≤ 970000000) (hn0 : 0 ≤ n0) (hn1 : n0 ≤ 1000) : Calls Tryd.prog 128 #[.pointer (some ⟨R, 0, none⟩), .int .i64 n0] w (RetD R p 15 w (DeedQ w.heap.size)) := by
  have hRlt := h.lt
  have hk0 := (Kept.refl w).alloc (.cells #[.slice none 0 0, .int .i64 0, .int .i64 0, .int .i64 0] 72)
  have B0 := Blk.new w 72 #[.slice none 0 0, .int .i64 0, .int .i64 0, .int .i64 0]
  have hb0 : But R (R + 1) w _ := But.of_kept hk0
  go_enter Tryd.func128, Tryd.ntmps128
  go_wp2_with fail
  refine (c_l20Need R p _ (h.keep hk0) (by omega)).mono ?_; rintro e w2 ⟨v, p2', rfl, hR2, hp1, hp2, hb2, A, n, c, l, rfl, hn, hown, hin⟩
  replace hb0 := hb0.trans hb2
  replace B0 := hb2.blk B0 (.inr (by omega))
  have hsz := hb0.size
  have hlt0 := B0.lt
  have hown1 := ownsRow_mono hown (X := w.heap.size) (by simp)
  clear hb2 hk0 hown
  go_wp2_with fail
  have hkE := (Kept.refl w2).alloc (.cells #[.slice A n c, .int .i64 0, .int .i64 0, .int .i64 0] 72)
  have BE := Blk.new w2 72 #[.slice A n c, .int .i64 0, .int .i64 0, .int .i64 0]
  have hst0 : DSt R w p 8 w2.heap.size (p2 0) (w2.alloc (.cells #[.slice A n c, .int .i64 0, .int .i64 0, .int .i64 0] 72)) :=
    ⟨A, n, c, l, 0, 0, 0, p2', BE, hn, own_keep hown1 hkE, hin, by rw [p2_zero]; omega, by rw [p2_zero]; omega, by rw [p2_zero]; omega, hR2.keep hkE, by omega, by omega, hb0.kept_ hkE, B0.kept hkE⟩
  have hEw : w.heap.size < w2.heap.size := hlt0
  obtain ⟨E, HE⟩ : ∃ E, Hid (E = w2.heap.size) := ⟨_, rfl⟩
  rw [← HE.out] at hst0 hEw ⊢
  clear hkE BE hown1 hin hR2 hb0 B0 hsz hlt0 hn hp1 hp2
  go_loopw [6] (fun i wr => ∃ k : Nat, k ≤ 5 ∧ i = .int .i64 k ∧ DSt R w p (8 + k) E (p2 k) wr) (fun i _ => 5 - (intOf i).toNat)
  case atStart => exact ⟨0, by omega, rfl, by simpa using hst0⟩
  case round =>
    obtain ⟨k, hk, rfl, A, n, c, l, on, off, flip, p3, hBE, hn, hown, hin, hon, hoff, hflip, hR3, hp1, hp2, hb3, hB0⟩ := hrel
    by_cases hlt : k < 5
    · go_wp2_with fail
      refine (c_pick R 6 p3 _ hR3 (by omega) (by omega)).mono ?_; rintro e w4 ⟨v, p4, rfl, hR4, hp3, hp4, hb4, x, rfl, hx0, hx1⟩
      replace hBE := hb4.blk hBE (.inr (by omega))
      replace hB0 := hb4.blk hB0 (.inr (by omega))
      replace hown := own_but hown hb4 hRlt
      replace hb3 := hb3.trans hb4
      clear hb4 hR3
      have hsh := bin_shl_one k (by omega)
      have HP := Lib.hid (p2_succ k)
      have hpb := p2_bd k 5 (by omega)
      rw [p2_five] at hpb
      have c0 := hBE.cell
      have f0 := hBE.frozen
      by_cases e0 : x = 0
      · subst e0
        go_wp2_with fail
        go_still_tail 6, (by kernel_rfl)
        change wpList _ _ _ _ _ w4.drew
        rw [show IntKind.i64.wrap (on + p2 k) = on + p2 k from IntWalk.i64_in _ (by omega)]
        obtain ⟨d1, d2, d3, d4, d5⟩ := deed_put hBE hown hR4 hb3 hB0 hRlt hEw (Kept.refl w4) 1 (.int .i64 (on + p2 k))
        clear hBE hown hR4 hb3 hB0
        go_wp2_with fail
        exact ⟨⟨k + 1, by omega, by go_num, A, n, c, l, on + p2 k, off, flip, p4, by have := d1.drew; simpa using this, hn, d2.drew, hin, by rw [HP.out]; omega, by rw [HP.out]; omega, by rw [HP.out]; omega, d3.keep (Kept.refl _).drew, by omega, by omega, d4.kept_ (Kept.refl _).drew, d5.drew⟩, by simp [intOf]; omega⟩
      by_cases e1 : x = 1
      · subst e1
        go_wp2_with fail
        go_still_tail 6, (by kernel_rfl)
        change wpList _ _ _ _ _ w4.drew
        rw [show IntKind.i64.wrap (off + p2 k) = off + p2 k from IntWalk.i64_in _ (by omega)]
        obtain ⟨d1, d2, d3, d4, d5⟩ := deed_put hBE hown hR4 hb3 hB0 hRlt hEw (Kept.refl w4) 2 (.int .i64 (off + p2 k))
        clear hBE hown hR4 hb3 hB0
        go_wp2_with fail
        exact ⟨⟨k + 1, by omega, by go_num, A, n, c, l, on, off + p2 k, flip, p4, by have := d1.drew; simpa using this, hn, d2.drew, hin, by rw [HP.out]; omega, by rw [HP.out]; omega, by rw [HP.out]; omega, d3.keep (Kept.refl _).drew, by omega, by omega, d4.kept_ (Kept.refl _).drew, d5.drew⟩, by simp [intOf]; omega⟩
      by_cases e2 : x = 2
      · subst e2
        go_wp2_with fail
        go_still_tail 6, (by kernel_rfl)
        change wpList _ _ _ _ _ w4.drew
        rw [show IntKind.i64.wrap (flip + p2 k) = flip + p2 k from IntWalk.i64_in _ (by omega)]
        obtain ⟨d1, d2, d3, d4, d5⟩ := deed_put hBE hown hR4 hb3 hB0 hRlt hEw (Kept.refl w4) 3 (.int .i64 (flip + p2 k))
        clear hBE hown hR4 hb3 hB0
        go_wp2_with fail
        exact ⟨⟨k + 1, by omega, by go_num, A, n, c, l, on, off, flip + p2 k, p4, by have := d1.drew; simpa using this, hn, d2.drew, hin, by rw [HP.out]; omega, by rw [HP.out]; omega, by rw [HP.out]; omega, d3.keep (Kept.refl _).drew, by omega, by omega, d4.kept_ (Kept.refl _).drew, d5.drew⟩, by simp [intOf]; omega⟩
      · clear c0 f0
        go_wp2_with fail
        exact ⟨⟨k + 1, by omega, by go_num, A, n, c, l, on, off, flip, p4, hBE, hn, hown, hin, by rw [HP.out]; omega, by rw [HP.out]; omega, by rw [HP.out]; omega, hR4, by omega, by omega, hb3, hB0⟩, by simp [intOf]; omega⟩
    · rw [show k = 5 by omega, p2_five] at hon hoff hflip
      have hk5 : (k : Int) ≤ 5 := by omega
      go_wp2_with fail
      refine (c_odd R n0 p3 _ hR3 (by omega) (by omega) hn0).mono ?_; rintro e w4 ⟨v, p4, rfl, hR4, hp3, hp4, hb4, y, rfl⟩
      replace hBE := hb4.blk hBE (.inr (by omega))
      replace hB0 := hb4.blk hB0 (.inr (by omega))
      replace hown := own_but hown hb4 hRlt
      replace hb3 := hb3.trans hb4
      clear hb4 hR3
      go_upto_if 42 with fail
      go_cut [5] from 7 (fun v w' => v = .pointer (some ⟨E, 0, none⟩) ∧ DSt R w p 15 E 33 w')
      case first =>
        have c0 := hBE.cell
        have f0 := hBE.frozen
        cases y
        · go_wp2_with fail
          go_meet
          case rel => exact ⟨rfl, A, n, c, l, on, off, flip, p4, hBE, hn, hown, hin, by omega, by omega, by omega, hR4, by omega, by omega, hb3, hB0⟩
        · go_wp2_with fail
          refine (c_pick R 4 p4 _ hR4 (by omega) (by omega)).mono ?_; rintro e w5 ⟨v, p5, rfl, hR5, hp5, hp5', hb5, x, rfl, hx0, hx1⟩
          replace hBE := hb5.blk hBE (.inr (by omega))
          replace hB0 := hb5.blk hB0 (.inr (by omega))
          replace hown := own_but hown hb5 hRlt
          replace hb3 := hb3.trans hb5
          clear hb5 hR4 c0 f0
          have c0 := hBE.cell
          have f0 := hBE.frozen
          by_cases e0 : x = 0
          · subst e0
            have hka := (Kept.refl w5).alloc (.cells #[.int .i64 7] 3)
            have hsz := hb3.size
            have hnew := own_new (X := w.heap.size) w5 [.int .i64 7] 3 hsz (by simp [maxLen])
            obtain ⟨d1, d2, d3, d4, d5⟩ := deed_put (hBE.kept hka) hnew (hR5.keep hka) (hb3.kept_ hka) (hB0.kept hka) hRlt hEw (Kept.refl _) 0 (.slice (some ⟨w5.heap.size, 0, none⟩) 1 1)
            have c1 := (hBE.kept hka).cell
            have f1 := (hBE.kept hka).frozen
            clear hBE hown hR5 hb3 hB0 hka hnew
            go_wp2_with fail
            go_meet
            case rel => exact ⟨rfl, _, 1, _, [7], on, off, flip, p5, by simpa using d1, by omega, d2, fun x hx => by simp at hx; subst hx; exact inI_small (by omega) (by omega), by omega, by omega, by omega, d3, by omega, by omega, d4, d5⟩
          by_cases e1 : x = 1
          · subst e1
            obtain ⟨d1, d2, d3, d4, d5⟩ := deed_put hBE hown hR5 hb3 hB0 hRlt hEw (Kept.refl _) 1 (.int .i64 32)
            clear hBE hown hR5 hb3 hB0
            go_wp2_with fail
            go_meet
            case rel => exact ⟨rfl, A, n, c, l, 32, off, flip, p5, by simpa using d1, hn, d2, hin, by omega, by omega, by omega, d3, by omega, by omega, d4, d5⟩
          by_cases e2 : x = 2
          · subst e2
            obtain ⟨d1, d2, d3, d4, d5⟩ := deed_put hBE hown hR5 hb3 hB0 hRlt hEw (Kept.refl _) 2 (.int .i64 (-1))
            clear hBE hown hR5 hb3 hB0
            go_wp2_with fail
            go_meet
            case rel => exact ⟨rfl, A, n, c, l, on, -1, flip, p5, by simpa using d1, hn, d2, hin, by omega, by omega, by omega, d3, by omega, by omega, d4, d5⟩
          · obtain ⟨d1, d2, d3, d4, d5⟩ := deed_put hBE hown hR5 hb3 hB0 hRlt hEw (Kept.refl _) 1 (.int .i64 1)
            obtain ⟨g1, g2, g3, g4, g5⟩ := deed_put d1 d2 d3 d4 d5 hRlt hEw (Kept.refl _) 3 (.int .i64 1)
            obtain ⟨k1, k2, k3, k4, k5⟩ := deed_put g1 g2 g3 g4 g5 hRlt hEw (Kept.refl _) 2 (.int .i64 0)
            clear hBE hown hR5 hb3 hB0 d1 d2 d3 d4 d5 g1 g2 g3 g4 g5
            go_wp2_with fail
            go_meet
            case rel => exact ⟨rfl, A, n, c, l, 1, 0, 1, p5, by simpa using k1, hn, k2, hin, by omega, by omega, by omega, k3, by omega, by omega, k4, k5⟩
      case rest =>
        clear hBE hB0 hown hb3 hR4 hin hp1 hp2 hp3 hp4 hon hoff hflip hn hst0
        obtain ⟨rfl, A, n, c, l, on, off, flip, p5, hBE, hn, hown, hin, hon, hoff, hflip, hR, q1, q2, hb, hB0⟩ := hcut
        have c0 := hBE.cell
        have c1 := hB0.cell
        have f1 := hB0.frozen
        have hle := Nat.le_refl w.heap.size
        have o1 := own_far hB0 hown 0 (.slice A n c)
        have b1 := hB0.set_ 0 (.slice A n c)
        have o2 := own_far b1 o1 1 (.int .i64 on)
        have b2 := b1.set_ 1 (.int .i64 on)
        have o3 := own_far b2 o2 2 (.int .i64 off)
        have b3 := b2.set_ 2 (.int .i64 off)
        have o4 := own_far b3 o3 3 (.int .i64 flip)
        have r4 := (((hR.setFar (a := ⟨w.heap.size, 0, none⟩) hRlt (.slice A n c)).setFar (a := ⟨w.heap.size, 1, none⟩) hRlt (.int .i64 on)).setFar (a := ⟨w.heap.size, 2, none⟩) hRlt (.int .i64 off)).setFar (a := ⟨w.heap.size, 3, none⟩) hRlt (.int .i64 flip)
        have t4 := (((hb.setNew (p := ⟨w.heap.size, 0, none⟩) hle (.slice A n c)).setNew (p := ⟨w.heap.size, 1, none⟩) hle (.int .i64 on)).setNew (p := ⟨w.heap.size, 2, none⟩) hle (.int .i64 off)).setNew (p := ⟨w.heap.size, 3, none⟩) hle (.int .i64 flip)
        clear hB0 hBE hown hR hb o1 o2 o3 b1 b2 b3 HE hEw hlt hk
        go_wp2_with fail
        refine bodyPost_ret (v := .agg #[.slice A n c, .int .i64 on, .int .i64 off, .int .i64 flip]) (by simp [results, Tryd.results128, go_sem, c1]) rfl ?_
        exact ⟨_, p5, rfl, r4, q1, q2, t4, A, n, c, l, on, off, flip, rfl, hn, o4, hin, by omega, by omega, by omega⟩

end Go.Proofs.YtphdojebdclonaaDoor
