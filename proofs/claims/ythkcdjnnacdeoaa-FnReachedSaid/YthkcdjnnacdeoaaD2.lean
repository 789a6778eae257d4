/- Walks: draws: the reader, small codes. No condition. -/
import Derived.Test.YthkcdjnnacdeoaaD1
import Derived.Test.YthkcdjnnacdeoaaG6
import Derived.Deep.Cut
namespace Go.Proofs.Ythkcdjnnacdeoaa
open Go.RowKit

def BytesV (w : World) (A : Option Addr) (n : Nat) : Prop :=
  n ≤ maxLen ∧ (0 < n → ∃ b o, A = some ⟨b, o, none⟩ ∧ b < w.heap.size ∧ ∀ k, k < n → ∃ x, w.cell? ⟨b, o + k, none⟩ = some (.int .u8 x) ∧ 0 ≤ x ∧ x ≤ 255)
def OpenQ (w : World) (v : Value) (w' : World) : Prop := ∃ R, v = .pointer (some ⟨R, 0, none⟩) ∧ w.heap.size ≤ R ∧ Rd R w' 0

theorem Rd.new {w : World} {A : Option Addr} {n c m : Nat} (h : BytesV w A n) (hm : m ≤ n) (hm2 : m ≤ 2000) : Rd w.heap.size (w.alloc (.cells #[.slice A m c, .int .i64 0] 93)) 0 := by
  refine ⟨A, m, c, Blk.new _ _ _, hm2, Int.le_refl 0, fun h0 => ?_⟩
  obtain ⟨b, o, e, hb, hc⟩ := h.2 (by omega)
  exact ⟨b, o, e, hb, fun k hk => by obtain ⟨x, h1, h2⟩ := hc k (by omega); exact ⟨x, by rw [World.cell?_alloc_lt _ _ _ hb]; exact h1, h2⟩⟩

theorem c_l20Open (A : Option Addr) (n c : Nat) (w : World) (h : BytesV w A n) (hnc : n ≤ c) (_hc : c ≤ maxLen) : Calls Try.prog 74 #[.slice A n c] w (RetS (OpenQ w) w) := by
  by_cases hn : n ≤ 2000
  · go_enter Try.func74, Try.ntmps74
    go_wp2_with fail
    go_ret
    exact ⟨_, rfl, ⟨_, rfl, Nat.le_refl _, Rd.new h (Nat.le_refl n) hn⟩, (Kept.refl w).alloc _⟩
  · obtain ⟨b, o, rfl, hb, _⟩ := h.2 (by omega)
    go_enter Try.func74, Try.ntmps74
    go_wp2_with fail
    go_ret
    exact ⟨_, rfl, ⟨_, rfl, Nat.le_refl _, Rd.new h (m := 2000) (by omega) (by omega)⟩, (Kept.refl w).alloc _⟩

def BoolQ (v : Value) (_w : World) : Prop := ∃ b, v = .bool b
theorem c_odd (R : Nat) (n : Int) (p : Int) (w : World) (h : Rd R w p) (hp : p ≤ 1000000000) (hn : n ≤ 1000000000) (h0 : 0 ≤ n) :
    Calls Try.prog 99 #[.pointer (some ⟨R, 0, none⟩), .int .i64 n] w (RetD R p 1 w BoolQ) := by
  by_cases hn0 : 0 < n
  · go_enter Try.func99, Try.ntmps99
    go_wp2_with fail
    refine (c_pick R n p w h hp hn).mono ?_; rintro e w2 ⟨v, p', rfl, hR, hp1, hp2, hb, x, rfl, hx0, hx1⟩
    go_wp2_with fail
    go_ret
    exact ⟨_, p', rfl, hR, hp1, hp2, hb, _, rfl⟩
  · go_enter Try.func99, Try.ntmps99
    go_wp2_with fail
    go_ret
    exact ⟨_, p, rfl, h, Int.le_refl _, by omega, But.refl w, _, rfl⟩

section
variable {B C : Nat} {w wr w2 : World}
theorem But.size (h : But B C w wr) : w.heap.size ≤ wr.heap.size := h.2.2.1
theorem But.of_old (h : But B C w wr) (hk : ∀ a, a.heap.size ≤ w.heap.size → Kept a wr → Kept a w2) (hs : wr.heap.size ≤ w2.heap.size) (he : ∀ b, b < w.heap.size → w2.heap[b]? = wr.heap[b]?) : But B C w w2 := by
  refine ⟨fun a ha hB => hk a ha.size (h.1 a ha hB), fun b hb hr => (he b hb).trans (h.2.1 b hb hr), Nat.le_trans h.2.2.1 hs, fun p v hv => ?_, fun p hp => ?_⟩
  · have hlt := World.block_lt_of_cell? _ _ hv
    rw [World.cell?_of_block (he _ hlt)]
    exact h.2.2.2.1 p v hv
  · rw [← h.2.2.2.2 p hp]
    unfold World.frozen?
    rw [he _ hp]
theorem But.grown {row : Option Nat} (h : But B C w wr) (hg : wr.grownBy w2 row) (hr : ∀ k, row = some k → w.heap.size ≤ k) : But B C w w2 :=
  h.of_old (fun a ha hk => hk.grown hg (fun k e => Nat.le_trans ha (hr k e))) hg.size (fun b hb => hg.block b (Nat.lt_of_lt_of_le hb h.size) (fun e => by have := hr b e.symm; omega))
theorem But.setNew (h : But B C w wr) {p : Addr} (hp : w.heap.size ≤ p.block) (v : Value) : But B C w (wr.setCell p v) :=
  h.of_old (fun a ha hk => hk.setCell (Nat.le_trans ha hp) v) (by simp) (fun b hb => Below.heap_setCell wr p v b (by omega))
theorem But.kept_ (h : But B C w wr) (hk : Kept wr w2) : But B C w w2 := h.trans (But.of_kept hk)
theorem own_but {X : Nat} {T : TypeId} {sz n : Nat} {v : Value} {xs : List Value} (h : w.ownsRow X T sz v n xs) (hb : But B C w w2) (hX : C ≤ X) : w2.ownsRow X T sz v n xs := by
  refine ⟨h.1, ?_⟩
  rcases h.2 with hn | ⟨g, cap, cur, hv, hg, hh, rest⟩
  · exact .inl hn
  · refine .inr ⟨g, cap, cur, hv, hg, ?_, rest⟩
    have hlt : g < w.heap.size := by
      rcases Nat.lt_or_ge g w.heap.size with h | h
      · exact h
      · rw [Array.getElem?_eq_none h] at hh; cases hh
    exact (hb.2.1 g hlt (.inr (by omega))).trans hh
end
theorem ownsRow_mono {X Y : Nat} {T : TypeId} {sz n : Nat} {v : Value} {w : World} {xs : List Value} (h : w.ownsRow Y T sz v n xs) (hX : X ≤ Y) : w.ownsRow X T sz v n xs := by
  refine ⟨h.1, ?_⟩
  rcases h.2 with hn | ⟨g, cap, cur, hv, hg, rest⟩
  · exact .inl hn
  · exact .inr ⟨g, cap, cur, hv, Nat.le_trans hX hg, rest⟩
theorem list_new (w : World) (xs : List Value) (T : TypeId) : ∀ (j : Nat) (u : Value), xs[j]? = some u → (w.alloc (.cells xs.toArray T)).cell? ((⟨w.heap.size, 0, none⟩ : Addr).add j) = some u := by
  intro j u hu
  have : (⟨w.heap.size, 0, none⟩ : Addr).add j = ⟨w.heap.size, j, none⟩ := by unfold Addr.add; split <;> simp_all
  rw [this, World.cell?_alloc_new]
  simpa using hu
theorem own_new {X : Nat} (w : World) (xs : List Value) (T : TypeId) (hX : X ≤ w.heap.size) (hm : xs.length ≤ maxLen) : (w.alloc (.cells xs.toArray T)).ownsRow X T 1 (.slice (some ⟨w.heap.size, 0, none⟩) xs.length xs.length) xs.length xs :=
  ⟨by simp, .inr ⟨w.heap.size, xs.length, xs.toArray, rfl, hX, heap_alloc_last w _, Nat.le_refl _, hm, by simp, by simp⟩⟩

/-- a small row of integers that a draw made -/
def RowQ (X : Nat) (v : Value) (w : World) : Prop := ∃ (A : Option Addr) (n c : Nat) (l : List Int), v = .slice A n c ∧ n ≤ 64 ∧ w.ownsRow X 3 1 (.slice A n c) n (l.map (Value.int .i64)) ∧ ∀ x ∈ l, Sp.inI x

theorem Rd.setFar {R : Nat} {w : World} {p : Int} (h : Rd R w p) {a : Addr} (ha : R < a.block) (v : Value) : Rd R (w.setCell a v) p := by
  obtain ⟨A, n, c, h1, h2, h3, h4⟩ := h
  refine ⟨A, n, c, h1.far (by omega) v, h2, h3, fun hn => ?_⟩
  obtain ⟨b, o, e, h5, h6⟩ := h4 hn
  exact ⟨b, o, e, h5, fun k hk2 => by obtain ⟨x, h7, h8⟩ := h6 k hk2; exact ⟨x, by rw [World.cell?_setCell_other _ _ _ _ (by intro e2; subst e2; simp at ha; omega)]; exact h7, h8⟩⟩
theorem Rd.grown {R : Nat} {w w' : World} {p : Int} (h : Rd R w p) {row : Option Nat} (hg : w.grownBy w' row) (hr : ∀ k, row = some k → R < k) : Rd R w' p := by
  obtain ⟨A, n, c, h1, h2, h3, h4⟩ := h
  refine ⟨A, n, c, h1.grown hg (fun e => by have := hr R e.symm; omega), h2, h3, fun hn => ?_⟩
  obtain ⟨b, o, e, h5, h6⟩ := h4 hn
  have hb : b < w.heap.size := Nat.lt_trans h5 h1.lt
  exact ⟨b, o, e, h5, fun k hk2 => by obtain ⟨x, h7, h8⟩ := h6 k hk2; exact ⟨x, by rw [World.cell?_of_block (a := ⟨b, o + k, none⟩) (hg.block b hb (fun e2 => by have := hr b e2.symm; omega))]; exact h7, h8⟩⟩

/-- a row that grows, while the reader reads -/
def LSt (R : Nat) (w : World) (p K : Int) (M : Nat) (v : Value) (w' : World) : Prop :=
  ∃ (A : Option Addr) (n c : Nat) (l : List Int) (p' : Int), v = .slice A n c ∧ 1 ≤ n ∧ n ≤ M ∧ w'.ownsRow w.heap.size 3 1 (.slice A n c) n (l.map (Value.int .i64)) ∧ (∀ x ∈ l, Sp.inI x) ∧ Rd R w' p' ∧ p ≤ p' ∧ p' ≤ p + K ∧ But R (R + 1) w w'

set_option maxHeartbeats 1000000 in
theorem c_l20Leaf (R : Nat) (p : Int) (w : World) (h : Rd R w p) (hp : p ≤ 990000000) : Calls Try.prog 129 #[.pointer (some ⟨R, 0, none⟩)] w (RetD R p 7 w (RowQ w.heap.size)) := by
  obtain ⟨i0, hi0, hz0, hz1, hz2⟩ := info_parts info_int
  have HI := Lib.hid (And.intro hi0 (And.intro hz0 (And.intro hz1 hz2)))
  clear hi0 hz0 hz1 hz2
  have hRlt := h.lt
  go_enter Try.func129, Try.ntmps129
  go_wp2_with fail
  refine (c_pick R 5 p w h (by omega) (by omega)).mono ?_; rintro e w2 ⟨v, p2, rfl, hR2, hp1, hp2, hb2, x, rfl, hx0, hx1⟩
  have hsz2 := hb2.size
  have hown := own_new (X := w.heap.size) w2 [.int .i64 x] 3 hsz2 (by simp [maxLen])
  have hb3 := hb2.kept_ ((Kept.refl w2).alloc (.cells #[.int .i64 x] 3))
  have hR3 := hR2.keep ((Kept.refl w2).alloc (.cells #[.int .i64 x] 3))
  clear h hb2 hR2
  go_upto_if 9 with fail
  refine (c_pick R 9 p2 _ hR3 (by omega) (by omega)).mono ?_; rintro e w4 ⟨v, p4, rfl, hR4, hp3, hp4, hb4, y, rfl, hy0, hy1⟩
  have hown4 := own_but hown hb4 hRlt
  have hb5 := hb3.trans hb4
  have hlt4 := hb4.size
  simp only [World.size_alloc] at hlt4
  clear hown hb3 hb4 hR3
  go_upto_if 9 with fail
  go_cut [3] from 4 (fun v w' => LSt R w p 3 1 v w')
  case first =>
    by_cases hy : y = 0
    · subst hy
      go_wp2_with fail
      refine (c_pick R 2 p4 _ hR4 (by omega) (by omega)).mono ?_; rintro e w6 ⟨v, p6, rfl, hR6, hp5, hp6, hb6, z, rfl, hz0, hz1⟩
      have hown6 := own_but hown4 hb6 hRlt
      have hb7 := hb5.trans hb6
      obtain ⟨_, g, e, hg, hgl, _, hfr⟩ := own_some hown6 (by simp)
      simp only [Option.some.injEq, Addr.mk.injEq, and_true] at e
      subst e
      have hce : w6.cell? ⟨w2.heap.size, 0, none⟩ = some (.int .i64 x) := own_cell hown6 rfl
      have hf0 := hfr 0
      have hst := (hown6.stored 0 (.int .i64 (5 + z))).1
      clear hown6 hown4 hb5 hR4 hb6 hfr
      go_wp2_with fail
      go_meet
      case rel =>
        exact ⟨_, 1, _, [5 + z], p6, rfl, by omega, by omega, hst, fun x hx => by simp at hx; subst hx; unfold Sp.inI; omega, Rd.setFar hR6 (show R < w2.heap.size by omega) _, by omega, by omega, hb7.setNew hsz2 _⟩
    · go_wp2_with fail
      go_meet
      case rel =>
        exact ⟨_, 1, _, [x], p4, rfl, by omega, by omega, hown4, fun x hx => by simp at hx; subst hx; unfold Sp.inI; omega, hR4, by omega, by omega, hb5⟩
  case rest =>
    clear hown4 hb5 hR4 hlt4 hsz2 hp1 hp2 hp3 hp4 hx0 hx1 hy0 hy1
    obtain ⟨A, n, c, l, p5, rfl, hn1, hn2, hown, hin, hR, q1, q2, hb⟩ := hcut
    go_upto_if 17 with fail
    refine (c_pick R 3 p5 _ hR (by omega) (by omega)).mono ?_; rintro e w6 ⟨v, p6, rfl, hR6, hp5, hp6, hb6, y, rfl, hy0, hy1⟩
    replace hown := own_but hown hb6 hRlt
    replace hb := hb.trans hb6
    clear hb6 hR
    go_upto_if 17 with fail
    go_cut [3] from 4 (fun v w' => LSt R w p 6 3 v w')
    case first =>
      by_cases hy : y = 0
      · subst hy
        go_wp2_with fail
        refine (c_pick R 5 p6 _ hR6 (by omega) (by omega)).mono ?_; rintro e w7 ⟨v, p7, rfl, hR7, hp7, hp7', hb7, z, rfl, hz0, hz1⟩
        replace hown := own_but hown hb7 hRlt
        replace hb := hb.trans hb7
        clear hb7 hR6
        go_wp2_with fail
        refine (c_pick R 2 p7 _ hR7 (by omega) (by omega)).mono ?_; rintro e w8 ⟨v, p8, rfl, hR8, hp8, hp8', hb8, u, rfl, hu0, hu1⟩
        replace hown := own_but hown hb8 hRlt
        replace hb := hb.trans hb8
        clear hb8 hR7
        have hs8 := hb.size
        have hbk := hown.lt
        go_wp2_with (first | (at_builtin; refine wpList_append_own _ rfl (.tmp 18) (.tmp 24) 23 rfl (w.heap.size) 3 i0 (.int .i64 0) 1 8 Try.underlying23 HI.out.1 HI.out.2.1 HI.out.2.2.1 HI.out.2.2.2 rfl (by decide) (.slice A n c) n _ rfl (hown.alloc _) ⟨w8.heap.size, 0, none⟩ 2 2 [.int .i64 (z), .int .i64 (8 + u)] rfl rfl (list_new _ _ _) (by simp [Value.oneCell']) (by unfold maxLen; omega) (by omega) (by simp; omega) ?_; intro v' wapp hown2 hg2 _))
        obtain ⟨A3, c3, rfl⟩ := own_form hown2
        go_meet
        case rel =>
          refine ⟨A3, n + 2, c3, l ++ [z, 8 + u], p8, rfl, by omega, by omega, by rw [List.map_append]; exact hown2, fun x hx => ?_, (hR8.keep ((Kept.refl w8).alloc _)).grown hg2 (fun k e => by have := (hbk k e).1; omega), by omega, by omega, (hb.kept_ ((Kept.refl w8).alloc _)).grown hg2 (fun k e => (hbk k e).1)⟩
          rcases List.mem_append.1 hx with hx | hx
          · exact hin x hx
          · simp at hx; unfold Sp.inI; omega
      · go_wp2_with fail
        go_meet
        case rel => exact ⟨A, n, c, l, p6, rfl, hn1, by omega, hown, hin, hR6, by omega, by omega, hb⟩
    case rest =>
      clear hown hb hR6 hp5 hp6 hy0 hy1 hin q1 q2
      obtain ⟨A, n, c, l, p7, rfl, hn1, hn2, hown, hin, hR, q1, q2, hb⟩ := hcut
      go_wp2_with fail
      refine (c_pick R 4 p7 _ hR (by omega) (by omega)).mono ?_; rintro e w6 ⟨v, p8, rfl, hR6, hp5, hp6, hb6, y, rfl, hy0, hy1⟩
      replace hown := own_but hown hb6 hRlt
      replace hb := hb.trans hb6
      clear hb6 hR
      have hs8 := hb.size
      have hbk := hown.lt
      by_cases hy : y = 0
      · subst hy
        go_wp2_with (first | (at_builtin; refine wpList_append_own _ rfl (.tmp 29) (.tmp 30) 23 rfl (w.heap.size) 3 i0 (.int .i64 0) 1 8 Try.underlying23 HI.out.1 HI.out.2.1 HI.out.2.2.1 HI.out.2.2.2 rfl (by decide) (.slice A n c) n _ rfl (hown.alloc _) ⟨w6.heap.size, 0, none⟩ 1 1 [.int .i64 (7)] rfl rfl (list_new _ _ _) (by simp [Value.oneCell']) (by unfold maxLen; omega) (by omega) (by simp; omega) ?_; intro v' wapp hown2 hg2 _))
        obtain ⟨A3, c3, rfl⟩ := own_form hown2
        go_wp2_with fail
        go_ret
        refine ⟨_, p8, rfl, (hR6.keep ((Kept.refl w6).alloc _)).grown hg2 (fun k e => by have := (hbk k e).1; omega), by omega, by omega, (hb.kept_ ((Kept.refl w6).alloc _)).grown hg2 (fun k e => (hbk k e).1), A3, n + 1, c3, l ++ [7], rfl, by omega, by rw [List.map_append]; exact hown2, fun x hx => ?_⟩
        rcases List.mem_append.1 hx with hx | hx
        · exact hin x hx
        · simp at hx; subst hx; unfold Sp.inI; omega
      · go_wp2_with fail
        go_ret
        exact ⟨_, p8, rfl, hR6, by omega, by omega, hb, A, n, c, l, rfl, by omega, hown, hin⟩

end Go.Proofs.Ythkcdjnnacdeoaa
