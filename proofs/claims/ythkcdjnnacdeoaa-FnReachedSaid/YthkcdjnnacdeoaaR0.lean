/- Plain: the stack of a code, from the bottom. Own rows. No condition. -/
import Derived.Test.YthkcdjnnacdeoaaQ
import Derived.OwnWalk
import Derived.WalkSmall
namespace Go.Proofs.Ythkcdjnnacdeoaa
open Go.RowKit

/-- the stack from the bottom -/
def Sp.bot (l : List Int) (s k : Nat) : List Bool := (Sp.stackOf (l.take k) s).reverse

theorem bot_zero (l : List Int) (s : Nat) : Sp.bot l s 0 = [] := rfl

theorem bot_push {l : List Int} {s k : Nat} {b : Bool} (hk : k < l.length) (h : Sp.rstep s (Sp.stackOf (l.take k) s) (l.getD k default) = b :: Sp.stackOf (l.take k) s) :
    Sp.bot l s (k + 1) = Sp.bot l s k ++ [b] := by
  unfold Sp.bot
  rw [Sp.stack_snoc l s k hk, h, List.reverse_cons]

theorem bot_fact {l : List Int} {s k : Nat} (hk : k < l.length) (h0 : 0 ≤ l.getD k default) (h : l.getD k default < 5) : Sp.bot l s (k + 1) = Sp.bot l s k ++ [s.testBit (l.getD k default).toNat] := by
  apply bot_push hk
  unfold Sp.rstep
  rw [if_neg (by omega), if_neg (by omega), if_neg (by omega), if_neg (by omega), if_neg (by omega)]
theorem bot_yes {l : List Int} {s k : Nat} (hk : k < l.length) (h : l.getD k default = 5) : Sp.bot l s (k + 1) = Sp.bot l s k ++ [true] := by
  apply bot_push hk
  unfold Sp.rstep
  rw [if_neg (by omega), if_neg (by omega), if_neg (by omega), if_pos h]
theorem bot_no {l : List Int} {s k : Nat} (hk : k < l.length) (h : l.getD k default = 6) : Sp.bot l s (k + 1) = Sp.bot l s k ++ [false] := by
  apply bot_push hk
  unfold Sp.rstep
  rw [if_neg (by omega), if_neg (by omega), if_neg (by omega), if_neg (by omega), if_pos h]

theorem bot_not {l : List Int} {s k : Nat} (hk : k < l.length) (h : l.getD k default = 7) (hl : 1 ≤ (Sp.bot l s k).length) :
    ∃ ini x, Sp.bot l s k = ini ++ [x] ∧ Sp.bot l s (k + 1) = ini ++ [!x] := by
  unfold Sp.bot at *
  rw [List.length_reverse] at hl
  rw [Sp.stack_snoc l s k hk]
  cases e : Sp.stackOf (l.take k) s with
  | nil => rw [e] at hl; simp at hl
  | cons x r => exact ⟨r.reverse, x, by simp, by unfold Sp.rstep; rw [if_pos h]; simp⟩

theorem bot_and {l : List Int} {s k : Nat} (hk : k < l.length) (h : l.getD k default = 8) (hl : 2 ≤ (Sp.bot l s k).length) :
    ∃ ini x y, Sp.bot l s k = ini ++ [x, y] ∧ Sp.bot l s (k + 1) = ini ++ [x && y] := by
  unfold Sp.bot at *
  rw [List.length_reverse] at hl
  rw [Sp.stack_snoc l s k hk]
  cases e : Sp.stackOf (l.take k) s with
  | nil => rw [e] at hl; simp at hl
  | cons y r =>
    cases r with
    | nil => rw [e] at hl; simp at hl
    | cons x r => exact ⟨r.reverse, x, y, by simp, by unfold Sp.rstep; rw [if_neg (by omega), if_pos h]; simp⟩

theorem bot_or {l : List Int} {s k : Nat} (hk : k < l.length) (h : l.getD k default = 9) (hl : 2 ≤ (Sp.bot l s k).length) :
    ∃ ini x y, Sp.bot l s k = ini ++ [x, y] ∧ Sp.bot l s (k + 1) = ini ++ [x || y] := by
  unfold Sp.bot at *
  rw [List.length_reverse] at hl
  rw [Sp.stack_snoc l s k hk]
  cases e : Sp.stackOf (l.take k) s with
  | nil => rw [e] at hl; simp at hl
  | cons y r =>
    cases r with
    | nil => rw [e] at hl; simp at hl
    | cons x r => exact ⟨r.reverse, x, y, by simp, by unfold Sp.rstep; rw [if_neg (by omega), if_neg (by omega), if_pos h]; simp⟩

theorem bot_end {l : List Int} {s : Nat} (h : Sp.codeOk l = true) : Sp.bot l s l.length = [Sp.run l s] := by
  unfold Sp.bot Sp.run
  rw [List.take_length]
  have hl := Sp.stack_last l s h
  cases e : Sp.stackOf l s with
  | nil => rw [e] at hl; simp at hl
  | cons x r =>
    rw [e] at hl
    simp at hl
    subst hl
    rfl

/-- what a valid code finds at its step k -/
theorem bot_step {l : List Int} (s : Nat) (h : Sp.codeOk l = true) {k : Nat} (hk : k < l.length) :
    0 ≤ l.getD k default ∧ l.getD k default ≤ 9 ∧ Sp.takes (l.getD k default) ≤ (Sp.bot l s k).length ∧ (Sp.bot l s k).length ≤ k ∧ k < 40 := by
  obtain ⟨p, hp, h1, h2, h3, h4, h5⟩ := Sp.codeOk_step l h k hk
  have hl := Sp.stack_len l s k p hp
  unfold Sp.bot
  rw [List.length_reverse, hl]
  exact ⟨h1, h2, h3, h4, h5⟩

/-- a slice that the call owns, written out -/
theorem own_form {w : World} {B : Nat} {T : TypeId} {sz : Nat} {v : Value} {n : Nat} {xs : List Value} (h : w.ownsRow B T sz v n xs) : ∃ A c, v = .slice A n c := by
  rcases h.2 with ⟨e, h0⟩ | ⟨g, cap, cur, e, _⟩
  · exact ⟨none, 0, by rw [e, h0]⟩
  · exact ⟨_, _, e⟩

theorem own_some {w : World} {B : Nat} {T : TypeId} {sz : Nat} {A : Option Addr} {n m c : Nat} {xs : List Value} (h : w.ownsRow B T sz (.slice A m c) n xs) (hn : 0 < n) :
    m = n ∧ ∃ g, A = some ⟨g, 0, none⟩ ∧ B ≤ g ∧ g < w.heap.size ∧ n ≤ c ∧ ∀ j, w.frozen? ⟨g, j, none⟩ = false := by
  rcases h.2 with ⟨_, h0⟩ | ⟨g, cap, cur, e, hg, hh, h1, _⟩
  · omega
  · simp only [Value.slice.injEq] at e
    obtain ⟨e1, e2, e3⟩ := e
    subst e1 e2 e3
    refine ⟨rfl, g, rfl, hg, ?_, h1, fun j => by simp [World.frozen?, hh]⟩
    rcases Nat.lt_or_ge g w.heap.size with h | h
    · exact h
    · rw [Array.getElem?_eq_none h] at hh; cases hh

theorem own_cell {w : World} {B : Nat} {T : TypeId} {g n c : Nat} {xs : List Value} (h : w.ownsRow B T 1 (.slice (some ⟨g, 0, none⟩) n c) n xs) {j : Nat} {u : Value} (hj : xs[j]? = some u) :
    w.cell? ⟨g, j, none⟩ = some u := by
  rw [h.cellAt j (by have := h.1; have := (List.getElem?_eq_some_iff.1 hj).1; omega)]
  exact hj

theorem info_bool : (Try.prog.info? 4).map (fun i => (i.zero, i.size, i.bytes)) = some (some (.bool false), 1, 1) := by kernel_rfl

theorem bit_one (b : Bool) : (((b.toNat : Nat) : Int) == 1) = b := by cases b <;> rfl
theorem one_new (w : World) (v : Value) (T : TypeId) : ∀ (j : Nat) (u : Value), [v][j]? = some u → (w.alloc (.cells #[v] T)).cell? ((⟨w.heap.size, 0, none⟩ : Addr).add j) = some u := by
  intro j u hu
  cases j with
  | zero =>
    simp at hu
    subst hu
    show (w.alloc (.cells #[v] T)).cell? ⟨w.heap.size, 0, none⟩ = _
    rw [World.cell?_alloc_new]; rfl
  | succ j => simp at hu

/-- behind an append of one element to an owned row: the slice is written out, what was there is kept -/
theorem own_more {w wr w2 : World} {T : TypeId} {A : Option Addr} {m c : Nat} {xs : List Value} {o : Obj} (hown : wr.ownsRow w.heap.size T 1 (.slice A m c) m xs) (hk : Kept w wr)
    (hg : (wr.alloc o).grownBy w2 (Value.slice A m c).ownBlock) : Kept w w2 :=
  (hk.alloc o).grown hg (fun k e => (hown.lt k e).1)

theorem set_last (ini : List Bool) (y z : Bool) : ((ini ++ [y]).map Value.bool).set ini.length (.bool z) = (ini ++ [z]).map Value.bool := by
  rw [List.map_append, List.map_append, List.set_append_right _ _ (by simp)]
  simp
theorem set_pre (ini : List Bool) (x y z : Bool) : ((ini ++ [x, y]).map Value.bool).set ini.length (.bool z) = (ini ++ [z]).map Value.bool ++ [.bool y] := by
  rw [List.map_append, List.map_append, List.set_append_right _ _ (by simp)]
  simp
/-- two entries of a stack become one -/
theorem own_join {w : World} {B : Nat} {T : TypeId} {g c : Nat} {ini : List Bool} {x y : Bool} (z : Bool)
    (h : w.ownsRow B T 1 (.slice (some ⟨g, 0, none⟩) (ini.length + 2) c) (ini.length + 2) ((ini ++ [x, y]).map Value.bool)) :
    (w.setCell ⟨g, ini.length, none⟩ (.bool z)).ownsRow B T 1 (.slice (some ⟨g, 0, none⟩) (ini.length + 1) c) (ini.length + 1) ((ini ++ [z]).map Value.bool) := by
  have h2 := (h.stored ini.length (.bool z)).1
  rw [set_pre] at h2
  exact ownsRow_pop (by simp) h2

theorem getElem_last {α : Type} (ini : List α) (x : α) (f : α → Value) : ((ini ++ [x]).map f)[ini.length]? = some (f x) := by simp
theorem getElem_pre {α : Type} (ini : List α) (x y : α) (f : α → Value) : ((ini ++ [x, y]).map f)[ini.length]? = some (f x) := by simp
theorem getElem_top {α : Type} (ini : List α) (x y : α) (f : α → Value) : ((ini ++ [x, y]).map f)[ini.length + 1]? = some (f y) := by simp

end Go.Proofs.Ythkcdjnnacdeoaa
