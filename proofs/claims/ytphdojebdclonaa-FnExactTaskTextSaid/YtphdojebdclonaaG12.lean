/- Walks: NumbersFor. No condition. -/
import Derived.Test.YtphdojebdclonaaG10
import Derived.Maps.AppendAt
namespace Go.Proofs.Ytphdojebdclonaa
open Go.RowKit

/-- 40 in place of none -/
def Sp.big (x : Int) : Int := if x < 0 then 40 else x
theorem big_in {x : Int} (h : Sp.inI x) : Sp.inI (Sp.big x) := by unfold Sp.big Sp.inI at *; split <;> omega
def Sp.numbersFor (t : Sp.Task) : List Int := (Sp.stepsLeast t).map Sp.big
theorem numbersFor_len (t : Sp.Task) : (Sp.numbersFor t).length ≤ 1073741824 := by unfold Sp.numbersFor; rw [List.length_map]; exact stepsLeast_len t

theorem Own.row {w : World} {g n : Nat} {l : List Int} (h : Own w g n l) (hn : 0 < n) : IntRow w g n (fun s => l.getD s default) := by
  refine ⟨h.1, h.2.1, fun s hs => ?_⟩
  obtain ⟨b, o, e, _, hc⟩ := h.2.2.2.2.2 hn
  simp only [Option.some.injEq, Addr.mk.injEq] at e
  obtain ⟨rfl, rfl, _⟩ := e
  have := hc s hs
  rwa [Nat.zero_add] at this



































































theorem stepsLeast_in (t : Sp.Task) : ∀ x ∈ Sp.stepsLeast t, Sp.inI x := by
  intro x hx
  unfold Sp.stepsLeast at hx
  split at hx
  · exact distList_in _ _ (truth_bd _) x hx
  · cases hx

theorem IntRow.grown {w w2 : World} {g n : Nat} {f : Nat → Int} {o : Obj} {row : Option Nat} (h : IntRow w g n f) (hg : (w.alloc o).grownBy w2 row) (hr : row ≠ some g) : IntRow w2 g n f := by
  have h' := h.keep ((Kept.refl w).alloc o)
  have hb := hg.block g h'.1 (fun e => hr e.symm)
  refine ⟨Nat.lt_of_lt_of_le h'.1 hg.size, fun i => ?_, fun s hs => ?_⟩
  · have := h'.2.1 i
    unfold World.frozen? at this ⊢
    rw [hb]; exact this
  · rw [World.cell?_of_block (a := ⟨g, s, none⟩) hb]; exact h'.2.2 s hs
theorem row_off {w : World} {A A' : Option Addr} {k c k' c' G : Nat} {o : Obj} (h : (Value.slice A k c).ownBlock ≠ some G) (hat : (Value.slice A' k' c').ownBlock = (Value.slice A k c).ownBlock ∨ (Value.slice A' k' c').ownBlock = some (w.alloc o).heap.size) (hG : G < w.heap.size) :
    Hid ((Value.slice A' k' c').ownBlock ≠ some G) := by
  show _ ≠ _
  rcases hat with e | e
  · rw [e]; exact h
  · rw [e]; simp; omega
theorem outInts_own {w w1 wr : World} {A : Option Addr} {l : List Int} {n c : Nat} (hn : n = l.length) (h : wr.ownsRow w1.heap.size 3 1 (.slice A n c) n ((l.take n).map (Value.int .i64))) (hm : n ≤ maxLen) (hw : w.heap.size ≤ w1.heap.size) (hi : ∀ x ∈ l.take n, Sp.inI x) :
    OutInts w (l.take n) (.slice A n c) wr := by
  subst hn
  rw [List.take_length] at h hi ⊢
  refine ⟨A, c, rfl, ?_⟩
  by_cases h0 : l.length = 0
  · have : l = [] := List.length_eq_zero_iff.1 h0
    subst this
    exact ⟨⟨rfl, Nat.zero_le _, fun x hx => (by cases hx), fun h => absurd h (Nat.lt_irrefl 0)⟩, fun h => absurd h (Nat.lt_irrefl 0)⟩
  · obtain ⟨_, g, rfl, hg, _, hR⟩ := own_row h (by omega)
    have := hR.own rfl hm hi (fun _ _ => rfl)
    exact ⟨this.ints, fun _ => ⟨g, rfl, by omega, this.1, this⟩⟩











































































































end Go.Proofs.Ytphdojebdclonaa
