/- Words for memory: what a slice of integers, a slice of deeds and a task read as, and that they are kept by whatever leaves old memory alone. No condition. -/
import Derived.WalkKit
import Derived.WalkSpells
import Derived.KernelRfl
import Derived.Lib.Hide
import Derived.Deep.Draws
import Derived.Test.YthkcdjnnacdeoaaPlain
namespace Go.Proofs.Ythkcdjnnacdeoaa
open Go.RowKit

/-- The call left what was there as it was. -/
def Kept (w w' : World) : Prop := Below w.heap.size w w'

theorem Kept.refl (w : World) : Kept w w := Below.refl _ _
theorem Kept.trans {a b c : World} (h : Kept a b) (k : Kept b c) : Kept a c := Below.trans h (Below.mono k h.size)
theorem Kept.alloc {a w : World} (h : Kept a w) (o : Obj) : Kept a (w.alloc o) := Below.alloc h h.size o
theorem Kept.drew {a w : World} (h : Kept a w) : Kept a w.drew := Below.drew h
theorem Kept.drewN {a w : World} (h : Kept a w) (n : Nat) : Kept a (w.drewN n) := ⟨h.os, h.tape, h.output, h.size, h.block⟩
theorem Kept.size {a w : World} (h : Kept a w) : a.heap.size ≤ w.heap.size := Below.size h
theorem Kept.setCell {a w : World} (h : Kept a w) {p : Addr} (hp : a.heap.size ≤ p.block) (u : Value) : Kept a (w.setCell p u) := Below.setCell h hp u
theorem Kept.grown {a w w' : World} {row : Option Nat} (h : Kept a w) (hg : w.grownBy w' row) (hr : ∀ k, row = some k → a.heap.size ≤ k) : Kept a w' := Below.grown h hg h.size hr
theorem Kept.cell {a w : World} (h : Kept a w) {b o : Nat} (hb : b < a.heap.size) : w.cell? ⟨b, o, none⟩ = a.cell? ⟨b, o, none⟩ := Below.cell (p := ⟨b, o, none⟩) h hb
theorem Kept.frozen {a w : World} (h : Kept a w) {b o : Nat} (hb : b < a.heap.size) : w.frozen? ⟨b, o, none⟩ = a.frozen? ⟨b, o, none⟩ := Below.frozen (p := ⟨b, o, none⟩) h hb
/-- Kept since a box was laid: kept since before. -/
theorem Kept.unbox {a w : World} {o : Obj} (h : Kept (a.alloc o) w) : Kept a w := ((Kept.refl a).alloc o).trans h

theorem Kept.box {a w : World} {cs : Array Value} {T : TypeId} (h : Kept (a.alloc (.cells cs T)) w) (i : Nat) : w.cell? ⟨a.heap.size, i, none⟩ = cs[i]? := by
  rw [h.cell (by simp)]; exact World.cell?_alloc_new a cs T i

/-- a slice of integers: the address A, n elements l -/
def Ints (w : World) (A : Option Addr) (n : Nat) (l : List Int) : Prop :=
  l.length = n ∧ n ≤ maxLen ∧ (∀ x ∈ l, Sp.inI x) ∧
    (0 < n → ∃ b off, A = some ⟨b, off, none⟩ ∧ b < w.heap.size ∧ ∀ k, k < n → w.cell? ⟨b, off + k, none⟩ = some (.int .i64 (l.getD k default)))

theorem Ints.keep {w w' : World} {A : Option Addr} {n : Nat} {l : List Int} (h : Ints w A n l) (hk : Kept w w') : Ints w' A n l := by
  obtain ⟨h1, h2, h3, h4⟩ := h
  refine ⟨h1, h2, h3, fun hn => ?_⟩
  obtain ⟨b, off, e, hb, hc⟩ := h4 hn
  exact ⟨b, off, e, Nat.lt_of_lt_of_le hb hk.size, fun k hkn => by rw [hk.cell hb]; exact hc k hkn⟩

theorem Ints.len {w : World} {A : Option Addr} {n : Nat} {l : List Int} (h : Ints w A n l) : l.length = n := h.1
theorem Ints.le {w : World} {A : Option Addr} {n : Nat} {l : List Int} (h : Ints w A n l) : n ≤ 9223372036854775807 := h.2.1
theorem Ints.at {w : World} {A : Option Addr} {n : Nat} {l : List Int} (h : Ints w A n l) {k : Nat} (hk : k < n) :
    ∃ b off, A = some ⟨b, off, none⟩ ∧ b < w.heap.size ∧ w.cell? ⟨b, off + k, none⟩ = some (.int .i64 (l.getD k default)) ∧ Sp.inI (l.getD k default) := by
  obtain ⟨h1, h2, h3, h4⟩ := h
  obtain ⟨b, off, e, hb, hc⟩ := h4 (by omega)
  refine ⟨b, off, e, hb, hc k hk, h3 _ ?_⟩
  have hlt : k < l.length := by omega
  simp only [List.getD_eq_getElem?_getD, List.getElem?_eq_getElem hlt, Option.getD_some]
  exact List.getElem_mem _

/-- the four cells of a deed -/
def DeedCells (w : World) (b o : Nat) (d : Sp.Deed) : Prop :=
  ∃ A n c, w.cell? ⟨b, o, none⟩ = some (.slice A n c) ∧ Ints w A n d.need ∧ w.cell? ⟨b, o + 1, none⟩ = some (.int .i64 d.on) ∧
    w.cell? ⟨b, o + 2, none⟩ = some (.int .i64 d.off) ∧ w.cell? ⟨b, o + 3, none⟩ = some (.int .i64 d.flip) ∧ Sp.inI d.on ∧ Sp.inI d.off ∧ Sp.inI d.flip

theorem DeedCells.keep {w w' : World} {b o : Nat} {d : Sp.Deed} (h : DeedCells w b o d) (hk : Kept w w') (hb : b < w.heap.size) : DeedCells w' b o d := by
  obtain ⟨A, n, c, h1, h2, h3, h4, h5, h6⟩ := h
  exact ⟨A, n, c, by rw [hk.cell hb]; exact h1, h2.keep hk, by rw [hk.cell hb]; exact h3, by rw [hk.cell hb]; exact h4, by rw [hk.cell hb]; exact h5, h6⟩

def Deeds (w : World) (A : Option Addr) (n : Nat) (l : List Sp.Deed) : Prop :=
  l.length = n ∧ n ≤ maxLen ∧ (0 < n → ∃ b off, A = some ⟨b, off, none⟩ ∧ b < w.heap.size ∧ ∀ k, k < n → DeedCells w b (off + k * 4) (l.getD k default))

theorem Deeds.keep {w w' : World} {A : Option Addr} {n : Nat} {l : List Sp.Deed} (h : Deeds w A n l) (hk : Kept w w') : Deeds w' A n l := by
  obtain ⟨h1, h2, h4⟩ := h
  refine ⟨h1, h2, fun hn => ?_⟩
  obtain ⟨b, off, e, hb, hc⟩ := h4 hn
  exact ⟨b, off, e, Nat.lt_of_lt_of_le hb hk.size, fun k hkn => (hc k hkn).keep hk hb⟩

theorem Deeds.len {w : World} {A : Option Addr} {n : Nat} {l : List Sp.Deed} (h : Deeds w A n l) : l.length = n := h.1
theorem Deeds.le {w : World} {A : Option Addr} {n : Nat} {l : List Sp.Deed} (h : Deeds w A n l) : n ≤ 9223372036854775807 := h.2.1

theorem Deeds.at {w : World} {A : Option Addr} {n : Nat} {l : List Sp.Deed} (h : Deeds w A n l) {k : Nat} (hk : k < n) :
    ∃ b off, A = some ⟨b, off, none⟩ ∧ b < w.heap.size ∧ DeedCells w b (off + k * 4) (l.getD k default) := by
  obtain ⟨b, off, e, hb, hc⟩ := h.2.2 (by omega)
  exact ⟨b, off, e, hb, hc k hk⟩

/-- a deed, a task as values -/
def DeedV (w : World) (v : Value) (d : Sp.Deed) : Prop :=
  ∃ A n c, v = .agg #[.slice A n c, .int .i64 d.on, .int .i64 d.off, .int .i64 d.flip] ∧ Ints w A n d.need ∧ Sp.inI d.on ∧ Sp.inI d.off ∧ Sp.inI d.flip

theorem DeedV.keep {w w' : World} {v : Value} {d : Sp.Deed} (h : DeedV w v d) (hk : Kept w w') : DeedV w' v d := by
  obtain ⟨A, n, c, e, h1, h2⟩ := h
  exact ⟨A, n, c, e, h1.keep hk, h2⟩

def TaskV (w : World) (v : Value) (t : Sp.Task) : Prop :=
  ∃ A n c A' n' c', v = .agg #[.int .i64 t.start, .slice A n c, .slice A' n' c'] ∧ Ints w A n t.goal ∧ Deeds w A' n' t.deeds ∧ Sp.inI t.start

theorem TaskV.keep {w w' : World} {v : Value} {t : Sp.Task} (h : TaskV w v t) (hk : Kept w w') : TaskV w' v t := by
  obtain ⟨A, n, c, A', n', c', e, h1, h2, h3⟩ := h
  exact ⟨A, n, c, A', n', c', e, h1.keep hk, h2.keep hk, h3⟩

/-- what a call comes to: it returns v and leaves the world (Ret), or leaves what was there (RetK, RetS) -/
def Ret (v : Value) (w : World) (e : Ending) (w' : World) : Prop := e = .returned v ∧ w = w'
def RetK (v : Value) (w : World) (e : Ending) (w' : World) : Prop := e = .returned v ∧ Kept w w'
def RetS (Q : Value → World → Prop) (w : World) (e : Ending) (w' : World) : Prop := ∃ v, e = .returned v ∧ Q v w' ∧ Kept w w'

theorem Ret.to {v v' : Value} {w : World} {e : Ending} {w' : World} (h : Ret v w e w') (hv : v = v') : Ret v' w e w' := hv ▸ h
theorem RetK.to {v v' : Value} {w : World} {e : Ending} {w' : World} (h : RetK v w e w') (hv : v = v') : RetK v' w e w' := hv ▸ h
theorem Ret.k {v : Value} {w : World} {e : Ending} {w' : World} (h : Ret v w e w') : RetK v w e w' := ⟨h.1, by rw [h.2]; exact Kept.refl _⟩

theorem ret_int {k : IntKind} {a b : Int} (h : a = b) : Ending.returned (.int k a) = .returned (.int k b) := by rw [h]
theorem ret_bool {a b : Bool} (h : a = b) : Ending.returned (.bool a) = .returned (.bool b) := by rw [h]

end Go.Proofs.Ythkcdjnnacdeoaa
