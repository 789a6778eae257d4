/- Walks: GoalOne. No condition. -/
import Derived.Test.YtjmpfemlihjibaaDoorR0
namespace Go.Proofs.YtjmpfemlihjibaaDoor
open Go.RowKit

/-- a task laid in a box, and read from there later -/
theorem TaskV.box {w : World} {A A' : Option Addr} {n c n' c' : Nat} {t : Sp.Task} {T : TypeId} (h : TaskV w (.agg #[.int .i64 t.start, .slice A n c, .slice A' n' c']) t) :
    TaskV (w.alloc (.cells #[.int .i64 t.start, .slice A n c, .slice A' n' c'] T)) (.agg #[.int .i64 t.start, .slice A n c, .slice A' n' c']) t := h.keep ((Kept.refl w).alloc _)

theorem TaskV.goal {w : World} {A A' : Option Addr} {n c n' c' : Nat} {t : Sp.Task} (h : TaskV w (.agg #[.int .i64 t.start, .slice A n c, .slice A' n' c']) t) : Ints w A n t.goal := by
  obtain ⟨A1, n1, c1, A2, n2, c2, e, h1, _⟩ := h
  simp only [Value.agg.injEq, Array.mk.injEq, List.cons.injEq, Value.slice.injEq, and_true, true_and] at e
  obtain ⟨⟨rfl, rfl, rfl⟩, _⟩ := e
  exact h1
theorem TaskV.deeds {w : World} {A A' : Option Addr} {n c n' c' : Nat} {t : Sp.Task} (h : TaskV w (.agg #[.int .i64 t.start, .slice A n c, .slice A' n' c']) t) : Deeds w A' n' t.deeds := by
  obtain ⟨A1, n1, c1, A2, n2, c2, e, _, h1, _⟩ := h
  simp only [Value.agg.injEq, Array.mk.injEq, List.cons.injEq, Value.slice.injEq, and_true, true_and] at e
  obtain ⟨_, rfl, rfl, rfl⟩ := e
  exact h1













































































































































end Go.Proofs.YtjmpfemlihjibaaDoor
