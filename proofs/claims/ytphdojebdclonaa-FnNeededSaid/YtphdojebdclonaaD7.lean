/- Walks: draws: hard tasks. No condition. -/
import Derived.Test.YtphdojebdclonaaD4
namespace Go.Proofs.Ytphdojebdclonaa
open Go.RowKit

/-- the hard draw's task, under way: the goal's row may grow -/
def HSt (R : Nat) (w : World) (p K : Int) (E : Nat) (w' : World) : Prop :=
  ∃ (st : Int) (A : Option Addr) (n c : Nat) (A' : Option Addr) (n' c' : Nat) (p' : Int), Blk w' E 30 #[.int .i64 st, .slice A n c, .slice A' n' c'] ∧ Sp.inI st ∧ GRow w.heap.size w' A n c ∧ DRow w.heap.size w' A' n' c' ∧ n' ≤ 8 ∧
    Rd R w' p' ∧ p ≤ p' ∧ p' ≤ p + K ∧ But R (R + 1) w w' ∧ Blk w' w.heap.size 30 #[.int .i64 0, .slice none 0 0, .slice none 0 0]

theorem GRow.mono {X Y : Nat} {w : World} {A : Option Addr} {n c : Nat} (h : GRow Y w A n c) (hX : X ≤ Y) : GRow X w A n c := by
  obtain ⟨l, hn, ho, hi⟩ := h
  exact ⟨l, hn, ownsRow_mono ho hX, hi⟩
theorem DRow.mono {X Y : Nat} {w : World} {A : Option Addr} {n c : Nat} (h : DRow Y w A n c) (hX : X ≤ Y) : DRow X w A n c := by
  obtain ⟨xs, ho, hv⟩ := h
  refine ⟨xs, ownsRow_mono ho hX, fun k hk => ?_⟩
  obtain ⟨v0, v1, v2, v3, h0, h1, h2, h3, A2, m, c2, l, on, off, flip, e0, e1, e2, e3, hm, hr, rest⟩ := hv k hk
  exact ⟨v0, v1, v2, v3, h0, h1, h2, h3, A2, m, c2, l, on, off, flip, e0, e1, e2, e3, hm, ownsRow_mono hr hX, rest⟩
theorem HTask {X : Nat} {w : World} {st : Int} {A A' : Option Addr} {n c n' c' : Nat} (hi : Sp.inI st) (hG : GRow X w A n c) (hD : DRow X w A' n' c') (hn : n' ≤ 8) : ∃ t, TaskV w (.agg #[.int .i64 st, .slice A n c, .slice A' n' c']) t := by
  obtain ⟨l, hI⟩ := hG.own
  obtain ⟨ds, hDs⟩ := hD.deeds (by omega)
  exact ⟨⟨st, l, ds⟩, ⟨A, n, c, A', n', c', rfl, hI, hDs, hi⟩⟩

theorem wrap_inI (x : Int) : Sp.inI (IntKind.i64.wrap x) := by rw [IntKind.wrap_i64]; unfold Sp.inI; omega
theorem pick8 {x : Int} (hx : Sp.inI x) {k : Nat} (hk : k < 8) : ∃ y, (#[.int .i64 3, .int .i64 5, .int .i64 6, .int .i64 12, .int .i64 24, .int .i64 10, .int .i64 15, .int .i64 x] : Array Value)[k]? = some (.int .i64 y) ∧ Sp.inI y := by
  match k, hk with
  | 0, _ => exact ⟨_, rfl, inI_small (by omega) (by omega)⟩
  | 1, _ => exact ⟨_, rfl, inI_small (by omega) (by omega)⟩
  | 2, _ => exact ⟨_, rfl, inI_small (by omega) (by omega)⟩
  | 3, _ => exact ⟨_, rfl, inI_small (by omega) (by omega)⟩
  | 4, _ => exact ⟨_, rfl, inI_small (by omega) (by omega)⟩
  | 5, _ => exact ⟨_, rfl, inI_small (by omega) (by omega)⟩
  | 6, _ => exact ⟨_, rfl, inI_small (by omega) (by omega)⟩
  | 7, _ => exact ⟨_, rfl, hx⟩
  | k + 8, h => omega

/-- behind an append to the goal's own row, laid in the task: what was there is kept -/
theorem goal_step {R E n c n' c' : Nat} {w wS wr wapp : World} {st p : Int} {A A' : Option Addr} {cs0 : Array Value} {xs ys : List Value} {o : Obj} {m : Nat} {v' : Value}
    (hBE : Blk wr E 30 #[.int .i64 st, .slice A n c, .slice A' n' c']) (hB0 : Blk wr w.heap.size 30 cs0) (hR : Rd R wr p) (hb : But R (R + 1) w wr) (hRK : RowsKept w.heap.size wS wr)
    (hown : wr.ownsRow wS.heap.size 3 1 (.slice A n c) n xs) (hS : wS.heap.size ≤ wr.heap.size) (hRw : R < w.heap.size) (hES : E < wS.heap.size) (hwE : w.heap.size < E)
    (hg : (wr.alloc o).grownBy wapp (Value.slice A n c).ownBlock) (hown2 : wapp.ownsRow wS.heap.size 3 1 v' m ys) :
    Blk (wapp.setCell ⟨E, 1, none⟩ v') E 30 #[.int .i64 st, v', .slice A' n' c'] ∧ Blk (wapp.setCell ⟨E, 1, none⟩ v') w.heap.size 30 cs0 ∧ Rd R (wapp.setCell ⟨E, 1, none⟩ v') p ∧ But R (R + 1) w (wapp.setCell ⟨E, 1, none⟩ v') ∧
      RowsKept w.heap.size wS (wapp.setCell ⟨E, 1, none⟩ v') ∧ (wapp.setCell ⟨E, 1, none⟩ v').ownsRow wS.heap.size 3 1 v' m ys ∧ wS.heap.size ≤ (wapp.setCell ⟨E, 1, none⟩ v').heap.size ∧ Blk wapp E 30 #[.int .i64 st, .slice A n c, .slice A' n' c'] := by
  have hk := (Kept.refl wr).alloc o
  have hrow : ∀ k, (Value.slice A n c).ownBlock = some k → wS.heap.size ≤ k := fun k e => (hown.lt k e).1
  have e1 := (hBE.kept hk).grown hg (fun e => by have := hrow E e.symm; omega)
  have e2 := (hB0.kept hk).grown hg (fun e => by have := hrow w.heap.size e.symm; omega)
  have e3 := (hR.keep hk).grown hg (fun k e => by have := hrow k e; omega)
  have e4 := (hb.kept_ hk).grown hg (fun k e => by have := hrow k e; omega)
  have e5 : RowsKept w.heap.size wS wapp := fun T sz v k zs hT ho => by
    refine ((hRK T sz v k zs hT ho).alloc o).kept hg ?_
    cases hb : v.ownBlock with
    | none => exact .inl rfl
    | some b =>
      refine .inr fun e => ?_
      have h1 := (ho.lt b hb).2
      have h2 := hrow b e.symm
      omega
  have e6 := hg.size
  simp only [World.size_alloc] at e6
  refine ⟨by have := e1.set_ 1 v'; simpa using this, e2.far (by simp; omega) v', e3.setFar (by simp; omega) v', e4.setNew (by simp; omega) v', e5.trans (RowsKept.set e1 (by decide) (by decide) 1 v'), own_farT (by decide) e1 hown2 1 v', by simp; omega, e1⟩



































































































































































































































































































































































































































































































end Go.Proofs.Ytphdojebdclonaa
