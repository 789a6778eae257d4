/- More words for memory. No condition. -/
import Derived.Test.YthkcdjnnacdeoaaMem
namespace Go.Proofs.Ythkcdjnnacdeoaa
open Go.RowKit

theorem Kept.at_ {a w : World} (h : Kept a w) {b o : Nat} {x : Value} (hx : a.cell? ⟨b, o, none⟩ = some x) : w.cell? ⟨b, o, none⟩ = some x := by
  rw [h.cell (World.block_lt_of_cell? _ _ hx)]; exact hx
theorem Kept.fr {a w : World} (h : Kept a w) {b o : Nat} (hb : b < a.heap.size) (hx : a.frozen? ⟨b, o, none⟩ = false) : w.frozen? ⟨b, o, none⟩ = false := by
  rw [h.frozen hb]; exact hx

/-- the address lies in another block -/
def Off (g : Nat) (A : Option Addr) : Prop := ∀ a, A = some a → a.block ≠ g

theorem Ints.setCell {w : World} {A : Option Addr} {n : Nat} {l : List Int} (h : Ints w A n l) {p : Addr} (hA : Off p.block A) (u : Value) : Ints (w.setCell p u) A n l := by
  obtain ⟨h1, h2, h3, h4⟩ := h
  refine ⟨h1, h2, h3, fun hn => ?_⟩
  obtain ⟨b, off, e, hb, hc⟩ := h4 hn
  refine ⟨b, off, e, by simpa using hb, fun k hk => ?_⟩
  rw [World.cell?_setCell_other]
  · exact hc k hk
  · intro e2; exact hA _ e (by rw [e2])

/-- a block known whole -/
def Blk (w : World) (g : Nat) (t : TypeId) (cs : Array Value) : Prop := w.heap[g]? = some (.cells cs t (0, 0))

section
variable {w w' : World} {g : Nat} {t : TypeId} {cs : Array Value}
theorem Blk.lt (h : Blk w g t cs) : g < w.heap.size := by
  rcases Nat.lt_or_ge g w.heap.size with hlt | hge
  · exact hlt
  · unfold Blk at h; rw [Array.getElem?_eq_none hge] at h; cases h
theorem Blk.cell (h : Blk w g t cs) (i : Nat) : w.cell? ⟨g, i, none⟩ = cs[i]? := by
  unfold Blk at h; simp [World.cell?, h]
theorem Blk.frozen (h : Blk w g t cs) (i : Nat) : w.frozen? ⟨g, i, none⟩ = false := by
  unfold Blk at h
  simp [World.frozen?, h]
theorem Blk.new (w : World) (t : TypeId) (cs : Array Value) : Blk (w.alloc (.cells cs t)) w.heap.size t cs := by
  unfold Blk World.alloc; simp
theorem Blk.drew (h : Blk w g t cs) : Blk w.drew g t cs := h
theorem Blk.drewN (h : Blk w g t cs) (n : Nat) : Blk (w.drewN n) g t cs := h
theorem Blk.alloc (h : Blk w g t cs) (o : Obj) : Blk (w.alloc o) g t cs := (Below.heap_alloc w o g h.lt).trans h
theorem Blk.set_ (h : Blk w g t cs) (i : Nat) (u : Value) : Blk (w.setCell ⟨g, i, none⟩ u) g t (cs.setIfInBounds i u) := by
  unfold Blk at h ⊢
  simp [World.setCell, Array.getElem?_modify, h]
theorem Blk.far (h : Blk w g t cs) {p : Addr} (hp : g ≠ p.block) (u : Value) : Blk (w.setCell p u) g t cs := (Below.heap_setCell w p u g hp).trans h
theorem Blk.kept (h : Blk w g t cs) (hk : Kept w w') : Blk w' g t cs := (Below.block hk g h.lt).trans h
theorem Blk.grown {row : Option Nat} (h : Blk w g t cs) (hb : w.grownBy w' row) (hg : some g ≠ row) : Blk w' g t cs := (hb.block g h.lt hg).trans h
end

/-- a fact that rests on the blocks from B to C alone -/
def Within (B C : Nat) (w : World) (P : World → Prop) : Prop := ∀ w2 : World, C ≤ w2.heap.size → (∀ b, B ≤ b → b < C → w2.heap[b]? = w.heap[b]?) → P w2

theorem Within.here {B C : Nat} {w : World} {P : World → Prop} (h : Within B C w P) (hC : C ≤ w.heap.size) : P w := h w hC (fun _ _ _ => rfl)
theorem Within.keep {B C : Nat} {w w2 : World} {P : World → Prop} (h : Within B C w P) (_hC : C ≤ w2.heap.size) (he : ∀ b, B ≤ b → b < C → w2.heap[b]? = w.heap[b]?) : Within B C w2 P :=
  fun w3 h3 e3 => h w3 h3 (fun b h1 h2 => (e3 b h1 h2).trans (he b h1 h2))
theorem Within.kept {B C : Nat} {w w2 : World} {P : World → Prop} (h : Within B C w P) (hC : C ≤ w.heap.size) (hk : Kept w w2) : Within B C w2 P :=
  h.keep (Nat.le_trans hC hk.size) (fun b _ h2 => Below.block hk b (by omega))
theorem Within.setCell {B C : Nat} {w : World} {P : World → Prop} (h : Within B C w P) (hC : C ≤ w.heap.size) {p : Addr} (hp : p.block < B ∨ C ≤ p.block) (u : Value) : Within B C (w.setCell p u) P :=
  h.keep (by simpa using hC) (fun b h1 h2 => Below.heap_setCell w p u b (by omega))
theorem Within.more {B C B' C' : Nat} {w : World} {P : World → Prop} (h : Within B C w P) (hB : B' ≤ B) (hC : C ≤ C') : Within B' C' w P :=
  fun w2 h2 e2 => h w2 (by omega) (fun b h3 h4 => e2 b (by omega) (by omega))
theorem Within.imp {B C : Nat} {w : World} {P Q : World → Prop} (h : Within B C w P) (hq : ∀ w, P w → Q w) : Within B C w Q := fun w2 h2 e2 => hq _ (h w2 h2 e2)
theorem Within.and {B C : Nat} {w : World} {P Q : World → Prop} (h : Within B C w P) (k : Within B C w Q) : Within B C w (fun w => P w ∧ Q w) := fun w2 h2 e2 => ⟨h w2 h2 e2, k w2 h2 e2⟩

theorem Ints.same {w w' : World} {g n : Nat} {l : List Int} (h : Ints w (some ⟨g, 0, none⟩) n l) (hs : g < w.heap.size → w'.heap[g]? = w.heap[g]? ∧ g < w'.heap.size) : Ints w' (some ⟨g, 0, none⟩) n l := by
  obtain ⟨h1, h2, h3, h4⟩ := h
  refine ⟨h1, h2, h3, fun hn => ?_⟩
  obtain ⟨b, off, e, hb, hc⟩ := h4 hn
  simp only [Option.some.injEq, Addr.mk.injEq] at e
  obtain ⟨rfl, rfl, _⟩ := e
  obtain ⟨h5, h6⟩ := hs hb
  exact ⟨_, _, rfl, h6, fun k hk => by rw [World.cell?_of_block (a := ⟨g, 0 + k, none⟩) h5]; exact hc k hk⟩

theorem Ints.within {w : World} {g n : Nat} {l : List Int} (h : Ints w (some ⟨g, 0, none⟩) n l) {B : Nat} (hB : B ≤ g) : Within B w.heap.size w (fun w' => Ints w' (some ⟨g, 0, none⟩) n l) :=
  fun _ h2 e2 => h.same (fun hg => ⟨e2 g hB hg, by omega⟩)

theorem Blk.same {w w' : World} {g : Nat} {t : TypeId} {cs : Array Value} (h : Blk w g t cs) (he : w'.heap[g]? = w.heap[g]?) : Blk w' g t cs := he.trans h

/-- a row of integers in a block of its own, which may be written -/
def Own (w : World) (g n : Nat) (l : List Int) : Prop := g < w.heap.size ∧ (∀ i, w.frozen? ⟨g, i, none⟩ = false) ∧ Ints w (some ⟨g, 0, none⟩) n l
theorem Own.ints {w : World} {g n : Nat} {l : List Int} (h : Own w g n l) : Ints w (some ⟨g, 0, none⟩) n l := h.2.2
theorem Own.keep {w w' : World} {g n : Nat} {l : List Int} (h : Own w g n l) (hk : Kept w w') : Own w' g n l :=
  ⟨Nat.lt_of_lt_of_le h.1 hk.size, fun i => hk.fr h.1 (h.2.1 i), h.2.2.keep hk⟩
theorem Own.same {w w' : World} {g n : Nat} {l : List Int} (h : Own w g n l) (hs : g < w.heap.size → w'.heap[g]? = w.heap[g]? ∧ g < w'.heap.size) : Own w' g n l :=
  ⟨(hs h.1).2, fun i => by have := h.2.1 i; unfold World.frozen? at this ⊢; rw [(hs h.1).1]; exact this, h.2.2.same hs⟩
theorem Own.within {w : World} {g n : Nat} {l : List Int} (h : Own w g n l) {B : Nat} (hB : B ≤ g) : Within B w.heap.size w (fun w' => Own w' g n l) :=
  fun _ h2 e2 => h.same (fun hg => ⟨e2 g hB hg, by omega⟩)
theorem Own.setCell {w : World} {g n : Nat} {l : List Int} (h : Own w g n l) {p : Addr} (hA : Off p.block (some ⟨g, 0, none⟩)) (u : Value) : Own (w.setCell p u) g n l :=
  h.same (fun hg => ⟨Below.heap_setCell w p u g (fun e => hA _ rfl e), by simpa using hg⟩)
theorem Own.ofBlk {w : World} {g n : Nat} {t : TypeId} {cs : Array Value} {l : List Int} (h : Blk w g t cs) (hi : Ints w (some ⟨g, 0, none⟩) n l) : Own w g n l := ⟨h.lt, h.frozen, hi⟩

end Go.Proofs.Ythkcdjnnacdeoaa
