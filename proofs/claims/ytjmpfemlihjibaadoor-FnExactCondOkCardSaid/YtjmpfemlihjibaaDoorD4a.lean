/- Draws: rows of a draw's own. Draws: a deed is changed in its row. Draws: one cell of a deed in a row is written. No condition. -/
import Derived.Test.YtjmpfemlihjibaaDoorD2
import Derived.Deep.AppendLies
import Derived.Test.YtjmpfemlihjibaaDoorTake
namespace Go.Proofs.YtjmpfemlihjibaaDoor
open Go.RowKit

theorem own_apart {w : World} {X Y : Nat} {T T' : TypeId} {sz sz' n n' : Nat} {v v' : Value} {xs xs' : List Value} (h : w.ownsRow X T sz v n xs) (h' : w.ownsRow Y T' sz' v' n' xs') (hT : T ≠ T') : v.ownBlock = none ∨ v.ownBlock ≠ v'.ownBlock := by
  rcases h.2 with ⟨rfl, _⟩ | ⟨g, cap, cur, rfl, hg, hh, _⟩
  · exact .inl rfl
  · right
    rcases h'.2 with ⟨rfl, _⟩ | ⟨g', cap', cur', rfl, hg', hh', _⟩
    · simp [Value.ownBlock]
    · simp only [Value.ownBlock, ne_eq, Option.some.injEq]
      rintro rfl
      rw [hh] at hh'
      simp at hh'
      exact hT hh'.2
theorem own_ne_blk {w : World} {X E n sz : Nat} {T T' : TypeId} {v : Value} {xs : List Value} {cs : Array Value} (h : w.ownsRow X T sz v n xs) (hB : Blk w E T' cs) (hT : T ≠ T') : some E ≠ v.ownBlock := by
  rcases h.2 with ⟨rfl, _⟩ | ⟨g, cap, cur, rfl, hg, hh, _⟩
  · simp [Value.ownBlock]
  · simp only [Value.ownBlock, ne_eq, Option.some.injEq]
    rintro rfl
    unfold Blk at hB
    rw [hh] at hB
    simp at hB
    exact hT hB.2
theorem own_farT {D n X sz : Nat} {w5 : World} {cs : Array Value} {v : Value} {xs : List Value} {T T' : TypeId} (hT : T ≠ T') (hB : Blk w5 D T' cs) (ho : w5.ownsRow X T sz v n xs) (i : Nat) (u : Value) : (w5.setCell ⟨D, i, none⟩ u).ownsRow X T sz v n xs := by
  refine ⟨ho.1, ?_⟩
  rcases ho.2 with hn | ⟨g, cap, cur, hv, hg, hh, rest⟩
  · exact .inl hn
  · refine .inr ⟨g, cap, cur, hv, hg, ?_, rest⟩
    have hne : g ≠ D := by
      rintro rfl
      unfold Blk at hB
      rw [hh] at hB
      simp at hB
      exact hT hB.2
    exact (Below.heap_setCell w5 _ u g hne).trans hh

/-- the four cells of a deed with a row of its own -/
def DVals (X : Nat) (w : World) (v0 v1 v2 v3 : Value) : Prop :=
  ∃ (A : Option Addr) (n c : Nat) (l : List Int) (on off flip : Int), v0 = .slice A n c ∧ v1 = .int .i64 on ∧ v2 = .int .i64 off ∧ v3 = .int .i64 flip ∧ n ≤ 64 ∧ w.ownsRow X 3 1 (.slice A n c) n (l.map (Value.int .i64)) ∧ (∀ x ∈ l, Sp.inI x) ∧ Sp.inI on ∧ Sp.inI off ∧ Sp.inI flip
/-- a row of deeds of the draw's own -/
def DRow (X : Nat) (w : World) (A : Option Addr) (n c : Nat) : Prop :=
  ∃ xs : List Value, w.ownsRow X 61 4 (.slice A n c) n xs ∧ ∀ k, k < n → ∃ v0 v1 v2 v3, xs[k * 4]? = some v0 ∧ xs[k * 4 + 1]? = some v1 ∧ xs[k * 4 + 2]? = some v2 ∧ xs[k * 4 + 3]? = some v3 ∧ DVals X w v0 v1 v2 v3
/-- a row of integers of the draw's own -/
def GRow (X : Nat) (w : World) (A : Option Addr) (n c : Nat) : Prop := ∃ l : List Int, n ≤ 64 ∧ w.ownsRow X 3 1 (.slice A n c) n (l.map (Value.int .i64)) ∧ ∀ x ∈ l, Sp.inI x

/-- whatever keeps rows -/
def RowsKept (X : Nat) (w w' : World) : Prop := ∀ (T : TypeId) (sz : Nat) (v : Value) (n : Nat) (xs : List Value), (T = 3 ∨ T = 61) → w.ownsRow X T sz v n xs → w'.ownsRow X T sz v n xs
def IntsKept (X : Nat) (w w' : World) : Prop := ∀ (sz : Nat) (v : Value) (n : Nat) (xs : List Value), w.ownsRow X 3 sz v n xs → w'.ownsRow X 3 sz v n xs
section
variable {X : Nat} {w w' : World}
theorem RowsKept.ints (h : RowsKept X w w') : IntsKept X w w' := fun sz v n xs => h _ sz v n xs (.inl rfl)
theorem RowsKept.of_kept (h : Kept w w') : RowsKept X w w' := fun _ _ _ _ _ _ ho => own_keep ho h
theorem RowsKept.of_but {B C : Nat} (h : But B C w w') (hC : C ≤ X) : RowsKept X w w' := fun _ _ _ _ _ _ ho => own_but ho h hC
theorem RowsKept.trans {w2 : World} (h : RowsKept X w w') (k : RowsKept X w' w2) : RowsKept X w w2 := fun T sz v n xs hT ho => k T sz v n xs hT (h T sz v n xs hT ho)
theorem RowsKept.set {D : Nat} {T : TypeId} {cs : Array Value} (hB : Blk w D T cs) (h1 : 3 ≠ T) (h2 : 61 ≠ T) (i : Nat) (u : Value) : RowsKept X w (w.setCell ⟨D, i, none⟩ u) := fun T' sz v n xs hT ho => by
  rcases hT with rfl | rfl
  · exact own_farT h1 hB ho i u
  · exact own_farT h2 hB ho i u
theorem DVals.kept {v0 v1 v2 v3 : Value} (h : DVals X w v0 v1 v2 v3) (hk : IntsKept X w w') : DVals X w' v0 v1 v2 v3 := by
  obtain ⟨A, n, c, l, on, off, flip, e0, e1, e2, e3, hn, ho, rest⟩ := h
  exact ⟨A, n, c, l, on, off, flip, e0, e1, e2, e3, hn, hk _ _ _ _ ho, rest⟩
theorem DRow.kept {A : Option Addr} {n c : Nat} (h : DRow X w A n c) (hk : RowsKept X w w') : DRow X w' A n c := by
  obtain ⟨xs, ho, hv⟩ := h
  refine ⟨xs, hk _ _ _ _ _ (.inr rfl) ho, fun k hkn => ?_⟩
  obtain ⟨v0, v1, v2, v3, h0, h1, h2, h3, hd⟩ := hv k hkn
  exact ⟨v0, v1, v2, v3, h0, h1, h2, h3, hd.kept hk.ints⟩
theorem GRow.kept {A : Option Addr} {n c : Nat} (h : GRow X w A n c) (hk : IntsKept X w w') : GRow X w' A n c := by
  obtain ⟨l, hn, ho, hi⟩ := h
  exact ⟨l, hn, hk _ _ _ _ ho, hi⟩
theorem DRow.nil (X : Nat) (w : World) : DRow X w none 0 0 := ⟨[], World.ownsRow_nil _ _ _ _, fun k hk => by omega⟩
theorem GRow.own {A : Option Addr} {n c : Nat} (h : GRow X w A n c) : ∃ l, Ints w A n l := by
  obtain ⟨l, hn, ho, hi⟩ := h
  refine ⟨l, ?_⟩
  have hl : l.length = n := by have := ho.1; simpa using this
  refine ⟨hl, by unfold maxLen; omega, hi, fun h0 => ?_⟩
  obtain ⟨_, g, rfl, _, h3⟩ := own_row ho h0
  obtain ⟨h4, h5⟩ := h3
  exact ⟨g, 0, rfl, h5.1, fun k hk => by rw [Nat.zero_add]; exact h5.2.2 k hk⟩
theorem DRow.deeds {A : Option Addr} {n c : Nat} (h : DRow X w A n c) (hn : n ≤ 64) : ∃ ds, Deeds w A n ds := by
  obtain ⟨xs, ho, hv⟩ := h
  by_cases h0 : 0 < n
  · obtain ⟨_, g, rfl, hg, hgl, _, _⟩ := own_some ho h0
    have hc : ∀ j u, xs[j]? = some u → w.cell? ⟨g, j, none⟩ = some u := fun j u hu => by
      rw [ho.cellAt j (by have := ho.1; have := (List.getElem?_eq_some_iff.1 hu).1; omega)]
      exact hu
    have hd : ∀ k, ∃ d : Sp.Deed, k < n → DeedCells w g (0 + k * 4) d := fun k => by
      by_cases hk : k < n
      · obtain ⟨v0, v1, v2, v3, h0, h1, h2, h3, A, m, c, l, on, off, flip, rfl, rfl, rfl, rfl, hm, hr, hi, i1, i2, i3⟩ := hv k hk
        obtain ⟨l', hI⟩ := GRow.own ⟨l, hm, hr, hi⟩
        refine ⟨⟨l', on, off, flip⟩, fun _ => ?_⟩
        rw [Nat.zero_add]
        exact ⟨A, m, c, hc _ _ h0, hI, hc _ _ h1, hc _ _ h2, hc _ _ h3, i1, i2, i3⟩
      · exact ⟨default, fun h => absurd h hk⟩
    refine ⟨(List.range n).map (fun k => (hd k).choose), by simp, by unfold maxLen; omega, fun _ => ⟨g, 0, rfl, hgl, fun k hk => ?_⟩⟩
    have := (hd k).choose_spec hk
    simpa [hk] using this
  · exact ⟨[], by simp; omega, by unfold maxLen; omega, fun h => absurd h h0⟩
end

theorem DRow.push {X n c c2 : Nat} {w w2 : World} {o : Obj} {A A2 : Option Addr} {xs : List Value} {v0 v1 v2 v3 : Value} (ho : w.ownsRow X 61 4 (.slice A n c) n xs)
    (hv : ∀ k, k < n → ∃ v0 v1 v2 v3, xs[k * 4]? = some v0 ∧ xs[k * 4 + 1]? = some v1 ∧ xs[k * 4 + 2]? = some v2 ∧ xs[k * 4 + 3]? = some v3 ∧ DVals X w v0 v1 v2 v3)
    (hg : (w.alloc o).grownBy w2 (Value.slice A n c).ownBlock) (ho2 : w2.ownsRow X 61 4 (.slice A2 (n + 1) c2) (n + 1) (xs ++ [v0, v1, v2, v3])) (hd : DVals X w v0 v1 v2 v3) :
    DRow X w2 A2 (n + 1) c2 ∧ IntsKept X w w2 := by
  have hI : IntsKept X w w2 := fun sz v m ys h => (h.alloc o).kept hg (own_apart (h.alloc o) (ho.alloc o) (by decide))
  have hl : xs.length = n * 4 := ho.1
  refine ⟨⟨xs ++ [v0, v1, v2, v3], ho2, fun k hk => ?_⟩, hI⟩
  by_cases e : k = n
  · subst e
    refine ⟨v0, v1, v2, v3, ?_, ?_, ?_, ?_, hd.kept hI⟩
    · rw [List.getElem?_append_right (by omega), hl]; simp
    · rw [List.getElem?_append_right (by omega), hl, show k * 4 + 1 - k * 4 = 1 by omega]; rfl
    · rw [List.getElem?_append_right (by omega), hl, show k * 4 + 2 - k * 4 = 2 by omega]; rfl
    · rw [List.getElem?_append_right (by omega), hl, show k * 4 + 3 - k * 4 = 3 by omega]; rfl
  · obtain ⟨u0, u1, u2, u3, h0, h1, h2, h3, h4⟩ := hv k (by omega)
    refine ⟨u0, u1, u2, u3, ?_, ?_, ?_, ?_, h4.kept hI⟩
    · rw [List.getElem?_append_left (by omega)]; exact h0
    · rw [List.getElem?_append_left (by omega)]; exact h1
    · rw [List.getElem?_append_left (by omega)]; exact h2
    · rw [List.getElem?_append_left (by omega)]; exact h3

/-- the draw's task, under way: at block E; the result's variable at block w.heap.size -/
def TSt (R : Nat) (w : World) (p K : Int) (E : Nat) (M : Nat) (w' : World) : Prop :=
  ∃ (st : Int) (A : Option Addr) (n c : Nat) (A' : Option Addr) (n' c' : Nat) (p' : Int), Blk w' E 30 #[.int .i64 st, .slice A n c, .slice A' n' c'] ∧ Sp.inI st ∧ GRow w.heap.size w' A n c ∧ DRow w.heap.size w' A' n' c' ∧ n' ≤ M ∧
    Rd R w' p' ∧ p ≤ p' ∧ p' ≤ p + K ∧ But R (R + 1) w w' ∧ Blk w' w.heap.size 30 #[.int .i64 0, .slice none 0 0, .slice none 0 0]

/-- a task that a draw made -/
def TaskQ (X : Nat) (v : Value) (w : World) : Prop := ∃ (st : Int) (A : Option Addr) (n c : Nat) (A' : Option Addr) (n' c' : Nat), v = .agg #[.int .i64 st, .slice A n c, .slice A' n' c'] ∧ Sp.inI st ∧ GRow X w A n c ∧ DRow X w A' n' c' ∧ n' ≤ 8
theorem TaskQ.task {X : Nat} {v : Value} {w : World} (h : TaskQ X v w) : ∃ t, TaskV w v t ∧ t.deeds.length ≤ 8 := by
  obtain ⟨st, A, n, c, A', n', c', rfl, hi, hG, hD, hn⟩ := h
  obtain ⟨l, hI⟩ := hG.own
  obtain ⟨ds, hDs⟩ := hD.deeds (by omega)
  exact ⟨⟨st, l, ds⟩, ⟨A, n, c, A', n', c', rfl, hI, hDs, hi⟩, by rw [hDs.len]; exact hn⟩
theorem TaskQ.kept {X : Nat} {v : Value} {w w' : World} (h : TaskQ X v w) (hk : RowsKept X w w') : TaskQ X v w' := by
  obtain ⟨st, A, n, c, A', n', c', rfl, hi, hG, hD, hn⟩ := h
  exact ⟨st, A, n, c, A', n', c', rfl, hi, hG.kept hk.ints, hD.kept hk, hn⟩

theorem gRow_new {w : World} {X : Nat} (l : List Int) (hX : X ≤ w.heap.size) (hl : l.length ≤ 64) (hi : ∀ x ∈ l, Sp.inI x) :
    GRow X (w.alloc (.cells (l.map (Value.int .i64)).toArray 3)) (some ⟨w.heap.size, 0, none⟩) l.length l.length := by
  have := own_new (X := X) w (l.map (Value.int .i64)) 3 hX (by simp [maxLen]; omega)
  rw [List.length_map] at this
  exact ⟨l, hl, this, hi⟩
theorem task_put {R E : Nat} {w w4 : World} {cs cs0 : Array Value} {p4 : Int} (hBE : Blk w4 E 30 cs) (hR : Rd R w4 p4) (hb : But R (R + 1) w w4) (hB0 : Blk w4 w.heap.size 30 cs0) (hRw : R < w.heap.size) (hE : w.heap.size < E) (i : Nat) (u : Value) :
    Blk (w4.setCell ⟨E, i, none⟩ u) E 30 (cs.setIfInBounds i u) ∧ RowsKept w.heap.size w4 (w4.setCell ⟨E, i, none⟩ u) ∧ Rd R (w4.setCell ⟨E, i, none⟩ u) p4 ∧ But R (R + 1) w (w4.setCell ⟨E, i, none⟩ u) ∧ Blk (w4.setCell ⟨E, i, none⟩ u) w.heap.size 30 cs0 :=
  ⟨hBE.set_ i u, RowsKept.set hBE (by decide) (by decide) i u, hR.setFar (show R < E by omega) u, hb.setNew (show w.heap.size ≤ E by omega) u, hB0.far (show w.heap.size ≠ E by omega) u⟩

end Go.Proofs.YtjmpfemlihjibaaDoor

namespace Go.Proofs.YtjmpfemlihjibaaDoor
open Go.RowKit

theorem inI_wrap64 (x : Int) : Sp.inI (wrap64 x) := by unfold Sp.inI wrap64; omega
/-- four cells of a row of deeds of one's own are written -/
theorem own_put {X n c g : Nat} {w : World} {xs : List Value} (ho : w.ownsRow X 61 4 (.slice (some ⟨g, 0, none⟩) n c) n xs) (i : Nat) (v0 v1 v2 v3 : Value) :
    ((((w.setCell ⟨g, i, none⟩ v0).setCell ⟨g, i + 1, none⟩ v1).setCell ⟨g, i + 2, none⟩ v2).setCell ⟨g, i + 3, none⟩ v3).ownsRow X 61 4 (.slice (some ⟨g, 0, none⟩) n c) n ((((xs.set i v0).set (i + 1) v1).set (i + 2) v2).set (i + 3) v3) ∧
      IntsKept X w ((((w.setCell ⟨g, i, none⟩ v0).setCell ⟨g, i + 1, none⟩ v1).setCell ⟨g, i + 2, none⟩ v2).setCell ⟨g, i + 3, none⟩ v3) := by
  obtain ⟨cur, hB⟩ : ∃ cur, Blk w g 61 cur := by
    rcases ho.2 with ⟨e, _⟩ | ⟨g', cap, cur, e, _, hh, _⟩
    · cases e
    · simp only [Value.slice.injEq, Option.some.injEq, Addr.mk.injEq] at e
      obtain ⟨⟨rfl, _⟩, _⟩ := e
      exact ⟨cur, hh⟩
  exact ⟨((((ho.stored i v0).1.stored (i + 1) v1).1.stored (i + 2) v2).1.stored (i + 3) v3).1, fun sz v m ys h =>
    own_farT (by decide) (((hB.set_ _ v0).set_ _ v1).set_ _ v2) (own_farT (by decide) ((hB.set_ _ v0).set_ _ v1) (own_farT (by decide) (hB.set_ _ v0) (own_farT (by decide) hB h _ v0) _ v1) _ v2) _ v3⟩

theorem DRow.put {X n c j g : Nat} {w w' : World} {xs : List Value} {v0 v1 v2 v3 : Value} (hl : xs.length = n * 4)
    (hv : ∀ k, k < n → ∃ v0 v1 v2 v3, xs[k * 4]? = some v0 ∧ xs[k * 4 + 1]? = some v1 ∧ xs[k * 4 + 2]? = some v2 ∧ xs[k * 4 + 3]? = some v3 ∧ DVals X w v0 v1 v2 v3) (hj : j < n) (hI : IntsKept X w w')
    (ho : w'.ownsRow X 61 4 (.slice (some ⟨g, 0, none⟩) n c) n ((((xs.set (j * 4) v0).set (j * 4 + 1) v1).set (j * 4 + 2) v2).set (j * 4 + 3) v3)) (hd : DVals X w' v0 v1 v2 v3) : DRow X w' (some ⟨g, 0, none⟩) n c := by
  refine ⟨_, ho, fun k hk => ?_⟩
  simp only [List.getElem?_set, List.length_set, hl]
  by_cases e : k = j
  · subst e
    exact ⟨v0, v1, v2, v3, by simp; omega, by simp; omega, by simp; omega, by simp; omega, hd⟩
  · obtain ⟨u0, u1, u2, u3, h0, h1, h2, h3, h4⟩ := hv k hk
    refine ⟨u0, u1, u2, u3, ?_, ?_, ?_, ?_, h4.kept hI⟩
    · rw [if_neg (by omega), if_neg (by omega), if_neg (by omega), if_neg (by omega)]; exact h0
    · rw [if_neg (by omega), if_neg (by omega), if_neg (by omega), if_neg (by omega)]; exact h1
    · rw [if_neg (by omega), if_neg (by omega), if_neg (by omega), if_neg (by omega)]; exact h2
    · rw [if_neg (by omega), if_neg (by omega), if_neg (by omega), if_neg (by omega)]; exact h3

end Go.Proofs.YtjmpfemlihjibaaDoor

namespace Go.Proofs.YtjmpfemlihjibaaDoor
open Go.RowKit

theorem own_blk {X n c g sz : Nat} {T : TypeId} {w : World} {xs : List Value} (ho : w.ownsRow X T sz (.slice (some ⟨g, 0, none⟩) n c) n xs) : ∃ cur, Blk w g T cur := by
  rcases ho.2 with ⟨e, _⟩ | ⟨g', cap, cur, e, _, hh, _⟩
  · cases e
  · simp only [Value.slice.injEq, Option.some.injEq, Addr.mk.injEq] at e
    obtain ⟨⟨rfl, _⟩, _⟩ := e
    exact ⟨cur, hh⟩

/-- one cell of deed j: what it is is said by V, of the four cells as they are then -/
theorem DRow.cell {X n c j g i : Nat} {w w' : World} {u : Value} (hD : DRow X w (some ⟨g, 0, none⟩) n c) (hj : j < n) (hi : i < 4)
    (hw : IntsKept X (w.setCell ⟨g, j * 4 + i, none⟩ u) w' ∧ ∀ (n : Nat) (xs : List Value), (w.setCell ⟨g, j * 4 + i, none⟩ u).ownsRow X 61 4 (.slice (some ⟨g, 0, none⟩) n c) n xs → w'.ownsRow X 61 4 (.slice (some ⟨g, 0, none⟩) n c) n xs)
    (hV : ∀ v0 v1 v2 v3, DVals X w' v0 v1 v2 v3 → DVals X w' (if i = 0 then u else v0) (if i = 1 then u else v1) (if i = 2 then u else v2) (if i = 3 then u else v3)) :
    DRow X w' (some ⟨g, 0, none⟩) n c ∧ IntsKept X w w' := by
  obtain ⟨xs, ho, hv⟩ := hD
  obtain ⟨cur, hB⟩ := own_blk ho
  have hl : xs.length = n * 4 := ho.1
  have hI : IntsKept X w w' := fun sz v m ys h => hw.1 sz v m ys (own_farT (by decide) hB h _ u)
  refine ⟨⟨_, hw.2 _ _ (ho.stored (j * 4 + i) u).1, fun k hk => ?_⟩, hI⟩
  obtain ⟨u0, u1, u2, u3, h0, h1, h2, h3, h4⟩ := hv k hk
  by_cases e : k = j
  · subst e
    refine ⟨_, _, _, _, ?_, ?_, ?_, ?_, hV u0 u1 u2 u3 (h4.kept hI)⟩
    · rw [List.getElem?_set]
      by_cases e0 : i = 0
      · subst e0; simp; omega
      · rw [if_neg (by omega), if_neg e0]; exact h0
    · rw [List.getElem?_set]
      by_cases e0 : i = 1
      · subst e0; simp; omega
      · rw [if_neg (by omega), if_neg e0]; exact h1
    · rw [List.getElem?_set]
      by_cases e0 : i = 2
      · subst e0; simp; omega
      · rw [if_neg (by omega), if_neg e0]; exact h2
    · rw [List.getElem?_set]
      by_cases e0 : i = 3
      · subst e0; simp; omega
      · rw [if_neg (by omega), if_neg e0]; exact h3
  · refine ⟨u0, u1, u2, u3, ?_, ?_, ?_, ?_, h4.kept hI⟩
    · rw [List.getElem?_set_ne (by omega)]; exact h0
    · rw [List.getElem?_set_ne (by omega)]; exact h1
    · rw [List.getElem?_set_ne (by omega)]; exact h2
    · rw [List.getElem?_set_ne (by omega)]; exact h3

theorem set_same {xs : List Value} {i : Nat} {v : Value} (h : xs[i]? = some v) : xs.set i v = xs := by
  apply List.ext_getElem?
  intro k
  rw [List.getElem?_set]
  by_cases e : i = k
  · subst e
    rw [if_pos rfl, h]
    have := (List.getElem?_eq_some_iff.1 h).1
    rw [if_pos this]
  · rw [if_neg e]
/-- three cells of deed j are written, the fourth stands -/
theorem own_put3 {X n c g : Nat} {w : World} {xs : List Value} {v3 : Value} (ho : w.ownsRow X 61 4 (.slice (some ⟨g, 0, none⟩) n c) n xs) (i : Nat) (v0 v1 v2 : Value) (h3 : xs[i + 3]? = some v3) :
    (((w.setCell ⟨g, i, none⟩ v0).setCell ⟨g, i + 1, none⟩ v1).setCell ⟨g, i + 2, none⟩ v2).ownsRow X 61 4 (.slice (some ⟨g, 0, none⟩) n c) n ((((xs.set i v0).set (i + 1) v1).set (i + 2) v2).set (i + 3) v3) ∧
      IntsKept X w (((w.setCell ⟨g, i, none⟩ v0).setCell ⟨g, i + 1, none⟩ v1).setCell ⟨g, i + 2, none⟩ v2) := by
  obtain ⟨cur, hB⟩ := own_blk ho
  refine ⟨?_, fun sz v m ys h => own_farT (by decide) ((hB.set_ _ v0).set_ _ v1) (own_farT (by decide) (hB.set_ _ v0) (own_farT (by decide) hB h _ v0) _ v1) _ v2⟩
  rw [set_same (by rw [List.getElem?_set_ne (by omega), List.getElem?_set_ne (by omega), List.getElem?_set_ne (by omega)]; exact h3)]
  exact (((ho.stored i v0).1.stored (i + 1) v1).1.stored (i + 2) v2).1

end Go.Proofs.YtjmpfemlihjibaaDoor
