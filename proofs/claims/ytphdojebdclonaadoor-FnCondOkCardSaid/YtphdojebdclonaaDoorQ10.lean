/- Joined texts. No condition. -/
import Derived.Deep.AppendLies
import Derived.Test.YtphdojebdclonaaDoorQ8
import Derived.Test.YtphdojebdclonaaDoorQ9
/- Draws: rows of a draw's own. Draws: a deed is changed in its row. Draws: one cell of a deed in a row is written. Walks: draws: tasks. No condition. -/
namespace Go.Proofs.YtphdojebdclonaaDoor
set_option linter.unusedSimpArgs false
set_option linter.unusedVariables false
open Go.RowKit

theorem own_apart {w : World} {X Y : Nat} {T T' : TypeId} {sz sz' n n' : Nat} {v v' : Value} {xs xs' : List Value} (h : w.ownsRow X T sz v n xs) (h' : w.ownsRow Y T' sz' v' n' xs') (hT : T ≠ T') : v.ownBlock = none ∨ v.ownBlock ≠ v'.ownBlock := by
  rcases h.2 with ⟨rfl, _⟩ | ⟨g, cap, cur, rfl, hg, hh, _⟩
  · exact .inl rfl
  · right
    rcases h'.2 with ⟨rfl, _⟩ | ⟨g', cap', cur', rfl, hg', hh', _⟩
    · simp [Value.ownBlock]
    · simp only [Value.ownBlock, ne_eq, Option.some.injEq]
      rintro rfl
      rw [hh] at hh'
      simp at hh'
      exact hT hh'.2
theorem own_ne_blk {w : World} {X E n sz : Nat} {T T' : TypeId} {v : Value} {xs : List Value} {cs : Array Value} (h : w.ownsRow X T sz v n xs) (hB : Blk w E T' cs) (hT : T ≠ T') : some E ≠ v.ownBlock := by
  rcases h.2 with ⟨rfl, _⟩ | ⟨g, cap, cur, rfl, hg, hh, _⟩
  · simp [Value.ownBlock]
  · simp only [Value.ownBlock, ne_eq, Option.some.injEq]
    rintro rfl
    unfold Blk at hB
    rw [hh] at hB
    simp at hB
    exact hT hB.2
theorem own_farT {D n X sz : Nat} {w5 : World} {cs : Array Value} {v : Value} {xs : List Value} {T T' : TypeId} (hT : T ≠ T') (hB : Blk w5 D T' cs) (ho : w5.ownsRow X T sz v n xs) (i : Nat) (u : Value) : (w5.setCell ⟨D, i, none⟩ u).ownsRow X T sz v n xs := by
  refine ⟨ho.1, ?_⟩
  rcases ho.2 with hn | ⟨g, cap, cur, hv, hg, hh, rest⟩
  · exact .inl hn
  · refine .inr ⟨g, cap, cur, hv, hg, ?_, rest⟩
    have hne : g ≠ D := by
      rintro rfl
      unfold Blk at hB
      rw [hh] at hB
      simp at hB
      exact hT hB.2
    exact (Below.heap_setCell w5 _ u g hne).trans hh

/-- the four cells of a deed with a row of its own -/
def DVals (X : Nat) (w : World) (v0 v1 v2 v3 : Value) : Prop :=
  ∃ (A : Option Addr) (n c : Nat) (l : List Int) (on off flip : Int), v0 = .slice A n c ∧ v1 = .int .i64 on ∧ v2 = .int .i64 off ∧ v3 = .int .i64 flip ∧ n ≤ 64 ∧ w.ownsRow X 3 1 (.slice A n c) n (l.map (Value.int .i64)) ∧ (∀ x ∈ l, Sp.inI x) ∧ Sp.inI on ∧ Sp.inI off ∧ Sp.inI flip
/-- a row of deeds of the draw's own -/
def DRow (X : Nat) (w : World) (A : Option Addr) (n c : Nat) : Prop :=
  ∃ xs : List Value, w.ownsRow X 72 4 (.slice A n c) n xs ∧ ∀ k, k < n → ∃ v0 v1 v2 v3, xs[k * 4]? = some v0 ∧ xs[k * 4 + 1]? = some v1 ∧ xs[k * 4 + 2]? = some v2 ∧ xs[k * 4 + 3]? = some v3 ∧ DVals X w v0 v1 v2 v3
/-- a row of integers of the draw's own -/
def GRow (X : Nat) (w : World) (A : Option Addr) (n c : Nat) : Prop := ∃ l : List Int, n ≤ 64 ∧ w.ownsRow X 3 1 (.slice A n c) n (l.map (Value.int .i64)) ∧ ∀ x ∈ l, Sp.inI x

/-- whatever keeps rows -/
def RowsKept (X : Nat) (w w' : World) : Prop := ∀ (T : TypeId) (sz : Nat) (v : Value) (n : Nat) (xs : List Value), (T = 3 ∨ T = 72) → w.ownsRow X T sz v n xs → w'.ownsRow X T sz v n xs
def IntsKept (X : Nat) (w w' : World) : Prop := ∀ (sz : Nat) (v : Value) (n : Nat) (xs : List Value), w.ownsRow X 3 sz v n xs → w'.ownsRow X 3 sz v n xs
section
variable {X : Nat} {w w' : World}
theorem RowsKept.ints (h : RowsKept X w w') : IntsKept X w w' := fun sz v n xs => h _ sz v n xs (.inl rfl)
theorem RowsKept.of_kept (h : Kept w w') : RowsKept X w w' := fun _ _ _ _ _ _ ho => own_keep ho h
theorem RowsKept.of_but {B C : Nat} (h : But B C w w') (hC : C ≤ X) : RowsKept X w w' := fun _ _ _ _ _ _ ho => own_but ho h hC
theorem RowsKept.trans {w2 : World} (h : RowsKept X w w') (k : RowsKept X w' w2) : RowsKept X w w2 := fun T sz v n xs hT ho => k T sz v n xs hT (h T sz v n xs hT ho)
theorem RowsKept.set {D : Nat} {T : TypeId} {cs : Array Value} (hB : Blk w D T cs) (h1 : 3 ≠ T) (h2 : 72 ≠ T) (i : Nat) (u : Value) : RowsKept X w (w.setCell ⟨D, i, none⟩ u) := fun T' sz v n xs hT ho => by
  rcases hT with rfl | rfl
  · exact own_farT h1 hB ho i u
  · exact own_farT h2 hB ho i u
theorem DVals.kept {v0 v1 v2 v3 : Value} (h : DVals X w v0 v1 v2 v3) (hk : IntsKept X w w') : DVals X w' v0 v1 v2 v3 := by
  obtain ⟨A, n, c, l, on, off, flip, e0, e1, e2, e3, hn, ho, rest⟩ := h
  exact ⟨A, n, c, l, on, off, flip, e0, e1, e2, e3, hn, hk _ _ _ _ ho, rest⟩
theorem DRow.kept {A : Option Addr} {n c : Nat} (h : DRow X w A n c) (hk : RowsKept X w w') : DRow X w' A n c := by
  obtain ⟨xs, ho, hv⟩ := h
  refine ⟨xs, hk _ _ _ _ _ (.inr rfl) ho, fun k hkn => ?_⟩
  obtain ⟨v0, v1, v2, v3, h0, h1, h2, h3, hd⟩ := hv k hkn
  exact ⟨v0, v1, v2, v3, h0, h1, h2, h3, hd.kept hk.ints⟩
theorem GRow.kept {A : Option Addr} {n c : Nat} (h : GRow X w A n c) (hk : IntsKept X w w') : GRow X w' A n c := by
  obtain ⟨l, hn, ho, hi⟩ := h
  exact ⟨l, hn, hk _ _ _ _ ho, hi⟩
theorem DRow.nil (X : Nat) (w : World) : DRow X w none 0 0 := ⟨[], World.ownsRow_nil _ _ _ _, fun k hk => by omega⟩
theorem GRow.own {A : Option Addr} {n c : Nat} (h : GRow X w A n c) : ∃ l, Ints w A n l := by
  obtain ⟨l, hn, ho, hi⟩ := h
  refine ⟨l, ?_⟩
  have hl : l.length = n := by have := ho.1; simpa using this
  refine ⟨hl, by unfold maxLen; omega, hi, fun h0 => ?_⟩
  obtain ⟨_, g, rfl, _, h3⟩ := own_row ho h0
  obtain ⟨h4, h5⟩ := h3
  exact ⟨g, 0, rfl, h5.1, fun k hk => by rw [Nat.zero_add]; exact h5.2.2 k hk⟩
theorem DRow.deeds {A : Option Addr} {n c : Nat} (h : DRow X w A n c) (hn : n ≤ 64) : ∃ ds, Deeds w A n ds := by
  obtain ⟨xs, ho, hv⟩ := h
  by_cases h0 : 0 < n
  · obtain ⟨_, g, rfl, hg, hgl, _, _⟩ := own_some ho h0
    have hc : ∀ j u, xs[j]? = some u → w.cell? ⟨g, j, none⟩ = some u := fun j u hu => by
      rw [ho.cellAt j (by have := ho.1; have := (List.getElem?_eq_some_iff.1 hu).1; omega)]
      exact hu
    have hd : ∀ k, ∃ d : Sp.Deed, k < n → DeedCells w g (0 + k * 4) d := fun k => by
      by_cases hk : k < n
      · obtain ⟨v0, v1, v2, v3, h0, h1, h2, h3, A, m, c, l, on, off, flip, rfl, rfl, rfl, rfl, hm, hr, hi, i1, i2, i3⟩ := hv k hk
        obtain ⟨l', hI⟩ := GRow.own ⟨l, hm, hr, hi⟩
        refine ⟨⟨l', on, off, flip⟩, fun _ => ?_⟩
        rw [Nat.zero_add]
        exact ⟨A, m, c, hc _ _ h0, hI, hc _ _ h1, hc _ _ h2, hc _ _ h3, i1, i2, i3⟩
      · exact ⟨default, fun h => absurd h hk⟩
    refine ⟨(List.range n).map (fun k => (hd k).choose), by simp, by unfold maxLen; omega, fun _ => ⟨g, 0, rfl, hgl, fun k hk => ?_⟩⟩
    have := (hd k).choose_spec hk
    simpa [hk] using this
  · exact ⟨[], by simp; omega, by unfold maxLen; omega, fun h => absurd h h0⟩
end

theorem DRow.push {X n c c2 : Nat} {w w2 : World} {o : Obj} {A A2 : Option Addr} {xs : List Value} {v0 v1 v2 v3 : Value} (ho : w.ownsRow X 72 4 (.slice A n c) n xs)
    (hv : ∀ k, k < n → ∃ v0 v1 v2 v3, xs[k * 4]? = some v0 ∧ xs[k * 4 + 1]? = some v1 ∧ xs[k * 4 + 2]? = some v2 ∧ xs[k * 4 + 3]? = some v3 ∧ DVals X w v0 v1 v2 v3)
    (hg : (w.alloc o).grownBy w2 (Value.slice A n c).ownBlock) (ho2 : w2.ownsRow X 72 4 (.slice A2 (n + 1) c2) (n + 1) (xs ++ [v0, v1, v2, v3])) (hd : DVals X w v0 v1 v2 v3) :
    DRow X w2 A2 (n + 1) c2 ∧ IntsKept X w w2 := by
  have hI : IntsKept X w w2 := fun sz v m ys h => (h.alloc o).kept hg (own_apart (h.alloc o) (ho.alloc o) (by decide))
  have hl : xs.length = n * 4 := ho.1
  refine ⟨⟨xs ++ [v0, v1, v2, v3], ho2, fun k hk => ?_⟩, hI⟩
  by_cases e : k = n
  · subst e
    refine ⟨v0, v1, v2, v3, ?_, ?_, ?_, ?_, hd.kept hI⟩
    · rw [List.getElem?_append_right (by omega), hl]; simp
    · rw [List.getElem?_append_right (by omega), hl, show k * 4 + 1 - k * 4 = 1 by omega]; rfl
    · rw [List.getElem?_append_right (by omega), hl, show k * 4 + 2 - k * 4 = 2 by omega]; rfl
    · rw [List.getElem?_append_right (by omega), hl, show k * 4 + 3 - k * 4 = 3 by omega]; rfl
  · obtain ⟨u0, u1, u2, u3, h0, h1, h2, h3, h4⟩ := hv k (by omega)
    refine ⟨u0, u1, u2, u3, ?_, ?_, ?_, ?_, h4.kept hI⟩
    · rw [List.getElem?_append_left (by omega)]; exact h0
    · rw [List.getElem?_append_left (by omega)]; exact h1
    · rw [List.getElem?_append_left (by omega)]; exact h2
    · rw [List.getElem?_append_left (by omega)]; exact h3

/-- the draw's task, under way: at block E; the result's variable at block w.heap.size -/
def TSt (R : Nat) (w : World) (p K : Int) (E : Nat) (M : Nat) (w' : World) : Prop :=
  ∃ (st : Int) (A : Option Addr) (n c : Nat) (A' : Option Addr) (n' c' : Nat) (p' : Int), Blk w' E 26 #[.int .i64 st, .slice A n c, .slice A' n' c'] ∧ Sp.inI st ∧ GRow w.heap.size w' A n c ∧ DRow w.heap.size w' A' n' c' ∧ n' ≤ M ∧
    Rd R w' p' ∧ p ≤ p' ∧ p' ≤ p + K ∧ But R (R + 1) w w' ∧ Blk w' w.heap.size 26 #[.int .i64 0, .slice none 0 0, .slice none 0 0]

/-- a task that a draw made -/
def TaskQ (X : Nat) (v : Value) (w : World) : Prop := ∃ (st : Int) (A : Option Addr) (n c : Nat) (A' : Option Addr) (n' c' : Nat), v = .agg #[.int .i64 st, .slice A n c, .slice A' n' c'] ∧ Sp.inI st ∧ GRow X w A n c ∧ DRow X w A' n' c' ∧ n' ≤ 8
theorem TaskQ.task {X : Nat} {v : Value} {w : World} (h : TaskQ X v w) : ∃ t, TaskV w v t ∧ t.deeds.length ≤ 8 := by
  obtain ⟨st, A, n, c, A', n', c', rfl, hi, hG, hD, hn⟩ := h
  obtain ⟨l, hI⟩ := hG.own
  obtain ⟨ds, hDs⟩ := hD.deeds (by omega)
  exact ⟨⟨st, l, ds⟩, ⟨A, n, c, A', n', c', rfl, hI, hDs, hi⟩, by rw [hDs.len]; exact hn⟩
theorem TaskQ.kept {X : Nat} {v : Value} {w w' : World} (h : TaskQ X v w) (hk : RowsKept X w w') : TaskQ X v w' := by
  obtain ⟨st, A, n, c, A', n', c', rfl, hi, hG, hD, hn⟩ := h
  exact ⟨st, A, n, c, A', n', c', rfl, hi, hG.kept hk.ints, hD.kept hk, hn⟩

theorem gRow_new {w : World} {X : Nat} (l : List Int) (hX : X ≤ w.heap.size) (hl : l.length ≤ 64) (hi : ∀ x ∈ l, Sp.inI x) :
    GRow X (w.alloc (.cells (l.map (Value.int .i64)).toArray 3)) (some ⟨w.heap.size, 0, none⟩) l.length l.length := by
  have := own_new (X := X) w (l.map (Value.int .i64)) 3 hX (by simp [maxLen]; omega)
  rw [List.length_map] at this
  exact ⟨l, hl, this, hi⟩
theorem task_put {R E : Nat} {w w4 : World} {cs cs0 : Array Value} {p4 : Int} (hBE : Blk w4 E 26 cs) (hR : Rd R w4 p4) (hb : But R (R + 1) w w4) (hB0 : Blk w4 w.heap.size 26 cs0) (hRw : R < w.heap.size) (hE : w.heap.size < E) (i : Nat) (u : Value) :
    Blk (w4.setCell ⟨E, i, none⟩ u) E 26 (cs.setIfInBounds i u) ∧ RowsKept w.heap.size w4 (w4.setCell ⟨E, i, none⟩ u) ∧ Rd R (w4.setCell ⟨E, i, none⟩ u) p4 ∧ But R (R + 1) w (w4.setCell ⟨E, i, none⟩ u) ∧ Blk (w4.setCell ⟨E, i, none⟩ u) w.heap.size 26 cs0 :=
  ⟨hBE.set_ i u, RowsKept.set hBE (by decide) (by decide) i u, hR.setFar (show R < E by omega) u, hb.setNew (show w.heap.size ≤ E by omega) u, hB0.far (show w.heap.size ≠ E by omega) u⟩

end Go.Proofs.YtphdojebdclonaaDoor

namespace Go.Proofs.YtphdojebdclonaaDoor
set_option linter.unusedSimpArgs false
set_option linter.unusedVariables false
open Go.RowKit

theorem inI_wrap64 (x : Int) : Sp.inI (wrap64 x) := by unfold Sp.inI wrap64; omega
/-- four cells of a row of deeds of one's own are written -/
theorem own_put {X n c g : Nat} {w : World} {xs : List Value} (ho : w.ownsRow X 72 4 (.slice (some ⟨g, 0, none⟩) n c) n xs) (i : Nat) (v0 v1 v2 v3 : Value) :
    ((((w.setCell ⟨g, i, none⟩ v0).setCell ⟨g, i + 1, none⟩ v1).setCell ⟨g, i + 2, none⟩ v2).setCell ⟨g, i + 3, none⟩ v3).ownsRow X 72 4 (.slice (some ⟨g, 0, none⟩) n c) n ((((xs.set i v0).set (i + 1) v1).set (i + 2) v2).set (i + 3) v3) ∧
      IntsKept X w ((((w.setCell ⟨g, i, none⟩ v0).setCell ⟨g, i + 1, none⟩ v1).setCell ⟨g, i + 2, none⟩ v2).setCell ⟨g, i + 3, none⟩ v3) := by
  obtain ⟨cur, hB⟩ : ∃ cur, Blk w g 72 cur := by
    rcases ho.2 with ⟨e, _⟩ | ⟨g', cap, cur, e, _, hh, _⟩
    · cases e
    · simp only [Value.slice.injEq, Option.some.injEq, Addr.mk.injEq] at e
      obtain ⟨⟨rfl, _⟩, _⟩ := e
      exact ⟨cur, hh⟩
  exact ⟨((((ho.stored i v0).1.stored (i + 1) v1).1.stored (i + 2) v2).1.stored (i + 3) v3).1, fun sz v m ys h =>
    own_farT (by decide) (((hB.set_ _ v0).set_ _ v1).set_ _ v2) (own_farT (by decide) ((hB.set_ _ v0).set_ _ v1) (own_farT (by decide) (hB.set_ _ v0) (own_farT (by decide) hB h _ v0) _ v1) _ v2) _ v3⟩

theorem DRow.put {X n c j g : Nat} {w w' : World} {xs : List Value} {v0 v1 v2 v3 : Value} (hl : xs.length = n * 4)
    (hv : ∀ k, k < n → ∃ v0 v1 v2 v3, xs[k * 4]? = some v0 ∧ xs[k * 4 + 1]? = some v1 ∧ xs[k * 4 + 2]? = some v2 ∧ xs[k * 4 + 3]? = some v3 ∧ DVals X w v0 v1 v2 v3) (hj : j < n) (hI : IntsKept X w w')
    (ho : w'.ownsRow X 72 4 (.slice (some ⟨g, 0, none⟩) n c) n ((((xs.set (j * 4) v0).set (j * 4 + 1) v1).set (j * 4 + 2) v2).set (j * 4 + 3) v3)) (hd : DVals X w' v0 v1 v2 v3) : DRow X w' (some ⟨g, 0, none⟩) n c := by
  refine ⟨_, ho, fun k hk => ?_⟩
  simp only [List.getElem?_set, List.length_set, hl]
  by_cases e : k = j
  · subst e
    exact ⟨v0, v1, v2, v3, by simp; omega, by simp; omega, by simp; omega, by simp; omega, hd⟩
  · obtain ⟨u0, u1, u2, u3, h0, h1, h2, h3, h4⟩ := hv k hk
    refine ⟨u0, u1, u2, u3, ?_, ?_, ?_, ?_, h4.kept hI⟩
    · rw [if_neg (by omega), if_neg (by omega), if_neg (by omega), if_neg (by omega)]; exact h0
    · rw [if_neg (by omega), if_neg (by omega), if_neg (by omega), if_neg (by omega)]; exact h1
    · rw [if_neg (by omega), if_neg (by omega), if_neg (by omega), if_neg (by omega)]; exact h2
    · rw [if_neg (by omega), if_neg (by omega), if_neg (by omega), if_neg (by omega)]; exact h3

end Go.Proofs.YtphdojebdclonaaDoor

namespace Go.Proofs.YtphdojebdclonaaDoor
set_option linter.unusedSimpArgs false
set_option linter.unusedVariables false
open Go.RowKit

theorem own_blk {X n c g sz : Nat} {T : TypeId} {w : World} {xs : List Value} (ho : w.ownsRow X T sz (.slice (some ⟨g, 0, none⟩) n c) n xs) : ∃ cur, Blk w g T cur := by
  rcases ho.2 with ⟨e, _⟩ | ⟨g', cap, cur, e, _, hh, _⟩
  · cases e
  · simp only [Value.slice.injEq, Option.some.injEq, Addr.mk.injEq] at e
    obtain ⟨⟨rfl, _⟩, _⟩ := e
    exact ⟨cur, hh⟩

/-- one cell of deed j: what it is is said by V, of the four cells as they are then -/
theorem DRow.cell {X n c j g i : Nat} {w w' : World} {u : Value} (hD : DRow X w (some ⟨g, 0, none⟩) n c) (hj : j < n) (hi : i < 4)
    (hw : IntsKept X (w.setCell ⟨g, j * 4 + i, none⟩ u) w' ∧ ∀ (n : Nat) (xs : List Value), (w.setCell ⟨g, j * 4 + i, none⟩ u).ownsRow X 72 4 (.slice (some ⟨g, 0, none⟩) n c) n xs → w'.ownsRow X 72 4 (.slice (some ⟨g, 0, none⟩) n c) n xs)
    (hV : ∀ v0 v1 v2 v3, DVals X w' v0 v1 v2 v3 → DVals X w' (if i = 0 then u else v0) (if i = 1 then u else v1) (if i = 2 then u else v2) (if i = 3 then u else v3)) :
    DRow X w' (some ⟨g, 0, none⟩) n c ∧ IntsKept X w w' := by
  obtain ⟨xs, ho, hv⟩ := hD
  obtain ⟨cur, hB⟩ := own_blk ho
  have hl : xs.length = n * 4 := ho.1
  have hI : IntsKept X w w' := fun sz v m ys h => hw.1 sz v m ys (own_farT (by decide) hB h _ u)
  refine ⟨⟨_, hw.2 _ _ (ho.stored (j * 4 + i) u).1, fun k hk => ?_⟩, hI⟩
  obtain ⟨u0, u1, u2, u3, h0, h1, h2, h3, h4⟩ := hv k hk
  by_cases e : k = j
  · subst e
    refine ⟨_, _, _, _, ?_, ?_, ?_, ?_, hV u0 u1 u2 u3 (h4.kept hI)⟩
    · rw [List.getElem?_set]
      by_cases e0 : i = 0
      · subst e0; simp; omega
      · rw [if_neg (by omega), if_neg e0]; exact h0
    · rw [List.getElem?_set]
      by_cases e0 : i = 1
      · subst e0; simp; omega
      · rw [if_neg (by omega), if_neg e0]; exact h1
    · rw [List.getElem?_set]
      by_cases e0 : i = 2
      · subst e0; simp; omega
      · rw [if_neg (by omega), if_neg e0]; exact h2
    · rw [List.getElem?_set]
      by_cases e0 : i = 3
      · subst e0; simp; omega
      · rw [if_neg (by omega), if_neg e0]; exact h3
  · refine ⟨u0, u1, u2, u3, ?_, ?_, ?_, ?_, h4.kept hI⟩
    · rw [List.getElem?_set_ne (by omega)]; exact h0
    · rw [List.getElem?_set_ne (by omega)]; exact h1
    · rw [List.getElem?_set_ne (by omega)]; exact h2
    · rw [List.getElem?_set_ne (by omega)]; exact h3

theorem set_same {xs : List Value} {i : Nat} {v : Value} (h : xs[i]? = some v) : xs.set i v = xs := by
  apply List.ext_getElem?
  intro k
  rw [List.getElem?_set]
  by_cases e : i = k
  · subst e
    rw [if_pos rfl, h]
    have := (List.getElem?_eq_some_iff.1 h).1
    rw [if_pos this]
  · rw [if_neg e]
/-- three cells of deed j are written, the fourth stands -/
theorem own_put3 {X n c g : Nat} {w : World} {xs : List Value} {v3 : Value} (ho : w.ownsRow X 72 4 (.slice (some ⟨g, 0, none⟩) n c) n xs) (i : Nat) (v0 v1 v2 : Value) (h3 : xs[i + 3]? = some v3) :
    (((w.setCell ⟨g, i, none⟩ v0).setCell ⟨g, i + 1, none⟩ v1).setCell ⟨g, i + 2, none⟩ v2).ownsRow X 72 4 (.slice (some ⟨g, 0, none⟩) n c) n ((((xs.set i v0).set (i + 1) v1).set (i + 2) v2).set (i + 3) v3) ∧
      IntsKept X w (((w.setCell ⟨g, i, none⟩ v0).setCell ⟨g, i + 1, none⟩ v1).setCell ⟨g, i + 2, none⟩ v2) := by
  obtain ⟨cur, hB⟩ := own_blk ho
  refine ⟨?_, fun sz v m ys h => own_farT (by decide) ((hB.set_ _ v0).set_ _ v1) (own_farT (by decide) (hB.set_ _ v0) (own_farT (by decide) hB h _ v0) _ v1) _ v2⟩
  rw [set_same (by rw [List.getElem?_set_ne (by omega), List.getElem?_set_ne (by omega), List.getElem?_set_ne (by omega)]; exact h3)]
  exact (((ho.stored i v0).1.stored (i + 1) v1).1.stored (i + 2) v2).1

end Go.Proofs.YtphdojebdclonaaDoor

namespace Go.Proofs.YtphdojebdclonaaDoor
set_option linter.unusedSimpArgs false
set_option linter.unusedVariables false
open Go.RowKit

set_option maxHeartbeats 3000000 in
set_option maxRecDepth 100000 in
theorem c_l20Task (R : Nat) (n0 : Int) (p : Int) (w : World) (h : Rd R w p) (hp : p ≤ 900000000) (hn0 : 0 ≤ n0) (hn1 : n0 ≤ 1000) : Calls Tryd.prog 69 #[.pointer (some ⟨R, 0, none⟩), .int .i64 n0] w (RetD R p 200 w (TaskQ w.heap.size)) := by
  obtain ⟨i0, hi0, hz0, hz1, hz2⟩ := info_parts info_deed
  have HI := Lib.hid (And.intro hi0 (And.intro hz0 (And.intro hz1 hz2)))
  clear hi0 hz0 hz1 hz2
  have hRlt := h.lt
  have hk0 := (Kept.refl w).alloc (.cells #[.int .i64 0, .slice none 0 0, .slice none 0 0] 26)
  have B0 := Blk.new w 26 #[.int .i64 0, .slice none 0 0, .slice none 0 0]
  have hb0 : But R (R + 1) w _ := But.of_kept hk0
  go_enter Tryd.func69, Tryd.ntmps69
  go_wp2_with fail
  refine (c_pick R 32 p _ (h.keep hk0) (by omega) (by omega)).mono ?_; rintro e w2 ⟨v, p2, rfl, hR2, hp1, hp2, hb2, st, rfl, hs0, hs1⟩
  replace hb0 := hb0.trans hb2
  replace B0 := hb2.blk B0 (.inr (by omega))
  clear hb2 hk0 h
  have hsz := hb0.size
  go_wp2_with fail
  refine (c_l20Need R p2 _ hR2 (by omega)).mono ?_; rintro e w3 ⟨v, p3, rfl, hR3, hp3, hp3', hb3, A, n, c, l, rfl, hn, hown, hin⟩
  replace hb0 := hb0.trans hb3
  replace B0 := hb3.blk B0 (.inr (by omega))
  have hlt0 := B0.lt
  have hG : GRow w.heap.size w3 A n c := ⟨l, hn, ownsRow_mono hown hsz, hin⟩
  clear hb3 hR2 hown hin
  have hkE := (Kept.refl w3).alloc (.cells #[.int .i64 st, .slice A n c, .slice none 0 0] 26)
  have BE := Blk.new w3 26 #[.int .i64 st, .slice A n c, .slice none 0 0]
  have hst0 : TSt R w p 9 w3.heap.size 0 (w3.alloc (.cells #[.int .i64 st, .slice A n c, .slice none 0 0] 26)) :=
    ⟨st, A, n, c, none, 0, 0, p3, BE, inI_small (by omega) (by omega), hG.kept (RowsKept.of_kept hkE).ints, DRow.nil _ _, Nat.le_refl 0, hR3.keep hkE, by omega, by omega, hb0.kept_ hkE, B0.kept hkE⟩
  go_wp2_with fail
  have hEw : w.heap.size < w3.heap.size := hlt0
  obtain ⟨E, HE⟩ : ∃ E, Hid (E = w3.heap.size) := ⟨_, rfl⟩
  rw [← HE.out] at hst0 hEw ⊢
  obtain ⟨wa, HWa⟩ : ∃ wa, Hid (wa = w3.alloc (.cells #[.int .i64 st, .slice A n c, .slice none 0 0] 26)) := ⟨w3.alloc (.cells #[.int .i64 st, .slice A n c, .slice none 0 0] 26), rfl⟩
  rw [← HWa.out] at hst0 ⊢
  clear hkE BE hG hR3 hb0 B0 hlt0 hsz hp1 hp2 hp3 hp3' hn hs0 hs1 HWa HE
  obtain ⟨st, A, n, c, A', n', c', p3, hBE, hst, hG, hD, hn', hR3, hp1, hp2, hb, hB0⟩ := hst0
  refine (c_pick R 2 p3 _ hR3 (by omega) (by omega)).mono ?_; rintro e w4 ⟨v, p4, rfl, hR4, hp3, hp4, hb4, x, rfl, hx0, hx1⟩
  replace hBE := hb4.blk hBE (.inr (by omega))
  replace hB0 := hb4.blk hB0 (.inr (by omega))
  have hkr := RowsKept.of_but (X := w.heap.size) hb4 hRlt
  replace hG := hG.kept hkr.ints
  replace hD := hD.kept hkr
  replace hb := hb.trans hb4
  clear hb4 hR3 hkr
  go_upto_if 16 with fail
  go_cut [5] from 6 (fun v w' => v = .pointer (some ⟨E, 0, none⟩) ∧ TSt R w p 13 E 0 w')
  case first =>
    by_cases hx : x = 0
    · subst hx
      go_wp2_with fail
      refine (c_pick R 5 p4 _ hR4 (by omega) (by omega)).mono ?_; rintro e w5 ⟨v, p5, rfl, hR5, hp5, hp5', hb5, z1, rfl, hz10, hz11⟩
      go_wp2_with fail
      refine (c_pick R 5 p5 _ hR5 (by omega) (by omega)).mono ?_; rintro e w6 ⟨v, p6, rfl, hR6, hp6, hp6', hb6, z2, rfl, hz20, hz21⟩
      go_wp2_with fail
      refine (c_pick R 5 p6 _ hR6 (by omega) (by omega)).mono ?_; rintro e w7 ⟨v, p7, rfl, hR7, hp7, hp7', hb7, z3, rfl, hz30, hz31⟩
      have hb8 := (hb5.trans hb6).trans hb7
      replace hBE := hb8.blk hBE (.inr (by omega))
      replace hB0 := hb8.blk hB0 (.inr (by omega))
      have hka := (Kept.refl w7).alloc (.cells #[.int .i64 z1, .int .i64 z2, .int .i64 8, .int .i64 z3, .int .i64 7, .int .i64 8] 3)
      have hkr := (RowsKept.of_but (X := w.heap.size) hb8 hRlt).trans (RowsKept.of_kept hka)
      replace hD := hD.kept hkr
      replace hb := hb.trans hb8
      have hgn := gRow_new (w := w7) (X := w.heap.size) [z1, z2, 8, z3, 7, 8] hb.size (by simp) (fun x hx => by simp at hx; rcases hx with rfl | rfl | rfl | rfl | rfl | rfl <;> exact inI_small (by omega) (by omega))
      obtain ⟨d1, d2, d3, d4, d5⟩ := task_put (hBE.kept hka) (hR7.keep hka) (hb.kept_ hka) (hB0.kept hka) hRlt hEw 1 (.slice (some ⟨w7.heap.size, 0, none⟩) 6 6)
      replace hD := hD.kept d2
      have hgn2 := hgn.kept d2.ints
      have c0 := (hBE.kept hka).cell
      have f0 := (hBE.kept hka).frozen
      clear hb5 hb6 hb7 hb8 hkr hka hgn hBE hB0 hR4 hR5 hR6 hR7 hb hG d2
      go_wp2_with fail
      go_meet
      case rel => exact ⟨rfl, st, _, _, _, A', n', c', p7, by simpa using d1, hst, hgn2, hD, hn', d3, by omega, by omega, d4, d5⟩
    · go_wp2_with fail
      go_meet
      case rel => exact ⟨rfl, st, A, n, c, A', n', c', p4, hBE, hst, hG, hD, hn', hR4, by omega, by omega, hb, hB0⟩
  case rest =>
    clear hBE hB0 hR4 hb hG hD hst hn' hp1 hp2 hp3 hp4 hx0 hx1
    obtain ⟨rfl, hcut⟩ := hcut
    obtain ⟨st, A, n, c, A', n', c', p3, hBE, hst, hG, hD, hn', hR3, hp1, hp2, hb, hB0⟩ := hcut
    go_wp2_with fail
    refine (c_pick R 7 p3 _ hR3 (by omega) (by omega)).mono ?_; rintro e w5 ⟨v, p5, rfl, hR5, hp5, hp5', hb5, x, rfl, hx0, hx1⟩
    obtain ⟨j0, rfl⟩ := Int.eq_ofNat_of_zero_le hx0
    have hj0 : j0 ≤ 6 := by omega
    replace hBE := hb5.blk hBE (.inr (by omega))
    replace hB0 := hb5.blk hB0 (.inr (by omega))
    have hkr := RowsKept.of_but (X := w.heap.size) hb5 hRlt
    replace hG := hG.kept hkr.ints
    replace hD := hD.kept hkr
    replace hb := hb.trans hb5
    clear hb5 hR3 hkr hx0 hx1
    go_wp2_with fail
    have hst1 : TSt R w p (14 + 15 * (6 - (j0 : Int))) E (6 - j0) w5 := ⟨st, A, n, c, A', n', c', p5, hBE, hst, hG, hD, by omega, hR5, by omega, by omega, hb, hB0⟩
    clear hBE hB0 hR5 hb hG hD hst hn' hp1 hp2 hp5 hp5'
    go_loopw [6] (fun y wr => ∃ j : Nat, j ≤ 6 ∧ y = .int .i64 j ∧ TSt R w p (14 + 15 * (6 - (j : Int))) E (6 - j) wr) (fun y _ => (intOf y).toNat)
    case atStart => exact ⟨j0, hj0, rfl, hst1⟩
    case round =>
      obtain ⟨j, hj, rfl, st, A, n, c, A', n', c', p3, hBE, hst, hG, hD, hn', hR3, hp1, hp2, hb, hB0⟩ := hrel
      by_cases hlt : 0 < j
      · have c0 := hBE.cell
        go_wp2_with fail
        have d0 : wr.cell? ⟨E, 2, none⟩ = some (.slice A' n' c') := hBE.cell 2
        have f0 := hBE.frozen 2
        obtain ⟨xs, hxs, hxv⟩ := hD
        have hIn := HI.out
        refine wp_region_held_drew (S := fun _ => True) (by kernel_rfl) trivial (fun hHeld => ?_)
        refine take_val (i := 0) (v := .pointer (some ⟨E, 2, none⟩)) rfl rfl (by kernel_rfl) (by kernel_rfl) (by kernel_rfl) (fun _ _ _ h => h) rfl ?_ trivial ?_
        · (intro wq hq; go_simp; try with_reducible rfl)
        simp only [List.setIfInBounds_toArray, List.set_cons_zero, List.set_cons_succ]
        refine take_val (i := 2) (v := .pointer (some ⟨R, 0, none⟩)) rfl rfl (by kernel_rfl) (by kernel_rfl) (by kernel_rfl) (fun _ _ _ h => h) rfl ?_ trivial ?_
        · (intro wq hq; go_simp; try with_reducible rfl)
        simp only [List.setIfInBounds_toArray, List.set_cons_zero, List.set_cons_succ]
        refine wpAnyH_ready (rs := [1, 3]) (by kernel_rfl) (by simp) ?_
        refine AllReadyH.cons rfl (fun K hK => ?_) (AllReadyH.cons rfl (fun K hK => ?_) AllReadyH.nil)
        · go_simp
          refine hK.out _ _ trivial (fun _ => ?_)
          clear hK K
          try simp only [Act.put, List.setIfInBounds_toArray, List.set_cons_zero, List.set_cons_succ]
          refine wpAnyH_ready (rs := [3]) (by kernel_rfl) (by simp) ?_
          refine AllReadyH.cons rfl (fun K hK => ?_) AllReadyH.nil
          go_simp
          refine (c_l20Deed R 0 p3 _ (hR3.keep (Kept.refl wr).drew) (by omega) (by omega) (by omega)).mono ?_; rintro e w6 ⟨v, p6, rfl, hR6, hp6, hp6', hb6, A2, m2, c2, l2, on, off, flip, rfl, hm2, hown2, hin2, hon, hoff, hflip⟩
          have hbk := But.trans (But.of_kept (B := R) (C := R + 1) (Kept.refl wr).drew) hb6
          have hBE6 := hbk.blk hBE (.inr (by omega))
          have hB06 := hbk.blk hB0 (.inr (by omega))
          have d6 : w6.cell? ⟨E, 2, none⟩ = some (.slice A' n' c') := hBE6.cell 2
          have hsz6 := hb.size
          have hsz7 := hbk.size
          have hxs6 := own_but hxs hbk hRlt
          have hBE7 := hBE6.alloc (.cells #[.slice A2 m2 c2, .int .i64 on, .int .i64 off, .int .i64 flip] 72)
          have d7 : (w6.alloc (.cells #[.slice A2 m2 c2, .int .i64 on, .int .i64 off, .int .i64 flip] 72)).cell? ⟨E, 2, none⟩ = some (.slice A' n' c') := hBE7.cell 2
          refine hK.out _ _ trivial (fun _ => ?_)
          clear hK K
          try simp only [Act.put, List.setIfInBounds_toArray, List.set_cons_zero, List.set_cons_succ]
          refine wpAnyH_ready (rs := [4]) (by kernel_rfl) (by simp) ?_
          refine AllReadyH.cons rfl (fun K hK => ?_) AllReadyH.nil
          go_simp
          refine hK.out _ _ trivial (fun _ => ?_)
          clear hK K
          try simp only [Act.put, List.setIfInBounds_toArray, List.set_cons_zero, List.set_cons_succ]
          refine wpAnyH_ready (rs := [5]) (by kernel_rfl) (by simp) ?_
          refine AllReadyH.cons rfl (fun K hK => ?_) AllReadyH.nil
          refine step_append_lies _ (by rfl) (.tmp 32) (.tmp 35) 24 (by rfl) w.heap.size 72 i0 (.agg #[.slice none 0 0, .int .i64 0, .int .i64 0, .int .i64 0]) 4 48 Tryd.underlying24 hIn.1 hIn.2.1 hIn.2.2.1 hIn.2.2.2 rfl (by decide) (.slice A' n' c') n' xs (by rfl) (hxs6.alloc _) ⟨w6.heap.size, 0, none⟩ 1 1 [.slice A2 m2 c2, .int .i64 on, .int .i64 off, .int .i64 flip] (by rfl) rfl (list_new _ _ _) (by simp [Value.oneCell']) (by omega) (by unfold maxLen; omega) (by omega) (by simp; omega) (w6.heap.size + 1) (by simp) ?_
          intro g cap w8 hown8 hgrow hat hlt8
          refine hK.out _ _ trivial (fun _ => ?_)
          clear hK K
          try simp only [Act.put, List.setIfInBounds_toArray, List.set_cons_zero, List.set_cons_succ]
          refine take_val (i := 6) (v := .pointer (some ⟨E, 2, none⟩)) rfl rfl (by kernel_rfl) (by kernel_rfl) (by kernel_rfl) (fun _ _ _ h => h) rfl ?_ trivial ?_
          · (intro wq hq; go_simp; try with_reducible rfl)
          try simp only [Act.put, List.setIfInBounds_toArray, List.set_cons_zero, List.set_cons_succ]
          have hne := own_ne_blk (hxs6.alloc _) hBE7 (by decide)
          have hBE8 := hBE7.grown hgrow hne
          have d8 := hBE8.cell 2
          have f8 := hBE8.frozen 2
          refine wpAnyH_ready (rs := [7]) (by kernel_rfl) (by simp) ?_
          refine AllReadyH.cons rfl (fun K hK => ?_) AllReadyH.nil
          go_simp
          refine hK.out _ _ trivial (fun _ => ?_)
          clear hK K
          try simp only [Act.put, List.setIfInBounds_toArray, List.set_cons_zero, List.set_cons_succ]
          refine wpAnyH_done (by kernel_rfl) ?_ _
          have hkr6 := RowsKept.of_but (X := w.heap.size) hbk hRlt
          obtain ⟨hD8, hI8⟩ := DRow.push hxs6 (fun k hk => by obtain ⟨v0, v1, v2, v3, h0, h1, h2, h3, h4⟩ := hxv k hk; exact ⟨v0, v1, v2, v3, h0, h1, h2, h3, h4.kept hkr6.ints⟩) hgrow hown8 ⟨A2, m2, c2, l2, on, off, flip, rfl, rfl, rfl, rfl, hm2, ownsRow_mono hown2 (by simpa using hsz6), hin2, inI_small (by omega) (by omega), inI_small (by omega) (by omega), inI_small (by omega) (by omega)⟩
          have hbl := (hxs6.alloc (.cells #[.slice A2 m2 c2, .int .i64 on, .int .i64 off, .int .i64 flip] 72)).lt
          have hG8 := (hG.kept hkr6.ints).kept hI8
          have hR8 := (hR6.keep ((Kept.refl w6).alloc (.cells #[.slice A2 m2 c2, .int .i64 on, .int .i64 off, .int .i64 flip] 72))).grown hgrow (fun k e => by have := (hbl k e).1; omega)
          have hb8 := (((hb.trans hbk).kept_ ((Kept.refl w6).alloc (.cells #[.slice A2 m2 c2, .int .i64 on, .int .i64 off, .int .i64 flip] 72)))).grown hgrow (fun k e => (hbl k e).1)
          have hB08 := (hB06.alloc (.cells #[.slice A2 m2 c2, .int .i64 on, .int .i64 off, .int .i64 flip] 72)).grown hgrow (own_ne_blk (hxs6.alloc (.cells #[.slice A2 m2 c2, .int .i64 on, .int .i64 off, .int .i64 flip] 72)) (hB06.alloc (.cells #[.slice A2 m2 c2, .int .i64 on, .int .i64 off, .int .i64 flip] 72)) (by decide))
          obtain ⟨e1, e2, e3, e4, e5⟩ := task_put hBE8 hR8 hb8 hB08 hRlt hEw 2 (.slice (some ⟨g, 0, none⟩) (n' + 1) cap)
          replace hD8 := hD8.kept e2
          replace hG8 := hG8.kept e2.ints
          clear e2 hBE hBE6 hBE7 hBE8 hB0 hB06 hB08 hR3 hR6 hR8 hb hb6 hb8 hbk hxs hxs6 hown2 hown8 hgrow hat hG d6 d7 d8 f8 d0 f0 hkr6 hI8 hbl hne hxv
          go_wp2_with fail
          exact ⟨⟨j - 1, by omega, by go_num, st, A, n, c, _, n' + 1, cap, p6, by simpa using e1, hst, hG8, hD8, by omega, e3, by omega, by omega, e4, e5⟩, by simp [intOf]; omega⟩
        · go_simp
          refine (c_l20Deed R 0 p3 _ (hR3.keep (Kept.refl wr).drew) (by omega) (by omega) (by omega)).mono ?_; rintro e w6 ⟨v, p6, rfl, hR6, hp6, hp6', hb6, A2, m2, c2, l2, on, off, flip, rfl, hm2, hown2, hin2, hon, hoff, hflip⟩
          have hbk := But.trans (But.of_kept (B := R) (C := R + 1) (Kept.refl wr).drew) hb6
          have hBE6 := hbk.blk hBE (.inr (by omega))
          have hB06 := hbk.blk hB0 (.inr (by omega))
          have d6 : w6.cell? ⟨E, 2, none⟩ = some (.slice A' n' c') := hBE6.cell 2
          have hsz6 := hb.size
          have hsz7 := hbk.size
          have hxs6 := own_but hxs hbk hRlt
          have hBE7 := hBE6.alloc (.cells #[.slice A2 m2 c2, .int .i64 on, .int .i64 off, .int .i64 flip] 72)
          have d7 : (w6.alloc (.cells #[.slice A2 m2 c2, .int .i64 on, .int .i64 off, .int .i64 flip] 72)).cell? ⟨E, 2, none⟩ = some (.slice A' n' c') := hBE7.cell 2
          refine hK.out _ _ trivial (fun _ => ?_)
          clear hK K
          try simp only [Act.put, List.setIfInBounds_toArray, List.set_cons_zero, List.set_cons_succ]
          refine wpAnyH_ready (rs := [1, 4]) (by kernel_rfl) (by simp) ?_
          refine AllReadyH.cons rfl (fun K hK => ?_) (AllReadyH.cons rfl (fun K hK => ?_) AllReadyH.nil)
          · go_simp
            refine hK.out _ _ trivial (fun _ => ?_)
            clear hK K
            try simp only [Act.put, List.setIfInBounds_toArray, List.set_cons_zero, List.set_cons_succ]
            refine wpAnyH_ready (rs := [4]) (by kernel_rfl) (by simp) ?_
            refine AllReadyH.cons rfl (fun K hK => ?_) AllReadyH.nil
            go_simp
            refine hK.out _ _ trivial (fun _ => ?_)
            clear hK K
            try simp only [Act.put, List.setIfInBounds_toArray, List.set_cons_zero, List.set_cons_succ]
            refine wpAnyH_ready (rs := [5]) (by kernel_rfl) (by simp) ?_
            refine AllReadyH.cons rfl (fun K hK => ?_) AllReadyH.nil
            refine step_append_lies _ (by rfl) (.tmp 32) (.tmp 35) 24 (by rfl) w.heap.size 72 i0 (.agg #[.slice none 0 0, .int .i64 0, .int .i64 0, .int .i64 0]) 4 48 Tryd.underlying24 hIn.1 hIn.2.1 hIn.2.2.1 hIn.2.2.2 rfl (by decide) (.slice A' n' c') n' xs (by rfl) (hxs6.alloc _) ⟨w6.heap.size, 0, none⟩ 1 1 [.slice A2 m2 c2, .int .i64 on, .int .i64 off, .int .i64 flip] (by rfl) rfl (list_new _ _ _) (by simp [Value.oneCell']) (by omega) (by unfold maxLen; omega) (by omega) (by simp; omega) (w6.heap.size + 1) (by simp) ?_
            intro g cap w8 hown8 hgrow hat hlt8
            refine hK.out _ _ trivial (fun _ => ?_)
            clear hK K
            try simp only [Act.put, List.setIfInBounds_toArray, List.set_cons_zero, List.set_cons_succ]
            refine take_val (i := 6) (v := .pointer (some ⟨E, 2, none⟩)) rfl rfl (by kernel_rfl) (by kernel_rfl) (by kernel_rfl) (fun _ _ _ h => h) rfl ?_ trivial ?_
            · (intro wq hq; go_simp; try with_reducible rfl)
            try simp only [Act.put, List.setIfInBounds_toArray, List.set_cons_zero, List.set_cons_succ]
            have hne := own_ne_blk (hxs6.alloc _) hBE7 (by decide)
            have hBE8 := hBE7.grown hgrow hne
            have d8 := hBE8.cell 2
            have f8 := hBE8.frozen 2
            refine wpAnyH_ready (rs := [7]) (by kernel_rfl) (by simp) ?_
            refine AllReadyH.cons rfl (fun K hK => ?_) AllReadyH.nil
            go_simp
            refine hK.out _ _ trivial (fun _ => ?_)
            clear hK K
            try simp only [Act.put, List.setIfInBounds_toArray, List.set_cons_zero, List.set_cons_succ]
            refine wpAnyH_done (by kernel_rfl) ?_ _
            have hkr6 := RowsKept.of_but (X := w.heap.size) hbk hRlt
            obtain ⟨hD8, hI8⟩ := DRow.push hxs6 (fun k hk => by obtain ⟨v0, v1, v2, v3, h0, h1, h2, h3, h4⟩ := hxv k hk; exact ⟨v0, v1, v2, v3, h0, h1, h2, h3, h4.kept hkr6.ints⟩) hgrow hown8 ⟨A2, m2, c2, l2, on, off, flip, rfl, rfl, rfl, rfl, hm2, ownsRow_mono hown2 (by simpa using hsz6), hin2, inI_small (by omega) (by omega), inI_small (by omega) (by omega), inI_small (by omega) (by omega)⟩
            have hbl := (hxs6.alloc (.cells #[.slice A2 m2 c2, .int .i64 on, .int .i64 off, .int .i64 flip] 72)).lt
            have hG8 := (hG.kept hkr6.ints).kept hI8
            have hR8 := (hR6.keep ((Kept.refl w6).alloc (.cells #[.slice A2 m2 c2, .int .i64 on, .int .i64 off, .int .i64 flip] 72))).grown hgrow (fun k e => by have := (hbl k e).1; omega)
            have hb8 := (((hb.trans hbk).kept_ ((Kept.refl w6).alloc (.cells #[.slice A2 m2 c2, .int .i64 on, .int .i64 off, .int .i64 flip] 72)))).grown hgrow (fun k e => (hbl k e).1)
            have hB08 := (hB06.alloc (.cells #[.slice A2 m2 c2, .int .i64 on, .int .i64 off, .int .i64 flip] 72)).grown hgrow (own_ne_blk (hxs6.alloc (.cells #[.slice A2 m2 c2, .int .i64 on, .int .i64 off, .int .i64 flip] 72)) (hB06.alloc (.cells #[.slice A2 m2 c2, .int .i64 on, .int .i64 off, .int .i64 flip] 72)) (by decide))
            obtain ⟨e1, e2, e3, e4, e5⟩ := task_put hBE8 hR8 hb8 hB08 hRlt hEw 2 (.slice (some ⟨g, 0, none⟩) (n' + 1) cap)
            replace hD8 := hD8.kept e2
            replace hG8 := hG8.kept e2.ints
            clear e2 hBE hBE6 hBE7 hBE8 hB0 hB06 hB08 hR3 hR6 hR8 hb hb6 hb8 hbk hxs hxs6 hown2 hown8 hgrow hat hG d6 d7 d8 f8 d0 f0 hkr6 hI8 hbl hne hxv
            go_wp2_with fail
            exact ⟨⟨j - 1, by omega, by go_num, st, A, n, c, _, n' + 1, cap, p6, by simpa using e1, hst, hG8, hD8, by omega, e3, by omega, by omega, e4, e5⟩, by simp [intOf]; omega⟩
          · go_simp
            refine hK.out _ _ trivial (fun _ => ?_)
            clear hK K
            try simp only [Act.put, List.setIfInBounds_toArray, List.set_cons_zero, List.set_cons_succ]
            refine wpAnyH_ready (rs := [1]) (by kernel_rfl) (by simp) ?_
            refine AllReadyH.cons rfl (fun K hK => ?_) AllReadyH.nil
            go_simp
            refine hK.out _ _ trivial (fun _ => ?_)
            clear hK K
            try simp only [Act.put, List.setIfInBounds_toArray, List.set_cons_zero, List.set_cons_succ]
            refine wpAnyH_ready (rs := [5]) (by kernel_rfl) (by simp) ?_
            refine AllReadyH.cons rfl (fun K hK => ?_) AllReadyH.nil
            refine step_append_lies _ (by rfl) (.tmp 32) (.tmp 35) 24 (by rfl) w.heap.size 72 i0 (.agg #[.slice none 0 0, .int .i64 0, .int .i64 0, .int .i64 0]) 4 48 Tryd.underlying24 hIn.1 hIn.2.1 hIn.2.2.1 hIn.2.2.2 rfl (by decide) (.slice A' n' c') n' xs (by rfl) (hxs6.alloc _) ⟨w6.heap.size, 0, none⟩ 1 1 [.slice A2 m2 c2, .int .i64 on, .int .i64 off, .int .i64 flip] (by rfl) rfl (list_new _ _ _) (by simp [Value.oneCell']) (by omega) (by unfold maxLen; omega) (by omega) (by simp; omega) (w6.heap.size + 1) (by simp) ?_
            intro g cap w8 hown8 hgrow hat hlt8
            refine hK.out _ _ trivial (fun _ => ?_)
            clear hK K
            try simp only [Act.put, List.setIfInBounds_toArray, List.set_cons_zero, List.set_cons_succ]
            refine take_val (i := 6) (v := .pointer (some ⟨E, 2, none⟩)) rfl rfl (by kernel_rfl) (by kernel_rfl) (by kernel_rfl) (fun _ _ _ h => h) rfl ?_ trivial ?_
            · (intro wq hq; go_simp; try with_reducible rfl)
            try simp only [Act.put, List.setIfInBounds_toArray, List.set_cons_zero, List.set_cons_succ]
            have hne := own_ne_blk (hxs6.alloc _) hBE7 (by decide)
            have hBE8 := hBE7.grown hgrow hne
            have d8 := hBE8.cell 2
            have f8 := hBE8.frozen 2
            refine wpAnyH_ready (rs := [7]) (by kernel_rfl) (by simp) ?_
            refine AllReadyH.cons rfl (fun K hK => ?_) AllReadyH.nil
            go_simp
            refine hK.out _ _ trivial (fun _ => ?_)
            clear hK K
            try simp only [Act.put, List.setIfInBounds_toArray, List.set_cons_zero, List.set_cons_succ]
            refine wpAnyH_done (by kernel_rfl) ?_ _
            have hkr6 := RowsKept.of_but (X := w.heap.size) hbk hRlt
            obtain ⟨hD8, hI8⟩ := DRow.push hxs6 (fun k hk => by obtain ⟨v0, v1, v2, v3, h0, h1, h2, h3, h4⟩ := hxv k hk; exact ⟨v0, v1, v2, v3, h0, h1, h2, h3, h4.kept hkr6.ints⟩) hgrow hown8 ⟨A2, m2, c2, l2, on, off, flip, rfl, rfl, rfl, rfl, hm2, ownsRow_mono hown2 (by simpa using hsz6), hin2, inI_small (by omega) (by omega), inI_small (by omega) (by omega), inI_small (by omega) (by omega)⟩
            have hbl := (hxs6.alloc (.cells #[.slice A2 m2 c2, .int .i64 on, .int .i64 off, .int .i64 flip] 72)).lt
            have hG8 := (hG.kept hkr6.ints).kept hI8
            have hR8 := (hR6.keep ((Kept.refl w6).alloc (.cells #[.slice A2 m2 c2, .int .i64 on, .int .i64 off, .int .i64 flip] 72))).grown hgrow (fun k e => by have := (hbl k e).1; omega)
            have hb8 := (((hb.trans hbk).kept_ ((Kept.refl w6).alloc (.cells #[.slice A2 m2 c2, .int .i64 on, .int .i64 off, .int .i64 flip] 72)))).grown hgrow (fun k e => (hbl k e).1)
            have hB08 := (hB06.alloc (.cells #[.slice A2 m2 c2, .int .i64 on, .int .i64 off, .int .i64 flip] 72)).grown hgrow (own_ne_blk (hxs6.alloc (.cells #[.slice A2 m2 c2, .int .i64 on, .int .i64 off, .int .i64 flip] 72)) (hB06.alloc (.cells #[.slice A2 m2 c2, .int .i64 on, .int .i64 off, .int .i64 flip] 72)) (by decide))
            obtain ⟨e1, e2, e3, e4, e5⟩ := task_put hBE8 hR8 hb8 hB08 hRlt hEw 2 (.slice (some ⟨g, 0, none⟩) (n' + 1) cap)
            replace hD8 := hD8.kept e2
            replace hG8 := hG8.kept e2.ints
            clear e2 hBE hBE6 hBE7 hBE8 hB0 hB06 hB08 hR3 hR6 hR8 hb hb6 hb8 hbk hxs hxs6 hown2 hown8 hgrow hat hG d6 d7 d8 f8 d0 f0 hkr6 hI8 hbl hne hxv
            go_wp2_with fail
            exact ⟨⟨j - 1, by omega, by go_num, st, A, n, c, _, n' + 1, cap, p6, by simpa using e1, hst, hG8, hD8, by omega, e3, by omega, by omega, e4, e5⟩, by simp [intOf]; omega⟩
      · go_wp2_with fail
        refine (c_pick R 4 p3 _ hR3 (by omega) (by omega)).mono ?_; rintro e w6 ⟨v, p6, rfl, hR6, hp3, hp4, hbp, y, rfl, y0, y1⟩
        replace hBE := hbp.blk hBE (.inr (by omega))
        replace hB0 := hbp.blk hB0 (.inr (by omega))
        have hkr := RowsKept.of_but (X := w.heap.size) hbp hRlt
        replace hG := hG.kept hkr.ints
        replace hD := hD.kept hkr
        replace hb := hb.trans hbp
        clear hbp hkr hR3
        go_upto_if 40 with fail
        go_cut [5] from 6 (fun v w' => v = .pointer (some ⟨E, 0, none⟩) ∧ TSt R w p 120 E 6 w')
        case first =>
          by_cases hy : y = 0
          · subst hy
            go_wp2_with fail
            rw [show ((0 : Int) == 0) = true from rfl]
            go_loopw [7] (fun i wr => ∃ q : Nat, q ≤ n' ∧ i = .int .i64 q ∧ Blk wr E 26 #[.int .i64 st, .slice A n c, .slice A' n' c'] ∧ GRow w.heap.size wr A n c ∧ DRow w.heap.size wr A' n' c' ∧ Rd R wr p6 ∧ But R (R + 1) w wr ∧ Blk wr w.heap.size 26 #[.int .i64 0, .slice none 0 0, .slice none 0 0]) (fun i _ => n' - (intOf i).toNat)
            case atStart => exact ⟨0, Nat.zero_le _, rfl, hBE, hG, hD, hR6, hb, hB0⟩
            case round =>
              obtain ⟨q, hq, rfl, hBE, hG, hD, hR6, hb, hB0⟩ := hrel
              have c0 := hBE.cell
              by_cases hlt2 : q < n'
              · obtain ⟨xs, hxs, hxv⟩ := hD
                obtain ⟨_, g, rfl, hg, hgl, _, hfr⟩ := own_some hxs (by omega)
                obtain ⟨v0, v1, v2, v3, h0, h1, h2, h3, A2, m2, c2, l2, on, off, flip, rfl, rfl, rfl, rfl, hm2, hown2, hin2, hon, hoff, hflip⟩ := hxv q hlt2
                have hxl := hxs.1
                have k0 := (hxs.cellAt (q * 4) (by omega)).trans h0
                have k1 := (hxs.cellAt (q * 4 + 1) (by omega)).trans h1
                have k2 := (hxs.cellAt (q * 4 + 2) (by omega)).trans h2
                have k3 := (hxs.cellAt (q * 4 + 3) (by omega)).trans h3
                have hka := ((Kept.refl wr).alloc (.cells #[.slice A2 m2 c2, .int .i64 on, .int .i64 off, .int .i64 flip] 72))
                have hkb := hka.alloc (.cells #[.int .i64 5] 3)
                have c1 := (hBE.kept hka).cell
                have c3 := (hBE.kept hkb).cell
                have c4 := ((Blk.new wr 72 #[.slice A2 m2 c2, .int .i64 on, .int .i64 off, .int .i64 flip]).alloc (.cells #[.int .i64 5] 3)).cell
                have HX := Lib.hid hxs
                have HXV := Lib.hid hxv
                have HXL := Lib.hid hxl
                have HEG : Hid (E ≠ g ∧ w.heap.size ≠ g) := ⟨fun e => own_ne_blk hxs hBE (by decide) (by rw [e]; rfl), fun e => own_ne_blk hxs hB0 (by decide) (by rw [e]; rfl)⟩
                clear h0 h1 h2 h3 hxv hka hkb hxs hxl hown2
                go_wp2_with fail
                obtain ⟨P1, P2⟩ := own_put HX.out (q * 4) (.slice (some ⟨wr.heap.size + 1, 0, none⟩) 1 1) (.int .i64 0) (.int .i64 0) (.int .i64 (wrap64 (wrap64 (on + off) + flip)))
                have hk4 := ((Kept.refl ((((wr.setCell ⟨g, q * 4, none⟩ (.slice (some ⟨wr.heap.size + 1, 0, none⟩) 1 1)).setCell ⟨g, q * 4 + 1, none⟩ (.int .i64 0)).setCell ⟨g, q * 4 + 2, none⟩ (.int .i64 0)).setCell ⟨g, q * 4 + 3, none⟩ (.int .i64 (wrap64 (wrap64 (on + off) + flip))))).alloc (.cells #[.slice A2 m2 c2, .int .i64 on, .int .i64 off, .int .i64 flip] 72)).alloc (.cells #[.int .i64 5] 3)
                have hIK : IntsKept w.heap.size wr ((((((wr.setCell ⟨g, q * 4, none⟩ (.slice (some ⟨wr.heap.size + 1, 0, none⟩) 1 1)).setCell ⟨g, q * 4 + 1, none⟩ (.int .i64 0)).setCell ⟨g, q * 4 + 2, none⟩ (.int .i64 0)).setCell ⟨g, q * 4 + 3, none⟩ (.int .i64 (wrap64 (wrap64 (on + off) + flip)))).alloc (.cells #[.slice A2 m2 c2, .int .i64 on, .int .i64 off, .int .i64 flip] 72)).alloc (.cells #[.int .i64 5] 3)) := fun sz v m ys h => own_keep (P2 sz v m ys h) hk4
                obtain ⟨n1, n2⟩ := HEG.out
                have hnew := gRow_new (w := ((((wr.setCell ⟨g, q * 4, none⟩ (.slice (some ⟨wr.heap.size + 1, 0, none⟩) 1 1)).setCell ⟨g, q * 4 + 1, none⟩ (.int .i64 0)).setCell ⟨g, q * 4 + 2, none⟩ (.int .i64 0)).setCell ⟨g, q * 4 + 3, none⟩ (.int .i64 (wrap64 (wrap64 (on + off) + flip)))).alloc (.cells #[.slice A2 m2 c2, .int .i64 on, .int .i64 off, .int .i64 flip] 72)) (X := w.heap.size) [5] (by have := hb.size; simp; omega) (by simp) (fun x hx => by simp at hx; subst hx; exact inI_small (by omega) (by omega))
                simp only [World.size_alloc, World.size_setCell, List.length_cons, List.length_nil, List.map_cons, List.map_nil, Nat.zero_add] at hnew
                obtain ⟨l5, hl5, ho5, hi5⟩ := hnew
                have hD9 := DRow.put HXL.out HXV.out hlt2 hIK (own_keep P1 hk4) ⟨_, _, _, l5, 0, 0, wrap64 (wrap64 (on + off) + flip), rfl, rfl, rfl, rfl, hl5, ho5, hi5, inI_small (by omega) (by omega), inI_small (by omega) (by omega), inI_wrap64 _⟩
                have hle := hg
                have hE9 := ((((hBE.far (p := ⟨g, q * 4, none⟩) n1 (.slice (some ⟨wr.heap.size + 1, 0, none⟩) 1 1)).far (p := ⟨g, q * 4 + 1, none⟩) n1 (.int .i64 0)).far (p := ⟨g, q * 4 + 2, none⟩) n1 (.int .i64 0)).far (p := ⟨g, q * 4 + 3, none⟩) n1 (.int .i64 (wrap64 (wrap64 (on + off) + flip)))).kept hk4
                have h09 := ((((hB0.far (p := ⟨g, q * 4, none⟩) n2 (.slice (some ⟨wr.heap.size + 1, 0, none⟩) 1 1)).far (p := ⟨g, q * 4 + 1, none⟩) n2 (.int .i64 0)).far (p := ⟨g, q * 4 + 2, none⟩) n2 (.int .i64 0)).far (p := ⟨g, q * 4 + 3, none⟩) n2 (.int .i64 (wrap64 (wrap64 (on + off) + flip)))).kept hk4
                have hRg : R < g := by omega
                have hR9 := ((((hR6.setFar (a := ⟨g, q * 4, none⟩) hRg (.slice (some ⟨wr.heap.size + 1, 0, none⟩) 1 1)).setFar (a := ⟨g, q * 4 + 1, none⟩) hRg (.int .i64 0)).setFar (a := ⟨g, q * 4 + 2, none⟩) hRg (.int .i64 0)).setFar (a := ⟨g, q * 4 + 3, none⟩) hRg (.int .i64 (wrap64 (wrap64 (on + off) + flip)))).keep hk4
                have hb9 := ((((hb.setNew (p := ⟨g, q * 4, none⟩) hg (.slice (some ⟨wr.heap.size + 1, 0, none⟩) 1 1)).setNew (p := ⟨g, q * 4 + 1, none⟩) hg (.int .i64 0)).setNew (p := ⟨g, q * 4 + 2, none⟩) hg (.int .i64 0)).setNew (p := ⟨g, q * 4 + 3, none⟩) hg (.int .i64 (wrap64 (wrap64 (on + off) + flip)))).kept_ hk4
                exact ⟨⟨q + 1, by omega, by go_num, hE9, hG.kept hIK, hD9, hR9, hb9, h09⟩, by simp [intOf]; omega⟩
              · go_wp2_with fail
                go_meet
                case rel => exact ⟨rfl, st, A, n, c, A', n', c', p6, hBE, hst, hG, hD, by omega, hR6, by omega, by omega, hb, hB0⟩
          · go_wp2_with fail
            go_meet
            case rel => exact ⟨rfl, st, A, n, c, A', n', c', p6, hBE, hst, hG, hD, by omega, hR6, by omega, by omega, hb, hB0⟩
        case rest =>
          clear hBE hB0 hR6 hb hG hD hst hn' hp1 hp2 hp3 hp4 y0 y1 hst1 hlt hj hj0
          obtain ⟨rfl, hcut⟩ := hcut
          obtain ⟨st, A, n, c, A', n', c', p3, hBE, hst, hG, hD, hn', hR3, hp1, hp2, hb, hB0⟩ := hcut
          go_wp2_with fail
          refine (c_odd R n0 p3 _ hR3 (by omega) (by omega) hn0).mono ?_; rintro e w6 ⟨v, p6, rfl, hR6, hp3, hp4, hbp, y, rfl⟩
          replace hBE := hbp.blk hBE (.inr (by omega))
          replace hB0 := hbp.blk hB0 (.inr (by omega))
          have hkr := RowsKept.of_but (X := w.heap.size) hbp hRlt
          replace hG := hG.kept hkr.ints
          replace hD := hD.kept hkr
          replace hb := hb.trans hbp
          clear hbp hkr hR3
          go_upto_if 69 with fail
          go_cut [5] from 6 (fun v w' => v = .pointer (some ⟨E, 0, none⟩) ∧ TSt R w p 130 E 7 w')
          case first =>
            cases y
            · go_wp2_with fail
              go_meet
              case rel => exact ⟨rfl, st, A, n, c, A', n', c', p6, hBE, hst, hG, hD, by omega, hR6, by omega, by omega, hb, hB0⟩
            · go_wp2_with fail
              refine (c_pick R 3 p6 _ hR6 (by omega) (by omega)).mono ?_; rintro e w7 ⟨v, p7, rfl, hR7, hp5, hp6, hbp, x, rfl, hx0, hx1⟩
              replace hBE := hbp.blk hBE (.inr (by omega))
              replace hB0 := hbp.blk hB0 (.inr (by omega))
              have hkr := RowsKept.of_but (X := w.heap.size) hbp hRlt
              replace hG := hG.kept hkr.ints
              replace hD := hD.kept hkr
              replace hb := hb.trans hbp
              clear hbp hkr hR6
              by_cases e0 : x = 0
              · subst e0
                have hka := (Kept.refl w7).alloc (.cells #[.int .i64 (-1), .int .i64 32] 3)
                have hkr := RowsKept.of_kept (X := w.heap.size) hka
                replace hBE := hBE.kept hka
                replace hB0 := hB0.kept hka
                replace hG := hG.kept hkr.ints
                replace hD := hD.kept hkr
                replace hb := hb.kept_ hka
                have hRw7 : R + 1 ≤ w7.heap.size := hR7.lt
                replace hR7 := hR7.keep hka
                have hN := Blk.new w7 3 #[.int .i64 (-1), .int .i64 32]
                go_wp2_with fail
                refine (c_pick R 2 p7 _ hR7 (by omega) (by omega)).mono ?_; rintro e w8 ⟨v, p8, rfl, hR8, hp7, hp8, hbp, z, rfl, hz0, hz1⟩
                have hN8 := hbp.blk hN (.inr hRw7)
                replace hBE := hbp.blk hBE (.inr (by omega))
                replace hB0 := hbp.blk hB0 (.inr (by omega))
                have hkr2 := RowsKept.of_but (X := w.heap.size) hbp hRlt
                replace hG := hG.kept hkr2.ints
                replace hD := hD.kept hkr2
                replace hb := hb.trans hbp
                clear hbp hkr hkr2 hR7 hN hka
                have c2 := hN8.cell
                have c0 := hBE.cell
                have f0 := hBE.frozen
                by_cases ez : z = 0
                · subst ez
                  obtain ⟨d1, d2, d3, d4, d5⟩ := task_put hBE hR8 hb hB0 hRlt hEw 0 (.int .i64 (-1))
                  have hG2 := hG.kept d2.ints
                  have hD2 := hD.kept d2
                  clear hBE hR8 hb hB0 hG hD d2 hN8
                  go_wp2_with fail
                  go_meet
                  case rel => exact ⟨rfl, -1, A, n, c, A', n', c', p8, by simpa using d1, inI_small (by omega) (by omega), hG2, hD2, by omega, d3, by omega, by omega, d4, d5⟩
                · obtain rfl : z = 1 := by omega
                  obtain ⟨d1, d2, d3, d4, d5⟩ := task_put hBE hR8 hb hB0 hRlt hEw 0 (.int .i64 32)
                  have hG2 := hG.kept d2.ints
                  have hD2 := hD.kept d2
                  clear hBE hR8 hb hB0 hG hD d2 hN8
                  go_wp2_with fail
                  go_meet
                  case rel => exact ⟨rfl, 32, A, n, c, A', n', c', p8, by simpa using d1, inI_small (by omega) (by omega), hG2, hD2, by omega, d3, by omega, by omega, d4, d5⟩
              by_cases e1 : x = 1
              · subst e1
                have hka := (Kept.refl w7).alloc (.cells #[] 3)
                have hkr := RowsKept.of_kept (X := w.heap.size) hka
                have hgn := gRow_new (w := w7) (X := w.heap.size) [] hb.size (by simp) (fun x hx => by cases hx)
                obtain ⟨d1, d2, d3, d4, d5⟩ := task_put (hBE.kept hka) (hR7.keep hka) (hb.kept_ hka) (hB0.kept hka) hRlt hEw 1 (.slice (some ⟨w7.heap.size, 0, none⟩) 0 0)
                have hD2 := (hD.kept hkr).kept d2
                have hgn2 := hgn.kept d2.ints
                have c0 := (hBE.kept hka).cell
                have f0 := (hBE.kept hka).frozen
                clear hkr hka hgn hBE hB0 hR7 hb hG d2 hD
                go_wp2_with fail
                go_meet
                case rel => exact ⟨rfl, st, _, _, _, A', n', c', p7, by simpa using d1, hst, hgn2, hD2, by omega, d3, by omega, by omega, d4, d5⟩
              · obtain ⟨xs, hxs, hxv⟩ := hD
                have hIn := HI.out
                have hsz7 := hb.size
                have hBE7 := hBE.alloc (.cells #[.slice none 0 0, .int .i64 0, .int .i64 0, .int .i64 0] 72)
                have c0 := hBE.cell
                have c7 := hBE7.cell
                go_wp2_with (first | (at_builtin; refine wpList_append_own _ rfl (.tmp 73) (.tmp 75) 24 rfl w.heap.size 72 i0 (.agg #[.slice none 0 0, .int .i64 0, .int .i64 0, .int .i64 0]) 4 48 Tryd.underlying24 hIn.1 hIn.2.1 hIn.2.2.1 hIn.2.2.2 rfl (by decide) (.slice A' n' c') n' xs rfl (hxs.alloc _) ⟨w7.heap.size, 0, none⟩ 1 1 [.slice none 0 0, .int .i64 0, .int .i64 0, .int .i64 0] rfl rfl (list_new _ _ _) (by simp [Value.oneCell']) (by unfold maxLen; omega) (by omega) (by simp; omega) ?_; intro v' w8 hown8 hgrow _; obtain ⟨A3, c3, rfl⟩ := own_form hown8; have hBE8 := hBE7.grown hgrow (own_ne_blk (hxs.alloc _) hBE7 (by decide)); have d8 := hBE8.cell; have f8 := hBE8.frozen))
                go_meet
                case rel =>
                  obtain ⟨hD8, hI8⟩ := DRow.push hxs hxv hgrow hown8 ⟨none, 0, 0, [], 0, 0, 0, rfl, rfl, rfl, rfl, by omega, World.ownsRow_nil _ _ _ _, fun x hx => (by cases hx), inI_small (by omega) (by omega), inI_small (by omega) (by omega), inI_small (by omega) (by omega)⟩
                  have hbl := (hxs.alloc (.cells #[.slice none 0 0, .int .i64 0, .int .i64 0, .int .i64 0] 72)).lt
                  have hG8 := hG.kept hI8
                  have hR8 := (hR7.keep ((Kept.refl w7).alloc (.cells #[.slice none 0 0, .int .i64 0, .int .i64 0, .int .i64 0] 72))).grown hgrow (fun k e => by have := (hbl k e).1; omega)
                  have hb8 := (hb.kept_ ((Kept.refl w7).alloc (.cells #[.slice none 0 0, .int .i64 0, .int .i64 0, .int .i64 0] 72))).grown hgrow (fun k e => (hbl k e).1)
                  have hB08 := (hB0.alloc (.cells #[.slice none 0 0, .int .i64 0, .int .i64 0, .int .i64 0] 72)).grown hgrow (own_ne_blk (hxs.alloc (.cells #[.slice none 0 0, .int .i64 0, .int .i64 0, .int .i64 0] 72)) (hB0.alloc (.cells #[.slice none 0 0, .int .i64 0, .int .i64 0, .int .i64 0] 72)) (by decide))
                  obtain ⟨d1, d2, d3, d4, d5⟩ := task_put hBE8 hR8 hb8 hB08 hRlt hEw 2 (.slice A3 (n' + 1) c3)
                  exact ⟨rfl, st, A, n, c, A3, n' + 1, c3, p7, by simpa using d1, hst, hG8.kept d2.ints, hD8.kept d2, by omega, d3, by omega, by omega, d4, d5⟩
          case rest =>
            clear hBE hB0 hR6 hb hG hD hst hn' hp1 hp2 hp3 hp4
            obtain ⟨rfl, hcut⟩ := hcut
            obtain ⟨st, A, n, c, A', n', c', p3, hBE, hst, hG, hD, hn', hR3, hp1, hp2, hb, hB0⟩ := hcut
            have c0 := hBE.cell
            have c1 := hB0.cell
            have f1 := hB0.frozen
            have hle := Nat.le_refl w.heap.size
            have b1 := hB0.set_ 0 (.int .i64 st)
            have b2 := b1.set_ 1 (.slice A n c)
            have k1 := RowsKept.set (X := w.heap.size) hB0 (by decide) (by decide) 0 (.int .i64 st)
            have k2 := RowsKept.set (X := w.heap.size) b1 (by decide) (by decide) 1 (.slice A n c)
            have k3 := RowsKept.set (X := w.heap.size) b2 (by decide) (by decide) 2 (.slice A' n' c')
            have kk := (k1.trans k2).trans k3
            have hG2 := hG.kept kk.ints
            have hD2 := hD.kept kk
            have r4 := ((hR3.setFar (a := ⟨w.heap.size, 0, none⟩) hRlt (.int .i64 st)).setFar (a := ⟨w.heap.size, 1, none⟩) hRlt (.slice A n c)).setFar (a := ⟨w.heap.size, 2, none⟩) hRlt (.slice A' n' c')
            have t4 := ((hb.setNew (p := ⟨w.heap.size, 0, none⟩) hle (.int .i64 st)).setNew (p := ⟨w.heap.size, 1, none⟩) hle (.slice A n c)).setNew (p := ⟨w.heap.size, 2, none⟩) hle (.slice A' n' c')
            clear hB0 hBE hG hD hR3 hb b1 b2 k1 k2 k3 kk hEw
            go_wp2_with fail
            refine bodyPost_ret (v := .agg #[.int .i64 st, .slice A n c, .slice A' n' c']) (by simp [results, Tryd.results69, go_sem, c1]) rfl ?_
            exact ⟨_, p3, rfl, r4, by omega, by omega, t4, st, A, n, c, A', n', c', rfl, hst, hG2, hD2, by omega⟩

end Go.Proofs.YtphdojebdclonaaDoor
