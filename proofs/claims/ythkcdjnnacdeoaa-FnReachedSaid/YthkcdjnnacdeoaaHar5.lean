/- Walks: the exact laws' own helpers: marks. No condition. -/
import Derived.Test.YthkcdjnnacdeoaaHar4
namespace Go.Proofs.Ythkcdjnnacdeoaa
open Go.RowKit

/-- what has changed lies in the blocks from B to C, and is integers that were integers -/
def But (B C : Nat) (w w' : World) : Prop :=
  (∀ a, Kept a w → a.heap.size ≤ B → Kept a w') ∧ (∀ b, b < w.heap.size → (b < B ∨ C ≤ b) → w'.heap[b]? = w.heap[b]?) ∧ w.heap.size ≤ w'.heap.size ∧
  (∀ p v, w.cell? p = some v → w'.cell? p = some v ∨ ((∃ x, v = .int .i64 x) ∧ ∃ y, w'.cell? p = some (.int .i64 y))) ∧ (∀ p : Addr, p.block < w.heap.size → w'.frozen? p = w.frozen? p)

section
variable {B C : Nat} {w w' w2 : World}
theorem But.of_kept (h : Kept w w') : But B C w w' :=
  ⟨fun _ ha _ => ha.trans h, fun b hb _ => Below.block h b hb, h.size, fun p v hv => .inl (by rw [Below.cell h (World.block_lt_of_cell? _ _ hv)]; exact hv), fun p hp => Below.frozen h hp⟩
theorem But.refl (w : World) : But B C w w := But.of_kept (Kept.refl w)
theorem But.trans (h : But B C w w') (k : But B C w' w2) : But B C w w2 := by
  refine ⟨fun a ha hB => k.1 a (h.1 a ha hB) hB, fun b hb hr => (k.2.1 b (by have := h.2.2.1; omega) hr).trans (h.2.1 b hb hr), Nat.le_trans h.2.2.1 k.2.2.1, fun p v hv => ?_, fun p hp => (k.2.2.2.2 p (by have := h.2.2.1; omega)).trans (h.2.2.2.2 p hp)⟩
  rcases h.2.2.2.1 p v hv with h1 | ⟨⟨x, rfl⟩, y, h1⟩
  · exact k.2.2.2.1 p v h1
  · rcases k.2.2.2.1 p _ h1 with h2 | ⟨_, z, h2⟩
    · exact .inr ⟨⟨x, rfl⟩, y, h2⟩
    · exact .inr ⟨⟨x, rfl⟩, z, h2⟩
theorem But.set (h : But B C w w') {p : Addr} {x : Int} (hc : w'.cell? p = some (.int .i64 x)) (h1 : B ≤ p.block) (h2 : p.block < C) (y : Int) : But B C w (w'.setCell p (.int .i64 y)) := by
  refine h.trans ⟨fun a ha hB => ha.setCell (by omega) _, fun b _ hr => Below.heap_setCell w' p _ b (by omega), by simp, fun q v hv => ?_, fun q _ => by simp⟩
  by_cases e : p = q
  · subst e
    rw [hc] at hv
    cases hv
    exact .inr ⟨⟨x, rfl⟩, y, World.cell?_setCell_same _ _ _ hc⟩
  · exact .inl (by rw [World.cell?_setCell_other _ _ _ _ e]; exact hv)
theorem But.own {g n : Nat} {l : List Int} (h : But B C w w') (hO : Own w g n l) (hg : g < B ∨ C ≤ g) : Own w' g n l :=
  hO.same (fun hb => ⟨h.2.1 g hb hg, by have := h.2.2.1; omega⟩)
theorem But.kept (h : But B C w w') {a : World} (hk : Kept a w) (hB : a.heap.size ≤ B) : Kept a w' := h.1 a hk hB
end

/-- n integers that may be written, in a block from B to C -/
def Sh (B C : Nat) (w : World) (A : Option Addr) (n : Nat) : Prop :=
  0 < n → ∃ b o, A = some ⟨b, o, none⟩ ∧ B ≤ b ∧ b < C ∧ b < w.heap.size ∧ ∀ k, k < n → (∃ x, w.cell? ⟨b, o + k, none⟩ = some (.int .i64 x)) ∧ w.frozen? ⟨b, o + k, none⟩ = false
theorem But.int {B C : Nat} {w w' : World} (h : But B C w w') {p : Addr} (hx : ∃ x, w.cell? p = some (.int .i64 x)) : ∃ x, w'.cell? p = some (.int .i64 x) := by
  obtain ⟨x, hx⟩ := hx
  rcases h.2.2.2.1 p _ hx with h1 | ⟨_, h1⟩
  · exact ⟨x, h1⟩
  · exact h1
theorem But.slice {B C : Nat} {w w' : World} (h : But B C w w') {p : Addr} {A : Option Addr} {n c : Nat} (hx : w.cell? p = some (.slice A n c)) : w'.cell? p = some (.slice A n c) := by
  rcases h.2.2.2.1 p _ hx with h1 | ⟨⟨x, e⟩, _⟩
  · exact h1
  · cases e
theorem Sh.but {B C : Nat} {w w' : World} {A : Option Addr} {n B' C' : Nat} (h : Sh B' C' w A n) (hb : But B C w w') : Sh B' C' w' A n := fun hn => by
  obtain ⟨b, o, e, h1, h2, h3, h4⟩ := h hn
  exact ⟨b, o, e, h1, h2, Nat.lt_of_lt_of_le h3 hb.2.2.1, fun k hk => ⟨hb.int (h4 k hk).1, by rw [hb.2.2.2.2 _ h3]; exact (h4 k hk).2⟩⟩
theorem Own.sh {B C : Nat} {w : World} {g n : Nat} {l : List Int} (h : Own w g n l) (hB : B ≤ g) (hC : g < C) : Sh B C w (some ⟨g, 0, none⟩) n := fun hn => by
  obtain ⟨b, o, e, hb, hc⟩ := h.ints.2.2.2 hn
  simp only [Option.some.injEq, Addr.mk.injEq] at e
  obtain ⟨rfl, rfl, _⟩ := e
  exact ⟨_, _, rfl, hB, hC, h.1, fun k hk => ⟨⟨_, hc k hk⟩, h.2.1 _⟩⟩

def Marked (w : World) (A : Option Addr) (n : Nat) (k : Int) : Prop := 0 < n → ∃ b o, A = some ⟨b, o, none⟩ ∧ b < w.heap.size ∧ ∀ j, j < n → w.cell? ⟨b, o + j, none⟩ = some (.int .i64 (k + j))
theorem Marked.keep {w w' : World} {A : Option Addr} {n : Nat} {k : Int} (h : Marked w A n k) (hk : Kept w w') : Marked w' A n k := fun hn => by
  obtain ⟨b, o, e, hb, hc⟩ := h hn
  exact ⟨b, o, e, Nat.lt_of_lt_of_le hb hk.size, fun j hj => by rw [hk.cell hb]; exact hc j hj⟩

def MarkQ (B C : Nat) (A : Option Addr) (n : Nat) (k : Int) (w : World) (e : Ending) (w' : World) : Prop := e = .returned (.int .i64 (k + n)) ∧ But B C w w' ∧ Marked w' A n k

theorem c_markIntS (B C : Nat) (A : Option Addr) (n c : Nat) (k : Int) (w : World) (h : Sh B C w A n) (hn : n ≤ 1073741824) (h0 : 0 ≤ k) (h1 : k ≤ 2305843009213693952) :
    Calls Try.prog 69 #[.slice A n c, .int .i64 k] w (MarkQ B C A n k w) := by
  go_enter Try.func69, Try.ntmps69
  go_wp2_with fail
  go_loopw [5, 1] (fun i y wr => ∃ j : Nat, j ≤ n ∧ i = .int .i64 j ∧ y = .int .i64 (k + j) ∧ But B C w wr ∧ Hid (∀ b o, A = some ⟨b, o, none⟩ → ∀ i, i < j → wr.cell? ⟨b, o + i, none⟩ = some (.int .i64 (k + i)))) (fun i _ _ => n - (intOf i).toNat)
  case atStart => exact ⟨0, Nat.zero_le _, rfl, by simp, But.refl w, fun b o _ i hi => by omega⟩
  case round =>
    obtain ⟨j, hj, rfl, rfl, hb, HA⟩ := hrel
    by_cases hlt : j < n
    · obtain ⟨b, o, rfl, h2, h3, h4, h5⟩ := h.but hb (by omega)
      obtain ⟨⟨x, hx⟩, hf⟩ := h5 j hlt
      have HB := Lib.hid (hb.set hx h2 h3 (k + j))
      have HX : Hid (∀ b' o', some (⟨b, o, none⟩ : Addr) = some ⟨b', o', none⟩ → ∀ i, i < j + 1 → (wr.setCell ⟨b, o + j, none⟩ (.int .i64 (k + j))).cell? ⟨b', o' + i, none⟩ = some (.int .i64 (k + i))) := by
        rintro b' o' ⟨⟩ i hi
        by_cases e : i = j
        · subst e; exact World.cell?_setCell_same _ _ _ hx
        · rw [World.cell?_setCell_other _ _ _ _ (by intro e2; simp only [Addr.mk.injEq] at e2; omega)]
          exact HA.out _ _ rfl i (by omega)
      clear h5
      go_wp2_with fail
      exact ⟨⟨j + 1, by omega, by go_num, by go_num, HB.out, HX⟩, by simp [intOf]; omega⟩
    · go_wp2_with fail
      go_ret
      obtain rfl : j = n := by omega
      refine ⟨rfl, hb, fun hp => ?_⟩
      obtain ⟨b, o, e, _, _, h3, _⟩ := h.but hb hp
      exact ⟨b, o, e, h3, HA.out b o e⟩

theorem c_heldIntS (A : Option Addr) (n c : Nat) (k : Int) (w : World) (h : Marked w A n k) (hn : n ≤ 1073741824) (h0 : 0 ≤ k) (h1 : k ≤ 2305843009213693952) :
    Calls Try.prog 70 #[.slice A n c, .int .i64 k] w (Ret (.int .i64 (k + n)) w) := by
  go_enter Try.func70, Try.ntmps70
  go_wp2_with fail
  go_loop [5, 1] (fun i y => ∃ j : Nat, j ≤ n ∧ i = .int .i64 j ∧ y = .int .i64 (k + j)) (fun i _ => n - (intOf i).toNat)
  case atStart => exact ⟨0, Nat.zero_le _, rfl, by simp⟩
  case round =>
    obtain ⟨j, hj, rfl, rfl⟩ := hrel
    by_cases hlt : j < n
    · obtain ⟨b, o, rfl, h2, h3⟩ := h (by omega)
      have h4 := h3 j hlt
      clear h3
      go_wp2_with fail
      exact ⟨⟨j + 1, by omega, by go_num, by go_num⟩, by simp [intOf]; omega⟩
    · go_wp2_with fail
      go_ret
      obtain rfl : j = n := by omega
      exact ⟨rfl, rfl⟩

/-- n deeds that may be written, in block g, theirs in blocks from B to C -/
def ShD (B C : Nat) (w : World) (g n : Nat) : Prop :=
  B ≤ g ∧ g < C ∧ g < w.heap.size ∧ (∀ i, w.frozen? ⟨g, i, none⟩ = false) ∧
    ∀ k, k < n → ∃ A m c, w.cell? ⟨g, k * 4, none⟩ = some (.slice A m c) ∧ m ≤ 1048576 ∧ Sh B C w A m ∧ ∀ i, i < 3 → ∃ x, w.cell? ⟨g, k * 4 + (i + 1), none⟩ = some (.int .i64 x)
theorem ShD.but {B C : Nat} {w w' : World} {g n B' C' : Nat} (h : ShD B' C' w g n) (hb : But B C w w') : ShD B' C' w' g n := by
  obtain ⟨h1, h2, h3, h4, h5⟩ := h
  refine ⟨h1, h2, Nat.lt_of_lt_of_le h3 hb.2.2.1, fun i => by rw [hb.2.2.2.2 _ h3]; exact h4 i, fun k hk => ?_⟩
  obtain ⟨A, m, c, h6, h7, h8, h9⟩ := h5 k hk
  exact ⟨A, m, c, hb.slice h6, h7, h8.but hb, fun i hi => hb.int (h9 i hi)⟩
theorem ODeeds.sh {B C : Nat} {w : World} {g : Nat} {l : List Sp.Deed} (h : ODeeds B w g l) (hC : w.heap.size ≤ C) (hm : ∀ d ∈ l, d.need.length ≤ 1048576) : ShD B C w g l.length := by
  obtain ⟨h1, h2, h3, _, h5⟩ := h
  refine ⟨h1, by omega, h2, h3, fun k hk => ?_⟩
  obtain ⟨g2, h6, h7, h8, h9, h10, h11, _⟩ := h5 k hk
  refine ⟨_, _, _, h7, hm _ ?_, h8.sh h6 (by have := h8.1; omega), fun i hi => ?_⟩
  · simp only [List.getD_eq_getElem?_getD, List.getElem?_eq_getElem hk, Option.getD_some]
    exact List.getElem_mem _
  · match i, hi with
    | 0, _ => exact ⟨_, h9⟩
    | 1, _ => exact ⟨_, h10⟩
    | 2, _ => exact ⟨_, h11⟩

def MarkDQ (M : Int) (B C : Nat) (k : Int) (w : World) (e : Ending) (w' : World) : Prop := ∃ k', e = .returned (.int .i64 k') ∧ k ≤ k' ∧ k' ≤ k + M ∧ But B C w w'

theorem c_markDeedS (B C g n c : Nat) (k : Int) (w : World) (h : ShD B C w g n) (hn : n ≤ 1048576) (h0 : 0 ≤ k) (h1 : k ≤ 1125899906842624) :
    Calls Try.prog 113 #[.slice (some ⟨g, 0, none⟩) n c, .int .i64 k] w (MarkDQ 1099514773504 B C k w) := by
  go_enter Try.func113, Try.ntmps113
  go_wp2_with fail
  go_loopw [5, 1] (fun i y wr => ∃ (j : Nat) (k' : Int), j ≤ n ∧ i = .int .i64 j ∧ y = .int .i64 k' ∧ k ≤ k' ∧ k' ≤ k + (j : Int) * 1048579 ∧ But B C w wr) (fun i _ _ => n - (intOf i).toNat)
  case atStart => exact ⟨0, k, Nat.zero_le _, rfl, rfl, Int.le_refl _, by omega, But.refl w⟩
  case round =>
    obtain ⟨j, k', hj, rfl, rfl, hk1, hk2, hb⟩ := hrel
    by_cases hlt : j < n
    · obtain ⟨q1, q2, q3, q4, q5⟩ := h.but hb
      obtain ⟨A, m, c2, h6, h7, h8, h9⟩ := q5 j hlt
      have f0 := fun i => q4 (j * 4 + i)
      clear q4 q5
      have hk3 : k' ≤ 2305843009213693952 := by omega
      go_wp2_with fail
      refine (c_markIntS B C A m c2 k' wr h8 (by omega) (by omega) (by omega)).mono ?_; rintro e w2 ⟨rfl, hb2, _⟩
      have hq3 := hb2.2.2.1
      obtain ⟨x1, e1⟩ := hb2.int (h9 0 (by omega))
      obtain ⟨x2, e2⟩ := hb2.int (h9 1 (by omega))
      obtain ⟨x3, e3⟩ := hb2.int (h9 2 (by omega))
      simp only [Nat.zero_add, Nat.reduceAdd] at e1 e2 e3
      have f1 : ∀ i, w2.frozen? ⟨g, j * 4 + i, none⟩ = false := fun i => by rw [hb2.2.2.2.2 _ q3]; exact f0 i
      have b1 := (hb.trans hb2).set e1 q1 q2 (k' + m)
      have e2' : (w2.setCell ⟨g, j * 4 + 1, none⟩ (.int .i64 (k' + m))).cell? ⟨g, j * 4 + 2, none⟩ = some (.int .i64 x2) := by rw [World.cell?_setCell_other _ _ _ _ (by intro e; simp at e)]; exact e2
      have b2 := b1.set e2' q1 q2 (k' + m + 1)
      have e3' : ((w2.setCell ⟨g, j * 4 + 1, none⟩ (.int .i64 (k' + m))).setCell ⟨g, j * 4 + 2, none⟩ (.int .i64 (k' + m + 1))).cell? ⟨g, j * 4 + 3, none⟩ = some (.int .i64 x3) := by rw [World.cell?_setCell_other _ _ _ _ (by intro e; simp at e), World.cell?_setCell_other _ _ _ _ (by intro e; simp at e)]; exact e3
      have HB := Lib.hid (b2.set e3' q1 q2 (k' + m + 1 + 1))
      clear b1 b2 e2' e3' h6 h9 f0
      go_wp2_with fail
      exact ⟨⟨j + 1, k' + m + 1 + 1 + 1, by omega, by go_num, by go_num, by omega, by omega, HB.out⟩, by simp [intOf]; omega⟩
    · go_wp2_with fail
      go_ret
      exact ⟨k', rfl, hk1, by omega, hb⟩

theorem c_markTask (B C g g' n n' c c' : Nat) (x : Int) (k : Int) (w : World) (hS0 : Sh B C w (some ⟨g, 0, none⟩) n) (hSD0 : ShD B C w g' n') (hn : n ≤ 1048576) (hn' : n' ≤ 1048576) (h0 : 0 ≤ k) (h1 : k ≤ 1048576) :
    Calls Try.prog 68 #[.agg #[.int .i64 x, .slice (some ⟨g, 0, none⟩) n c, .slice (some ⟨g', 0, none⟩) n' c'], .int .i64 k] w (MarkDQ 1125899906842624 B C k w) := by
  have hk := (Kept.refl w).alloc (.cells #[.int .i64 x, .slice (some ⟨g, 0, none⟩) n c, .slice (some ⟨g', 0, none⟩) n' c'] 26)
  have hb0 : But B C w _ := But.of_kept hk
  have B0 := Blk.new w 26 #[.int .i64 x, .slice (some ⟨g, 0, none⟩) n c, .slice (some ⟨g', 0, none⟩) n' c']
  have hS := hS0.but hb0
  have hSD := hSD0.but hb0
  go_enter Try.func68, Try.ntmps68
  go_wp2_with fail
  refine (c_markIntS B C _ _ _ _ _ hS (by omega) (by omega) (by omega)).mono ?_; rintro e w2 ⟨rfl, hb2, _⟩
  have c0 : w2.cell? ⟨w.heap.size, 2, none⟩ = some (.slice (some ⟨g', 0, none⟩) n' c') := hb2.slice (B0.cell 2)
  replace hSD := hSD.but hb2
  have hb3 := hb0.trans hb2
  clear hb2 hS
  go_wp2_with fail
  refine (c_markDeedS B C _ _ _ _ _ hSD (by omega) (by omega) (by omega)).mono ?_; rintro e w4 ⟨k4, rfl, h2, h3, hb4⟩
  go_wp2_with fail
  go_ret
  exact ⟨_, rfl, by omega, by omega, hb3.trans hb4⟩

theorem But.blk {B C : Nat} {w w' : World} {g : Nat} {T : TypeId} {cs : Array Value} (h : But B C w w') (hB : Blk w g T cs) (hg : g < B ∨ C ≤ g) : Blk w' g T cs := (h.2.1 g hB.lt hg).trans hB

/-- a list of integers that a call made, in a block from B to C -/
def OI (B C : Nat) (w : World) (A : Option Addr) (l : List Int) : Prop :=
  Ints w A l.length l ∧ (0 < l.length → ∃ g, A = some ⟨g, 0, none⟩ ∧ B ≤ g ∧ g < C ∧ Own w g l.length l)
theorem OI.keep {B C : Nat} {w w' : World} {A : Option Addr} {l : List Int} (h : OI B C w A l) (hk : Kept w w') : OI B C w' A l :=
  ⟨h.1.keep hk, fun hn => by obtain ⟨g, e, h1, h2, h3⟩ := h.2 hn; exact ⟨g, e, h1, h2, h3.keep hk⟩⟩
theorem OI.but {B C B' C' : Nat} {w w' : World} {A : Option Addr} {l : List Int} (h : OI B C w A l) (hb : But B' C' w w') (hd : C ≤ B' ∨ C' ≤ B) : OI B C w' A l := by
  by_cases hn : 0 < l.length
  · obtain ⟨g, rfl, h1, h2, h3⟩ := h.2 hn
    have h4 := hb.own h3 (by omega)
    exact ⟨h4.ints, fun _ => ⟨g, rfl, h1, h2, h4⟩⟩
  · exact ⟨⟨h.1.1, h.1.2.1, h.1.2.2.1, fun h => absurd h hn⟩, fun h => absurd h hn⟩
theorem OI.sh {B C : Nat} {w : World} {A : Option Addr} {l : List Int} (h : OI B C w A l) : Sh B C w A l.length := fun hn => by
  obtain ⟨g, rfl, h1, h2, h3⟩ := h.2 hn
  exact h3.sh h1 h2 hn

end Go.Proofs.Ythkcdjnnacdeoaa
