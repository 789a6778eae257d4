/- Joined texts. No condition. -/
import Derived.Test.YtphdojebdclonaaDoorQ6
import Derived.Test.YtphdojebdclonaaDoorQ3
/- Walks: StepsFrom. No condition. -/
namespace Go.Proofs.YtphdojebdclonaaDoor
set_option linter.unusedSimpArgs false
set_option linter.unusedVariables false
open Go.RowKit

/-- n integers in a block of their own, which may be written -/
def IntRow (w : World) (g n : Nat) (f : Nat → Int) : Prop := g < w.heap.size ∧ (∀ i, w.frozen? ⟨g, i, none⟩ = false) ∧ ∀ s, s < n → w.cell? ⟨g, s, none⟩ = some (.int .i64 (f s))
section
variable {w w' : World} {g n : Nat} {f f' : Nat → Int}
theorem IntRow.keep (h : IntRow w g n f) (hk : Kept w w') : IntRow w' g n f :=
  ⟨Nat.lt_of_lt_of_le h.1 hk.size, fun i => hk.fr h.1 (h.2.1 i), fun s hs => by rw [hk.cell h.1]; exact h.2.2 s hs⟩
theorem IntRow.congr (h : IntRow w g n f) (he : ∀ s, s < n → f s = f' s) : IntRow w g n f' := ⟨h.1, h.2.1, fun s hs => by rw [← he s hs]; exact h.2.2 s hs⟩
theorem IntRow.set (h : IntRow w g n f) {s : Nat} (hs : s < n) (x : Int) : IntRow (w.setCell ⟨g, s, none⟩ (.int .i64 x)) g n (fun j => if j = s then x else f j) := by
  refine ⟨by simpa using h.1, fun i => by simpa using h.2.1 i, fun j hj => ?_⟩
  by_cases e : j = s
  · subst e; simp only [if_true]; exact World.cell?_setCell_same _ _ _ (h.2.2 j hs)
  · simp only [if_neg e]
    rw [World.cell?_setCell_other _ _ _ _ (by intro e2; simp only [Addr.mk.injEq] at e2; exact e e2.2.1.symm)]
    exact h.2.2 j hj
theorem IntRow.own (h : IntRow w g n f) {l : List Int} (hl : l.length = n) (hm : n ≤ maxLen) (hi : ∀ x ∈ l, Sp.inI x) (he : ∀ s, s < n → f s = l.getD s default) : Own w g n l :=
  ⟨h.1, h.2.1, hl, hm, hi, fun _ => ⟨_, _, rfl, h.1, fun k hk => by rw [Nat.zero_add, ← he k hk]; exact h.2.2 k hk⟩⟩
theorem own_keep {B : Nat} {T : TypeId} {sz : Nat} {v : Value} {xs : List Value} (h : w.ownsRow B T sz v n xs) (hk : Kept w w') : w'.ownsRow B T sz v n xs := by
  refine ⟨h.1, ?_⟩
  rcases h.2 with hn | ⟨g, cap, cur, hv, hb, hg, rest⟩
  · exact .inl hn
  · refine .inr ⟨g, cap, cur, hv, hb, ?_, rest⟩
    have hlt : g < w.heap.size := by
      rcases Nat.lt_or_ge g w.heap.size with h | h
      · exact h
      · rw [Array.getElem?_eq_none h] at hg; cases hg
    exact (Below.block hk g hlt).trans hg
theorem own_row {B : Nat} {T : TypeId} {A : Option Addr} {m c : Nat} {l : List Int} (h : w.ownsRow B T 1 (.slice A m c) n (l.map (Value.int .i64))) (hn : 0 < n) :
    m = n ∧ ∃ g, A = some ⟨g, 0, none⟩ ∧ B ≤ g ∧ n ≤ c ∧ IntRow w g n (fun s => l.getD s default) := by
  obtain ⟨rfl, g, rfl, h1, h2, h3, h4⟩ := own_some h hn
  refine ⟨rfl, g, rfl, h1, h3, h2, h4, fun s hs => ?_⟩
  have hl : s < l.length := by have := h.1; simp at this; omega
  refine own_cell h ?_
  simp [hl]
end

section
variable {rel : Nat → Nat → Bool} {S : Nat}
/-- the steps that are known when they are fewer than m -/
def Sp.dlt (rel : Nat → Nat → Bool) (S m s : Nat) : Int := if 0 ≤ Sp.dist rel S s ∧ Sp.dist rel S s < m then Sp.dist rel S s else -1
theorem dlt_zero (s : Nat) : Sp.dlt rel S 0 s = -1 := by unfold Sp.dlt; rw [if_neg (by omega)]
theorem dlt_new (hS : S < 2 ^ 32) {m s : Nat} (hs : s < 32) (h : (Sp.fr rel S m).testBit s = true) : Sp.dlt rel S (m + 1) s = (m : Int) := by
  have := Sp.dist_yes hS hs h
  unfold Sp.dlt; rw [if_pos (by omega), this]
theorem dlt_old (hS : S < 2 ^ 32) {m s : Nat} (hs : s < 32) (h : (Sp.fr rel S m).testBit s = false) : Sp.dlt rel S (m + 1) s = Sp.dlt rel S m s := by
  unfold Sp.dlt
  rcases Sp.dist_cases (rel := rel) hS s hs with ⟨h1, _⟩ | ⟨n, _, h1, h2⟩
  · rw [h1]; rfl
  · have : n ≠ m := by rintro rfl; rw [h] at h2; cases h2
    rw [h1]
    by_cases e : n < m
    · rw [if_pos (by omega), if_pos (by omega)]
    · rw [if_neg (by omega), if_neg (by omega)]
theorem dlt_neg (hS : S < 2 ^ 32) {m s : Nat} (hs : s < 32) : decide (Sp.dlt rel S (m + 1) s < 0) = !(Sp.rch rel S m).testBit s := by
  have := Sp.rch_dist (rel := rel) hS m s hs
  unfold Sp.dlt
  cases e : (Sp.rch rel S m).testBit s
  · rw [e] at this
    rw [if_neg (fun h => by have := this.2 ⟨h.1, by omega⟩; cases this)]; rfl
  · have := this.1 e
    rw [if_pos (by omega)]; simp; omega
theorem dlt_end (hS : S < 2 ^ 32) {m : Nat} (h : Sp.fr rel S m = 0) (s : Nat) (hs : s < 32) : Sp.dlt rel S m s = Sp.dist rel S s := by
  unfold Sp.dlt
  rcases Sp.dist_cases (rel := rel) hS s hs with ⟨h1, _⟩ | ⟨n, _, h1, h2⟩
  · rw [h1]; rfl
  · rw [h1]
    by_cases e : n < m
    · rw [if_pos (by omega)]
    · rw [Sp.fr_zero_all hS h (show m ≤ n by omega)] at h2; simp at h2
theorem dlt_bd (hS : S < 2 ^ 32) {m s : Nat} (hs : s < 32) : -1 ≤ Sp.dlt rel S m s ∧ Sp.dlt rel S m s ≤ 31 := by
  have := dist_bd (rel := rel) hS s hs
  unfold Sp.dlt; split <;> omega
/-- the next front, as the reference lays it -/
def Sp.nextF (rel : Nat → Nat → Bool) (S m s : Nat) : Bool := (Sp.img rel (Sp.fr rel S m)).testBit s && !(Sp.rch rel S m).testBit s
theorem nextF_all (hS : S < 2 ^ 32) (m : Nat) : Sp.setOf 32 (Sp.nextF rel S m) = Sp.fr rel S (m + 1) := by
  refine Sp.set_ext (Sp.setOf_lt _ _) (Sp.fr_lt hS _) fun s hs => ?_
  rw [Sp.testBit_setOf, Sp.fr_front hS m s hs]
  simp only [hs, decide_true, Bool.true_and, Sp.nextF, Bool.and_eq_true, Bool.not_eq_true']
end

def Sp.stepsFrom (t : Sp.Task) : List Int := if Sp.taskOk t = true then Sp.distList (Sp.rel t) (2 ^ t.start.toNat) else []

/-- a list of integers that a call made -/
def OutInts (w : World) (l : List Int) (v : Value) (w' : World) : Prop := ∃ A c, v = .slice A l.length c ∧ OI w.heap.size w'.heap.size w' A l
theorem OutInts.of {w w' : World} {l : List Int} {g c : Nat} (h : Own w' g l.length l) (hg : w.heap.size ≤ g) : OutInts w l (.slice (some ⟨g, 0, none⟩) l.length c) w' := ⟨_, _, rfl, h.ints, fun _ => ⟨g, rfl, hg, h.1, h⟩⟩
theorem OutInts.none (w w' : World) (A : Option Addr) (c : Nat) : OutInts w [] (.slice A 0 c) w' := ⟨A, c, rfl, ⟨rfl, Nat.zero_le _, fun x hx => (by cases hx), fun h => absurd h (Nat.lt_irrefl 0)⟩, fun h => absurd h (Nat.lt_irrefl 0)⟩

theorem stepsFrom_len (t : Sp.Task) : (Sp.stepsFrom t).length ≤ 1073741824 := by
  unfold Sp.stepsFrom
  split
  · rw [distList_len]; omega
  · simp

theorem RowsF.of {w : World} {g : Nat} {ds : List Sp.Deed} (h : Rows w g ds) (hok : ∀ k, k < ds.length → Sp.deedOk (ds.getD k default) = true) : RowsF w g ds.length (Sp.flat ds) :=
  ⟨h.1, h.2, fun p hp => by unfold Sp.flat; exact stepI_bd (by omega) (hok _ (by omega))⟩
























































































































































































































end Go.Proofs.YtphdojebdclonaaDoor
