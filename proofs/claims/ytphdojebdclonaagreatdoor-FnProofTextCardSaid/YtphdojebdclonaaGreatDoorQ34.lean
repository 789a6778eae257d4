/- Joined texts. No condition. -/
import Derived.Test.YtphdojebdclonaaGreatDoorQ3
/- Walks: a task of one's own is marked, and held. No condition. -/
namespace Go.Proofs.YtphdojebdclonaaGreatDoor
set_option linter.unusedSimpArgs false
set_option linter.unusedVariables false
open Go.RowKit

/-- the mark ahead of the k-th deed -/
def mkAt (ms : Nat → Nat) (k0 : Int) : Nat → Int
  | 0 => k0
  | j + 1 => mkAt ms k0 j + (ms j : Int) + 3
theorem mkAt_bd (ms : Nat → Nat) (k0 : Int) (n : Nat) (h : ∀ k, k < n → ms k ≤ 64) : ∀ j, j ≤ n → k0 ≤ mkAt ms k0 j ∧ mkAt ms k0 j ≤ k0 + 67 * (j : Int) := by
  intro j
  induction j with
  | zero => intro _; exact ⟨Int.le_refl _, by simp [mkAt]⟩
  | succ j ih =>
    intro hj
    obtain ⟨h1, h2⟩ := ih (by omega)
    have := h j (by omega)
    show k0 ≤ mkAt ms k0 j + (ms j : Int) + 3 ∧ mkAt ms k0 j + (ms j : Int) + 3 ≤ _
    omega
/-- n deeds of one's own in block g, their rows in the blocks gs, all apart -/
def OD (B C : Nat) (w : World) (g n : Nat) (gs ms : Nat → Nat) : Prop :=
  B ≤ g ∧ g < C ∧ g < w.heap.size ∧ (∀ i, w.frozen? ⟨g, i, none⟩ = false) ∧
  (∀ k, k < n → ∃ c, w.cell? ⟨g, k * 4, none⟩ = some (.slice (some ⟨gs k, 0, none⟩) (ms k) c) ∧ ms k ≤ 64 ∧ gs k ≠ g ∧ B ≤ gs k ∧ gs k < C ∧ gs k < w.heap.size ∧ Sh (gs k) (gs k + 1) w (some ⟨gs k, 0, none⟩) (ms k) ∧ ∀ i, i < 3 → ∃ x, w.cell? ⟨g, k * 4 + (i + 1), none⟩ = some (.int .i64 x)) ∧
  ∀ j k, j < n → k < n → j ≠ k → gs j ≠ gs k
theorem OD.but {B C B' C' : Nat} {w w' : World} {g n : Nat} {gs ms : Nat → Nat} (h : OD B C w g n gs ms) (hb : But B' C' w w') : OD B C w' g n gs ms := by
  obtain ⟨h1, h2, h3, h4, h5, h6⟩ := h
  refine ⟨h1, h2, Nat.lt_of_lt_of_le h3 hb.2.2.1, fun i => by rw [hb.2.2.2.2 _ h3]; exact h4 i, fun k hk => ?_, h6⟩
  obtain ⟨c, e1, e2, e3, e4, e5, e6, e7, e8⟩ := h5 k hk
  exact ⟨c, hb.slice e1, e2, e3, e4, e5, Nat.lt_of_lt_of_le e6 hb.2.2.1, e7.but hb, fun i hi => hb.int (e8 i hi)⟩
theorem But.wider {B C B' C' : Nat} {w w' : World} (h : But B C w w') (hB : B' ≤ B) (hC : C ≤ C') : But B' C' w w' :=
  ⟨fun a ha hs => h.1 a ha (Nat.le_trans hs hB), fun b hb hr => h.2.1 b hb (by omega), h.2.2⟩
theorem Marked.same {w w' : World} {b n : Nat} {k : Int} (h : Marked w (some ⟨b, 0, none⟩) n k) (he : w'.heap[b]? = w.heap[b]?) (hs : w.heap.size ≤ w'.heap.size) : Marked w' (some ⟨b, 0, none⟩) n k := by
  intro hn
  obtain ⟨b', o, e, hb, hc⟩ := h hn
  cases e
  exact ⟨b, 0, rfl, Nat.lt_of_lt_of_le hb hs, fun j hj => by rw [World.cell?_of_block (a := ⟨b, 0 + j, none⟩) he]; exact hc j hj⟩
/-- the marks of one deed -/
def M1 (w : World) (g a m : Nat) (K : Int) (k : Nat) : Prop :=
  (∃ c, w.cell? ⟨g, k * 4, none⟩ = some (.slice (some ⟨a, 0, none⟩) m c)) ∧ Marked w (some ⟨a, 0, none⟩) m K ∧ w.cell? ⟨g, k * 4 + 1, none⟩ = some (.int .i64 (K + m)) ∧ w.cell? ⟨g, k * 4 + 2, none⟩ = some (.int .i64 (K + m + 1)) ∧ w.cell? ⟨g, k * 4 + 3, none⟩ = some (.int .i64 (K + m + 1 + 1))
theorem M1.same {w w' : World} {g a m k : Nat} {K : Int} (h : M1 w g a m K k) (hg : w'.heap[g]? = w.heap[g]?) (ha : w'.heap[a]? = w.heap[a]?) (hs : w.heap.size ≤ w'.heap.size) : M1 w' g a m K k := by
  obtain ⟨⟨c, h1⟩, h2, h3, h4, h5⟩ := h
  exact ⟨⟨c, by rw [World.cell?_of_block (a := ⟨g, _, none⟩) hg]; exact h1⟩, h2.same ha hs, by rw [World.cell?_of_block (a := ⟨g, _, none⟩) hg]; exact h3, by rw [World.cell?_of_block (a := ⟨g, _, none⟩) hg]; exact h4, by rw [World.cell?_of_block (a := ⟨g, _, none⟩) hg]; exact h5⟩
theorem M1.lt {w : World} {g a m k : Nat} {K : Int} (h : M1 w g a m K k) : g < w.heap.size := by
  obtain ⟨_, _, h3, _⟩ := h
  exact World.block_lt_of_cell? _ _ h3
theorem M1.kept {w w' : World} {g a m k : Nat} {K : Int} (h : M1 w g a m K k) (hk : Kept w w') : M1 w' g a m K k := by
  have hg := h.lt
  obtain ⟨⟨c, h1⟩, h2, h3, h4, h5⟩ := h
  exact ⟨⟨c, hk.at_ h1⟩, h2.keep hk, hk.at_ h3, hk.at_ h4, hk.at_ h5⟩
/-- what a marking of deeds leaves -/
def MDQ (B C : Nat) (g n : Nat) (gs ms : Nat → Nat) (k0 : Int) (w : World) (e : Ending) (w' : World) : Prop :=
  e = .returned (.int .i64 (mkAt ms k0 n)) ∧ But B C w w' ∧ (∀ k, k < n → M1 w' g (gs k) (ms k) (mkAt ms k0 k) k) ∧ ∀ b, b < w.heap.size → (0 < n → b ≠ g) → (∀ k, k < n → b ≠ gs k) → w'.heap[b]? = w.heap[b]?






































































































/-- the marks of n deeds -/
def MD (w : World) (g n : Nat) (gs ms : Nat → Nat) (k0 : Int) : Prop := ∀ k, k < n → M1 w g (gs k) (ms k) (mkAt ms k0 k) k
theorem MD.kept {w w' : World} {g n : Nat} {gs ms : Nat → Nat} {k0 : Int} (h : MD w g n gs ms k0) (hk : Kept w w') : MD w' g n gs ms k0 := fun k hkn => (h k hkn).kept hk

































/-- what a marking of a task leaves -/
def MTQ (B C : Nat) (AG : Option Addr) (nG g n : Nat) (gs ms : Nat → Nat) (k : Int) (w : World) (e : Ending) (w' : World) : Prop :=
  e = .returned (.int .i64 (mkAt ms (k + nG) n)) ∧ But B C w w' ∧ Marked w' AG nG k ∧ MD w' g n gs ms (k + nG)





























































end Go.Proofs.YtphdojebdclonaaGreatDoor
