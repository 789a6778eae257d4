/- Joined texts. No condition. -/
import Derived.Test.YtphdojebdclonaaDoorQ17
import Derived.Test.YtphdojebdclonaaDoorQ26
/- Walks: agreeing; the program's ShadowSteps. No condition. -/
namespace Go.Proofs.YtphdojebdclonaaDoor
set_option linter.unusedSimpArgs false
set_option linter.unusedVariables false
open Go.RowKit

theorem To_round {q : Nat → Nat → Prop} {m T : Nat} (h : Sp.To q m T) {m' : Nat} (e : m = m') : Sp.To q m' T := e ▸ h























































































































































































































































end Go.Proofs.YtphdojebdclonaaDoor
/- Walks: the reference's ShadowSteps. No condition. -/
namespace Go.Proofs.YtphdojebdclonaaDoor
set_option linter.unusedSimpArgs false
set_option linter.unusedVariables false
open Go.RowKit

theorem c_bothN (a b : Nat) (w : World) (ha : a < 4294967296) (hb : b < 4294967296) : Calls Tryd.prog 110 #[.int .i64 (a : Int), .int .i64 (b : Int)] w (Ret (.int .i64 ((a &&& b : Nat) : Int)) w) := by
  have := c_l1Both (a : Int) (b : Int) w (by omega) (by omega) (by omega) (by omega)
  rwa [Int.toNat_natCast, Int.toNat_natCast] at this

/-- whether a state is among the wide ones, by the first o others -/
def Sp.wideBy (q T s o : Nat) (d : Int) : Bool := Sp.ex o (fun x => T.testBit x && ((s &&& q) == (x &&& q))) && decide (d < 0)
theorem wideBy_zero (q T s : Nat) (d : Int) : Sp.wideBy q T s 0 d = false := rfl
theorem wideBy_succ (q T s o : Nat) (d : Int) : Sp.wideBy q T s (o + 1) d = ((Sp.ex o (fun x => T.testBit x && ((s &&& q) == (x &&& q))) || (T.testBit o && ((s &&& q) == (o &&& q)))) && decide (d < 0)) := rfl
theorem wideBy_on {q T s o : Nat} {d : Int} (h : Sp.wideBy q T s o d = true) : Sp.wideBy q T s (o + 1) d = true := by
  unfold Sp.wideBy at *
  simp only [Sp.ex, Bool.and_eq_true, Bool.or_eq_true] at *
  exact ⟨.inl h.1, h.2⟩
theorem wideBy_off {q T s o : Nat} {d : Int} (h : Sp.wideBy q T s o d = false) (h2 : (T.testBit o && ((s &&& q) == (o &&& q))) = false ∨ ¬ d < 0) : Sp.wideBy q T s (o + 1) d = false := by
  rw [wideBy_succ]
  unfold Sp.wideBy at h
  rcases h2 with h2 | h2
  · rw [h2, Bool.or_false]; exact h
  · rw [decide_eq_false h2, Bool.and_false]
theorem wideBy_new {q T s o : Nat} {d : Int} (h1 : T.testBit o = true) (h2 : (s &&& q) = (o &&& q)) (h3 : d < 0) : Sp.wideBy q T s (o + 1) d = true := by
  rw [wideBy_succ, h1, h2, decide_eq_true h3]; simp
theorem setOf_self {F : Nat} (hF : F < 2 ^ 32) : Sp.setOf 32 (fun s => F.testBit s) = F := by
  refine Sp.set_ext (Sp.setOf_lt _ _) hF fun s hs => ?_
  rw [Sp.testBit_setOf]
  simp [hs]

/-- a row between two states of knowledge -/
def Sp.mid (D D' : Nat → Int) (j s : Nat) : Int := if s < j then D' s else D s
theorem mid_zero (D D' : Nat → Int) (s : Nat) : Sp.mid D D' 0 s = D s := by unfold Sp.mid; rw [if_neg (by omega)]
theorem mid_at (D D' : Nat → Int) (j : Nat) : Sp.mid D D' j j = D j := by unfold Sp.mid; rw [if_neg (by omega)]
theorem mid_keep {D D' : Nat → Int} {j : Nat} (h : D' j = D j) (s : Nat) : Sp.mid D D' j s = Sp.mid D D' (j + 1) s := by
  unfold Sp.mid
  by_cases e : s = j
  · subst e; rw [if_neg (by omega), if_pos (by omega), h]
  · by_cases e2 : s < j
    · rw [if_pos e2, if_pos (by omega)]
    · rw [if_neg e2, if_neg (by omega)]
theorem mid_set {D D' : Nat → Int} {j : Nat} {x : Int} (h : D' j = x) (s : Nat) : (if s = j then x else Sp.mid D D' j s) = Sp.mid D D' (j + 1) s := by
  unfold Sp.mid
  by_cases e : s = j
  · subst e; rw [if_pos rfl, if_pos (by omega), h]
  · rw [if_neg e]
    by_cases e2 : s < j
    · rw [if_pos e2, if_pos (by omega)]
    · rw [if_neg e2, if_neg (by omega)]
theorem mid_end (D D' : Nat → Int) {j s : Nat} (h : s < j) : Sp.mid D D' j s = D' s := by unfold Sp.mid; rw [if_pos h]











































































































































































































































end Go.Proofs.YtphdojebdclonaaDoor
