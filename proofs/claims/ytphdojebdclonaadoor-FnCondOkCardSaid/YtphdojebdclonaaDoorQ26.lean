/- Joined texts. No condition. -/
import Derived.Test.YtphdojebdclonaaDoorQ7
import Derived.Test.YtphdojebdclonaaDoorQ13
import Derived.Test.YtphdojebdclonaaDoorQ4
/- Plain: shadows. No program in sight. No condition. -/
namespace Go.Proofs.YtphdojebdclonaaDoor
set_option linter.unusedSimpArgs false
set_option linter.unusedVariables false
open Go.RowKit

/-- two states agree in the facts f -/
def Sp.agree (f : Nat) : Nat → Nat → Bool := fun a b => (b &&& f) == (a &&& f)
def Sp.comp (r q : Nat → Nat → Bool) : Nat → Nat → Bool := fun a c => Sp.ex 32 (fun b => r a b && q b c)
theorem img_comp (r q : Nat → Nat → Bool) (S : Nat) : Sp.img (Sp.comp r q) S = Sp.img q (Sp.img r S) := by
  refine Sp.set_ext (Sp.img_lt _ _) (Sp.img_lt _ _) fun s hs => ?_
  rw [Sp.img_bit, Sp.img_bit]
  constructor
  · rintro ⟨_, s0, h0, h1, h2⟩
    obtain ⟨b, hb, h3⟩ := (Sp.ex_iff _ _).1 h2
    rw [Bool.and_eq_true] at h3
    exact ⟨hs, b, hb, (Sp.img_bit _ _ _).2 ⟨hb, s0, h0, h1, h3.1⟩, h3.2⟩
  · rintro ⟨_, b, hb, h1, h2⟩
    obtain ⟨_, s0, h0, h3, h4⟩ := (Sp.img_bit _ _ _).1 h1
    exact ⟨hs, s0, h0, h3, (Sp.ex_iff _ _).2 ⟨b, hb, by rw [h4, h2]; rfl⟩⟩
def Sp.relS (t : Sp.Task) (f : Nat) : Nat → Nat → Bool := Sp.comp (Sp.relB t) (Sp.agree f)
/-- from where the shadow's steps are told -/
def Sp.endS (t : Sp.Task) (f : Nat) : Nat := Sp.img (Sp.agree f) (Sp.truth t.goal)
theorem endS_lt (t : Sp.Task) (f : Nat) : Sp.endS t f < 2 ^ 32 := Sp.img_lt _ _
def Sp.shadowSteps (t : Sp.Task) (f : Int) : List Int := if Sp.taskOk t = true ∧ Sp.stOk f = true then Sp.distList (Sp.relS t f.toNat) (Sp.endS t f.toNat) else []
theorem shadowSteps_len (t : Sp.Task) (f : Int) : (Sp.shadowSteps t f).length ≤ 1073741824 := by
  unfold Sp.shadowSteps
  split
  · rw [distList_len]; omega
  · simp

/-- the set that the reference takes at its step n -/
def Sp.nowS (t : Sp.Task) (f : Nat) : Nat → Nat
  | 0 => Sp.truth t.goal
  | n + 1 => Sp.img (Sp.relB t) (Sp.fr (Sp.relS t f) (Sp.endS t f) n)
theorem nowS_lt (t : Sp.Task) (f n : Nat) : Sp.nowS t f n < 2 ^ 32 := by
  cases n with
  | zero => exact truth_bd _
  | succ n => exact Sp.img_lt _ _
theorem img_zero (r : Nat → Nat → Bool) : Sp.img r 0 = 0 := by
  refine Sp.set_ext (Sp.img_lt _ _) (by decide) fun s hs => ?_
  rw [Sp.img_bit]
  simp
theorem nowS_front (t : Sp.Task) (f n : Nat) {s : Nat} (hs : s < 32) :
    ((Sp.img (Sp.agree f) (Sp.nowS t f n)).testBit s && decide (Sp.dlt (Sp.relS t f) (Sp.endS t f) n s < 0)) = (Sp.fr (Sp.relS t f) (Sp.endS t f) n).testBit s := by
  cases n with
  | zero =>
    rw [dlt_zero]
    show ((Sp.endS t f).testBit s && true) = _
    rw [Bool.and_true]; rfl
  | succ n =>
    rw [dlt_neg (endS_lt t f) hs]
    show ((Sp.img (Sp.agree f) (Sp.img (Sp.relB t) _)).testBit s && _) = _
    rw [← img_comp, Bool.eq_iff_iff]
    refine Iff.trans ?_ (Sp.fr_front (endS_lt t f) n s hs).symm
    rw [Bool.and_eq_true, Bool.not_eq_true']; rfl
theorem nowS_zero {t : Sp.Task} {f n : Nat} (h : Sp.nowS t f n = 0) : Sp.fr (Sp.relS t f) (Sp.endS t f) n = 0 := by
  refine Sp.set_ext (Sp.fr_lt (endS_lt t f) _) (by decide) fun s hs => ?_
  rw [← nowS_front t f n hs, h, img_zero]
  simp
theorem nowS_bound {t : Sp.Task} {f n : Nat} (h : Sp.nowS t f n ≠ 0) : n ≤ 32 := by
  cases n with
  | zero => omega
  | succ n =>
    have : Sp.fr (Sp.relS t f) (Sp.endS t f) n ≠ 0 := fun e => h (by show Sp.img _ _ = 0; rw [e, img_zero])
    have := Sp.fr_bound (endS_lt t f) n this
    omega
theorem agree_ex (f S s : Nat) (hs : s < 32) : Sp.ex 32 (fun o => S.testBit o && ((s &&& f) == (o &&& f))) = (Sp.img (Sp.agree f) S).testBit s := by
  rw [Bool.eq_iff_iff, Sp.ex_iff, Sp.img_bit]
  simp only [Bool.and_eq_true, Sp.agree]
  exact ⟨fun ⟨o, ho, h1, h2⟩ => ⟨hs, o, ho, h1, h2⟩, fun ⟨_, o, ho, h1, h2⟩ => ⟨o, ho, h1, h2⟩⟩

/-- what agrees, place by place -/
def Sp.qAgr (f S p u : Nat) : Prop := u = p / 32 ∧ S.testBit (p % 32) = true ∧ ((p / 32) &&& f) = ((p % 32) &&& f)
theorem agr_all {f S T : Nat} (h : Sp.To (Sp.qAgr f S) (32 * 32) T) : T = Sp.img (Sp.agree f) S := by
  refine Sp.set_ext h.1 (Sp.img_lt _ _) fun u hu => ?_
  rw [h.2 u, Sp.img_bit]
  simp only [Sp.agree, beq_iff_eq]
  constructor
  · rintro ⟨p, hp, rfl, h1, h2⟩
    exact ⟨hu, p % 32, by omega, h1, h2⟩
  · rintro ⟨_, o, ho, h1, h2⟩
    refine ⟨u * 32 + o, by omega, by omega, ?_, ?_⟩
    · rw [show (u * 32 + o) % 32 = o by omega]; exact h1
    · rw [show (u * 32 + o) % 32 = o by omega, show (u * 32 + o) / 32 = u by omega]; exact h2

end Go.Proofs.YtphdojebdclonaaDoor
