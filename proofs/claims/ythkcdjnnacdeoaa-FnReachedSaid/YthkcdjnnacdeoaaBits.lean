/- Bits of numbers: plain lemmas. No condition. -/
import Derived.Test.YthkcdjnnacdeoaaMem
import Derived.Laws.BitsAllLaws
import Derived.Laws.BitsLemmas
namespace Go.Proofs.Ythkcdjnnacdeoaa
open Go.RowKit

theorem tmod_bit (s k : Nat) : ((s : Int) / 2 ^ k).tmod 2 = (((s.testBit k).toNat : Nat) : Int) := by
  have e : ((s : Int) / 2 ^ k) = ((s / 2 ^ k : Nat) : Int) := by
    rw [Int.natCast_ediv, Int.natCast_pow]; rfl
  rw [e, Int.tmod_eq_emod_of_nonneg (Int.natCast_nonneg _)]
  rw [Nat.testBit_eq_decide_div_mod_eq]
  have h2 : s / 2 ^ k % 2 < 2 := Nat.mod_lt _ (by decide)
  by_cases h : s / 2 ^ k % 2 = 1
  · simp only [h, decide_true, Bool.toNat_true]; omega
  · simp only [h, decide_false, Bool.toNat_false]; omega

theorem ofInt_i64 (a : Nat) (ha : a < 9223372036854775808) : (BitVec.ofInt 64 (a : Int)).toNat = a := by
  rw [BitVec.ofInt_natCast, BitVec.toNat_ofNat]; exact Nat.mod_eq_of_lt (by omega)
theorem i64_and_nat (a b : Nat) (ha : a < 9223372036854775808) (hb : b < 9223372036854775808) : bits .and .i64 (a : Int) (b : Int) = ((a &&& b : Nat) : Int) := by
  have hx : a &&& b < 2 ^ 63 := Nat.and_lt_two_pow _ (by omega)
  show IntKind.i64.wrap ((BitVec.ofInt 64 (a : Int) &&& BitVec.ofInt 64 (b : Int)).toNat : Int) = _
  rw [BitVec.toNat_and, ofInt_i64 a ha, ofInt_i64 b hb, IntKind.wrap_i64]
  omega
theorem i64_or_nat (a b : Nat) (ha : a < 9223372036854775808) (hb : b < 9223372036854775808) : bits .or .i64 (a : Int) (b : Int) = ((a ||| b : Nat) : Int) := by
  have hx : a ||| b < 2 ^ 63 := Nat.or_lt_two_pow (by omega) (by omega)
  show IntKind.i64.wrap ((BitVec.ofInt 64 (a : Int) ||| BitVec.ofInt 64 (b : Int)).toNat : Int) = _
  rw [BitVec.toNat_or, ofInt_i64 a ha, ofInt_i64 b hb, IntKind.wrap_i64]
  omega
theorem i64_xor_nat (a b : Nat) (ha : a < 9223372036854775808) (hb : b < 9223372036854775808) : bits .xor .i64 (a : Int) (b : Int) = ((a ^^^ b : Nat) : Int) := by
  have hx : a ^^^ b < 2 ^ 63 := Nat.xor_lt_two_pow (by omega) (by omega)
  show IntKind.i64.wrap ((BitVec.ofInt 64 (a : Int) ^^^ BitVec.ofInt 64 (b : Int)).toNat : Int) = _
  rw [BitVec.toNat_xor, ofInt_i64 a ha, ofInt_i64 b hb, IntKind.wrap_i64]
  omega
theorem i64_and (a b : Int) (h1 : 0 ≤ a) (h2 : a ≤ 9223372036854775807) (h3 : 0 ≤ b) (h4 : b ≤ 9223372036854775807) : bits .and .i64 a b = ((a.toNat &&& b.toNat : Nat) : Int) := by
  have e := i64_and_nat a.toNat b.toNat (by omega) (by omega)
  rwa [Int.toNat_of_nonneg h1, Int.toNat_of_nonneg h3] at e

theorem and_bit (s k : Nat) (hs : s < 9223372036854775808) : bits .and .i64 ((s : Int) / 2 ^ k) 1 = (((s.testBit k).toNat : Nat) : Int) := by
  have e : ((s : Int) / 2 ^ k) = ((s / 2 ^ k : Nat) : Int) := by
    rw [Int.natCast_ediv, Int.natCast_pow]; rfl
  have hlt : s / 2 ^ k < 9223372036854775808 := Nat.lt_of_le_of_lt (Nat.div_le_self _ _) hs
  rw [e]
  have h1 := i64_and_nat (s / 2 ^ k) 1 hlt (by decide)
  rw [show ((1 : Nat) : Int) = 1 from rfl] at h1
  rw [h1, Nat.and_one_is_mod, Nat.testBit_eq_decide_div_mod_eq]
  have h2 : s / 2 ^ k % 2 < 2 := Nat.mod_lt _ (by decide)
  by_cases h : s / 2 ^ k % 2 = 1
  · simp [h]
  · have : s / 2 ^ k % 2 = 0 := by omega
    simp [this]

theorem pow_bd (k m : Nat) (h : k ≤ m) : (1 : Int) ≤ 2 ^ k ∧ (2 : Int) ^ k ≤ 2 ^ m :=
  ⟨by have : (0 : Int) < 2 ^ k := Int.pow_pos (by decide)
      omega, by exact_mod_cast Nat.pow_le_pow_right (by decide) h⟩

/-- two to a power, closed to the walk -/
def p2 (k : Nat) : Int := 2 ^ k
theorem p2_nat (k : Nat) : p2 k = ((2 ^ k : Nat) : Int) := by simp [p2]
theorem p2_bd (k m : Nat) (h : k ≤ m) : 1 ≤ p2 k ∧ p2 k ≤ p2 m := pow_bd k m h
theorem p2_62 (k : Nat) (h : k ≤ 62) : 1 ≤ p2 k ∧ p2 k ≤ 4611686018427387904 := pow_bd k 62 h
theorem shl_one (k : Nat) (hk : k ≤ 62) (yk : IntKind) : Op.shift .shl .i64 1 yk (k : Int) = pure (.int .i64 (p2 k)) := by
  obtain ⟨h1, h2⟩ := p2_62 k hk
  rw [shift_shl .i64 yk 1 k (by omega) (by show (k : Int) ≤ 64; omega)]
  rw [Int.toNat_natCast, Int.one_mul]
  show _ = pure (Value.int .i64 (2 ^ k))
  rw [IntWalk.i64_in (2 ^ k) (by unfold p2 at h1 h2; omega)]
theorem bin_shl_one (k : Nat) (hk : k ≤ 62) (T : TypeId) : binOp .shl T (.int .i64 1) (.int .i64 (k : Int)) = pure (.int .i64 (p2 k)) := shl_one k hk .i64
attribute [irreducible] p2

/-- the common bits below k -/
def low (a b k : Nat) : Nat := (a &&& b) % 2 ^ k
theorem low_zero (a b : Nat) : low a b 0 = 0 := by simp [low, Nat.mod_one]
theorem low_succ (a b k : Nat) : low a b (k + 1) = low a b k + (a.testBit k).toNat * (b.testBit k).toNat * 2 ^ k := by
  unfold low
  have e : ((a &&& b).testBit k).toNat = (a &&& b) / 2 ^ k % 2 := Nat.toNat_testBit _ _
  rw [Nat.mod_pow_succ, ← e, Nat.testBit_and]
  cases a.testBit k <;> cases b.testBit k <;> simp
theorem low_lt (a b k : Nat) : low a b k < 2 ^ k := Nat.mod_lt _ (Nat.two_pow_pos k)
theorem low_all (a b k : Nat) (h : a < 2 ^ k ∨ b < 2 ^ k) : low a b k = a &&& b := by
  unfold low
  apply Nat.mod_eq_of_lt
  rcases h with h | h
  · exact Nat.lt_of_le_of_lt Nat.and_le_left h
  · exact Nat.lt_of_le_of_lt Nat.and_le_right h
attribute [irreducible] low

theorem low_step (a b k : Nat) (hk : k < 62) :
    wrap64 ((low a b k : Int) + wrap64 (wrap64 (((a.testBit k).toNat : Int) * ((b.testBit k).toNat : Int)) * 2 ^ k)) = ((low a b (k + 1) : Nat) : Int) := by
  have hs := low_succ a b k
  have hl := low_lt a b k
  obtain ⟨h1, h2⟩ := pow_bd k 61 (by omega)
  rw [show (2 : Int) ^ 61 = 2305843009213693952 from rfl] at h2
  have e : ((2 : Int) ^ k) = ((2 ^ k : Nat) : Int) := by simp
  rw [e] at h1 h2 ⊢
  generalize 2 ^ k = m at *
  have hx : ∀ x : Nat, (x = 0 ∨ x = 1) → low a b (k + 1) = low a b k + x * m → wrap64 ((low a b k : Int) + wrap64 (wrap64 (x : Int) * (m : Int))) = ((low a b (k + 1) : Nat) : Int) := by
    intro x hx he
    rcases hx with rfl | rfl
    · rw [he, IntWalk.wrap64_in ((0 : Nat) : Int) (by omega), show ((0 : Nat) : Int) * (m : Int) = 0 by simp, IntWalk.wrap64_in (0 : Int) (by omega), IntWalk.wrap64_in _ (by omega)]; omega
    · rw [he, IntWalk.wrap64_in ((1 : Nat) : Int) (by omega), show ((1 : Nat) : Int) * (m : Int) = m by simp, IntWalk.wrap64_in (m : Int) (by omega), IntWalk.wrap64_in _ (by omega)]; omega
  have := hx ((a.testBit k).toNat * (b.testBit k).toNat) (by cases a.testBit k <;> cases b.testBit k <;> simp) hs
  rw [← this]
  simp

theorem xor_sumF (f : Nat) : ∀ a b, a < 2 ^ f → b < 2 ^ f → (a ^^^ b) + 2 * (a &&& b) = a + b := by
  induction f with
  | zero => intro a b ha hb; have h1 : a = 0 := by simpa using ha
            have h2 : b = 0 := by simpa using hb
            subst h1; subst h2; rfl
  | succ f ih =>
    intro a b ha hb
    have h := ih (a / 2) (b / 2) (by rw [Nat.pow_succ] at ha; omega) (by rw [Nat.pow_succ] at hb; omega)
    rw [← Nat.xor_div_two, ← Nat.and_div_two] at h
    have hx : (a ^^^ b) % 2 = 1 ↔ ¬ (a % 2 = 1 ↔ b % 2 = 1) := Nat.xor_mod_two_eq_one
    have ha2 : (a &&& b) % 2 = 1 ↔ a % 2 = 1 ∧ b % 2 = 1 := Nat.and_mod_two_eq_one
    omega
theorem xor_sum (a b : Nat) : (a ^^^ b) + 2 * (a &&& b) = a + b :=
  xor_sumF (a + b) a b (Nat.lt_of_le_of_lt (Nat.le_add_right a b) Nat.lt_two_pow_self) (Nat.lt_of_le_of_lt (Nat.le_add_left b a) Nat.lt_two_pow_self)
theorem or_sumF (f : Nat) : ∀ a b, a < 2 ^ f → b < 2 ^ f → (a ||| b) + (a &&& b) = a + b := by
  induction f with
  | zero => intro a b ha hb; have h1 : a = 0 := by simpa using ha
            have h2 : b = 0 := by simpa using hb
            subst h1; subst h2; rfl
  | succ f ih =>
    intro a b ha hb
    have h := ih (a / 2) (b / 2) (by rw [Nat.pow_succ] at ha; omega) (by rw [Nat.pow_succ] at hb; omega)
    rw [← Nat.or_div_two, ← Nat.and_div_two] at h
    have hx : (a ||| b) % 2 = 1 ↔ a % 2 = 1 ∨ b % 2 = 1 := Nat.or_mod_two_eq_one
    have ha2 : (a &&& b) % 2 = 1 ↔ a % 2 = 1 ∧ b % 2 = 1 := Nat.and_mod_two_eq_one
    omega
theorem or_sum (a b : Nat) : (a ||| b) + (a &&& b) = a + b :=
  or_sumF (a + b) a b (Nat.lt_of_le_of_lt (Nat.le_add_right a b) Nat.lt_two_pow_self) (Nat.lt_of_le_of_lt (Nat.le_add_left b a) Nat.lt_two_pow_self)

/-- how many bits are set -/
def cntF : Nat → Nat → Nat
  | 0, _ => 0
  | f + 1, s => s % 2 + cntF f (s / 2)
def cnt (s : Nat) : Nat := cntF 64 s

theorem cntF_zero (f : Nat) : cntF f 0 = 0 := by induction f with | zero => rfl | succ f ih => simp [cntF, ih]

theorem cntF_more (f g : Nat) : ∀ s, s < 2 ^ f → f ≤ g → cntF g s = cntF f s := by
  induction f generalizing g with
  | zero => intro s hs _; have : s = 0 := by simpa using hs
            subst this; simp [cntF_zero]
  | succ f ih =>
    intro s hs hg
    cases g with
    | zero => omega
    | succ g =>
      simp only [cntF]
      rw [ih g (s / 2) (by rw [Nat.pow_succ] at hs; omega) (by omega)]

theorem cnt_half (s : Nat) (hs : s < 2 ^ 63) : cnt s = s % 2 + cnt (s / 2) := by
  have e : cntF (63 + 1) s = s % 2 + cntF 63 (s / 2) := rfl
  have e2 : cnt (s / 2) = cntF 63 (s / 2) := cntF_more 63 64 (s / 2) (by omega) (by omega)
  rw [e2]
  exact e

theorem cntF_le (f : Nat) : ∀ s, cntF f s ≤ f := by
  induction f with
  | zero => intro s; simp [cntF]
  | succ f ih => intro s; simp only [cntF]; have := ih (s / 2); omega

theorem cnt_le (s : Nat) : cnt s ≤ 64 := cntF_le 64 s

theorem and_pred (f : Nat) : ∀ s, s < 2 ^ f → 0 < s → cntF f (s &&& (s - 1)) + 1 = cntF f s := by
  induction f with
  | zero => intro s hs h0; simp at hs; omega
  | succ f ih =>
    intro s hs h0
    simp only [cntF]
    rw [Nat.and_div_two]
    have hm := @Nat.and_mod_two_eq_one s (s - 1)
    have hlt : (s &&& (s - 1)) % 2 < 2 := Nat.mod_lt _ (by decide)
    have hz : (s &&& (s - 1)) % 2 = 0 := by
      by_cases h : (s &&& (s - 1)) % 2 = 1
      · have := hm.1 h; omega
      · omega
    rw [hz]
    by_cases ho : s % 2 = 1
    · have : (s - 1) / 2 = s / 2 := by omega
      rw [this, Nat.and_self]; omega
    · have h1 : (s - 1) / 2 = s / 2 - 1 := by omega
      have := ih (s / 2) (by rw [Nat.pow_succ] at hs; omega) (by omega)
      rw [h1]; omega

theorem cnt_pred (s : Nat) (hs : s < 2 ^ 63) (h0 : 0 < s) : cnt (s &&& (s - 1)) + 1 = cnt s := and_pred 64 s (by omega) h0
theorem cnt_zero : cnt 0 = 0 := cntF_zero 64
attribute [irreducible] cnt

end Go.Proofs.Ythkcdjnnacdeoaa
