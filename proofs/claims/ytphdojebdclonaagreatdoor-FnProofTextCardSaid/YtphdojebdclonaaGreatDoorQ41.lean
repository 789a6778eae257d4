/- Joined texts. No condition. -/
import Derived.Test.YtphdojebdclonaaGreatDoorQ37
import Derived.Test.YtphdojebdclonaaGreatDoorQ23
import Derived.Test.YtphdojebdclonaaGreatDoorQ39
import Derived.Test.YtphdojebdclonaaGreatDoorQ40
import Derived.Test.YtphdojebdclonaaGreatDoorQ32
import Derived.Test.YtphdojebdclonaaGreatDoorQ33
/- Proofs as texts are right or not: plain. No program in sight. No condition. -/
namespace Go.Proofs.YtphdojebdclonaaGreatDoor
set_option linter.unusedSimpArgs false
set_option linter.unusedVariables false
open Go.RowKit

def Sp.digB (c : UInt8) : Bool := decide (48 ≤ c.toNat ∧ c.toNat ≤ 57)
/-- the number that digits tell -/
def Sp.numN (s : List UInt8) : Nat := s.foldl (fun n c => 10 * n + (c.toNat - 48)) 0
/-- a number of at most m digits, without a 0 ahead -/
def Sp.numB (m : Nat) (s : List UInt8) : Bool := decide (1 ≤ s.length ∧ s.length ≤ m) && !(decide (1 < s.length) && s.headD 0 == 48) && s.all Sp.digB
def Sp.numI (m : Nat) (s : List UInt8) : Int := if Sp.numB m s = true then (Sp.numN s : Int) else -1
def Sp.numV (m : Nat) (s : List UInt8) : Int := if Sp.numB m s = true then (Sp.numN s : Int) else 0
theorem numN_snoc (l : List UInt8) (c : UInt8) : Sp.numN (l ++ [c]) = 10 * Sp.numN l + (c.toNat - 48) := by
  unfold Sp.numN; rw [List.foldl_append]; rfl
theorem dig_bd (l : List UInt8) : ∀ n, l.all Sp.digB = true → l.foldl (fun n c => 10 * n + (c.toNat - 48)) n < (n + 1) * 10 ^ l.length ∧ n * 10 ^ l.length ≤ l.foldl (fun n c => 10 * n + (c.toNat - 48)) n := by
  induction l with
  | nil => intro n _; simp
  | cons c l ih =>
    intro n h
    rw [List.all_cons, Bool.and_eq_true] at h
    obtain ⟨hc, hl⟩ := h
    unfold Sp.digB at hc
    rw [decide_eq_true_eq] at hc
    obtain ⟨h1, h2⟩ := ih (10 * n + (c.toNat - 48)) hl
    rw [List.foldl_cons, List.length_cons, Nat.pow_succ]
    constructor
    · refine Nat.lt_of_lt_of_le h1 ?_
      rw [show (n + 1) * (10 ^ l.length * 10) = (10 * (n + 1)) * 10 ^ l.length by rw [Nat.mul_comm (10 ^ l.length) 10, ← Nat.mul_assoc, Nat.mul_comm (n + 1) 10]]
      exact Nat.mul_le_mul_right _ (by omega)
    · refine Nat.le_trans ?_ h2
      rw [show n * (10 ^ l.length * 10) = (10 * n) * 10 ^ l.length by rw [Nat.mul_comm (10 ^ l.length) 10, ← Nat.mul_assoc, Nat.mul_comm n 10]]
      exact Nat.mul_le_mul_right _ (by omega)
theorem numN_lt {l : List UInt8} (h : l.all Sp.digB = true) : Sp.numN l < 10 ^ l.length := by
  have := (dig_bd l 0 h).1
  rw [Nat.zero_add, Nat.one_mul] at this
  exact this
theorem numB_parts {m : Nat} {s : List UInt8} (h : Sp.numB m s = true) : 1 ≤ s.length ∧ s.length ≤ m ∧ (1 < s.length → s.headD 0 ≠ 48) ∧ s.all Sp.digB = true := by
  unfold Sp.numB at h
  simp only [Bool.and_eq_true, decide_eq_true_eq, Bool.not_eq_true', Bool.and_eq_false_iff, decide_eq_false_iff_not, beq_eq_false_iff_ne] at h
  obtain ⟨⟨⟨h1, h2⟩, h3⟩, h4⟩ := h
  exact ⟨h1, h2, fun hl => h3.resolve_left (by omega), h4⟩
theorem numB_of {m : Nat} {s : List UInt8} (h1 : 1 ≤ s.length) (h2 : s.length ≤ m) (h3 : 1 < s.length → s.headD 0 ≠ 48) (h4 : s.all Sp.digB = true) : Sp.numB m s = true := by
  unfold Sp.numB
  simp only [Bool.and_eq_true, decide_eq_true_eq, Bool.not_eq_true', Bool.and_eq_false_iff, decide_eq_false_iff_not, beq_eq_false_iff_ne]
  refine ⟨⟨⟨h1, h2⟩, ?_⟩, h4⟩
  by_cases h : 1 < s.length
  · exact .inr (h3 h)
  · exact .inl h
theorem num_two {s : List UInt8} (h : 0 ≤ Sp.numI 4 s ∧ Sp.numI 4 s < 6) : Sp.numB 2 s = true := by
  unfold Sp.numI at h
  split at h
  · rename_i hb
    obtain ⟨h1, h2, h3, h4⟩ := numB_parts hb
    by_cases hl : s.length ≤ 2
    · exact numB_of h1 hl h3 h4
    · exfalso
      cases s with
      | nil => simp at h1
      | cons c r =>
        have hc := h3 (by omega)
        have h4' := h4
        rw [List.all_cons, Bool.and_eq_true] at h4'
        obtain ⟨hd, hr⟩ := h4'
        unfold Sp.digB at hd
        rw [decide_eq_true_eq] at hd
        have hne : c.toNat ≠ 48 := fun e => hc (UInt8.toNat_inj.1 e)
        have hb2 := (dig_bd r (10 * 0 + (c.toNat - 48)) hr).2
        have hN : Sp.numN (c :: r) = r.foldl (fun n c => 10 * n + (c.toNat - 48)) (10 * 0 + (c.toNat - 48)) := rfl
        rw [← hN] at hb2
        have h10 : 10 ^ 2 ≤ 10 ^ r.length := Nat.pow_le_pow_right (by omega) (by simp only [List.length_cons] at hl; omega)
        have hm : 1 * 10 ^ r.length ≤ (10 * 0 + (c.toNat - 48)) * 10 ^ r.length := Nat.mul_le_mul_right _ (by omega)
        omega
  · omega
theorem num_four {s : List UInt8} (h : Sp.numB 2 s = true) : Sp.numI 4 s = Sp.numV 2 s := by
  obtain ⟨h1, h2, h3, h4⟩ := numB_parts h
  unfold Sp.numI Sp.numV
  rw [if_pos h, if_pos (numB_of h1 (by omega) h3 h4)]
theorem numB_inner {m : Nat} {s : List UInt8} (h : Sp.numB m s = true) : ∀ x ∈ s, x ≠ 32 := by
  intro x hx e
  have := List.all_eq_true.1 (numB_parts h).2.2.2 x hx
  subst e
  exact absurd this (by decide)

theorem goOn_get {t : Sp.Task} : ∀ (l : List Int) (s : Nat), 0 ≤ Sp.goOn t s l → ∀ k ∈ l, 0 ≤ k ∧ k < t.deeds.length := by
  intro l
  induction l with
  | nil => intro s _ k hk; cases hk
  | cons a l ih =>
    intro s h k hk
    rw [goOn_cons] at h
    split at h
    · rename_i hc
      rcases List.mem_cons.1 hk with e | e
      · subst e; exact ⟨hc.1, hc.2.1⟩
      · exact ih _ h k e
    · omega
theorem planOk_els {t : Sp.Task} {l : List Int} (h : Sp.planOk t l = true) : l.length ≤ 40 ∧ ∀ k ∈ l, 0 ≤ k ∧ k < 6 := by
  unfold Sp.planOk at h
  rw [Bool.and_eq_true, decide_eq_true_eq] at h
  have h := h.1
  unfold Sp.planRun at h
  split at h
  · rename_i hc
    have := taskOk_len hc.1
    refine ⟨hc.2.2, fun k hk => ?_⟩
    have := goOn_get l _ h k hk
    omega
  · omega
/-- the pieces of a plan can be read -/
def Sp.planRead (l : List (List UInt8)) : Bool := decide (l.length ≤ 40) && l.all (Sp.numB 2)
theorem planOk_read (t : Sp.Task) (l : List (List UInt8)) : Sp.planOk t (l.map (Sp.numI 4)) = (Sp.planRead l && Sp.planOk t (l.map (Sp.numV 2))) := by
  have he : l.all (Sp.numB 2) = true → l.map (Sp.numI 4) = l.map (Sp.numV 2) := fun h => List.map_congr_left (fun x hx => num_four (List.all_eq_true.1 h x hx))
  rw [Bool.eq_iff_iff]
  constructor
  · intro h
    obtain ⟨hl, hk⟩ := planOk_els h
    have ha : l.all (Sp.numB 2) = true := List.all_eq_true.2 (fun x hx => num_two (hk _ (List.mem_map_of_mem hx)))
    rw [he ha] at h
    unfold Sp.planRead
    rw [h, ha, decide_eq_true (by rw [List.length_map] at hl; exact hl)]; rfl
  · intro h
    rw [Bool.and_eq_true] at h
    obtain ⟨h1, h2⟩ := h
    unfold Sp.planRead at h1
    rw [Bool.and_eq_true] at h1
    rw [he h1.2]; exact h2

theorem cut_miss (c : UInt8) (s : List UInt8) (h : ∀ x ∈ s, x ≠ c) : Lib.cut s [c] = (s, [], false) := by
  have hi : Lib.index s [c] = -1 := by
    rw [Lib.index_one]
    induction s with
    | nil => rfl
    | cons x p ih =>
      rw [Lib.indexByte, if_neg (by simpa using h x (by simp)), ih (fun y hy => h y (by simp [hy]))]
      simp
  unfold Lib.cut
  rw [hi, if_neg (by omega)]
theorem cut_words {c : UInt8} {s k r : List UInt8} {m : Bool} (h : Lib.cut s [c] = (k, r, m)) : Sp.cutB c s = k :: (if m = true then Sp.cutB c r else []) := by
  by_cases hm : c ∈ s
  · obtain ⟨p, q, rfl, hp⟩ := List.eq_append_cons_of_mem hm
    have hp' : ∀ x ∈ p, x ≠ c := fun x hx e => hp (e ▸ hx)
    rw [cut_hit c p q hp'] at h
    injection h with e1 e2
    injection e2 with e2 e3
    subst e1 e2 e3
    rw [cutB_app c p q hp']; rfl
  · have hp' : ∀ x ∈ s, x ≠ c := fun x hx e => hm (e ▸ hx)
    rw [cut_miss c s hp'] at h
    injection h with e1 e2
    injection e2 with e2 e3
    subst e1 e2 e3
    rw [cutB_none c s hp']; rfl
theorem cutB_single {c : UInt8} {s : List UInt8} (h : (Sp.cutB c s).length = 1) : Sp.cutB c s = [s] ∧ ∀ x ∈ s, x ≠ c := by
  by_cases hm : c ∈ s
  · obtain ⟨p, q, rfl, hp⟩ := List.eq_append_cons_of_mem hm
    have hp' : ∀ x ∈ p, x ≠ c := fun x hx e => hp (e ▸ hx)
    rw [cutB_app c p q hp'] at h
    have := List.length_pos_iff.2 (cutB_ne c q)
    simp only [List.length_cons] at h
    omega
  · have hp' : ∀ x ∈ s, x ≠ c := fun x hx e => hm (e ▸ hx)
    exact ⟨cutB_none c s hp', hp'⟩

/-- what a proof's text proves -/
def Sp.proofRight (t : Sp.Task) (s : List UInt8) : Int :=
  if (Sp.cutB 32 s).headD [] = [112, 108, 97, 110] then (if Sp.planOk t ((Sp.cutB 32 s).tail.map (Sp.numI 4)) = true then 1 else -1)
  else if (Sp.cutB 32 s).headD [] = [99, 108, 111, 115, 101, 100] ∧ (Sp.cutB 32 s).length = 2 ∧ Sp.closedOk t (Sp.numI 10 ((Sp.cutB 32 s).getD 1 [])) = true then 0
  else if (Sp.cutB 32 s).headD [] = [115, 117, 109] ∧ (Sp.cutB 32 s).length = 2 ∧ Sp.sumOk t (Sp.readSet ((Sp.cutB 32 s).getD 1 [])) = true then 0
  else -1

theorem closedOk_bad (t : Sp.Task) : Sp.closedOk t (-1) = false := closedOk_no2 (by decide)
theorem sumOk_bad (t : Sp.Task) : Sp.sumOk t (-1) = false := by
  unfold Sp.sumOk
  rw [show Sp.stOk (-1) = false from by decide]; rfl
theorem readSet_inner {s : List UInt8} (h : Sp.readSetB s = true) : ∀ x ∈ s, x ≠ 32 := by
  unfold Sp.readSetB at h
  rw [decide_eq_true_eq] at h
  by_cases he : ∃ k : Nat, k < 32 ∧ Sp.letters (k : Int) = s
  · obtain ⟨k, hk, rfl⟩ := he
    exact fun x hx => (letters_inner (by omega) (by omega) x hx).2.2.2.2
  · exact absurd (readSet_none (fun k hk e => he ⟨k, hk, e⟩)) h

section cases
variable {t : Sp.Task} {s k r : List UInt8} {m : Bool}
theorem pr_plan0 (h : Lib.cut s [32] = ([112, 108, 97, 110], r, false)) : Sp.proofRight t s = if Sp.planOk t [] = true then 1 else -1 := by
  unfold Sp.proofRight
  rw [cut_words h]
  simp
theorem pr_plan1 (h : Lib.cut s [32] = ([112, 108, 97, 110], r, true)) : Sp.proofRight t s = if (Sp.planRead (Sp.cutB 32 r) && Sp.planOk t ((Sp.cutB 32 r).map (Sp.numV 2))) = true then 1 else -1 := by
  unfold Sp.proofRight
  rw [cut_words h]
  simp only [if_true, List.headD_cons, List.tail_cons, planOk_read]
theorem pr_closed (h : Lib.cut s [32] = ([99, 108, 111, 115, 101, 100], r, true)) : Sp.proofRight t s = if (Sp.numB 10 r && Sp.closedOk t (Sp.numV 10 r)) = true then 0 else -1 := by
  unfold Sp.proofRight
  rw [cut_words h]
  by_cases hb : Sp.numB 10 r = true
  · rw [if_pos rfl, cutB_none 32 r (numB_inner hb)]
    simp [hb, Sp.numI, Sp.numV]
  · by_cases hl : (Sp.cutB 32 r).length = 1
    · rw [if_pos rfl, (cutB_single hl).1]
      simp [hb, Sp.numI, closedOk_bad]
    · simp [hb, hl]
theorem pr_sum (h : Lib.cut s [32] = ([115, 117, 109], r, true)) : Sp.proofRight t s = if (Sp.readSetB r && Sp.sumOk t (Sp.readSetV r)) = true then 0 else -1 := by
  unfold Sp.proofRight
  rw [cut_words h]
  by_cases hb : Sp.readSetB r = true
  · rw [if_pos rfl, cutB_none 32 r (readSet_inner hb)]
    have : Sp.readSetV r = Sp.readSet r := by
      unfold Sp.readSetB at hb
      rw [decide_eq_true_eq] at hb
      unfold Sp.readSetV
      rw [if_neg hb]
    simp [hb, this]
  · have hm : Sp.readSet r = -1 := by
      unfold Sp.readSetB at hb
      simpa using hb
    by_cases hl : (Sp.cutB 32 r).length = 1
    · rw [if_pos rfl, (cutB_single hl).1]
      simp [hb, hm, sumOk_bad]
    · simp [hb, hl]
theorem pr_closed0 (h : Lib.cut s [32] = ([99, 108, 111, 115, 101, 100], r, false)) : Sp.proofRight t s = -1 := by
  unfold Sp.proofRight
  rw [cut_words h]
  simp
theorem pr_sum0 (h : Lib.cut s [32] = ([115, 117, 109], r, false)) : Sp.proofRight t s = -1 := by
  unfold Sp.proofRight
  rw [cut_words h]
  simp
theorem pr_none (h : Lib.cut s [32] = (k, r, m)) (h1 : k ≠ [112, 108, 97, 110]) (h2 : k ≠ [99, 108, 111, 115, 101, 100]) (h3 : k ≠ [115, 117, 109]) : Sp.proofRight t s = -1 := by
  unfold Sp.proofRight
  rw [cut_words h]
  simp [h1, h2, h3]
end cases

/-- a right proof tells what is so -/
theorem proofRight_tells (t : Sp.Task) (s : List UInt8) : (Sp.proofRight t s = 1 ∧ Sp.planThere t = true ∧ Sp.taskOk t = true) ∨ (Sp.proofRight t s = 0 ∧ Sp.planThere t = false ∧ Sp.taskOk t = true) ∨ Sp.proofRight t s = -1 := by
  unfold Sp.proofRight
  split
  · split
    · rename_i h
      exact .inl ⟨rfl, planThere_ok h, (planOk_least h).1⟩
    · exact .inr (.inr rfl)
  · split
    · rename_i h
      refine .inr (.inl ⟨rfl, (closedOk_none h.2.2).1, ?_⟩)
      cases ht : Sp.taskOk t with
      | true => rfl
      | false => rw [closedOk_no1 ht] at h; exact absurd h.2.2 (by simp)
    · split
      · rename_i h
        refine .inr (.inl ⟨rfl, (sumOk_closed h.2.2).1, ?_⟩)
        have h2 := (sumOk_closed h.2.2).2
        cases ht : Sp.taskOk t with
        | true => rfl
        | false => rw [closedOk_no1 ht] at h2; cases h2
      · exact .inr (.inr rfl)

/-- what is written is read -/
theorem dec_read (n : Nat) : Sp.numN (Lib.decDigits n) = n ∧ (Lib.decDigits n).all Sp.digB = true ∧ 1 ≤ (Lib.decDigits n).length ∧ (1 ≤ n → (Lib.decDigits n).headD 0 ≠ 48) := by
  have hd : ∀ r : Nat, r < 10 → (UInt8.ofNat (48 + r)).toNat = 48 + r := fun r hr => by simp; omega
  induction n using Nat.strongRecOn with
  | ind n ih =>
    by_cases h : n < 10
    · rw [dec_small h]
      have hn := hd n h
      refine ⟨?_, ?_, by simp, fun h1 e => ?_⟩
      · show 10 * 0 + ((UInt8.ofNat (48 + n)).toNat - 48) = n
        rw [hn]; omega
      · rw [List.all_cons, List.all_nil, Bool.and_true]
        unfold Sp.digB
        rw [hn, decide_eq_true_eq]; omega
      · have e2 : (UInt8.ofNat (48 + n)).toNat = 48 := congrArg UInt8.toNat e
        rw [hn] at e2; omega
    · obtain ⟨h1, h2, h3, h4⟩ := ih (n / 10) (by omega)
      have hn := hd (n % 10) (by omega)
      rw [dec_big h]
      refine ⟨?_, ?_, ?_, fun _ => ?_⟩
      · rw [numN_snoc, h1, hn]; omega
      · rw [List.all_append, h2, List.all_cons, List.all_nil]
        unfold Sp.digB
        rw [hn, decide_eq_true (by omega)]; rfl
      · rw [List.length_append]; omega
      · have h5 := h4 (by omega)
        cases hc : Lib.decDigits (n / 10) with
        | nil => rw [hc] at h3; simp at h3
        | cons a l => rw [hc] at h5; exact h5
theorem dec_num {m n : Nat} (h : n < 10 ^ m) (hm : 1 ≤ m) : Sp.numI m (Lib.decDigits n) = (n : Int) := by
  obtain ⟨h1, h2, h3, h4⟩ := dec_read n
  have hb : Sp.numB m (Lib.decDigits n) = true := by
    refine numB_of h3 (dec_len m n h hm) (fun hl => ?_) h2
    rcases Nat.eq_zero_or_pos n with e | e
    · subst e; rw [dec_small (by omega)] at hl; simp at hl
    · exact h4 e
  unfold Sp.numI
  rw [if_pos hb, h1]
theorem dec_inner (n : Nat) : ∀ x ∈ Lib.decDigits n, x ≠ 32 := by
  intro x hx e
  have := List.all_eq_true.1 (dec_read n).2.1 x hx
  subst e
  exact absurd this (by decide)
theorem planText_cut (l : List Int) : Sp.cutB 32 (Sp.planText l) = [112, 108, 97, 110] :: l.map (fun k => Lib.decDigits k.toNat) := by
  have hg : ∀ (l : List Int) (p : List UInt8), (∀ x ∈ p, x ≠ 32) → Sp.cutB 32 (p ++ l.flatMap (fun k => 32 :: Lib.decDigits k.toNat)) = p :: l.map (fun k => Lib.decDigits k.toNat) := by
    intro l
    induction l with
    | nil => intro p hp; simp [cutB_none 32 p hp]
    | cons a l ih =>
      intro p hp
      rw [List.flatMap_cons, List.cons_append, cutB_app 32 p _ hp, ih _ (dec_inner _)]
      rfl
  exact hg l _ (by decide)
/-- every proof that is written is right -/
theorem proofText_right {t : Sp.Task} (hok : Sp.taskOk t = true) : Sp.proofRight t (Sp.proofText t) = if Sp.planThere t = true then 1 else 0 := by
  unfold Sp.proofText
  rw [if_pos hok]
  by_cases hp : Sp.planThere t = true
  · rw [if_pos hp, if_pos hp]
    unfold Sp.proofRight
    rw [planText_cut]
    have he : ((Sp.planFor t).map (fun k => Lib.decDigits k.toNat)).map (Sp.numI 4) = Sp.planFor t := by
      rw [List.map_map]
      have : ∀ x ∈ Sp.planFor t, (Sp.numI 4 ∘ fun k : Int => Lib.decDigits k.toNat) x = x := by
        intro x hx
        have h2 := plan_in hp x hx
        show Sp.numI 4 (Lib.decDigits x.toNat) = x
        rw [dec_num (by omega) (by omega)]; omega
      rw [List.map_congr_left this]; simp
    rw [List.headD_cons, if_pos rfl, List.tail_cons, he, if_pos (planFor_on hp).2.2.2]
  · rw [if_neg hp, if_neg hp]
    have hpf : Sp.planThere t = false := by simpa using hp
    by_cases hs : Sp.sumForB t = true
    · rw [if_pos hs]
      obtain ⟨hs0, hs1⟩ := sumFor_bd t hs
      have hc : Sp.cutB 32 ([115, 117, 109, 32] ++ Sp.letters (Sp.sumForN t)) = [[115, 117, 109], Sp.letters (Sp.sumForN t)] := by
        have := cutB_app 32 [115, 117, 109] (Sp.letters (Sp.sumForN t)) (by decide)
        rw [cutB_none 32 _ (fun x hx => (letters_inner hs0 hs1 x hx).2.2.2.2)] at this
        exact this
      have hok2 : Sp.sumOk t (Sp.sumForN t) = true := by
        rcases sumFor_some (t := t) with ⟨_, f, _, h2, h3⟩ | ⟨h1, _⟩
        · rw [h2]; exact h3
        · rw [h1] at hs; cases hs
      unfold Sp.proofRight
      rw [hc]
      rw [if_neg (by show ¬ ([115, 117, 109] : List UInt8) = _; decide), if_neg (by rintro ⟨h, _⟩; exact absurd (show ([115, 117, 109] : List UInt8) = [99, 108, 111, 115, 101, 100] from h) (by decide)), if_pos ⟨rfl, rfl, by show Sp.sumOk t (Sp.readSet (Sp.letters (Sp.sumForN t))) = true; rw [readSet_letters hs0 hs1]; exact hok2⟩]
    · rw [if_neg hs]
      have hc : Sp.cutB 32 ([99, 108, 111, 115, 101, 100, 32] ++ Lib.decDigits (Sp.reachedN t)) = [[99, 108, 111, 115, 101, 100], Lib.decDigits (Sp.reachedN t)] := by
        have := cutB_app 32 [99, 108, 111, 115, 101, 100] (Lib.decDigits (Sp.reachedN t)) (by decide)
        rw [cutB_none 32 _ (dec_inner _)] at this
        exact this
      have hl := reachedN_lt hok
      have hcl : Sp.closedOk t ((Sp.reachedN t : Nat) : Int) = true := by rw [reached_closed hok, hpf]; rfl
      unfold Sp.proofRight
      rw [hc]
      rw [if_neg (by show ¬ ([99, 108, 111, 115, 101, 100] : List UInt8) = _; decide), if_pos ⟨rfl, rfl, by show Sp.closedOk t (Sp.numI 10 (Lib.decDigits (Sp.reachedN t))) = true; rw [dec_num (by omega) (by omega)]; exact hcl⟩]

end Go.Proofs.YtphdojebdclonaaGreatDoor
