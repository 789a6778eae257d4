/- Plain: how many ways there can be (always less than 2^63). No program in sight. No condition. -/
import Derived.Test.YtphdojebdclonaaG26
namespace Go.Proofs.Ytphdojebdclonaa
open Go.RowKit

theorem bool_thrice (g : Bool → Bool) (x : Bool) : g (g (g x)) = g x := by
  cases x <;> cases h1 : g false <;> cases h2 : g true <;> simp [h1, h2]
theorem behind_bit (d : Sp.Deed) (s i : Nat) : (Sp.behind d s).testBit i = (((s.testBit i || d.on.toNat.testBit i) && ((31 : Nat).testBit i ^^ d.off.toNat.testBit i)) ^^ d.flip.toNat.testBit i) := by
  unfold Sp.behind
  rw [Nat.testBit_xor, Nat.testBit_and, Nat.testBit_or, Nat.testBit_xor]
/-- a deed done three times is the deed done once -/
theorem behind_thrice (d : Sp.Deed) (s : Nat) : Sp.behind d (Sp.behind d (Sp.behind d s)) = Sp.behind d s := by
  refine Nat.eq_of_testBit_eq fun i => ?_
  rw [behind_bit, behind_bit, behind_bit]
  exact bool_thrice (fun x => ((x || d.on.toNat.testBit i) && ((31 : Nat).testBit i ^^ d.off.toNat.testBit i)) ^^ d.flip.toNat.testBit i) _
theorem stepI_thrice {d : Sp.Deed} {a b c e : Nat} (h1 : Sp.stepI d a = (b : Int)) (h2 : Sp.stepI d b = (c : Int)) (h3 : Sp.stepI d c = (e : Int)) : e = b := by
  unfold Sp.stepI at h1 h2 h3
  split at h1
  · split at h2
    · split at h3
      · have e1 : Sp.behind d a = b := by omega
        have e2 : Sp.behind d b = c := by omega
        have e3 : Sp.behind d c = e := by omega
        rw [← e3, ← e2, ← e1]
        exact behind_thrice d a
      · omega
    · omega
  · omega

/-- the ways, as they are -/
def Sp.waysNBy (t : Sp.Task) (W : Nat → Nat) (s : Nat) : Nat → Nat
  | 0 => 0
  | k + 1 => Sp.waysNBy t W s k + (if Sp.hit t s k = true then W (Sp.stepI (t.deeds.getD k default) s).toNat else 0)
def Sp.waysN (t : Sp.Task) : Nat → Nat → Nat
  | 0, _ => 1
  | m + 1, s => Sp.waysNBy t (Sp.waysN t m) s t.deeds.length
/-- how many deeds lead one step nearer -/
def Sp.hits (t : Sp.Task) (s : Nat) : Nat → Nat
  | 0 => 0
  | k + 1 => Sp.hits t s k + (if Sp.hit t s k = true then 1 else 0)
theorem hits_le (t : Sp.Task) (s k : Nat) : Sp.hits t s k ≤ k := by
  induction k with
  | zero => exact Nat.le_refl _
  | succ k ih => unfold Sp.hits; split <;> omega
theorem hit_to {t : Sp.Task} (hok : Sp.taskOk t = true) {s k m : Nat} (hs : s < 32) (hk : k < t.deeds.length) (hm : Sp.toGo t s = ((m + 1 : Nat) : Int)) (h : Sp.hit t s k = true) : ∃ u : Nat, u < 32 ∧ Sp.stepI (t.deeds.getD k default) s = (u : Int) ∧ Sp.toGo t u = (m : Int) := by
  have hb := stepI_bd hs (Sp.taskOk_deed hok hk)
  unfold Sp.hit at h
  rw [Bool.and_eq_true, decide_eq_true_eq, beq_iff_eq] at h
  obtain ⟨u, hu⟩ := Int.eq_ofNat_of_zero_le h.1
  rw [hu, Int.toNat_natCast] at h
  exact ⟨u, by omega, hu, by omega⟩
theorem waysNBy_le {t : Sp.Task} (hok : Sp.taskOk t = true) {W : Nat → Nat} {s m B : Nat} (hs : s < 32) (hm : Sp.toGo t s = ((m + 1 : Nat) : Int)) (hB : ∀ u, u < 32 → Sp.toGo t u = (m : Int) → W u ≤ B) (k : Nat) (hk : k ≤ t.deeds.length) : Sp.waysNBy t W s k ≤ Sp.hits t s k * B := by
  induction k with
  | zero => exact Nat.zero_le _
  | succ k ih =>
    have ih2 := ih (by omega)
    show Sp.waysNBy t W s k + (if Sp.hit t s k = true then _ else 0) ≤ (Sp.hits t s k + (if Sp.hit t s k = true then 1 else 0)) * B
    split
    · rename_i h
      obtain ⟨u, hu, h1, h2⟩ := hit_to hok hs (by omega) hm h
      rw [h1, Int.toNat_natCast, Nat.add_mul, Nat.one_mul]
      have := hB u hu h2
      omega
    · rw [Nat.add_zero, Nat.add_zero]; exact ih2
theorem waysN_le {t : Sp.Task} (hok : Sp.taskOk t = true) {s m B : Nat} (hs : s < 32) (hm : Sp.toGo t s = ((m + 1 : Nat) : Int)) (hB : ∀ u, u < 32 → Sp.toGo t u = (m : Int) → Sp.waysN t m u ≤ B) : Sp.waysN t (m + 1) s ≤ Sp.hits t s t.deeds.length * B :=
  waysNBy_le hok hs hm hB _ (Nat.le_refl _)
theorem waysN_six {t : Sp.Task} (hok : Sp.taskOk t = true) {s m B : Nat} (hs : s < 32) (hm : Sp.toGo t s = ((m + 1 : Nat) : Int)) (hB : ∀ u, u < 32 → Sp.toGo t u = (m : Int) → Sp.waysN t m u ≤ B) : Sp.waysN t (m + 1) s ≤ 6 * B := by
  refine Nat.le_trans (waysN_le hok hs hm hB) (Nat.mul_le_mul_right _ ?_)
  have := hits_le t s t.deeds.length
  have := Sp.taskOk_len hok
  omega

/-- of three steps behind each other no deed is in each, where it can only go on by one state -/
theorem hits_three {t : Sp.Task} (hok : Sp.taskOk t = true) {s a b n : Nat} (hs : s < 32) (ha : a < 32) (hb : b < 32) (h3 : Sp.toGo t s = ((n + 1 + 1 + 1 : Nat) : Int)) (h2 : Sp.toGo t a = ((n + 1 + 1 : Nat) : Int)) (h1 : Sp.toGo t b = ((n + 1 : Nat) : Int))
    (oa : ∀ u, u < 32 → Sp.toGo t u = ((n + 1 + 1 : Nat) : Int) → u = a) (ob : ∀ u, u < 32 → Sp.toGo t u = ((n + 1 : Nat) : Int) → u = b) (k : Nat) (hk : k ≤ t.deeds.length) : Sp.hits t s k + Sp.hits t a k + Sp.hits t b k ≤ 2 * k := by
  induction k with
  | zero => exact Nat.le_refl _
  | succ k ih =>
    have ih2 := ih (by omega)
    have key : ¬ (Sp.hit t s k = true ∧ Sp.hit t a k = true ∧ Sp.hit t b k = true) := by
      rintro ⟨e1, e2, e3⟩
      obtain ⟨u1, l1, s1, g1⟩ := hit_to hok hs (by omega) h3 e1
      obtain ⟨u2, l2, s2, g2⟩ := hit_to hok ha (by omega) h2 e2
      obtain ⟨u3, l3, s3, g3⟩ := hit_to hok hb (by omega) h1 e3
      obtain rfl := oa u1 l1 g1
      obtain rfl := ob u2 l2 g2
      obtain rfl := stepI_thrice s1 s2 s3
      omega
    simp only [Sp.hits]
    cases e1 : Sp.hit t s k <;> cases e2 : Sp.hit t a k <;> cases e3 : Sp.hit t b k <;> simp [e1, e2, e3] at key ⊢ <;> omega
theorem three_fin : ∀ x y z : Fin 7, x.val + y.val + z.val ≤ 12 → x.val * y.val * z.val ≤ 64 := by decide +kernel
theorem waysN_three {t : Sp.Task} (hok : Sp.taskOk t = true) {s a b n B : Nat} (hs : s < 32) (ha : a < 32) (hb : b < 32) (h3 : Sp.toGo t s = ((n + 1 + 1 + 1 : Nat) : Int)) (h2 : Sp.toGo t a = ((n + 1 + 1 : Nat) : Int)) (h1 : Sp.toGo t b = ((n + 1 : Nat) : Int))
    (oa : ∀ u, u < 32 → Sp.toGo t u = ((n + 1 + 1 : Nat) : Int) → u = a) (ob : ∀ u, u < 32 → Sp.toGo t u = ((n + 1 : Nat) : Int) → u = b) (hB : ∀ u, u < 32 → Sp.toGo t u = (n : Int) → Sp.waysN t n u ≤ B) : Sp.waysN t (n + 1 + 1 + 1) s ≤ 64 * B := by
  have hl := Sp.taskOk_len hok
  have e1 := waysN_le hok hb h1 hB
  have e2 : Sp.waysN t (n + 1 + 1) a ≤ Sp.hits t a t.deeds.length * (Sp.hits t b t.deeds.length * B) := waysN_le hok ha h2 fun u hu h => by obtain rfl := ob u hu h; exact e1
  have e3 : Sp.waysN t (n + 1 + 1 + 1) s ≤ Sp.hits t s t.deeds.length * (Sp.hits t a t.deeds.length * (Sp.hits t b t.deeds.length * B)) := waysN_le hok hs h3 fun u hu h => by obtain rfl := oa u hu h; exact e2
  have h6 := hits_three hok hs ha hb h3 h2 h1 oa ob t.deeds.length (Nat.le_refl _)
  have l1 := hits_le t s t.deeds.length
  have l2 := hits_le t a t.deeds.length
  have l3 := hits_le t b t.deeds.length
  have h12 : Sp.hits t s t.deeds.length + Sp.hits t a t.deeds.length + Sp.hits t b t.deeds.length ≤ 12 := by omega
  have := three_fin ⟨_, show Sp.hits t s t.deeds.length < 7 by omega⟩ ⟨_, show Sp.hits t a t.deeds.length < 7 by omega⟩ ⟨_, show Sp.hits t b t.deeds.length < 7 by omega⟩ h12
  refine Nat.le_trans e3 ?_
  rw [← Nat.mul_assoc, ← Nat.mul_assoc]
  exact Nat.mul_le_mul_right _ this

/-- how many states are so near -/
def Sp.near (t : Sp.Task) (n : Nat) : Nat := (List.range 32).countP fun s => decide (0 ≤ Sp.toGo t s ∧ Sp.toGo t s ≤ n)
def Sp.layer (t : Sp.Task) (n : Nat) : Nat := (List.range 32).countP fun s => decide (Sp.toGo t s = n)
theorem near_le (t : Sp.Task) (n : Nat) : Sp.near t n ≤ 32 := by
  have := List.countP_le_length (p := fun s => decide (0 ≤ Sp.toGo t s ∧ Sp.toGo t s ≤ n)) (l := List.range 32)
  rw [List.length_range] at this
  exact this
theorem countP_split {α : Type} (p q r : α → Bool) (h : ∀ x, (p x).toNat = (q x).toNat + (r x).toNat) (l : List α) : l.countP p = l.countP q + l.countP r := by
  induction l with
  | nil => rfl
  | cons a l ih =>
    rw [List.countP_cons, List.countP_cons, List.countP_cons, ih]
    have := h a
    cases hp : p a <;> cases hq : q a <;> cases hr : r a <;> simp [hp, hq, hr] at this ⊢ <;> omega
theorem near_succ (t : Sp.Task) (n : Nat) : Sp.near t (n + 1) = Sp.near t n + Sp.layer t (n + 1) := by
  unfold Sp.near Sp.layer
  refine countP_split _ _ _ (fun s => ?_) _
  by_cases h1 : 0 ≤ Sp.toGo t s ∧ Sp.toGo t s ≤ (n : Nat)
  · rw [decide_eq_true h1, decide_eq_true (show 0 ≤ Sp.toGo t s ∧ Sp.toGo t s ≤ ((n + 1 : Nat) : Int) by omega), decide_eq_false (show ¬ Sp.toGo t s = ((n + 1 : Nat) : Int) by omega)]; rfl
  · rw [decide_eq_false h1]
    by_cases h2 : Sp.toGo t s = ((n + 1 : Nat) : Int)
    · rw [decide_eq_true h2, decide_eq_true (show 0 ≤ Sp.toGo t s ∧ Sp.toGo t s ≤ ((n + 1 : Nat) : Int) by omega)]; rfl
    · rw [decide_eq_false h2, decide_eq_false (show ¬ (0 ≤ Sp.toGo t s ∧ Sp.toGo t s ≤ ((n + 1 : Nat) : Int)) by omega)]; rfl
theorem near_zero (t : Sp.Task) : Sp.near t 0 = Sp.layer t 0 := by
  unfold Sp.near Sp.layer
  congr 1
  funext s
  rw [Bool.eq_iff_iff, decide_eq_true_eq, decide_eq_true_eq]
  omega
theorem layer_pos {t : Sp.Task} {n s : Nat} (hs : s < 32) (h : Sp.toGo t s = (n : Int)) : 1 ≤ Sp.layer t n :=
  List.countP_pos_iff.2 ⟨s, List.mem_range.2 hs, by rw [decide_eq_true_eq]; exact h⟩
theorem countP_one {p : Nat → Bool} (l : List Nat) (hn : l.Nodup) (h : l.countP p ≤ 1) : ∀ a b, a ∈ l → b ∈ l → p a = true → p b = true → a = b := by
  induction l with
  | nil => intro a b ha; cases ha
  | cons x l ih =>
    intro a b ha hb pa pb
    rw [List.countP_cons] at h
    rw [List.nodup_cons] at hn
    rcases List.mem_cons.1 ha with ea | ha2
    · rcases List.mem_cons.1 hb with eb | hb2
      · rw [ea, eb]
      · rw [← ea, if_pos pa] at h
        have := List.countP_pos_iff.2 ⟨b, hb2, pb⟩
        omega
    · rcases List.mem_cons.1 hb with eb | hb2
      · rw [← eb, if_pos pb] at h
        have := List.countP_pos_iff.2 ⟨a, ha2, pa⟩
        omega
      · exact ih hn.2 (by omega) a b ha2 hb2 pa pb
theorem layer_one {t : Sp.Task} {n a : Nat} (h : Sp.layer t n ≤ 1) (ha : a < 32) (hg : Sp.toGo t a = (n : Int)) : ∀ u, u < 32 → Sp.toGo t u = (n : Int) → u = a := fun u hu h1 =>
  countP_one (List.range 32) List.nodup_range h u a (List.mem_range.2 hu) (List.mem_range.2 ha) (by rw [decide_eq_true_eq]; exact h1) (by rw [decide_eq_true_eq]; exact hg)
theorem step_down {t : Sp.Task} (hok : Sp.taskOk t = true) {s n : Nat} (hs : s < 32) (h : Sp.toGo t s = ((n + 1 : Nat) : Int)) : ∃ u, u < 32 ∧ Sp.toGo t u = (n : Int) := by
  obtain ⟨k, hk, hh⟩ := hit_some hok hs (by omega)
  obtain ⟨u, hu, _, h2⟩ := hit_to hok hs hk h hh
  exact ⟨u, hu, h2⟩

theorem pow4 (a b : Nat) (h : a ≤ b) : 4 ^ a ≤ 4 ^ b := Nat.pow_le_pow_right (by decide) h
/-- what is known of the ways of the states that are n steps from the end -/
def Sp.WaysBd (t : Sp.Task) (n : Nat) : Prop := ∀ s, s < 32 → Sp.toGo t s = (n : Int) → 16 * Sp.waysN t n s ≤ 9 * 4 ^ Sp.near t n ∧ (Sp.near t n % 3 = 2 → 64 * Sp.waysN t n s ≤ 31 * 4 ^ Sp.near t n)
theorem waysBd_of {t : Sp.Task} {n B : Nat} (h : ∀ s, s < 32 → Sp.toGo t s = (n : Int) → Sp.waysN t n s ≤ B) (h1 : 16 * B ≤ 9 * 4 ^ Sp.near t n) (h2 : Sp.near t n % 3 = 2 → 64 * B ≤ 31 * 4 ^ Sp.near t n) : Sp.WaysBd t n := fun s hs hg => by
  have := h s hs hg
  exact ⟨by omega, fun h3 => by have := h2 h3; omega⟩
/-- the greatest -/
theorem most_of (P : Nat → Prop) (f : Nat → Nat) (N : Nat) : (∀ s, s < N → ¬ P s) ∨ ∃ a, a < N ∧ P a ∧ ∀ s, s < N → P s → f s ≤ f a := by
  induction N with
  | zero => exact .inl fun s hs => by omega
  | succ N ih =>
    rcases Classical.em (P N) with hP | hP
    · rcases ih with h | ⟨a, h1, h2, h3⟩
      · refine .inr ⟨N, by omega, hP, fun s hs h4 => ?_⟩
        by_cases e : s = N
        · subst e; exact Nat.le_refl _
        · exact absurd h4 (h s (by omega))
      · by_cases h5 : f N ≤ f a
        · refine .inr ⟨a, by omega, h2, fun s hs h4 => ?_⟩
          by_cases e : s = N
          · subst e; exact h5
          · exact h3 s (by omega) h4
        · refine .inr ⟨N, by omega, hP, fun s hs h4 => ?_⟩
          by_cases e : s = N
          · subst e; exact Nat.le_refl _
          · have := h3 s (by omega) h4; omega
    · rcases ih with h | ⟨a, h1, h2, h3⟩
      · refine .inl fun s hs h4 => ?_
        by_cases e : s = N
        · subst e; exact hP h4
        · exact h s (by omega) h4
      · refine .inr ⟨a, by omega, h2, fun s hs h4 => ?_⟩
        by_cases e : s = N
        · subst e; exact absurd h4 hP
        · exact h3 s (by omega) h4
theorem four3 (a : Nat) : 4 ^ (a + 3) = 4 ^ a * 64 := Nat.pow_add _ _ _
theorem four4 (a : Nat) : 4 ^ (a + 4) = 4 ^ a * 256 := Nat.pow_add _ _ _
theorem waysBd_zero (t : Sp.Task) : Sp.WaysBd t 0 := fun s hs h => by
  have h1 := layer_pos hs h
  rw [← near_zero] at h1
  have h2 := pow4 1 (Sp.near t 0) h1
  show 16 * 1 ≤ _ ∧ (_ → 64 * 1 ≤ _)
  omega
theorem waysBd_one {t : Sp.Task} (hok : Sp.taskOk t = true) : Sp.WaysBd t 1 := fun s hs h => by
  have h1 := layer_pos hs h
  obtain ⟨u, hu, hg⟩ := step_down (n := 0) hok hs h
  have h0 := layer_pos hu hg
  have e : Sp.near t 1 = Sp.near t 0 + Sp.layer t 1 := near_succ t 0
  rw [near_zero] at e
  have h2 := pow4 2 (Sp.near t 1) (by omega)
  have h3 : Sp.waysN t (0 + 1) s ≤ 6 * 1 := waysN_six hok hs h fun u _ _ => Nat.le_refl _
  rw [Nat.zero_add] at h3
  omega
theorem waysBd_two {t : Sp.Task} (hok : Sp.taskOk t = true) : Sp.WaysBd t 2 := fun s hs h => by
  have h1 := layer_pos hs h
  obtain ⟨u, hu, hg⟩ := step_down (n := 1) hok hs h
  have h0 := layer_pos hu hg
  obtain ⟨v, hv, hg2⟩ := step_down (n := 0) hok hu hg
  have hz := layer_pos hv hg2
  have e := near_succ t 0
  have e2 : Sp.near t 2 = Sp.near t 1 + Sp.layer t 2 := near_succ t 1
  rw [near_zero, Nat.zero_add] at e
  have h2 := pow4 3 (Sp.near t 2) (by omega)
  have h3 : Sp.waysN t (1 + 1) s ≤ 6 * (6 * 1) := waysN_six hok hs h fun u hu hg => waysN_six (m := 0) hok hu hg fun u _ _ => Nat.le_refl _
  have h4 : Sp.waysN t 2 s ≤ 36 := h3
  refine ⟨by omega, fun h5 => ?_⟩
  have h6 := pow4 5 (Sp.near t 2) (by omega)
  omega
theorem waysBd_more {t : Sp.Task} (hok : Sp.taskOk t = true) {n : Nat} (hn : Sp.WaysBd t n) (hn1 : Sp.WaysBd t (n + 1)) : Sp.WaysBd t (n + 1 + 1 + 1) := fun s hs h => by
  have l3 := layer_pos hs h
  obtain ⟨a, ha, ga⟩ := step_down (n := n + 1 + 1) hok hs h
  obtain ⟨b, hb, gb⟩ := step_down (n := n + 1) hok ha ga
  obtain ⟨c, hc, gc⟩ := step_down (n := n) hok hb gb
  have l2 := layer_pos ha ga
  have l1 := layer_pos hb gb
  have e1 := near_succ t n
  have e2 := near_succ t (n + 1)
  have e3 := near_succ t (n + 1 + 1)
  by_cases c2 : 2 ≤ Sp.layer t (n + 1 + 1)
  · -- the layer before has two states or more
    rcases most_of (fun u => Sp.toGo t u = ((n + 1 : Nat) : Int)) (Sp.waysN t (n + 1)) 32 with hno | ⟨m, hm, gm, hmost⟩
    · exact absurd gb (hno b hb)
    · have q := (hn1 m hm gm).1
      have w1 : Sp.waysN t (n + 1 + 1 + 1) s ≤ 6 * (6 * Sp.waysN t (n + 1) m) := waysN_six hok hs h fun u hu gu => waysN_six hok hu gu hmost
      have p := pow4 (Sp.near t (n + 1) + 3) (Sp.near t (n + 1 + 1 + 1)) (by omega)
      rw [four3] at p
      generalize Sp.waysN t (n + 1 + 1 + 1) s = r at *
      generalize 4 ^ Sp.near t (n + 1 + 1 + 1) = z at *
      generalize Sp.waysN t (n + 1) m = x at *
      generalize 4 ^ Sp.near t (n + 1) = y at *
      clear e1 e2 e3 l1 l2 l3 h ga gb
      refine ⟨by omega, fun _ => by omega⟩
  · rcases most_of (fun u => Sp.toGo t u = ((n : Nat) : Int)) (Sp.waysN t n) 32 with hno | ⟨m, hm, gm, hmost⟩
    · exact absurd gc (hno c hc)
    · have q := hn m hm gm
      by_cases c1 : 2 ≤ Sp.layer t (n + 1)
      · have w1 : Sp.waysN t (n + 1 + 1 + 1) s ≤ 6 * (6 * (6 * Sp.waysN t n m)) := waysN_six hok hs h fun u hu gu => waysN_six hok hu gu fun v hv gv => waysN_six hok hv gv hmost
        have p := pow4 (Sp.near t n + 4) (Sp.near t (n + 1 + 1 + 1)) (by omega)
        rw [four4] at p
        have q1 := q.1
        clear q
        generalize Sp.waysN t (n + 1 + 1 + 1) s = r at *
        generalize 4 ^ Sp.near t (n + 1 + 1 + 1) = z at *
        generalize Sp.waysN t n m = x at *
        generalize 4 ^ Sp.near t n = y at *
        clear e1 e2 e3 l1 l2 l3 h ga gb
        refine ⟨by omega, fun _ => by omega⟩
      · have w1 : Sp.waysN t (n + 1 + 1 + 1) s ≤ 64 * Sp.waysN t n m := waysN_three hok hs ha hb h ga gb (layer_one (by omega) ha ga) (layer_one (by omega) hb gb) hmost
        have p := pow4 (Sp.near t n + 3) (Sp.near t (n + 1 + 1 + 1)) (by omega)
        have p4 : Sp.near t n + 4 ≤ Sp.near t (n + 1 + 1 + 1) → 4 ^ (Sp.near t n + 4) ≤ 4 ^ Sp.near t (n + 1 + 1 + 1) := pow4 _ _
        rw [four3] at p
        rw [four4] at p4
        obtain ⟨q1, q2⟩ := q
        have key : Sp.near t (n + 1 + 1 + 1) % 3 = 2 → (4 ^ Sp.near t n * 256 ≤ 4 ^ Sp.near t (n + 1 + 1 + 1)) ∨ (64 * Sp.waysN t n m ≤ 31 * 4 ^ Sp.near t n) := fun h5 => by
          by_cases c4 : Sp.near t n + 4 ≤ Sp.near t (n + 1 + 1 + 1)
          · exact .inl (p4 c4)
          · exact .inr (q2 (by omega))
        clear q2 p4 e1 e2 e3 l1 l2 l3 h ga gb
        generalize Sp.near t (n + 1 + 1 + 1) % 3 = k at *
        generalize Sp.waysN t (n + 1 + 1 + 1) s = r at *
        generalize 4 ^ Sp.near t (n + 1 + 1 + 1) = z at *
        generalize Sp.waysN t n m = x at *
        generalize 4 ^ Sp.near t n = y at *
        refine ⟨by omega, fun h5 => ?_⟩
        rcases key h5 with h6 | h6 <;> omega
theorem waysBd_all {t : Sp.Task} (hok : Sp.taskOk t = true) (n : Nat) : Sp.WaysBd t n ∧ Sp.WaysBd t (n + 1) ∧ Sp.WaysBd t (n + 1 + 1) := by
  induction n with
  | zero => exact ⟨waysBd_zero t, waysBd_one hok, waysBd_two hok⟩
  | succ n ih => exact ⟨ih.2.1, ih.2.2, waysBd_more hok ih.1 ih.2.1⟩
/-- less than 2^63 ways -/
theorem waysN_lt {t : Sp.Task} (hok : Sp.taskOk t = true) {s n : Nat} (hs : s < 32) (h : Sp.toGo t s = (n : Int)) : Sp.waysN t n s ≤ 9223372036854775807 := by
  obtain ⟨h1, h2⟩ := (waysBd_all hok n).1 s hs h
  have h3 := near_le t n
  by_cases e : Sp.near t n = 32
  · rw [e] at h2
    have := h2 (by decide)
    omega
  · have := pow4 (Sp.near t n) 31 (by omega)
    omega
/-- some way is there -/
theorem waysN_pos {t : Sp.Task} (hok : Sp.taskOk t = true) (n : Nat) : ∀ s, s < 32 → Sp.toGo t s = (n : Int) → 1 ≤ Sp.waysN t n s := by
  induction n with
  | zero => intro s _ _; exact Nat.le_refl _
  | succ n ih =>
    intro s hs h
    obtain ⟨k, hk, hh⟩ := hit_some hok hs (by omega)
    obtain ⟨u, hu, h1, h2⟩ := hit_to hok hs hk h hh
    have h3 := ih u hu h2
    have key : ∀ j, k < j → 1 ≤ Sp.waysNBy t (Sp.waysN t n) s j := by
      intro j
      induction j with
      | zero => intro hj; omega
      | succ j ihj =>
        intro hj
        show 1 ≤ Sp.waysNBy t (Sp.waysN t n) s j + (if Sp.hit t s j = true then _ else 0)
        by_cases e : k = j
        · subst e; rw [if_pos hh, h1, Int.toNat_natCast]; omega
        · have := ihj (by omega); omega
    exact key _ hk
theorem wrap_same {x : Int} (h0 : 0 ≤ x) (h1 : x ≤ 9223372036854775807) : IntKind.i64.wrap x = x := by rw [IntKind.wrap_i64]; omega
theorem waysNBy_mono (t : Sp.Task) (W : Nat → Nat) (s : Nat) {k n : Nat} (h : k ≤ n) : Sp.waysNBy t W s k ≤ Sp.waysNBy t W s n := by
  induction n with
  | zero => obtain rfl : k = 0 := by omega
            exact Nat.le_refl _
  | succ n ih =>
    by_cases e : k = n + 1
    · subst e; exact Nat.le_refl _
    · refine Nat.le_trans (ih (by omega)) ?_
      show _ ≤ Sp.waysNBy t W s n + _
      omega
theorem waysBy_nat {t : Sp.Task} (hok : Sp.taskOk t = true) {m s : Nat} (hs : s < 32) (h : Sp.toGo t s = ((m + 1 : Nat) : Int)) (hW : ∀ u, u < 32 → Sp.toGo t u = (m : Int) → Sp.waysUp t m u = (Sp.waysN t m u : Nat)) (k : Nat) (hk : k ≤ t.deeds.length) : Sp.waysBy t (Sp.waysUp t m) s k = (Sp.waysNBy t (Sp.waysN t m) s k : Nat) := by
  have hlt : Sp.waysNBy t (Sp.waysN t m) s t.deeds.length ≤ 9223372036854775807 := waysN_lt (n := m + 1) hok hs h
  induction k with
  | zero => rfl
  | succ k ih =>
    have ih2 := ih (by omega)
    have hm := waysNBy_mono t (Sp.waysN t m) s hk
    show (if Sp.hit t s k = true then _ else _) = ((Sp.waysNBy t (Sp.waysN t m) s k + (if Sp.hit t s k = true then _ else 0) : Nat) : Int)
    have hm2 : Sp.waysNBy t (Sp.waysN t m) s k + (if Sp.hit t s k = true then Sp.waysN t m (Sp.stepI (t.deeds.getD k default) s).toNat else 0) ≤ Sp.waysNBy t (Sp.waysN t m) s t.deeds.length := hm
    by_cases hh : Sp.hit t s k = true
    · obtain ⟨u, hu, h1, h2⟩ := hit_to hok hs (by omega) h hh
      rw [if_pos hh, if_pos hh, ih2, h1, Int.toNat_natCast, hW u hu h2]
      rw [if_pos hh, h1, Int.toNat_natCast] at hm2
      rw [wrap_same (by omega) (by omega)]
      omega
    · rw [if_neg hh, if_neg hh, ih2]; rfl
theorem waysUp_nat {t : Sp.Task} (hok : Sp.taskOk t = true) (n : Nat) : ∀ s, s < 32 → Sp.toGo t s = (n : Int) → Sp.waysUp t n s = (Sp.waysN t n s : Nat) := by
  induction n with
  | zero => intro s _ _; rfl
  | succ n ih => exact fun s hs h => waysBy_nat hok hs h ih _ (Nat.le_refl _)
/-- there is a way exactly where there is a number -/
theorem ways_pos {t : Sp.Task} (hok : Sp.taskOk t = true) {s : Nat} (hs : s < 32) : 0 < Sp.ways t s ↔ 0 ≤ Sp.toGo t s := by
  unfold Sp.ways
  by_cases h : 0 ≤ Sp.toGo t s
  · obtain ⟨n, hn⟩ := Int.eq_ofNat_of_zero_le h
    rw [if_pos h, hn, Int.toNat_natCast, waysUp_nat hok n s hs hn]
    have := waysN_pos hok n s hs hn
    omega
  · rw [if_neg h]; omega
theorem ways_end {t : Sp.Task} {s : Nat} (h : Sp.toGo t s = 0) : Sp.ways t s = 1 := by
  unfold Sp.ways
  rw [if_pos (by omega), h]; rfl

end Go.Proofs.Ytphdojebdclonaa
