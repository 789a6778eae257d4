/- Plain: how many shortest plans there are. No program in sight. No condition. -/
import Derived.Test.YtphdojebdclonaaG29
import Derived.Test.YtphdojebdclonaaG18
namespace Go.Proofs.Ytphdojebdclonaa
open Go.RowKit

/-- a sum -/
def Sp.sumN : Nat → (Nat → Nat) → Nat
  | 0, _ => 0
  | n + 1, f => Sp.sumN n f + f n
theorem sumN_congr {n : Nat} {f g : Nat → Nat} (h : ∀ i, i < n → f i = g i) : Sp.sumN n f = Sp.sumN n g := by
  induction n with
  | zero => rfl
  | succ n ih =>
    show Sp.sumN n f + f n = Sp.sumN n g + g n
    rw [ih (fun i hi => h i (by omega)), h n (by omega)]
theorem sumN_none {n : Nat} {f : Nat → Nat} (h : ∀ i, i < n → f i = 0) : Sp.sumN n f = 0 := by
  induction n with
  | zero => rfl
  | succ n ih =>
    show Sp.sumN n f + f n = 0
    rw [ih (fun i hi => h i (by omega)), h n (by omega)]
theorem sumN_add (n : Nat) (f g : Nat → Nat) : Sp.sumN n (fun i => f i + g i) = Sp.sumN n f + Sp.sumN n g := by
  induction n with
  | zero => rfl
  | succ n ih =>
    show Sp.sumN n (fun i => f i + g i) + (f n + g n) = (Sp.sumN n f + f n) + (Sp.sumN n g + g n)
    rw [ih]; omega
theorem sumN_mul (n : Nat) (f : Nat → Nat) (c : Nat) : Sp.sumN n (fun i => f i * c) = Sp.sumN n f * c := by
  induction n with
  | zero => show 0 = 0 * c; rw [Nat.zero_mul]
  | succ n ih =>
    show Sp.sumN n (fun i => f i * c) + f n * c = (Sp.sumN n f + f n) * c
    rw [ih, Nat.add_mul]
theorem sumN_lmul (n : Nat) (f : Nat → Nat) (c : Nat) : Sp.sumN n (fun i => c * f i) = c * Sp.sumN n f := by
  rw [Nat.mul_comm, ← sumN_mul]
  exact sumN_congr fun i _ => Nat.mul_comm _ _
theorem sumN_swap (n m : Nat) (f : Nat → Nat → Nat) : Sp.sumN n (fun i => Sp.sumN m (fun j => f i j)) = Sp.sumN m (fun j => Sp.sumN n (fun i => f i j)) := by
  induction n with
  | zero => show 0 = _; rw [sumN_none]; intro i _; rfl
  | succ n ih =>
    show Sp.sumN n (fun i => Sp.sumN m (fun j => f i j)) + Sp.sumN m (fun j => f n j) = Sp.sumN m (fun j => Sp.sumN n (fun i => f i j) + f n j)
    rw [ih, sumN_add]
theorem sumN_up (f : Nat → Nat) {n m : Nat} (h : n ≤ m) : Sp.sumN n f ≤ Sp.sumN m f := by
  induction m with
  | zero => obtain rfl : n = 0 := by omega
            exact Nat.le_refl _
  | succ m ih =>
    by_cases e : n = m + 1
    · subst e; exact Nat.le_refl _
    · have := ih (by omega)
      show _ ≤ Sp.sumN m f + f m
      omega
theorem sumN_at (f : Nat → Nat) {n a : Nat} (h : a < n) : f a ≤ Sp.sumN n f := by
  have := sumN_up f (show a + 1 ≤ n by omega)
  have h2 : Sp.sumN (a + 1) f = Sp.sumN a f + f a := rfl
  omega
theorem sumN_one {n a : Nat} (ha : a < n) (f : Nat → Nat) : Sp.sumN n (fun i => if a = i then f i else 0) = f a := by
  induction n with
  | zero => omega
  | succ n ih =>
    show Sp.sumN n (fun i => if a = i then f i else 0) + (if a = n then f n else 0) = f a
    by_cases e : a = n
    · subst e
      rw [if_pos rfl, sumN_none (fun i hi => if_neg (by omega)), Nat.zero_add]
    · rw [if_neg e, ih (by omega), Nat.add_zero]
theorem sumN_pos {n : Nat} {f : Nat → Nat} (h : 0 < Sp.sumN n f) : ∃ i, i < n ∧ 0 < f i := by
  refine Classical.byContradiction fun hn => ?_
  rw [sumN_none (fun i hi => Classical.byContradiction fun h2 => hn ⟨i, hi, by omega⟩)] at h
  omega

/-- the ways into a state from one state by the first deeds; from the first states -/
def Sp.col (t : Sp.Task) (W : Nat → Nat) (u s k : Nat) : Nat := Sp.sumN k fun j => if Sp.stepI (t.deeds.getD j default) s = (u : Int) then W s else 0
def Sp.into (t : Sp.Task) (W : Nat → Nat) (u j : Nat) : Nat := Sp.sumN j fun s => Sp.col t W u s t.deeds.length
/-- how many rows of deeds lead from the Start to a state -/
def Sp.cnt (t : Sp.Task) : Nat → Nat → Nat
  | 0, u => if u = t.start.toNat then 1 else 0
  | i + 1, u => Sp.into t (Sp.cnt t i) u 32
/-- those that come nearer to the end with every deed -/
def Sp.fwd (t : Sp.Task) : Nat → Nat → Nat
  | 0, u => if u = t.start.toNat then 1 else 0
  | i + 1, u => if Sp.toGo t u = Sp.toGo t t.start.toNat - ((i + 1 : Nat) : Int) then Sp.into t (Sp.fwd t i) u 32 else 0
theorem into_pos {t : Sp.Task} {W : Nat → Nat} {u : Nat} (h : 0 < Sp.into t W u 32) : ∃ s k, s < 32 ∧ k < t.deeds.length ∧ Sp.stepI (t.deeds.getD k default) s = (u : Int) ∧ 0 < W s := by
  obtain ⟨s, hs, h1⟩ := sumN_pos h
  obtain ⟨k, hk, h2⟩ := sumN_pos h1
  by_cases e : Sp.stepI (t.deeds.getD k default) s = (u : Int)
  · rw [if_pos e] at h2; exact ⟨s, k, hs, hk, e, h2⟩
  · rw [if_neg e] at h2; omega
theorem into_congr {t : Sp.Task} {W W' : Nat → Nat} {u : Nat} (h : ∀ s k, s < 32 → k < t.deeds.length → Sp.stepI (t.deeds.getD k default) s = (u : Int) → W s = W' s) : Sp.into t W u 32 = Sp.into t W' u 32 := by
  refine sumN_congr fun s hs => sumN_congr fun k hk => ?_
  by_cases e : Sp.stepI (t.deeds.getD k default) s = (u : Int)
  · rw [if_pos e, if_pos e]; exact h s k hs hk e
  · rw [if_neg e, if_neg e]
theorem gone_edge {t : Sp.Task} (hok : Sp.taskOk t = true) {s k u : Nat} (hs : s < 32) (hu : u < 32) (hk : k < t.deeds.length) (h : Sp.stepI (t.deeds.getD k default) s = (u : Int)) (h0 : 0 ≤ Sp.gone t s) : 0 ≤ Sp.gone t u ∧ Sp.gone t u ≤ Sp.gone t s + 1 :=
  dist_edge (start_set hok) hs hu h0 ((rel_iff t s u hs).2 ⟨k, hk, h⟩)
theorem gone_zero {t : Sp.Task} (hok : Sp.taskOk t = true) {u : Nat} (hu : u < 32) : Sp.gone t u = 0 ↔ u = t.start.toNat := by
  unfold Sp.gone
  rw [dist_zero_iff (start_set hok) hu, Nat.testBit_two_pow, decide_eq_true_eq]
  exact ⟨fun h => h.symm, fun h => h.symm⟩
theorem cnt_gone {t : Sp.Task} (hok : Sp.taskOk t = true) (i : Nat) : ∀ u, u < 32 → 0 < Sp.cnt t i u → 0 ≤ Sp.gone t u ∧ Sp.gone t u ≤ i := by
  induction i with
  | zero =>
    intro u hu h
    have h2 : 0 < (if u = t.start.toNat then 1 else 0) := h
    by_cases e : u = t.start.toNat
    · have := (gone_zero hok hu).2 e
      omega
    · rw [if_neg e] at h2; omega
  | succ i ih =>
    intro u hu h
    obtain ⟨s, k, hs, hk, h1, h2⟩ := into_pos (W := Sp.cnt t i) h
    have h3 := ih s hs h2
    have := gone_edge hok hs hu hk h1 h3.1
    omega
theorem gone_sum {t : Sp.Task} (hok : Sp.taskOk t = true) {s : Nat} (hs : s < 32) (h0 : 0 ≤ Sp.gone t s) (h1 : 0 ≤ Sp.toGo t s) : 0 ≤ Sp.toGo t t.start.toNat ∧ Sp.toGo t t.start.toNat ≤ Sp.gone t s + Sp.toGo t s := by
  obtain ⟨n, hn⟩ := Int.eq_ofNat_of_zero_le h0
  have := dist_sum (Sp.rel t) (start_lt hok) (truth_bd t.goal) n s hs hn h1
  rw [hn]
  exact this
theorem fwd_is {t : Sp.Task} (hok : Sp.taskOk t = true) (i : Nat) (hi : (i : Int) ≤ Sp.toGo t t.start.toNat) : ∀ u, u < 32 → Sp.fwd t i u = if Sp.toGo t u = Sp.toGo t t.start.toNat - (i : Int) then Sp.cnt t i u else 0 := by
  induction i with
  | zero =>
    intro u _
    show (if u = t.start.toNat then 1 else 0) = if _ then (if u = t.start.toNat then 1 else 0) else 0
    by_cases e : u = t.start.toNat
    · rw [if_pos e, if_pos (by rw [e]; omega)]
    · rw [if_neg e]; simp
  | succ i ih =>
    intro u hu
    have ih2 := ih (by omega)
    show (if Sp.toGo t u = _ then Sp.into t (Sp.fwd t i) u 32 else 0) = if _ then Sp.into t (Sp.cnt t i) u 32 else 0
    by_cases e : Sp.toGo t u = Sp.toGo t t.start.toNat - ((i + 1 : Nat) : Int)
    · rw [if_pos e, if_pos e]
      refine into_congr fun s k hs hk h => ?_
      have h1 := edge_toGo hok hs hk h (by omega)
      rw [ih2 s hs]
      by_cases e2 : Sp.toGo t s = Sp.toGo t t.start.toNat - (i : Int)
      · rw [if_pos e2]
      · rw [if_neg e2]
        refine Classical.byContradiction fun hc => ?_
        have h2 := cnt_gone hok i s hs (by omega)
        have h3 := gone_sum hok hs h2.1 h1.1
        omega
    · rw [if_neg e, if_neg e]
theorem waysNBy_sum (t : Sp.Task) (W : Nat → Nat) (s k : Nat) : Sp.waysNBy t W s k = Sp.sumN k fun j => if Sp.hit t s j = true then W (Sp.stepI (t.deeds.getD j default) s).toNat else 0 := by
  induction k with
  | zero => rfl
  | succ k ih => show Sp.waysNBy t W s k + _ = _ + _; rw [ih]
/-- all ways are shared out -/
theorem fwd_all {t : Sp.Task} (hok : Sp.taskOk t = true) (i m : Nat) (h : Sp.toGo t t.start.toNat = ((i + m : Nat) : Int)) : Sp.sumN 32 (fun u => Sp.fwd t i u * Sp.waysN t m u) = Sp.waysN t (i + m) t.start.toNat := by
  induction i generalizing m with
  | zero =>
    have h1 : ∀ u, Sp.fwd t 0 u * Sp.waysN t m u = if t.start.toNat = u then Sp.waysN t m u else 0 := by
      intro u
      show (if u = t.start.toNat then 1 else 0) * _ = _
      by_cases e : u = t.start.toNat
      · rw [if_pos e, if_pos e.symm, Nat.one_mul]
      · rw [if_neg e, if_neg (fun h => e h.symm), Nat.zero_mul]
    rw [sumN_congr (fun u _ => h1 u), sumN_one (start_lt hok), Nat.zero_add]
  | succ i ih =>
    have hh : i + 1 + m = i + (m + 1) := by omega
    rw [hh] at h ⊢
    rw [← ih (m + 1) h]
    have h1 : ∀ u, u < 32 → Sp.fwd t (i + 1) u * Sp.waysN t m u = Sp.sumN 32 fun s => Sp.sumN t.deeds.length fun j => if Sp.stepI (t.deeds.getD j default) s = (u : Int) then (if Sp.toGo t u = (m : Int) then Sp.fwd t i s * Sp.waysN t m u else 0) else 0 := by
      intro u hu
      show (if Sp.toGo t u = _ then Sp.into t (Sp.fwd t i) u 32 else 0) * _ = _
      by_cases e : Sp.toGo t u = (m : Int)
      · rw [if_pos (by omega)]
        unfold Sp.into Sp.col
        rw [← sumN_mul]
        refine sumN_congr fun s _ => ?_
        rw [← sumN_mul]
        refine sumN_congr fun j _ => ?_
        by_cases e2 : Sp.stepI (t.deeds.getD j default) s = (u : Int)
        · rw [if_pos e2, if_pos e2, if_pos e]
        · rw [if_neg e2, if_neg e2, Nat.zero_mul]
      · rw [if_neg (by omega), Nat.zero_mul, sumN_none]
        intro s _
        refine sumN_none fun j _ => ?_
        rw [if_neg e]; simp
    rw [sumN_congr h1, sumN_swap]
    refine sumN_congr fun s hs => ?_
    rw [sumN_swap]
    show _ = Sp.fwd t i s * Sp.waysNBy t (Sp.waysN t m) s t.deeds.length
    rw [waysNBy_sum, ← sumN_lmul]
    refine sumN_congr fun j hj => ?_
    have hb := stepI_bd hs (Sp.taskOk_deed hok hj)
    by_cases e : 0 ≤ Sp.stepI (t.deeds.getD j default) s
    · obtain ⟨u, hu⟩ := Int.eq_ofNat_of_zero_le e
      rw [hu] at hb
      have h2 : ∀ v : Nat, (if Sp.stepI (t.deeds.getD j default) s = (v : Int) then (if Sp.toGo t v = (m : Int) then Sp.fwd t i s * Sp.waysN t m v else 0) else 0) = if u = v then (if Sp.toGo t v = (m : Int) then Sp.fwd t i s * Sp.waysN t m v else 0) else 0 := by
        intro v
        rw [hu]
        by_cases e2 : u = v
        · rw [if_pos e2, if_pos (by rw [e2])]
        · rw [if_neg e2, if_neg (by omega)]
      rw [sumN_congr (fun v _ => h2 v), sumN_one (by omega)]
      have hf : 0 < Sp.fwd t i s → Sp.toGo t s = ((m + 1 : Nat) : Int) := by
        intro hp
        rw [fwd_is hok i (by omega) s hs] at hp
        by_cases e3 : Sp.toGo t s = Sp.toGo t t.start.toNat - (i : Int)
        · omega
        · rw [if_neg e3] at hp; omega
      have hh2 : Sp.hit t s j = (Sp.toGo t u == Sp.toGo t s - 1) := by
        unfold Sp.hit; rw [hu, Int.toNat_natCast, decide_eq_true (by omega), Bool.true_and]
      rw [hu, Int.toNat_natCast]
      by_cases h0 : Sp.fwd t i s = 0
      · rw [h0]; simp
      · have h3 := hf (by omega)
        rw [hh2, h3]
        by_cases e4 : Sp.toGo t u = (m : Int)
        · rw [if_pos e4, if_pos (by rw [beq_iff_eq]; omega)]
        · rw [if_neg e4, if_neg (by rw [beq_iff_eq]; omega), Nat.mul_zero]
    · rw [sumN_none (fun v _ => if_neg (by omega))]
      rw [if_neg (by unfold Sp.hit; rw [decide_eq_false e, Bool.false_and]; exact Bool.false_ne_true), Nat.mul_zero]
/-- no number is too great -/
theorem fwd_lt {t : Sp.Task} (hok : Sp.taskOk t = true) {i m : Nat} (h : Sp.toGo t t.start.toNat = ((i + m : Nat) : Int)) {u : Nat} (hu : u < 32) : Sp.fwd t i u ≤ 9223372036854775807 := by
  have h1 := fwd_all hok i m h
  have h2 := waysN_lt hok (start_lt hok) h
  have h3 := sumN_at (fun u => Sp.fwd t i u * Sp.waysN t m u) hu
  try simp only [] at h3
  by_cases h0 : Sp.fwd t i u = 0
  · omega
  · have h4 := fwd_is hok i (by omega) u hu
    by_cases e : Sp.toGo t u = Sp.toGo t t.start.toNat - (i : Int)
    · have h5 := waysN_pos hok m u hu (by omega)
      have h6 : Sp.fwd t i u * 1 ≤ Sp.fwd t i u * Sp.waysN t m u := Nat.mul_le_mul_left _ h5
      omega
    · rw [if_neg e] at h4; omega
/-- how many shortest plans there are -/
def Sp.plansMany (t : Sp.Task) : Int := if Sp.taskOk t = true then (if 0 ≤ Sp.toGo t t.start.toNat then (Sp.waysN t (Sp.toGo t t.start.toNat).toNat t.start.toNat : Nat) else 0) else -1
theorem fwd_sum {t : Sp.Task} (hok : Sp.taskOk t = true) {n : Nat} (h : Sp.toGo t t.start.toNat = (n : Int)) : Sp.sumN 32 (Sp.fwd t n) = Sp.waysN t n t.start.toNat := by
  have := fwd_all hok n 0 (by rw [h]; omega)
  rw [Nat.add_zero] at this
  rw [← this]
  refine sumN_congr fun u _ => ?_
  show _ = Sp.fwd t n u * 1
  rw [Nat.mul_one]

/-- the program's layers, from the Start -/
def Sp.lay (t : Sp.Task) (i s : Nat) : Nat := if Sp.gone t s = (i : Int) then Sp.cnt t i s else 0
def Sp.done (t : Sp.Task) (i j k u : Nat) : Nat :=
  if Sp.gone t u = ((i + 1 : Nat) : Int) then Sp.into t (Sp.lay t i) u j + Sp.col t (Sp.lay t i) u j k
  else if 0 ≤ Sp.gone t u ∧ Sp.gone t u ≤ (i : Int) then Sp.cnt t (Sp.gone t u).toNat u else 0
theorem lay_into {t : Sp.Task} (hok : Sp.taskOk t = true) {i u : Nat} (hu : u < 32) (h : Sp.gone t u = ((i + 1 : Nat) : Int)) : Sp.into t (Sp.lay t i) u 32 = Sp.cnt t (i + 1) u := by
  show _ = Sp.into t (Sp.cnt t i) u 32
  refine into_congr fun s k hs hk he => ?_
  unfold Sp.lay
  by_cases e : Sp.gone t s = (i : Int)
  · rw [if_pos e]
  · rw [if_neg e]
    refine Classical.byContradiction fun hc => ?_
    have h2 := cnt_gone hok i s hs (by omega)
    have h3 := gone_edge hok hs hu hk he h2.1
    omega
theorem done_zero {t : Sp.Task} (hok : Sp.taskOk t = true) {u : Nat} (hu : u < 32) : Sp.done t 0 0 0 u = if u = t.start.toNat then 1 else 0 := by
  unfold Sp.done
  by_cases h1 : Sp.gone t u = ((0 + 1 : Nat) : Int)
  · rw [if_pos h1, if_neg (fun e => by have := (gone_zero hok hu).2 e; omega)]; rfl
  · rw [if_neg h1]
    by_cases h2 : Sp.gone t u = 0
    · rw [if_pos (by omega), h2]; rfl
    · rw [if_neg (by omega), if_neg (fun e => h2 ((gone_zero hok hu).2 e))]
theorem done_next {t : Sp.Task} (hok : Sp.taskOk t = true) {i u : Nat} (hu : u < 32) : Sp.done t i 32 0 u = Sp.done t (i + 1) 0 0 u := by
  unfold Sp.done
  by_cases h1 : Sp.gone t u = ((i + 1 : Nat) : Int)
  · rw [if_pos h1, if_neg (by omega), if_pos (by omega), lay_into hok hu h1, h1, Int.toNat_natCast]; rfl
  · rw [if_neg h1]
    by_cases h2 : Sp.gone t u = ((i + 1 + 1 : Nat) : Int)
    · rw [if_neg (by omega), if_pos h2]; rfl
    · rw [if_neg h2]
      by_cases h3 : 0 ≤ Sp.gone t u ∧ Sp.gone t u ≤ (i : Int)
      · rw [if_pos h3, if_pos (by omega)]
      · rw [if_neg h3, if_neg (by omega)]
theorem done_state {t : Sp.Task} {i j u : Nat} : Sp.done t i j t.deeds.length u = Sp.done t i (j + 1) 0 u := by
  unfold Sp.done
  by_cases h1 : Sp.gone t u = ((i + 1 : Nat) : Int)
  · rw [if_pos h1, if_pos h1]; rfl
  · rw [if_neg h1, if_neg h1]
theorem done_way {t : Sp.Task} {i s : Nat} (h : Sp.gone t s = (i : Int)) : Sp.done t i 0 0 s = Sp.cnt t i s := by
  unfold Sp.done
  rw [if_neg (by omega), if_pos (by omega), h, Int.toNat_natCast]
theorem done_skip {t : Sp.Task} {i j k u : Nat} (h : ¬ (Sp.gone t j = (i : Int) ∧ Sp.stepI (t.deeds.getD k default) j = (u : Int) ∧ Sp.gone t u = ((i + 1 : Nat) : Int))) : Sp.done t i j (k + 1) u = Sp.done t i j k u := by
  unfold Sp.done
  by_cases h1 : Sp.gone t u = ((i + 1 : Nat) : Int)
  · rw [if_pos h1, if_pos h1]
    have : Sp.col t (Sp.lay t i) u j (k + 1) = Sp.col t (Sp.lay t i) u j k + (if Sp.stepI (t.deeds.getD k default) j = (u : Int) then Sp.lay t i j else 0) := rfl
    rw [this]
    by_cases h2 : Sp.stepI (t.deeds.getD k default) j = (u : Int)
    · rw [if_pos h2]
      unfold Sp.lay
      rw [if_neg (fun h3 => h ⟨h3, h2, h1⟩), Nat.add_zero]
    · rw [if_neg h2, Nat.add_zero]
  · rw [if_neg h1, if_neg h1]
theorem done_add {t : Sp.Task} {i j k u : Nat} (h0 : Sp.gone t j = (i : Int)) (h2 : Sp.stepI (t.deeds.getD k default) j = (u : Int)) (h1 : Sp.gone t u = ((i + 1 : Nat) : Int)) : Sp.done t i j (k + 1) u = Sp.done t i j k u + Sp.cnt t i j := by
  unfold Sp.done
  rw [if_pos h1, if_pos h1]
  have : Sp.col t (Sp.lay t i) u j (k + 1) = Sp.col t (Sp.lay t i) u j k + (if Sp.stepI (t.deeds.getD k default) j = (u : Int) then Sp.lay t i j else 0) := rfl
  rw [this, if_pos h2]
  unfold Sp.lay
  rw [if_pos h0, Nat.add_assoc]
/-- what the program adds up at the end -/
def Sp.endSum (t : Sp.Task) (n j : Nat) : Nat := Sp.sumN j fun u => if Sp.toGo t u = 0 ∧ Sp.gone t u = (n : Int) then Sp.cnt t n u else 0
theorem endSum_all {t : Sp.Task} (hok : Sp.taskOk t = true) {n : Nat} (h : Sp.toGo t t.start.toNat = (n : Int)) : Sp.endSum t n 32 = Sp.waysN t n t.start.toNat := by
  rw [← fwd_sum hok h]
  refine sumN_congr fun u hu => ?_
  rw [fwd_is hok n (by omega) u hu, h]
  by_cases h1 : Sp.toGo t u = 0
  · rw [if_pos (show Sp.toGo t u = (n : Int) - (n : Int) by omega)]
    by_cases h2 : Sp.gone t u = (n : Int)
    · rw [if_pos ⟨h1, h2⟩]
    · rw [if_neg (fun e => h2 e.2)]
      refine Classical.byContradiction fun hc => ?_
      have h3 := cnt_gone hok n u hu (by omega)
      have h4 := gone_sum hok hu h3.1 (by omega)
      omega
  · rw [if_neg (fun e => h1 e.1), if_neg (by omega)]
theorem wrap_add (a b : Int) : IntKind.i64.wrap (IntKind.i64.wrap a + IntKind.i64.wrap b) = IntKind.i64.wrap (a + b) := by
  rw [IntKind.wrap_i64, IntKind.wrap_i64, IntKind.wrap_i64, IntKind.wrap_i64]; omega

end Go.Proofs.Ytphdojebdclonaa
