/- Joined texts. No condition. -/
import Derived.Lib.AppendZerosOnto
import Derived.Lib.AppendZeros
import Derived.Test.YtphdojebdclonaaGreatDoorQ27
import Derived.Test.YtphdojebdclonaaGreatDoorQ22
import Derived.Test.YtphdojebdclonaaGreatDoorQ10
/- Plain: the deeds that are needed. Walks: slices.Concat of rows, the program's Needed. No condition. -/
namespace Go.Proofs.YtphdojebdclonaaGreatDoor
set_option linter.unusedSimpArgs false
set_option linter.unusedVariables false
open Go.RowKit

/-- a task without one of its deeds -/
def Sp.drop (t : Sp.Task) (k : Nat) : Sp.Task := ⟨t.start, t.goal, t.deeds.take k ++ t.deeds.drop (k + 1)⟩
/-- the deeds up to one without which there is no plan -/
def Sp.neededUp (t : Sp.Task) : Nat → List Int
  | 0 => []
  | m + 1 => if Sp.planThere (Sp.drop t m) = true then Sp.neededUp t m else Sp.neededUp t m ++ [(m : Int)]
def Sp.needed (t : Sp.Task) : List Int := if Sp.planThere t = true then Sp.neededUp t t.deeds.length else []
theorem neededUp_yes {t : Sp.Task} {m : Nat} (h : Sp.planThere (Sp.drop t m) = true) : Sp.neededUp t (m + 1) = Sp.neededUp t m := by
  show (if _ then _ else _) = _
  rw [if_pos h]
theorem neededUp_no {t : Sp.Task} {m : Nat} (h : Sp.planThere (Sp.drop t m) = false) : Sp.neededUp t (m + 1) = Sp.neededUp t m ++ [(m : Int)] := by
  show (if _ then _ else _) = _
  rw [if_neg (by rw [h]; decide)]
theorem neededUp_len (t : Sp.Task) (m : Nat) : (Sp.neededUp t m).length ≤ m := by
  induction m with
  | zero => exact Nat.le_refl _
  | succ m ih =>
    cases h : Sp.planThere (Sp.drop t m)
    · rw [neededUp_no h, List.length_append]; simp only [List.length_cons, List.length_nil]; omega
    · rw [neededUp_yes h]; omega
theorem neededUp_mem (t : Sp.Task) (m : Nat) : ∀ x ∈ Sp.neededUp t m, ∃ k : Nat, x = (k : Int) ∧ k < m ∧ Sp.planThere (Sp.drop t k) = false := by
  induction m with
  | zero => intro x hx; cases hx
  | succ m ih =>
    intro x hx
    cases h : Sp.planThere (Sp.drop t m)
    · rw [neededUp_no h, List.mem_append] at hx
      rcases hx with hx | hx
      · obtain ⟨k, h1, h2, h3⟩ := ih x hx; exact ⟨k, h1, by omega, h3⟩
      · rw [List.mem_singleton] at hx; exact ⟨m, hx, by omega, h⟩
    · rw [neededUp_yes h] at hx
      obtain ⟨k, h1, h2, h3⟩ := ih x hx; exact ⟨k, h1, by omega, h3⟩
theorem taskOk_parts {t : Sp.Task} : Sp.taskOk t = true ↔ Sp.stOk t.start = true ∧ Sp.codeOk t.goal = true ∧ t.deeds.length ≤ 6 ∧ ∀ d ∈ t.deeds, Sp.deedOk d = true := by
  unfold Sp.taskOk
  rw [Bool.and_eq_true, Bool.and_eq_true, Bool.and_eq_true, decide_eq_true_eq, List.all_eq_true, and_assoc, and_assoc]
theorem drop_ok {t : Sp.Task} (h : Sp.taskOk t = true) (k : Nat) : Sp.taskOk (Sp.drop t k) = true := by
  obtain ⟨h1, h2, h3, h4⟩ := taskOk_parts.1 h
  refine taskOk_parts.2 ⟨h1, h2, ?_, fun d hd => ?_⟩
  · show (t.deeds.take k ++ t.deeds.drop (k + 1)).length ≤ 6
    rw [List.length_append, List.length_take, List.length_drop]; omega
  · have hd2 : d ∈ t.deeds.take k ++ t.deeds.drop (k + 1) := hd
    rw [List.mem_append] at hd2
    rcases hd2 with h | h
    · exact h4 d (List.mem_of_mem_take h)
    · exact h4 d (List.mem_of_mem_drop h)
theorem drop_len {t : Sp.Task} {k r : Nat} (h : t.deeds.length = k + r + 1) : (Sp.drop t k).deeds.length = k + r := by
  show (t.deeds.take k ++ t.deeds.drop (k + 1)).length = _
  rw [List.length_append, List.length_take, List.length_drop]; omega
/-- a row left out of the rows -/
def Sp.dropF (k : Nat) (F : Nat → Int) (p : Nat) : Int := if p < k * 32 then F p else F (p + 32)
theorem flat_drop (t : Sp.Task) {k : Nat} (hk : k < t.deeds.length) (p : Nat) : Sp.flat (Sp.drop t k).deeds p = Sp.dropF k (Sp.flat t.deeds) p := by
  have h1 : ∀ q, (t.deeds.take k ++ t.deeds.drop (k + 1)).getD q default = if q < k then t.deeds.getD q default else t.deeds.getD (q + 1) default := by
    intro q
    rw [List.getD_eq_getElem?_getD, List.getD_eq_getElem?_getD, List.getD_eq_getElem?_getD]
    by_cases hq : q < k
    · rw [if_pos hq, List.getElem?_append_left (by rw [List.length_take]; omega), List.getElem?_take, if_pos hq]
    · rw [if_neg hq, List.getElem?_append_right (by rw [List.length_take]; omega), List.getElem?_drop, List.length_take, Nat.min_eq_left (by omega)]
      congr 2; omega
  show Sp.stepI ((t.deeds.take k ++ t.deeds.drop (k + 1)).getD (p / 32) default) (p % 32) = _
  unfold Sp.dropF
  rw [h1]
  by_cases hp : p < k * 32
  · rw [if_pos hp, if_pos (by omega)]; rfl
  · rw [if_neg hp, if_neg (by omega)]
    show _ = Sp.stepI (t.deeds.getD ((p + 32) / 32) default) ((p + 32) % 32)
    rw [show (p + 32) / 32 = p / 32 + 1 by omega, show (p + 32) % 32 = p % 32 by omega]
theorem edge_congr {n : Nat} {F F' : Nat → Int} (h : ∀ p, p < n * 32 → F p = F' p) : ∀ s u, s < 32 → Sp.edge n F s u = Sp.edge n F' s u := by
  intro s u hs
  apply Bool.eq_iff_iff.2
  rw [edge_iff, edge_iff]
  constructor
  · rintro ⟨k, hk, he⟩; exact ⟨k, hk, by rw [← h _ (by omega)]; exact he⟩
  · rintro ⟨k, hk, he⟩; exact ⟨k, hk, by rw [h _ (by omega)]; exact he⟩
theorem RowsF.congr {w : World} {g n : Nat} {F F' : Nat → Int} (h : RowsF w g n F) (he : ∀ p, p < n * 32 → F p = F' p) : RowsF w g n F' :=
  ⟨h.1, fun p hp => by rw [← he p hp]; exact h.2.1 p hp, fun p hp => by rw [← he p hp]; exact h.2.2 p hp⟩

/-- rows of one's own, or none -/
def NewRows (n : Nat) (F : Nat → Int) (v : Value) (w' : World) : Prop := ∃ A c g, v = .slice A n c ∧ (0 < n → A = some ⟨g, 0, none⟩) ∧ RowsF w' g n F









































theorem addr_add (g o j : Nat) : (⟨g, o, none⟩ : Addr).add j = ⟨g, o + j, none⟩ := by
  unfold Addr.add
  split
  · rename_i h; subst h; rfl
  · rfl
/-- the cells of some rows -/
def rowVals (F : Nat → Int) (a m : Nat) : List Value := (List.range (m * 32)).map fun p => .int .i64 (F (a * 32 + p))
theorem rowVals_len (F : Nat → Int) (a m : Nat) : (rowVals F a m).length = m * 32 := by unfold rowVals; simp
theorem rowVals_at (F : Nat → Int) (a m p : Nat) (h : p < m * 32) : (rowVals F a m)[p]? = some (.int .i64 (F (a * 32 + p))) := by unfold rowVals; simp [h]
theorem rowVals_one (F : Nat → Int) (a m : Nat) : ∀ u ∈ rowVals F a m, u.oneCell' = true := by
  intro u hu
  unfold rowVals at hu
  rw [List.mem_map] at hu
  obtain ⟨p, _, rfl⟩ := hu
  rfl
theorem rowVals_cell {w : World} {g n a m off : Nat} {F : Nat → Int} (h : RowsF w g n F) (ha : a + m ≤ n) (ho : 0 < m → off = a * 32) :
    ∀ j u, (rowVals F a m)[j]? = some u → w.cell? ((⟨g, off, none⟩ : Addr).add j) = some u := by
  intro j u hj
  have hl : j < m * 32 := by have := (List.getElem?_eq_some_iff.1 hj).1; rw [rowVals_len] at this; exact this
  rw [rowVals_at _ _ _ _ hl] at hj
  injection hj with hj
  subst hj
  have := h.2.1 (a * 32 + j) (by have : a * 32 + m * 32 ≤ n * 32 := by omega
                                 omega)
  rw [ho (by omega), addr_add]
  exact this
theorem concat_rows {w0 w w' : World} {g k r E : Nat} {A : Option Addr} {c : Nat} {F : Nat → Int} (h : RowsF w0 g (k + r + 1) F) (hown : w'.ownsRow w.heap.size 74 32 (.slice A (k + r) c) (k + r) (rowVals F 0 k ++ rowVals F (k + 1) r)) (hE : E < w'.heap.size) :
    NewRows (k + r) (Sp.dropF k F) (.slice A (k + r) c) w' := by
  have hb : ∀ p, p < (k + r) * 32 → -1 ≤ Sp.dropF k F p ∧ Sp.dropF k F p ≤ 31 := by
    intro p hp
    unfold Sp.dropF
    split
    · exact h.2.2 p (by omega)
    · exact h.2.2 (p + 32) (by omega)
  by_cases h0 : 0 < k + r
  · obtain ⟨_, g', rfl, _, hgl, _⟩ := own_some hown h0
    have hc := hown.cells (g := g') rfl
    refine ⟨_, c, g', rfl, fun _ => rfl, hgl, fun p hp => ?_, hb⟩
    have hx : (rowVals F 0 k ++ rowVals F (k + 1) r)[p]? = some (.int .i64 (Sp.dropF k F p)) := by
      unfold Sp.dropF
      by_cases hpk : p < k * 32
      · rw [if_pos hpk, List.getElem?_append_left (by rw [rowVals_len]; exact hpk), rowVals_at _ _ _ _ hpk, Nat.zero_mul, Nat.zero_add]
      · rw [if_neg hpk, List.getElem?_append_right (by rw [rowVals_len]; omega), rowVals_len, rowVals_at _ _ _ _ (by omega), show (k + 1) * 32 + (p - k * 32) = p + 32 by omega]
    have := hc p _ hx
    rw [addr_add, Nat.zero_add] at this
    exact this
  · exact ⟨A, c, E, rfl, fun h => absurd h h0, hE, fun p hp => by omega, hb⟩



























































































































































































































































































































end Go.Proofs.YtphdojebdclonaaGreatDoor
/- Plain: what is needed is in every plan. No program in sight. No condition. -/
namespace Go.Proofs.YtphdojebdclonaaGreatDoor
set_option linter.unusedSimpArgs false
set_option linter.unusedVariables false
open Go.RowKit

theorem goOn_map {t t' : Sp.Task} (f : Int → Int) (l : List Int) (h : ∀ x ∈ l, 0 ≤ x → x < t.deeds.length → 0 ≤ f x ∧ f x < t'.deeds.length ∧ t'.deeds.getD (f x).toNat default = t.deeds.getD x.toNat default) :
    ∀ s, 0 ≤ Sp.goOn t s l → Sp.goOn t' s (l.map f) = Sp.goOn t s l := by
  induction l with
  | nil => intro s _; rfl
  | cons x l ih =>
    intro s hs
    rw [List.map_cons, goOn_cons, goOn_cons] at *
    by_cases hx : 0 ≤ x ∧ x < t.deeds.length ∧ 0 ≤ Sp.stepI (t.deeds.getD x.toNat default) s
    · rw [if_pos hx] at hs ⊢
      obtain ⟨h1, h2, h3⟩ := h x (List.mem_cons_self ..) hx.1 hx.2.1
      rw [if_pos ⟨h1, h2, by rw [h3]; exact hx.2.2⟩, h3]
      exact ih (fun y hy => h y (List.mem_cons_of_mem _ hy)) _ hs
    · rw [if_neg hx] at hs; omega
theorem planThere_ok {t : Sp.Task} {l : List Int} (h : Sp.planOk t l = true) : Sp.planThere t = true := by
  obtain ⟨h1, h2, _⟩ := planOk_least h
  unfold Sp.planThere
  rw [h1, decide_eq_true h2]; rfl
theorem planThere_map {t t' : Sp.Task} (f : Int → Int) (hs : t'.start = t.start) (hg : t'.goal = t.goal) (hok : Sp.taskOk t' = true) (ht : Sp.planThere t = true)
    (h : ∀ x ∈ Sp.planFor t, 0 ≤ x → x < t.deeds.length → 0 ≤ f x ∧ f x < t'.deeds.length ∧ t'.deeds.getD (f x).toNat default = t.deeds.getD x.toNat default) : Sp.planThere t' = true := by
  obtain ⟨h1, _, _, h4⟩ := planFor_on ht
  refine planThere_ok (l := (Sp.planFor t).map f) ?_
  unfold Sp.planOk at h4 ⊢
  rw [Bool.and_eq_true, decide_eq_true_eq] at h4 ⊢
  obtain ⟨h5, h6⟩ := h4
  unfold Sp.planRun at h5 h6 ⊢
  by_cases hc : Sp.taskOk t = true ∧ Sp.stOk t.start = true ∧ (Sp.planFor t).length ≤ 40
  · rw [if_pos hc] at h5 h6
    rw [if_pos ⟨hok, by rw [hs]; exact hc.2.1, by rw [List.length_map]; exact hc.2.2⟩, hs, hg, goOn_map f _ h _ h5]
    exact ⟨h5, h6⟩
  · rw [if_neg hc] at h5; omega
theorem drop_at {t : Sp.Task} {k : Nat} (hk : k < t.deeds.length) (q : Nat) : (Sp.drop t k).deeds.getD q default = if q < k then t.deeds.getD q default else t.deeds.getD (q + 1) default := by
  show (t.deeds.take k ++ t.deeds.drop (k + 1)).getD q default = _
  rw [List.getD_eq_getElem?_getD, List.getD_eq_getElem?_getD, List.getD_eq_getElem?_getD]
  by_cases hq : q < k
  · rw [if_pos hq, List.getElem?_append_left (by rw [List.length_take]; omega), List.getElem?_take, if_pos hq]
  · rw [if_neg hq, List.getElem?_append_right (by rw [List.length_take]; omega), List.getElem?_drop, List.length_take, Nat.min_eq_left (by omega)]
    congr 2; omega
theorem planFor_bd {t : Sp.Task} : ∀ x ∈ Sp.planFor t, 0 ≤ x ∨ x < 0 := fun x _ => by omega
/-- a needed deed is in the plan -/
theorem needed_in {t : Sp.Task} {x : Int} (hx : x ∈ Sp.needed t) : Sp.planThere t = true ∧ x ∈ Sp.planFor t ∧ ∃ k : Nat, x = (k : Int) ∧ k < t.deeds.length := by
  unfold Sp.needed at hx
  by_cases ht : Sp.planThere t = true
  · rw [if_pos ht] at hx
    obtain ⟨k, rfl, hk, hn⟩ := neededUp_mem t _ x hx
    have hok := (planFor_on ht).1
    refine ⟨ht, Classical.byContradiction fun hc => ?_, k, rfl, hk⟩
    have hl : (Sp.drop t k).deeds.length = t.deeds.length - 1 := by
      have := drop_len (t := t) (k := k) (r := t.deeds.length - k - 1) (by omega)
      omega
    have := planThere_map (t := t) (t' := Sp.drop t k) (fun x => if x < (k : Int) then x else x - 1) rfl rfl (drop_ok hok k) ht (fun x hx h0 h1 => by
      have hne : x ≠ (k : Int) := fun e => hc (e ▸ hx)
      obtain ⟨j, rfl⟩ := Int.eq_ofNat_of_zero_le h0
      rw [hl]
      by_cases hj : (j : Int) < (k : Int)
      · rw [if_pos hj, Int.toNat_natCast, drop_at hk, if_pos (by omega)]
        exact ⟨by omega, by omega, rfl⟩
      · rw [if_neg hj, drop_at hk, if_neg (by omega), Int.toNat_natCast, show ((j : Int) - 1).toNat + 1 = j by omega]
        exact ⟨by omega, by omega, rfl⟩)
    rw [this] at hn
    cases hn
  · rw [if_neg ht] at hx; cases hx
/-- a task with one deed a second time -/
def Sp.twice (t : Sp.Task) (k : Nat) : Sp.Task := ⟨t.start, t.goal, t.deeds ++ [t.deeds.getD k default]⟩
theorem twice_ok {t : Sp.Task} (h : Sp.taskOk t = true) {k : Nat} (hk : k < t.deeds.length) (hl : t.deeds.length < 6) : Sp.taskOk (Sp.twice t k) = true := by
  obtain ⟨h1, h2, h3, h4⟩ := taskOk_parts.1 h
  refine taskOk_parts.2 ⟨h1, h2, ?_, fun d hd => ?_⟩
  · show (t.deeds ++ [t.deeds.getD k default]).length ≤ 6
    rw [List.length_append]; simp only [List.length_cons, List.length_nil]; omega
  · have hd2 : d ∈ t.deeds ++ [t.deeds.getD k default] := hd
    rw [List.mem_append, List.mem_singleton] at hd2
    rcases hd2 with h | h
    · exact h4 d h
    · subst h
      exact Sp.taskOk_deed (by assumption) hk
theorem twice_not {t : Sp.Task} {x : Int} (hx : x ∈ Sp.needed t) (hl : t.deeds.length < 6) : x ∉ Sp.needed (Sp.twice t x.toNat) := by
  obtain ⟨ht, _, k, rfl, hk⟩ := needed_in hx
  rw [Int.toNat_natCast]
  have hok := (planFor_on ht).1
  intro hc
  unfold Sp.needed at hc
  by_cases h2 : Sp.planThere (Sp.twice t k) = true
  · rw [if_pos h2] at hc
    obtain ⟨k', e, _, hn⟩ := neededUp_mem _ _ _ hc
    obtain rfl : k = k' := by omega
    have hl2 : (Sp.twice t k).deeds.length = t.deeds.length + 1 := by
      show (t.deeds ++ [_]).length = _
      rw [List.length_append]; rfl
    have hd2 : ∀ q, (Sp.twice t k).deeds.getD q default = if q < t.deeds.length then t.deeds.getD q default else if q = t.deeds.length then t.deeds.getD k default else default := by
      intro q
      show (t.deeds ++ [t.deeds.getD k default]).getD q default = _
      rw [List.getD_eq_getElem?_getD]
      by_cases hq : q < t.deeds.length
      · rw [if_pos hq, List.getElem?_append_left hq, List.getD_eq_getElem?_getD]
      · rw [if_neg hq, List.getElem?_append_right (by omega)]
        by_cases hq2 : q = t.deeds.length
        · rw [if_pos hq2, hq2, Nat.sub_self]; rfl
        · rw [if_neg hq2, List.getElem?_eq_none (by simp only [List.length_cons, List.length_nil]; omega)]; rfl
    have hl3 : (Sp.drop (Sp.twice t k) k).deeds.length = t.deeds.length := by
      have := drop_len (t := Sp.twice t k) (k := k) (r := t.deeds.length - k) (by omega)
      omega
    have := planThere_map (t := t) (t' := Sp.drop (Sp.twice t k) k) (fun x => if x < (k : Int) then x else if x = (k : Int) then (t.deeds.length : Int) - 1 else x - 1) rfl rfl (drop_ok (twice_ok hok hk hl) k) ht (fun x hx h0 h1 => by
      obtain ⟨j, rfl⟩ := Int.eq_ofNat_of_zero_le h0
      rw [hl3]
      by_cases hj : (j : Int) < (k : Int)
      · rw [if_pos hj, Int.toNat_natCast, drop_at (by omega), if_pos (by omega), hd2, if_pos (by omega)]
        exact ⟨by omega, by omega, rfl⟩
      · rw [if_neg hj]
        by_cases hj2 : (j : Int) = (k : Int)
        · obtain rfl : j = k := by omega
          rw [if_pos rfl, drop_at (by omega), if_neg (by omega), hd2, show ((t.deeds.length : Int) - 1).toNat + 1 = t.deeds.length by omega, if_neg (by omega), if_pos rfl, Int.toNat_natCast]
          exact ⟨by omega, by omega, rfl⟩
        · rw [if_neg hj2, drop_at (by omega), if_neg (by omega), hd2, if_pos (by omega), Int.toNat_natCast, show ((j : Int) - 1).toNat + 1 = j by omega]
          exact ⟨by omega, by omega, rfl⟩)
    rw [this] at hn
    cases hn
  · rw [if_neg h2] at hc; cases hc
/-- the needed deeds ascend -/
theorem neededUp_asc (t : Sp.Task) (m : Nat) : (Sp.neededUp t m).Pairwise (· < ·) := by
  induction m with
  | zero => exact List.Pairwise.nil
  | succ m ih =>
    cases h : Sp.planThere (Sp.drop t m)
    · rw [neededUp_no h, List.pairwise_append]
      refine ⟨ih, List.pairwise_singleton _ _, fun a ha b hb => ?_⟩
      obtain ⟨k, rfl, hk, _⟩ := neededUp_mem t m a ha
      rw [List.mem_singleton] at hb
      omega
    · rw [neededUp_yes h]; exact ih
theorem needed_asc (t : Sp.Task) : (Sp.needed t).Pairwise (· < ·) := by
  unfold Sp.needed
  split
  · exact neededUp_asc t _
  · exact List.Pairwise.nil

end Go.Proofs.YtphdojebdclonaaGreatDoor
