/- Joined texts. No condition. -/
import Derived.Test.YtphdojebdclonaaDoorQ21
import Derived.Test.YtphdojebdclonaaDoorQ14
import Derived.Test.YtphdojebdclonaaDoorQ45
/- Plain: sums of facts and plans: one of both is there. No program in sight. No condition. -/
namespace Go.Proofs.YtphdojebdclonaaDoor
set_option linter.unusedSimpArgs false
set_option linter.unusedVariables false
open Go.RowKit

theorem xor_half (a b : Nat) : (a ^^^ b) / 2 = (a / 2) ^^^ (b / 2) := by
  refine Nat.eq_of_testBit_eq fun i => ?_
  simp [Nat.testBit_div_two]
theorem xor_mod (a b : Nat) : (a ^^^ b) % 2 = (a % 2 + b % 2) % 2 := by
  have h := Nat.testBit_xor a b 0
  simp only [Nat.testBit_zero] at h
  rcases Nat.mod_two_eq_zero_or_one a with ha | ha <;> rcases Nat.mod_two_eq_zero_or_one b with hb | hb <;> rcases Nat.mod_two_eq_zero_or_one (a ^^^ b) with hc | hc <;> simp [ha, hb, hc] at h ⊢
theorem cntF_xor (n : Nat) : ∀ a b, cntF n (a ^^^ b) % 2 = (cntF n a + cntF n b) % 2 := by
  induction n with
  | zero => intro a b; rfl
  | succ n ih =>
    intro a b
    simp only [cntF]
    have h1 := xor_mod a b
    have h2 := ih (a / 2) (b / 2)
    rw [← xor_half] at h2
    omega
def Sp.par (f s : Nat) : Nat := cnt (s &&& f) % 2
theorem par_xor (f a b : Nat) : Sp.par f (a ^^^ b) = (Sp.par f a + Sp.par f b) % 2 := by
  unfold Sp.par
  rw [Nat.and_xor_distrib_right]
  have := cntF_xor 64 (a &&& f) (b &&& f)
  unfold cnt
  omega
theorem par_by (f g a : Nat) : Sp.par (f ^^^ g) a = (Sp.par f a + Sp.par g a) % 2 := by
  unfold Sp.par
  rw [Nat.and_xor_distrib_left]
  have := cntF_xor 64 (a &&& f) (a &&& g)
  unfold cnt
  omega
theorem par_two (f a : Nat) : Sp.par f a = 0 ∨ Sp.par f a = 1 := by unfold Sp.par; omega
theorem even_par (a s f : Nat) : Sp.even a s f = (Sp.par f s == Sp.par f a) := by
  unfold Sp.even Sp.par
  rw [Bool.eq_iff_iff, beq_iff_eq, beq_iff_eq]
  omega
theorem evenFlip_par (f : Nat) (d : Sp.Deed) : Sp.evenFlip f d = true ↔ Sp.par f d.flip.toNat = 0 := by
  unfold Sp.evenFlip Sp.par
  rw [Bool.not_eq_true', beq_eq_false_iff_ne]
  omega
theorem xor_lt32 {a b : Nat} (ha : a < 32) (hb : b < 32) : a ^^^ b < 32 := Nat.xor_lt_two_pow (n := 5) ha hb

/-- what some of these give together -/
def Sp.inSpan : List Nat → Nat → Prop
  | [], d => d = 0
  | v :: l, d => Sp.inSpan l d ∨ Sp.inSpan l (d ^^^ v)
theorem par_base : ∀ d : Fin 32, d.val ≠ 0 → ∃ f : Fin 32, Sp.par f.val d.val = 1 := by unfold Sp.par; decide +kernel
/-- either it is of the span, or something tells that it is not -/
theorem span_or (l : List Nat) (hl : ∀ v ∈ l, v < 32) : ∀ d, d < 32 → Sp.inSpan l d ∨ ∃ f, f < 32 ∧ (∀ v ∈ l, Sp.par f v = 0) ∧ Sp.par f d = 1 := by
  induction l with
  | nil =>
    intro d hd
    by_cases h : d = 0
    · exact .inl h
    · obtain ⟨f, hf⟩ := par_base ⟨d, hd⟩ h
      exact .inr ⟨f.val, f.isLt, (fun v hv => by cases hv), hf⟩
  | cons v l ih =>
    intro d hd
    have hv := hl v List.mem_cons_self
    have ih2 := ih (fun x hx => hl x (List.mem_cons_of_mem _ hx))
    rcases ih2 d hd with h1 | ⟨f1, hf1, ha1, hd1⟩
    · exact .inl (.inl h1)
    rcases ih2 (d ^^^ v) (xor_lt32 hd hv) with h2 | ⟨f2, hf2, ha2, hd2⟩
    · exact .inl (.inr h2)
    rw [par_xor] at hd2
    right
    rcases par_two f1 v with e1 | e1
    · exact ⟨f1, hf1, fun x hx => by rcases List.mem_cons.1 hx with rfl | hx <;> first | exact e1 | exact ha1 x hx, hd1⟩
    rcases par_two f2 v with e2 | e2
    · exact ⟨f2, hf2, fun x hx => by rcases List.mem_cons.1 hx with rfl | hx <;> first | exact e2 | exact ha2 x hx, by have := par_two f2 d; omega⟩
    · refine ⟨f1 ^^^ f2, xor_lt32 hf1 hf2, fun x hx => ?_, ?_⟩
      · rw [par_by]
        rcases List.mem_cons.1 hx with rfl | hx
        · omega
        · rw [ha1 x hx, ha2 x hx]
      · rw [par_by]
        have := par_two f2 d
        omega

/-- the goal's only state -/
theorem goalOne_run {t : Sp.Task} {g : Nat} (h : Sp.truth t.goal = 2 ^ g) (s : Nat) (hs : s < 32) : Sp.run t.goal s = true ↔ s = g := by
  have h1 : (Sp.truth t.goal).testBit s = Sp.run t.goal s := by unfold Sp.truth; rw [Sp.testBit_setOf]; simp [hs]
  rw [← h1, h, Nat.testBit_two_pow, decide_eq_true_eq]
  exact eq_comm
/-- what the span tells is reached -/
theorem span_toGo {t : Sp.Task} (hok : Sp.onlyTurns t = true) {g : Nat} (hg : g < 32) (hgo : Sp.run t.goal g = true) (l : List Sp.Deed) (hl : ∀ d ∈ l, d ∈ t.deeds) : ∀ s, s < 32 → Sp.inSpan (l.map (fun d => d.flip.toNat)) (s ^^^ g) → 0 ≤ Sp.toGo t s := by
  have hto := onlyTurns_taskOk hok
  induction l with
  | nil =>
    intro s hs h
    have h : s ^^^ g = 0 := h
    have e : s = g := by
      have h2 : s ^^^ g ^^^ g = g := by rw [h, Nat.zero_xor]
      rwa [Nat.xor_assoc, Nat.xor_self, Nat.xor_zero] at h2
    subst e
    rw [zero_toGo hs, decide_eq_true_eq] at hgo
    omega
  | cons d l ih =>
    intro s hs h
    have ih2 := ih (fun x hx => hl x (List.mem_cons_of_mem _ hx))
    rcases (h : Sp.inSpan _ _ ∨ Sp.inSpan _ _) with h | h
    · exact ih2 s hs h
    · obtain ⟨k, hk, hkd⟩ := List.mem_iff_getElem.1 (hl d List.mem_cons_self)
      have hD := only_deed hok hk
      have hgd : t.deeds.getD k default = d := by simp [List.getD, hk, hkd]
      rw [hgd] at hD
      have hfl := deedOk_flip hD.1
      have hu : s ^^^ d.flip.toNat < 32 := xor_lt32 hs (by omega)
      have h2 : s ^^^ d.flip.toNat ^^^ g = s ^^^ g ^^^ d.flip.toNat := by rw [Nat.xor_assoc, Nat.xor_assoc, Nat.xor_comm g]
      have h3 := ih2 (s ^^^ d.flip.toNat) hu (by rw [h2]; exact h)
      exact (edge_toGo hto hs hk (by rw [hgd]; exact turn_step hD.2 hs) h3).1
/-- what is kept by each deed is kept by a plan -/
theorem goOn_par {t : Sp.Task} (hok : Sp.onlyTurns t = true) {f : Nat} (hf : ∀ d ∈ t.deeds, Sp.par f d.flip.toNat = 0) (l : List Int) : ∀ s, s < 32 → 0 ≤ Sp.goOn t s l → Sp.par f (Sp.goOn t s l).toNat = Sp.par f s := by
  have hto := onlyTurns_taskOk hok
  induction l with
  | nil => intro s hs _; rw [goOn_nil]; rw [Int.toNat_natCast]
  | cons k l ih =>
    intro s hs h0
    rw [goOn_cons] at h0 ⊢
    split at h0
    · rename_i hc
      rw [if_pos hc]
      have hk : k.toNat < t.deeds.length := by omega
      have hb := stepI_bd hs (Sp.taskOk_deed hto hk)
      have hD := only_deed hok hk
      have e := turn_step hD.2 hs
      rw [ih _ (by omega) h0, e, Int.toNat_natCast, par_xor, hf _ (by simp only [List.getD_eq_getElem?_getD, List.getElem?_eq_getElem hk, Option.getD_some]; exact List.getElem_mem _)]
      have := par_two f s
      omega
    · omega
theorem sumOk_parts {t : Sp.Task} {f : Nat} (h : Sp.sumOk t (f : Nat) = true) : Sp.onlyTurns t = true ∧ (∀ d ∈ t.deeds, Sp.par f d.flip.toNat = 0) ∧ ∀ s, s < 32 → Sp.run t.goal s = true → Sp.par f s ≠ Sp.par f t.start.toNat := by
  unfold Sp.sumOk at h
  rw [Int.toNat_natCast] at h
  simp only [Bool.and_eq_true] at h
  refine ⟨h.1.1.2, fun d hd => (evenFlip_par f d).1 (List.all_eq_true.1 h.1.2 d hd), fun s hs hr => ?_⟩
  have := (upTo_iff _ _).1 h.2 s hs
  unfold Sp.apart at this
  rw [hr, even_par] at this
  simpa using this
/-- a sum proves that there is no plan -/
theorem sumOk_none {t : Sp.Task} {f : Nat} (h : Sp.sumOk t (f : Nat) = true) : Sp.planThere t = false := by
  cases hp : Sp.planThere t
  · rfl
  · obtain ⟨h1, h2, h3⟩ := sumOk_parts h
    obtain ⟨hok, _, _, h4⟩ := planFor_on hp
    unfold Sp.planOk at h4
    rw [Bool.and_eq_true, decide_eq_true_eq] at h4
    obtain ⟨h5, h6⟩ := h4
    have hb := planRun_bd t t.start (Sp.planFor t)
    have h7 := h3 _ (by omega) h6
    unfold Sp.planRun at h5 h7
    split at h5
    · rename_i hc
      rw [if_pos hc] at h7
      exact absurd (goOn_par h1 h2 _ _ (start_lt hok) h5) h7
    · omega
theorem sumFor_some {t : Sp.Task} : (Sp.sumForB t = true ∧ ∃ f : Nat, f < 32 ∧ Sp.sumForN t = f ∧ Sp.sumOk t (f : Nat) = true) ∨ (Sp.sumForB t = false ∧ Sp.sumForN t = -1 ∧ ∀ f : Nat, f < 32 → Sp.sumOk t (f : Nat) = false) := by
  unfold Sp.sumForB Sp.sumForN
  cases hf : Sp.sumFor t with
  | none =>
    right
    refine ⟨rfl, rfl, fun f hlt => ?_⟩
    unfold Sp.sumFor at hf
    have := List.find?_eq_none.1 hf f (List.mem_range.2 hlt)
    simpa using this
  | some f =>
    left
    unfold Sp.sumFor at hf
    exact ⟨rfl, f, List.mem_range.1 (List.mem_of_find?_eq_some hf), rfl, List.find?_some (p := fun f => Sp.sumOk t (f : Nat)) hf⟩
/-- one of both is there -/
theorem sum_or_plan {t : Sp.Task} (hok : Sp.onlyTurns t = true) {g : Nat} (hg : g < 32) (h : Sp.truth t.goal = 2 ^ g) : Sp.planThere t = !Sp.sumForB t := by
  have hto := onlyTurns_taskOk hok
  have hst := start_lt hto
  rcases sumFor_some (t := t) with ⟨h1, f, _, _, h2⟩ | ⟨h1, _, h2⟩
  · rw [h1, sumOk_none h2]; rfl
  · rw [h1]
    show Sp.planThere t = true
    have hl : ∀ v ∈ t.deeds.map (fun d => d.flip.toNat), v < 32 := fun v hv => by
      obtain ⟨d, hd, rfl⟩ := List.mem_map.1 hv
      obtain ⟨k, hk, hkd⟩ := List.mem_iff_getElem.1 hd
      have hD := only_deed hok hk
      have hgd : t.deeds.getD k default = d := by simp [List.getD, hk, hkd]
      rw [hgd] at hD
      have := deedOk_flip hD.1
      show d.flip.toNat < 32
      omega
    rcases span_or _ hl (t.start.toNat ^^^ g) (xor_lt32 hst hg) with h3 | ⟨f, hf, h3, h4⟩
    · have := span_toGo hok hg ((goalOne_run h g hg).2 rfl) t.deeds (fun _ h => h) _ hst h3
      unfold Sp.planThere
      rw [hto, decide_eq_true this]; rfl
    · exfalso
      have h5 : Sp.sumOk t (f : Nat) = true := by
        unfold Sp.sumOk
        rw [Int.toNat_natCast]
        simp only [Bool.and_eq_true]
        refine ⟨⟨⟨by unfold Sp.stOk; simp; omega, hok⟩, List.all_eq_true.2 fun d hd => (evenFlip_par f d).2 (h3 _ (List.mem_map.2 ⟨d, hd, rfl⟩))⟩, (upTo_iff _ _).2 fun s hs => ?_⟩
        unfold Sp.apart
        cases hr : Sp.run t.goal s
        · rfl
        · obtain rfl := (goalOne_run h s hs).1 hr
          rw [even_par]
          rw [par_xor] at h4
          have : (Sp.par f s == Sp.par f t.start.toNat) = false := beq_eq_false_iff_ne.2 (by omega)
          rw [this]; rfl
      rw [h2 f hf] at h5
      cases h5

end Go.Proofs.YtphdojebdclonaaDoor
