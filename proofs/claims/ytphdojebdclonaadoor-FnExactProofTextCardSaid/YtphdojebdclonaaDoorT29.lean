/- The texts of proofs, plain; the reference's ProofText. No condition. -/
import Derived.Test.YtphdojebdclonaaDoorT28
namespace Go.Proofs.YtphdojebdclonaaDoor
set_option linter.unusedSimpArgs false
set_option linter.unusedVariables false
open Go.RowKit

/-- the text of a plan -/
def Sp.planText (l : List Int) : List UInt8 := [112, 108, 97, 110] ++ l.flatMap (fun k => 32 :: Lib.decDigits k.toNat)
/-- the text of a proof -/
def Sp.proofText (t : Sp.Task) : List UInt8 :=
  if Sp.taskOk t = true then
    if Sp.planThere t = true then Sp.planText (Sp.planFor t)
    else if Sp.sumForB t = true then [115, 117, 109, 32] ++ Sp.letters (Sp.sumForN t)
    else [99, 108, 111, 115, 101, 100, 32] ++ Lib.decDigits (Sp.reachedN t)
  else []
theorem planText_snoc (l : List Int) (k : Nat) (h : k < l.length) : Sp.planText (l.take (k + 1)) = Sp.planText (l.take k) ++ [32] ++ Lib.decDigits (l.getD k default).toNat := by
  unfold Sp.planText
  rw [List.take_succ_eq_append_getElem h, List.flatMap_append]
  simp [List.getD, List.getElem?_eq_getElem h]
theorem planText_len {l : List Int} (h : ∀ x ∈ l, 0 ≤ x ∧ x < 100) : (Sp.planText l).length ≤ 4 + 3 * l.length := by
  unfold Sp.planText
  have : ∀ m : List Int, (∀ x ∈ m, 0 ≤ x ∧ x < 100) → (m.flatMap (fun k => 32 :: Lib.decDigits k.toNat)).length ≤ 3 * m.length := by
    intro m hm
    induction m with
    | nil => simp
    | cons a m ih =>
      have h1 := ih (fun x hx => hm x (by simp [hx]))
      have h2 := hm a (by simp)
      have h3 := dec_len 2 a.toNat (by omega) (by omega)
      rw [List.flatMap_cons, List.length_append, List.length_cons, List.length_cons]
      omega
  have := this l h
  rw [List.length_append, show ([112, 108, 97, 110] : List UInt8).length = 4 from rfl]
  omega
theorem sumFor_bd (t : Sp.Task) : Sp.sumForB t = true → 0 ≤ Sp.sumForN t ∧ Sp.sumForN t ≤ 31 := by
  unfold Sp.sumForB Sp.sumForN
  intro h
  cases hs : Sp.sumFor t with
  | none => rw [hs] at h; cases h
  | some f =>
    have hf : f < 32 := by
      unfold Sp.sumFor at hs
      exact List.mem_range.1 (List.mem_of_find?_eq_some hs)
    simp only
    omega

theorem plan_els {t : Sp.Task} (h : Sp.planThere t = true) {k : Nat} (hk : k < (Sp.planFor t).length) : 0 ≤ (Sp.planFor t).getD k default ∧ (Sp.planFor t).getD k default < 6 := by
  obtain ⟨hok, _, _, hpk⟩ := planFor_on h
  have hrun : 0 ≤ Sp.planRun t t.start (Sp.planFor t) := by
    unfold Sp.planOk at hpk
    rw [Bool.and_eq_true, decide_eq_true_eq] at hpk
    exact hpk.1
  obtain ⟨_, _, _, hst⟩ := planRun_parts hrun
  obtain ⟨h1, h2, _⟩ := stAt_next hk (hst k) (hst (k + 1))
  have := taskOk_len hok
  omega
theorem plan_in {t : Sp.Task} (h : Sp.planThere t = true) : ∀ x ∈ Sp.planFor t, 0 ≤ x ∧ x < 100 := by
  intro x hx
  obtain ⟨k, hk, rfl⟩ := List.getElem_of_mem hx
  have := plan_els h hk
  rw [List.getD_eq_getElem?_getD, List.getElem?_eq_getElem hk] at this
  simp only [Option.getD_some] at this
  omega
theorem take_in {l : List Int} (h : ∀ x ∈ l, 0 ≤ x ∧ x < 100) (k : Nat) : ∀ x ∈ l.take k, 0 ≤ x ∧ x < 100 := fun x hx => h x (List.mem_of_mem_take hx)

set_option maxHeartbeats 4000000 in
set_option maxRecDepth 100000 in
theorem c_sProofText (v : Value) (t : Sp.Task) (w : World) (h : TaskV w v t) : Calls Tryd.prog 37 #[v] w (RetK (.string ⟨(Sp.proofText t).toArray⟩) w) := by
  obtain ⟨A, n, c, A', n', c', rfl⟩ := h.form
  have hk0 := (Kept.refl w).alloc (.cells #[.int .i64 t.start, .slice A n c, .slice A' n' c'] 26)
  have B0 := Blk.new w 26 #[.int .i64 t.start, .slice A n c, .slice A' n' c']
  have hT := h.keep hk0
  go_enter Tryd.func37, Tryd.ntmps37
  go_wp2_with fail
  refine (c_sTaskValid _ t _ hT).mono ?_; rintro e w2 ⟨rfl, hk2⟩
  replace hk0 := hk0.trans hk2
  replace B0 := B0.kept hk2
  replace hT := hT.keep hk2
  clear hk2 h
  have c0 := B0.cell
  cases ht : Sp.taskOk t
  · have HE : Hid (Sp.proofText t = []) := by show _ = _; unfold Sp.proofText; rw [if_neg (by rw [ht]; decide)]
    clear ht
    go_wp2_with fail
    go_ret
    exact ⟨by rw [HE.out]; rfl, hk0⟩
  have HOK := Lib.hid ht
  clear ht
  go_wp2_with fail
  refine (c_sPlanFor _ t _ hT).mono ?_; rintro e w3 ⟨v, rfl, ⟨A3, c3, rfl, hOI⟩, hk3⟩
  have hI := hOI.1
  have B3 := B0.kept hk3
  have hT3 := hT.keep hk3
  have hkw := hk0.trans hk3
  clear hOI hT B0 hk0 hk3 c0
  cases hp : Sp.planThere t
  · have c0 := B3.cell
    have HP := Lib.hid hp
    clear hp
    go_wp2_with fail
    refine (c_sSumFor _ t _ hT3).mono ?_; rintro e w4 ⟨rfl, hk4⟩
    have B4 := B3.kept hk4
    have hT4 := hT3.keep hk4
    have hkw4 := hkw.trans hk4
    clear c0
    cases hs : Sp.sumForB t
    · have hR : Sp.reached t = ((Sp.reachedN t : Nat) : Int) := by unfold Sp.reached; rw [if_pos HOK.out]
      have hRl := reachedN_lt HOK.out
      have HE : Hid (Sp.proofText t = [99, 108, 111, 115, 101, 100, 32] ++ Lib.decDigits (Sp.reachedN t)) := by
        show _ = _
        unfold Sp.proofText
        rw [if_pos HOK.out, if_neg (by rw [HP.out]; decide), if_neg (by rw [hs]; decide)]
      obtain ⟨S, HS⟩ : ∃ S : Nat, Hid (Sp.reachedN t = S) := ⟨_, rfl⟩
      rw [HS.out] at hR hRl HE
      have HRr := Lib.hid hR
      have c0 := B4.cell
      clear hs hR
      go_wp2_with fail
      refine (c_sReached _ t _ hT4).mono ?_; rintro e w5 ⟨rfl, hk5⟩
      rw [HRr.out]
      have hdl := dec_len 10 S (by omega) (by omega)
      go_wp2_with fail
      refine (c_l1Number S _ (by omega)).mono ?_; rintro e w6 ⟨rfl, hk6⟩
      obtain ⟨d, HD⟩ : ∃ d, Hid (Lib.decDigits S = d) := ⟨_, rfl⟩
      rw [HD.out] at hdl HE
      rw [HD.out]
      have hadd : (⟨#[99, 108, 111, 115, 101, 100, 32]⟩ : ByteArray) ++ ⟨d.toArray⟩ = ⟨([99, 108, 111, 115, 101, 100, 32] ++ d).toArray⟩ := str_add [99, 108, 111, 115, 101, 100, 32] d
      go_wp2_with fail
      go_ret
      exact ⟨by rw [HE.out]; rfl, (hkw4.trans hk5).trans hk6⟩
    · have hsb := sumFor_bd t hs
      have HE : Hid (Sp.proofText t = [115, 117, 109, 32] ++ Sp.letters (Sp.sumForN t)) := by
        show _ = _
        unfold Sp.proofText
        rw [if_pos HOK.out, if_neg (by rw [HP.out]; decide), if_pos hs]
      clear hs
      go_wp2_with fail
      refine (c_sLetters (Sp.sumForN t) _ hsb.1 hsb.2).mono ?_; rintro e w5 ⟨rfl, hk5⟩
      have hll := letters_len (Sp.sumForN t)
      obtain ⟨d, HD⟩ : ∃ d, Hid (Sp.letters (Sp.sumForN t) = d) := ⟨_, rfl⟩
      rw [HD.out] at hll HE
      rw [HD.out]
      have hadd : (⟨#[115, 117, 109, 32]⟩ : ByteArray) ++ ⟨d.toArray⟩ = ⟨([115, 117, 109, 32] ++ d).toArray⟩ := str_add [115, 117, 109, 32] d
      go_wp2_with fail
      go_ret
      exact ⟨by rw [HE.out]; rfl, hkw4.trans hk5⟩
  · have HP := Lib.hid hp
    have HPI := Lib.hid (plan_in hp)
    have hpl := (planFor_form t).1
    have HE : Hid (Sp.proofText t = Sp.planText (Sp.planFor t)) := by
      show _ = _
      unfold Sp.proofText
      rw [if_pos HOK.out, if_pos hp]
    have HEl : Hid (∀ k, k < (Sp.planFor t).length → 0 ≤ (Sp.planFor t).getD k default ∧ (Sp.planFor t).getD k default < 6) := fun k hk => plan_els HP.out hk
    obtain ⟨l, HLl⟩ : ∃ l, Hid (Sp.planFor t = l) := ⟨_, rfl⟩
    rw [HLl.out] at hI hpl HE HEl HPI
    rw [HLl.out]
    obtain ⟨m, HM⟩ : ∃ m, Hid (l.length = m) := ⟨_, rfl⟩
    rw [HM.out] at hI hpl
    rw [HM.out]
    have HI3 := Lib.hid hI
    clear hp hI
    go_wp2_with fail
    go_loopw [5, 6] (fun x i wr => ∃ k : Nat, k ≤ m ∧ i = .int .i64 (k : Int) ∧ x = .string ⟨(Sp.planText (l.take k)).toArray⟩ ∧ Kept w3 wr) (fun _ i _ => m - (intOf i).toNat)
    case atStart => exact ⟨0, Nat.zero_le _, rfl, rfl, Kept.refl _⟩
    case round =>
      obtain ⟨k, hk, rfl, rfl, hkr⟩ := hrel
      by_cases hlt : k < m
      · obtain ⟨b, o, e, hb, hc, _⟩ := (HI3.out.keep hkr).at hlt
        obtain ⟨y0, y6⟩ := HEl.out k (by rw [HM.out]; exact hlt)
        have HSn := Lib.hid (planText_snoc l k (by rw [HM.out]; exact hlt))
        have hxl : (Sp.planText (l.take k)).length ≤ 100 := by
          have h1 := planText_len (take_in HPI.out k)
          rw [List.length_take] at h1
          omega
        obtain ⟨y, hy⟩ := Int.eq_ofNat_of_zero_le y0
        rw [hy] at hc y6 HSn
        rw [Int.toNat_natCast] at HSn
        have hdl := dec_len 2 y (by omega) (by omega)
        obtain ⟨X, HX⟩ : ∃ X, Hid (Sp.planText (l.take k) = X) := ⟨_, rfl⟩
        rw [HX.out] at hxl HSn
        rw [HX.out]
        obtain ⟨d, HD⟩ : ∃ d, Hid (Lib.decDigits y = d) := ⟨_, rfl⟩
        rw [HD.out] at hdl HSn
        have hadd1 : (⟨X.toArray⟩ : ByteArray) ++ ⟨#[32]⟩ = ⟨(X ++ [32]).toArray⟩ := str_add1 X 32
        have hadd2 : (⟨(X ++ [32]).toArray⟩ : ByteArray) ++ ⟨d.toArray⟩ = ⟨(X ++ [32] ++ d).toArray⟩ := str_add (X ++ [32]) d
        have hlti : (k : Int) < (m : Int) := by omega
        subst e
        clear hy y0
        go_wp2_with fail
        refine (c_l1Number y _ (by omega)).mono ?_; rintro e w6 ⟨rfl, hk6⟩
        rw [HD.out]
        have hkN := hkr.trans hk6
        go_wp2_with fail
        exact ⟨⟨k + 1, by omega, by go_num, by rw [HSn.out]; simp, hkN⟩, by simp [intOf]; omega⟩
      · obtain rfl : k = m := by omega
        have HT : Hid (l.take k = l) := by show _ = _; rw [← HM.out]; exact List.take_length
        go_wp2_with fail
        go_ret
        exact ⟨by rw [HE.out, HT.out]; rfl, hkw.trans hkr⟩

end Go.Proofs.YtphdojebdclonaaDoor
