/- The statement of FnProofText: for every input the law returns true, and the input reads as it did. No condition. -/
import Derived.Test.YtphdojebdclonaaGreatDoorQ24
import Derived.Test.YtphdojebdclonaaGreatDoorTie
import Derived.Test.YtphdojebdclonaaGreatDoorCards
import Derived.SevenTiedAt
import Derived.Test.YtphdojebdclonaaGreatDoorQ18
import Derived.Test.YtphdojebdclonaaGreatDoorQLProofText
namespace Go.Proofs.YtphdojebdclonaaGreatDoor.pFnProofText
set_option linter.unusedSimpArgs false
set_option linter.unusedVariables false
open Go.ChangeShapes Go.WideShapes Go.ChangeAt Go.RowKit
open Go.ChangeMaps (open_string shut_string)
set_option linter.unusedVariables false

set_option maxRecDepth 100000 in
theorem lifted (os : Os) (started : os.Started) (H : Type) (enc : TypeId × Value → H) :
    ReturnsInHanded {} Tryz.checked os 3 .any (fun w args => (Rows.fnProofTextSpec.pre enc Tryz.prog Tryz.f3 Rows.fnProofTextRow.domain false w args ∧ laidMetH Tryz.prog laidG w) ∧ sizedMet enc Tryz.prog Tryz.f3 (OpenSpec.ofChange Rows.fnProofTextSpec) false w args) (Rows.fnProofTextSpec.post enc Tryz.prog Tryz.f3 false true false false) := by
  refine rowShapedAnd (C := Tryz.checked) (X := fun w _ => laidMetH Tryz.prog laidG w) (fun _ _ _ hh h => h.of_heap hh) own started (by kernel_rfl) Tryz.func3
    (ChangeSpec.witness_shaped (enc := enc) (C := Tryz.checked) (os := os) (X := fun w _ => laidMetH Tryz.prog laidG w) false (laidWorldG os) #[.slice none 0 0] 8 (laidWorldG_os _)
      (World.shaped_of_ZipB (by kernel_rfl) (by kernel_rfl)) (by kernel_rfl) (by kernel_rfl) (by kernel_rfl)
      (laidWorldG_met os _)) ?_
  intro W base args ds gs before hval0 hW hsh hL
  have hval : ∀ (j : Nat) t v, Tryz.f3.params[j]? = some t → args[j]? = some v → Value.okWide Tryz.prog W .any base t v := hval0
  have hW' := hW
  obtain ⟨p, q, hA0, hV, rfl, hfz, hnd⟩ := hW
  have hA : DataW.TrodAll enc Tryz.prog W 0 (fun _ => true) true Tryz.f3.params.toList args.toList ds p := hA0
  rw [Tryz.params3] at hA hval
  obtain ⟨v0, vs0, d0, ds0, p0, q0, hargs, rfl, rfl, h0, r0⟩ := trodAll_cons hA
  obtain ⟨rfl, rfl, rfl⟩ := trodAll_nil r0
  obtain rfl : args = #[v0] := by cases args; simp_all
  obtain ⟨rfl, rfl⟩ := trodVars_none hV
  have k0 := h0
  have lt0 : ∀ x ∈ p0, x.block < W.heap.size := by obtain ⟨m, hm⟩ := k0; exact DataW.trod_lt m _ _ _ hm
  obtain ⟨A0, n0, c0, rfl, w0⟩ := open_bytesV (hval 0 22 v0 rfl rfl) h0
  clear hA0 hval0
  refine (l_ProofTextFn A0 n0 c0 W w0 (maxLen_cell hsh) (errG_of_G hL) (pow_of_G hL)).mono fun e W1 ⟨he, bel⟩ => ?_
  subst he
  exact ⟨_, rfl, _, _, _, [], _, [], hW', trodAll_mk1 (shut_bool Tryz.underlying4 _), (trodAll_cons_mk (Below.trod laidOut (by kernel_rfl) (of_decide_eq_true (by kernel_rfl)) k0 bel lt0) trodAll_mk0), rfl, Below.frame bel _, fun h => by cases h⟩

theorem closed : joinedFacts Tryz.pinned.checked.prog 3 Tryz.f3 Rows.fnProofTextSpec Rows.fnProofTextRow = true := by
  kernel_rfl

theorem over : Rows.fnProofTextRow.holds Tryz.pinned (OpenSpec.ofChange Rows.fnProofTextSpec) :=
  OpenClaim.holds_of_wide 3 Tryz.f3 rfl rfl rfl rfl rfl rfl rfl ⟨rfl, rfl, rfl, rfl, rfl⟩ rfl rfl rfl rfl rfl (by kernel_rfl) Tryz.func3 closed
    (of_decide_eq_true (by kernel_rfl)) (by unfold Func.isWrapper; first | (rw [if_pos (by decide +kernel)]; kernel_rfl) | (rw [if_neg (by decide +kernel)]; exact ⟨rfl, rfl⟩))
    (fun os started H enc _ => lifted os started H enc)

theorem card : Rows.FnProofTextCardSaid :=
  Claim7.holds_tied_plain_at .later [] [.data, .data, .data, .data, .handle, .pinned] true (true, "f36c0a704bb277e3c64eeb18adad54b8e7034b10e00b8ae0d968ed009274064e") true
    over (fun _ h => by cases h) (by kernel_rfl) (fun _ h => by cases h) fnProofText_row_tie rfl ⟨rfl, rfl⟩ (by kernel_rfl) rfl
    (fun f fn hf hfn => by
      obtain rfl : f = 3 := Option.some.inj ((show Tryz.prog.funcNamed "loop.example/switchpuzzles/laws.FnProofText" = some 3 by kernel_rfl).symm.trans hf) |>.symm
      obtain rfl : fn = Tryz.f3 := (Option.some.inj (Tryz.func3.symm.trans hfn)).symm
      exact ⟨by kernel_rfl, fun j t ht => by
        rw [Tryz.params3] at ht
        rcases j with _ | j
        all_goals first | (simp at ht; done) | (obtain rfl := Option.some.inj ht; kernel_rfl)⟩)
    (by kernel_rfl)

/-- The statement. -/
theorem proved : Rows.FnProofTextCardSaid := card

end Go.Proofs.YtphdojebdclonaaGreatDoor.pFnProofText

