/- The statement of FnReadTask: for every input the law returns true, and the input reads as it did. No condition. -/
import Derived.Test.YtphdojebdclonaaDoorRowS
import Derived.Test.YtphdojebdclonaaDoorTie
import Derived.Test.YtphdojebdclonaaDoorCards
import Derived.SevenTiedAt
import Derived.Test.YtphdojebdclonaaDoorRowB
import Derived.Test.YtphdojebdclonaaDoorLReadTask
namespace Go.Proofs.YtphdojebdclonaaDoor.pFnReadTask
set_option linter.unusedSimpArgs false
set_option linter.unusedVariables false
open Go.ChangeShapes Go.WideShapes Go.ChangeAt Go.RowKit
open Go.ChangeMaps (open_string shut_string)
set_option linter.unusedVariables false

set_option maxRecDepth 100000 in
theorem lifted (os : Os) (started : os.Started) (H : Type) (enc : TypeId × Value → H) :
    ReturnsInHanded {} Tryd.checked os 8 .any (fun w args => (Rows.fnReadTaskSpec.pre enc Tryd.prog Tryd.f8 Rows.fnReadTaskRow.domain false w args ∧ laidMetH Tryd.prog laidU w) ∧ sizedMet enc Tryd.prog Tryd.f8 (OpenSpec.ofChange Rows.fnReadTaskSpec) false w args) (Rows.fnReadTaskSpec.post enc Tryd.prog Tryd.f8 false true false false) := by
  refine rowShapedAnd (C := Tryd.checked) (X := fun w _ => laidMetH Tryd.prog laidU w) (fun _ _ _ hh h => h.of_heap hh) own started (by kernel_rfl) Tryd.func8
    (ChangeSpec.witness_shaped (enc := enc) (C := Tryd.checked) (os := os) (X := fun w _ => laidMetH Tryd.prog laidU w) false (World.laidAll Tryd.prog os laidU) #[.slice none 0 0] 8 (World.laidAll_os _ _ _)
      (World.shaped_of_ZipB (by kernel_rfl) (by kernel_rfl)) (by kernel_rfl) (by kernel_rfl) (by kernel_rfl)
      (by rw [MakeChecks.laidMetH_plain _ _ _ (by kernel_rfl)]; exact laidMet_laidAll _ (by kernel_rfl) (by kernel_rfl))) ?_
  intro W base args ds gs before hval0 hW hsh hL
  have hval : ∀ (j : Nat) t v, Tryd.f8.params[j]? = some t → args[j]? = some v → Value.okWide Tryd.prog W .any base t v := hval0
  have hW' := hW
  obtain ⟨p, q, hA0, hV, rfl, hfz, hnd⟩ := hW
  have hA : DataW.TrodAll enc Tryd.prog W 0 (fun _ => true) true Tryd.f8.params.toList args.toList ds p := hA0
  rw [Tryd.params8] at hA hval
  obtain ⟨v0, vs0, d0, ds0, p0, q0, hargs, rfl, rfl, h0, r0⟩ := trodAll_cons hA
  obtain ⟨rfl, rfl, rfl⟩ := trodAll_nil r0
  obtain rfl : args = #[v0] := by cases args; simp_all
  obtain ⟨rfl, rfl⟩ := trodVars_none hV
  have k0 := h0
  have lt0 : ∀ x ∈ p0, x.block < W.heap.size := by obtain ⟨m, hm⟩ := k0; exact DataW.trod_lt m _ _ _ hm
  obtain ⟨A0, n0, c0, rfl, w0⟩ := open_bytesV (hval 0 22 v0 rfl rfl) h0
  clear hA0 hval0
  refine (l_ReadTaskFn A0 n0 c0 W w0 (maxLen_cell hsh)).mono fun e W1 ⟨he, bel⟩ => ?_
  subst he
  exact ⟨_, rfl, _, _, _, [], _, [], hW', trodAll_mk1 (shut_bool Tryd.underlying4 _), (trodAll_cons_mk (Below.trod laidOut (by kernel_rfl) (of_decide_eq_true (by kernel_rfl)) k0 bel lt0) trodAll_mk0), rfl, Below.frame bel _, fun h => by cases h⟩

theorem closed : joinedFacts Tryd.pinned.checked.prog 8 Tryd.f8 Rows.fnReadTaskSpec Rows.fnReadTaskRow = true := by
  kernel_rfl

theorem over : Rows.fnReadTaskRow.holds Tryd.pinned (OpenSpec.ofChange Rows.fnReadTaskSpec) :=
  OpenClaim.holds_of_wide 8 Tryd.f8 rfl rfl rfl rfl rfl rfl rfl ⟨rfl, rfl, rfl, rfl, rfl⟩ rfl rfl rfl rfl rfl (by kernel_rfl) Tryd.func8 closed
    (of_decide_eq_true (by kernel_rfl)) (by unfold Func.isWrapper; first | (rw [if_pos (by decide +kernel)]; kernel_rfl) | (rw [if_neg (by decide +kernel)]; exact ⟨rfl, rfl⟩))
    (fun os started H enc _ => lifted os started H enc)

theorem card : Rows.FnReadTaskCardSaid :=
  Claim7.holds_tied_plain_at .later [] [.data, .pinned] true (true, "19265949101733755eeb71189a8b77a4f4d17207baa35b681ad8a429d1987f41") true
    over (fun _ h => by cases h) (by kernel_rfl) (fun _ h => by cases h) fnReadTask_row_tie rfl ⟨rfl, rfl⟩ (by kernel_rfl) rfl
    (fun f fn hf hfn => by
      obtain rfl : f = 8 := Option.some.inj ((show Tryd.prog.funcNamed "loop.example/switchpuzzles/laws.FnReadTask" = some 8 by kernel_rfl).symm.trans hf) |>.symm
      obtain rfl : fn = Tryd.f8 := (Option.some.inj (Tryd.func8.symm.trans hfn)).symm
      exact ⟨by kernel_rfl, fun j t ht => by
        rw [Tryd.params8] at ht
        rcases j with _ | j
        all_goals first | (simp at ht; done) | (obtain rfl := Option.some.inj ht; kernel_rfl)⟩)
    (by kernel_rfl)

/-- The statement. -/
theorem proved : Rows.FnReadTaskCardSaid := card

end Go.Proofs.YtphdojebdclonaaDoor.pFnReadTask

