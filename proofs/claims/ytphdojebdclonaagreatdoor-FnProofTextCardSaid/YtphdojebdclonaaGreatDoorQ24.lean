/- Joined texts. No condition. -/
import Derived.ChangeVars
import Derived.LaidLaws
import Derived.Stop.Joined
import Derived.MakeChecks
import Derived.Lay
import Derived.Handed
import Derived.Lib.LaidTab
import Derived.Lib.ItoaNum
import Derived.Stop.LaidErr
import Derived.LaidHandle
import Derived.LaidSub
import Derived.Test.YtphdojebdclonaaGreatDoorQ18
import Derived.Test.YtphdojebdclonaaGreatDoorQ19
import Derived.Test.YtphdojebdclonaaGreatDoorQ23
/- The frame of a row that lists laid tables, and a contract that wants the world's shape. No condition. -/
namespace Go.Proofs.YtphdojebdclonaaGreatDoor
set_option linter.unusedSimpArgs false
set_option linter.unusedVariables false
open Go.ChangeShapes Go.WideShapes Go.ChangeAt Go.RowKit Go.Joins Go.Deep

/-- the row's list: the tables that the package utf8 lays -/
def laidU : List (String × DataW Unit) := [("unicode/utf8.acceptRanges", Rows.laid_unicode_utf8_acceptRanges), ("unicode/utf8.first", Rows.laid_unicode_utf8_first)]
theorem maxLen_cell {W : World} (h : W.ShapedOpen Tryz.prog) : ∃ m, W.cell? ⟨1, 0, none⟩ = some (.int .i64 m) := Tryz.laysM145.s1_3 W h

/-- a row's contract that is told of the world's shape and of what is laid -/
theorem rowShapedAnd {H : Type} {enc : TypeId × Value → H} {a : Assume} {C : Checked} {os : Os} {f : FuncId} {fn : Func} {s : ChangeSpec} {conds : List PathCond} {apart fresh handsOn again : Bool} {X : World → Array Value → Prop}
    (hX : ∀ (w w' : World) (args : Array Value), w.heap = w'.heap → X w args → X w' args)
    (own : ownKnob C.prog.godebug = none) (started : os.Started) (noInit : C.prog.inits.idxOf? f = none) (hfn : C.prog.funcs[f]? = some fn)
    (witness : ∃ (w : World) (tape : Tape) (i : Input), w.os = os ∧ (w.forCall tape i).Shaped C.prog ∧ i.vars = [] ∧ Input.okWide C.prog (w.forCall tape i) .any w.heap.size f i ∧
      ((s.pre enc C.prog fn conds apart (w.forCall tape i).memory i.args ∧ X (w.forCall tape i).memory i.args) ∧ sizedMet enc C.prog fn (OpenSpec.ofChange s) apart (w.forCall tape i).memory i.args) ∧ a.holds C.prog (lone (Frame.enter C.prog f i.args .normal) [] (w.forCall tape i)))
    (contract : ∀ (W : World) (base : Nat) (args : Array Value) (ds gs : List (DataW H)) (before : List MemPlace),
      (∀ (j : Nat) t v, fn.params[j]? = some t → args[j]? = some v → Value.okWide C.prog W .any base t v) →
      DataW.Whole enc C.prog fn.params.toList s.vars apart W args.toList ds gs before →
      W.ShapedOpen C.prog → X W args →
      Calls C.prog f args W fun e W' => ∃ v, e = .returned v ∧ s.post enc C.prog fn apart fresh handsOn again W args v W') :
    ReturnsInHanded a C os f .any (fun w args => (s.pre enc C.prog fn conds apart w args ∧ X w args) ∧ sizedMet enc C.prog fn (OpenSpec.ofChange s) apart w args) (s.post enc C.prog fn apart fresh handsOn again) := by
  refine returnsInHanded_of_calls own started noInit witness ?_
  intro w tape i _ hsh _ hok hpre _
  obtain ⟨_, _, _, fn2, hfn2, _, _, _, _, hval⟩ := hok
  obtain rfl : fn2 = fn := Option.some.inj (hfn2.symm.trans hfn)
  obtain ⟨⟨⟨ds, gs, before, hw, _⟩, hx⟩, _⟩ := hpre
  refine (contract (w.forCall tape i) w.heap.size i.args ds gs before hval (DataW.Whole.of_heap (w' := w.forCall tape i) (by rfl) hw) hsh (hX _ _ _ (by rfl) hx)).mono fun e W' h => ?_
  obtain ⟨v, rfl, hp⟩ := h
  exact ChangeSpec.post_blind hp

end Go.Proofs.YtphdojebdclonaaGreatDoor
/- The frame of a row that lists the tables of strconv. No condition. -/
namespace Go.Proofs.YtphdojebdclonaaGreatDoor
set_option linter.unusedSimpArgs false
set_option linter.unusedVariables false
open Go.ChangeShapes Go.WideShapes Go.ChangeAt Go.RowKit Go.Joins Go.Deep

/-- the row's list -/
def laidT : List (String × DataW Unit) := [("math/bits.deBruijn32tab", Rows.laid_math_bits_deBruijn32tab), ("math/bits.deBruijn64tab", Rows.laid_math_bits_deBruijn64tab), ("internal/strconv.uint64pow10", Rows.laid_internal_strconv_uint64pow10)]
theorem pow_data : (Rows.laid_internal_strconv_uint64pow10 : DataW Unit) = Lib.tabData .u64 Lib.pow10Tab := by kernel_rfl
theorem pow_of_laid {W : World} (h : laidMetH Tryz.prog laidT W) : Lib.TabIs Tryz.prog W "internal/strconv.uint64pow10" .u64 Lib.pow10Tab := by
  rw [MakeChecks.laidMetH_plain _ _ _ (by kernel_rfl)] at h
  have h2 := (laidMet.tail (laidMet.tail h))
  rw [pow_data] at h2
  exact Lib.tabIs_of_head (g := 2) (t := 159) (e := 136) (n := 20) (by kernel_rfl) (by kernel_rfl) Tryz.underlying159 Tryz.underlying136 (by kernel_rfl) (by kernel_rfl) h2

end Go.Proofs.YtphdojebdclonaaGreatDoor
/- Arguments opened: a slice of integers. No condition. -/
namespace Go.Proofs.YtphdojebdclonaaGreatDoor
set_option linter.unusedSimpArgs false
set_option linter.unusedVariables false
open Go.ChangeShapes Go.WideShapes Go.ChangeAt Go.RowKit

section
variable {H : Type} {enc : TypeId × Value → H} {w : World} {base : Nat} {spare : Nat → Bool} {held : Bool}
set_option maxRecDepth 100000 in
theorem open_intsV {v : Value} {d : DataW H} {p : List MemPlace} {r : Reach} {b0 : Nat} (hv : Value.okWide Tryz.prog w r b0 23 v) (h : DataW.Trod enc Tryz.prog w base spare held 23 v d p) :
    ∃ A n c l, v = .slice A n c ∧ Ints w A n l := by
  obtain ⟨a1, len1, cap1, rfl⟩ := okWide_slice Tryz.underlying23 hv
  obtain ⟨fuel, hf⟩ := h
  exact open_intsI (v := .slice a1 len1 cap1) hf
end

end Go.Proofs.YtphdojebdclonaaGreatDoor
/- What the package errors lays, as the row's condition tells it. No condition. -/
namespace Go.Proofs.YtphdojebdclonaaGreatDoor
set_option linter.unusedSimpArgs false
set_option linter.unusedVariables false
open Go.ChangeShapes Go.WideShapes Go.ChangeAt Go.RowKit Go.Joins Go.Deep

/-- the row's list: what the package errors lays -/
def laidE : List (String × DataW Unit) := [("errors.errorType", Rows.laid_errors_errorType)]
theorem eRow.et : Tryz.prog.globalNamed "errors.errorType" = some 0 := by kernel_rfl
theorem eRow.rt : (Tryz.prog.cutTypes.find? (·.1 == "internal/reflectlite.rtype")).map (·.2) = some 145 := by kernel_rfl
theorem eRow.one : ((List.range Tryz.prog.types.size).filter fun t => Tryz.prog.rowNamed t [101, 114, 114, 111, 114]) = [52] := by kernel_rfl

/-- what the condition gives a walk: the variable's one cell -/
theorem errG_of_laid {W : World} (h : laidMetH Tryz.prog laidE W) : ErrG W := by
  have h' : laidMet Tryz.prog [] W ∧ handlesMet Tryz.prog laidE W := h
  obtain ⟨name, u, ty, e1, e2, e3, e4, e5⟩ := h'.2 _ (List.mem_singleton.2 rfl)
  have en : name = [101, 114, 114, 111, 114] := (Option.some.inj e1).symm
  subst en
  obtain rfl := Option.some.inj (eRow.rt.symm.trans e2)
  have hm : ty ∈ (List.range Tryz.prog.types.size).filter fun t => Tryz.prog.rowNamed t [101, 114, 114, 111, 114] := List.mem_filter.2 ⟨List.mem_range.2 e3, e4⟩
  rw [eRow.one] at hm
  obtain rfl := List.mem_singleton.1 hm
  have hh : typeHandle Tryz.prog 52 = .pointer (some ⟨7, 52, none⟩) := by kernel_rfl
  rw [hh] at e5
  unfold ErrG
  simpa using World.var?_cell eRow.et e5 0

/-- a world that meets the condition -/
noncomputable def laidWorld (os : Os) : World :=
  let w0 := World.holding Tryz.prog os ⟨#[], #[], []⟩
  { w0 with heap := w0.heap.modify 0 fun
      | .cells _ t frozen => .cells #[.iface 145 (.agg #[.pointer (some ⟨7, 52, none⟩)])] t frozen
      | o => o }
theorem laidWorld_met (os : Os) (args : Array Value) : laidMetH Tryz.prog laidE ((laidWorld os).forCall (fun _ _ => 0) ⟨#[], args, []⟩).memory :=
  laidMetH_of_parts (laidMet_nil _ _) (by kernel_rfl)

end Go.Proofs.YtphdojebdclonaaGreatDoor
/- The frame of a row that lists the tables of utf8 and what the package errors lays, and one with the tables of strconv besides. No condition. -/
namespace Go.Proofs.YtphdojebdclonaaGreatDoor
set_option linter.unusedSimpArgs false
set_option linter.unusedVariables false
open Go.ChangeShapes Go.WideShapes Go.ChangeAt Go.RowKit Go.Joins Go.Deep

/-- the row's list -/
def laidR : List (String × DataW Unit) := [("unicode/utf8.acceptRanges", Rows.laid_unicode_utf8_acceptRanges), ("errors.errorType", Rows.laid_errors_errorType), ("unicode/utf8.first", Rows.laid_unicode_utf8_first)]
/-- the greater row's list, and what of it is plain data -/
def laidG : List (String × DataW Unit) := [("math/bits.deBruijn32tab", Rows.laid_math_bits_deBruijn32tab), ("math/bits.deBruijn64tab", Rows.laid_math_bits_deBruijn64tab), ("internal/strconv.uint64pow10", Rows.laid_internal_strconv_uint64pow10), ("unicode/utf8.acceptRanges", Rows.laid_unicode_utf8_acceptRanges), ("errors.errorType", Rows.laid_errors_errorType), ("unicode/utf8.first", Rows.laid_unicode_utf8_first)]
def laidGd : List (String × DataW Unit) := [("math/bits.deBruijn32tab", Rows.laid_math_bits_deBruijn32tab), ("math/bits.deBruijn64tab", Rows.laid_math_bits_deBruijn64tab), ("internal/strconv.uint64pow10", Rows.laid_internal_strconv_uint64pow10), ("unicode/utf8.acceptRanges", Rows.laid_unicode_utf8_acceptRanges), ("unicode/utf8.first", Rows.laid_unicode_utf8_first)]

theorem errG_of_R {W : World} (h : laidMetH Tryz.prog laidR W) : ErrG W := by
  have h2 := h.filter (fun x => x.1 == "errors.errorType")
  have e : (laidR.filter fun x => x.1 == "errors.errorType") = laidE := by kernel_rfl
  rw [e] at h2
  exact errG_of_laid h2
theorem errG_of_G {W : World} (h : laidMetH Tryz.prog laidG W) : ErrG W := by
  have h2 := h.filter (fun x => x.1 == "errors.errorType")
  have e : (laidG.filter fun x => x.1 == "errors.errorType") = laidE := by kernel_rfl
  rw [e] at h2
  exact errG_of_laid h2
theorem pow_of_G {W : World} (h : laidMetH Tryz.prog laidG W) : Lib.TabIs Tryz.prog W "internal/strconv.uint64pow10" .u64 Lib.pow10Tab := by
  have h2 := h.filter (fun x => x.1 == "math/bits.deBruijn32tab" || x.1 == "math/bits.deBruijn64tab" || x.1 == "internal/strconv.uint64pow10")
  have e : (laidG.filter fun x => x.1 == "math/bits.deBruijn32tab" || x.1 == "math/bits.deBruijn64tab" || x.1 == "internal/strconv.uint64pow10") = laidT := by kernel_rfl
  rw [e] at h2
  exact pow_of_laid h2

/-- a world in which the variable of errors is laid -/
noncomputable def holdE (os : Os) : World :=
  let w0 := World.holding Tryz.prog os ⟨#[], #[], []⟩
  { w0 with heap := w0.heap.modify 0 fun
      | .cells _ t frozen => .cells #[.iface 145 (.agg #[.pointer (some ⟨7, 52, none⟩)])] t frozen
      | o => o }
noncomputable def laidWorldR (os : Os) : World := (holdE os).layVars Tryz.prog laidU
noncomputable def laidWorldG (os : Os) : World := (holdE os).layVars Tryz.prog laidGd
theorem laidWorldR_os (os : Os) : (laidWorldR os).os = os := World.layVars_os _ _ _
theorem laidWorldG_os (os : Os) : (laidWorldG os).os = os := World.layVars_os _ _ _
theorem laidU_met (os : Os) : laidMet Tryz.prog laidU (laidWorldR os) := by
  have e1 : (laidU.filter fun x => ["unicode/utf8.acceptRanges", "unicode/utf8.first"].contains x.1) = laidU := by kernel_rfl
  have e2 : (laidU.filter fun x => !["unicode/utf8.acceptRanges", "unicode/utf8.first"].contains x.1) = [] := by kernel_rfl
  exact laidMet_layVars (w0 := holdE os) ["unicode/utf8.acceptRanges", "unicode/utf8.first"] [] (by rw [e1]; rfl) (by rw [e1]; kernel_rfl) (by rw [e1]; kernel_rfl) (by rw [e2]; exact LaidIn.none)
theorem laidGd_met (os : Os) : laidMet Tryz.prog laidGd (laidWorldG os) := by
  have e1 : (laidGd.filter fun x => (laidGd.map (·.1)).contains x.1) = laidGd := by kernel_rfl
  have e2 : (laidGd.filter fun x => !(laidGd.map (·.1)).contains x.1) = [] := by kernel_rfl
  exact laidMet_layVars (w0 := holdE os) (laidGd.map (·.1)) [] (by rw [e1]; rfl) (by rw [e1]; kernel_rfl) (by rw [e1]; kernel_rfl) (by rw [e2]; exact LaidIn.none)
theorem laidWorldR_met (os : Os) (args : Array Value) : laidMetH Tryz.prog laidR ((laidWorldR os).forCall (fun _ _ => 0) ⟨#[], args, []⟩).memory := by
  refine laidMetH_of_parts ?_ (by kernel_rfl)
  have e : (laidR.filter fun x => x.2.handleName?.isNone) = laidU := by kernel_rfl
  rw [e]
  exact (laidU_met os).of_heap (by simp [World.memory, World.forCall, Input.heap])
theorem laidWorldG_met (os : Os) (args : Array Value) : laidMetH Tryz.prog laidG ((laidWorldG os).forCall (fun _ _ => 0) ⟨#[], args, []⟩).memory := by
  refine laidMetH_of_parts ?_ (by kernel_rfl)
  have e : (laidG.filter fun x => x.2.handleName?.isNone) = laidGd := by kernel_rfl
  rw [e]
  exact (laidGd_met os).of_heap (by simp [World.memory, World.forCall, Input.heap])

end Go.Proofs.YtphdojebdclonaaGreatDoor
