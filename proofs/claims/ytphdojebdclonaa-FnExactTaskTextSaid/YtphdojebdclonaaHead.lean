/- The head of the given program's form: it may be entered, and bears no lift. No condition. -/
import Derived.Test.YtphdojebdclonaaRow
namespace Go.Proofs.Ytphdojebdclonaa

theorem words_front (w r : List Char) (h : ∀ c ∈ w, c ≠ Char.ofNat 32) : wordsSigns (w ++ Char.ofNat 32 :: r) = w :: wordsSigns r := by
  induction w with
  | nil => rfl
  | cons c w ih =>
    have h1 := ih (fun x hx => h x (List.mem_cons_of_mem _ hx))
    have hc : c ≠ Char.ofNat 32 := h c List.mem_cons_self
    show wordsSigns (c :: (w ++ Char.ofNat 32 :: r)) = _
    rw [wordsSigns.eq_3 c (w ++ Char.ofNat 32 :: r) (fun e => hc e), h1]
theorem words_behind (h s r : List Char) (hh : ∀ c ∈ h, c ≠ Char.ofNat 32) (hs : ∀ c ∈ s, c ≠ Char.ofNat 32) (h1 : (h == "harness".toList || h == "ownmain".toList) = true) (h2 : isSumSigns s = true) :
    behindMainWord (wordsSigns (h ++ Char.ofNat 32 :: (s ++ Char.ofNat 32 :: r))) = wordsSigns r := by
  rw [words_front h _ hh, words_front s _ hs]
  show (if ((h == "harness".toList || h == "ownmain".toList) && isSumSigns s) = true then wordsSigns r else h :: s :: wordsSigns r) = _
  rw [h1, h2]; rfl
theorem free_of {l : List Char} (h : l.all (fun c => !(c == Char.ofNat 32)) = true) : ∀ c ∈ l, c ≠ Char.ofNat 32 := fun c hc e => by
  have := List.all_eq_true.1 h c hc
  subst e
  exact absurd this (by decide)
set_option maxRecDepth 100000 in
theorem signs_eq : Try.prog.initOrder = String.ofList (List.map Char.ofNat [104, 97, 114, 110, 101, 115, 115] ++ Char.ofNat 32 :: (List.map Char.ofNat [54, 53, 57, 100, 102, 54, 49, 52, 101, 99, 52, 57, 57, 49, 49, 101, 97, 56, 53, 57, 55, 100, 56, 48, 100, 48, 100, 99, 49, 51, 50, 57, 101, 54, 57, 57, 50, 49, 100, 48,
    49, 100, 49, 49, 51, 97, 101, 101, 102, 48, 97, 57, 99, 55, 102, 97, 56, 99, 48, 51, 48, 102, 57, 100] ++ Char.ofNat 32 ::
    (List.map Char.ofNat [99, 117, 116] ++ Char.ofNat 32 :: List.map Char.ofNat [97, 116, 32, 108, 111, 111, 112, 46, 101, 120, 97, 109, 112, 108, 101, 47, 115, 119, 105, 116, 99, 104, 112, 117, 122, 122, 108, 101, 115, 47, 108, 97, 119, 115, 46, 70, 110, 69, 120, 97,
    99, 116, 78, 101, 101, 100, 101, 100, 32, 108, 111, 111, 112, 46, 101, 120, 97, 109, 112, 108, 101, 47, 115, 119, 105, 116, 99, 104, 112, 117, 122, 122, 108, 101, 115, 47, 108, 97, 119, 115,
    46, 70, 110, 78, 101, 101, 100, 101, 100, 32, 108, 111, 111, 112, 46, 101, 120, 97, 109, 112, 108, 101, 47, 115, 119, 105, 116, 99, 104, 112, 117, 122, 122, 108, 101, 115, 47, 108, 97, 119,
    115, 46, 70, 110, 69, 120, 97, 99, 116, 80, 108, 97, 110, 115, 77, 97, 110, 121, 32, 108, 111, 111, 112, 46, 101, 120, 97, 109, 112, 108, 101, 47, 115, 119, 105, 116, 99, 104, 112, 117,
    122, 122, 108, 101, 115, 47, 108, 97, 119, 115, 46, 70, 110, 69, 120, 97, 99, 116, 80, 108, 97, 110, 83, 104, 111, 114, 116, 32, 108, 111, 111, 112, 46, 101, 120, 97, 109, 112, 108, 101,
    47, 115, 119, 105, 116, 99, 104, 112, 117, 122, 122, 108, 101, 115, 47, 108, 97, 119, 115, 46, 70, 110, 80, 108, 97, 110, 83, 104, 111, 114, 116, 32, 108, 111, 111, 112, 46, 101, 120, 97,
    109, 112, 108, 101, 47, 115, 119, 105, 116, 99, 104, 112, 117, 122, 122, 108, 101, 115, 47, 108, 97, 119, 115, 46, 70, 110, 69, 120, 97, 99, 116, 84, 97, 115, 107, 84, 101, 120, 116]))) := by kernel_rfl
theorem head_of {s : String} {h u c r : List Char} (e : s = String.ofList (h ++ Char.ofNat 32 :: (u ++ Char.ofNat 32 :: (c ++ Char.ofNat 32 :: r)))) (hh : ∀ x ∈ h, x ≠ Char.ofNat 32) (hu : ∀ x ∈ u, x ≠ Char.ofNat 32) (hc : ∀ x ∈ c, x ≠ Char.ofNat 32)
    (h1 : (h == "harness".toList || h == "ownmain".toList) = true) (h2 : isSumSigns u = true) : ∃ R, behindMainWord (wordsSigns s.toList) = c :: R := by
  subst e
  exact ⟨wordsSigns r, by rw [String.toList_ofList, words_behind h u _ hh hu h1 h2, words_front c r hc]⟩
theorem head_words : ∃ R, behindMainWord (wordsSigns Try.prog.initOrder.toList) = List.map Char.ofNat [99, 117, 116] :: R :=
  head_of signs_eq (free_of (by kernel_rfl)) (free_of (by kernel_rfl)) (free_of (by kernel_rfl)) (by kernel_rfl) (by kernel_rfl)
theorem strip_cut (R : List (List Char)) : stripLifts liftWords (List.map Char.ofNat [99, 117, 116] :: R) = ([], List.map Char.ofNat [99, 117, 116] :: R) := by kernel_rfl
theorem may_of {P : Program} {R : List (List Char)} (hR : behindMainWord (wordsSigns P.initOrder.toList) = List.map Char.ofNat [99, 117, 116] :: R) (h1 : P.laysLater = false) (h2 : P.bearsReflect = false) (h3 : P.doorFits [] = true) : P.mayEnter = true := by
  unfold Program.mayEnter
  rw [hR]
  simp only [strip_cut]
  rw [h1, h2, h3]
  rfl
theorem mayEnter : Try.pinned.checked.prog.mayEnter = true := by
  obtain ⟨R, hR⟩ := head_words
  exact may_of hR (by kernel_rfl) (by kernel_rfl) (by kernel_rfl)
theorem make_of {P : Program} {R : List (List Char)} (hR : behindMainWord (wordsSigns P.initOrder.toList) = List.map Char.ofNat [99, 117, 116] :: R) : P.make = some .cut := by
  unfold Program.make
  rw [hR]
  rfl
theorem make : Try.pinned.checked.prog.make = some .cut := by
  obtain ⟨R, hR⟩ := head_words
  exact make_of hR
theorem liftsFinal : Try.pinned.checked.prog.liftsFinal = false := by
  obtain ⟨R, hR⟩ := head_words
  show Try.prog.liftsFinal = false
  unfold Program.liftsFinal Program.headLifts
  rw [hR, strip_cut]
  kernel_rfl

end Go.Proofs.Ytphdojebdclonaa
