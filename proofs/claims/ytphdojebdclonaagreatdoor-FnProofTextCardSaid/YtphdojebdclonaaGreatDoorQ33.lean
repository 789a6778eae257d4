/- Joined texts. No condition. -/
import Derived.Test.YtphdojebdclonaaGreatDoorQ29
import Derived.Test.YtphdojebdclonaaGreatDoorQ12
import Derived.Test.YtphdojebdclonaaGreatDoorQ31
import Derived.Test.YtphdojebdclonaaGreatDoorQ32
/- The text of a task: plain, and the program's. The text of a task: the reference's. No sign of a canonical part is one that parts. Plain. No condition. -/
namespace Go.Proofs.YtphdojebdclonaaGreatDoor
set_option linter.unusedSimpArgs false
set_option linter.unusedVariables false
open Go.RowKit

def Sp.deedTail (d : Sp.Deed) : List UInt8 := 59 :: (Sp.codeText d.need ++ 58 :: (Sp.letters d.on ++ 44 :: (Sp.letters d.off ++ 44 :: Sp.letters d.flip)))
def Sp.textUp (t : Sp.Task) (k : Nat) : List UInt8 := Sp.letters t.start ++ 62 :: (Sp.codeText t.goal ++ (t.deeds.take k).flatMap Sp.deedTail)
def Sp.taskText (t : Sp.Task) : List UInt8 := if Sp.taskOk t = true then Sp.textUp t t.deeds.length else []
theorem letters_len (x : Int) : (Sp.letters x).length ≤ 5 := by
  unfold Sp.letters
  split
  · simp
  · exact lets_len _ 5
theorem deedTail_len (d : Sp.Deed) : (Sp.deedTail d).length ≤ 140 := by
  have h1 := codeText_len d.need
  have h2 := letters_len d.on
  have h3 := letters_len d.off
  have h4 := letters_len d.flip
  unfold Sp.deedTail
  simp only [List.length_cons, List.length_append]
  omega
theorem flat_len (l : List Sp.Deed) : (l.flatMap Sp.deedTail).length ≤ 140 * l.length := by
  induction l with
  | nil => simp
  | cons d l ih =>
    have := deedTail_len d
    simp only [List.flatMap_cons, List.length_append, List.length_cons]
    omega
theorem textUp_len (t : Sp.Task) (k : Nat) : (Sp.textUp t k).length ≤ 126 + 140 * k := by
  have h1 := codeText_len t.goal
  have h2 := letters_len t.start
  have h3 := flat_len (t.deeds.take k)
  have h4 : (t.deeds.take k).length ≤ k := by rw [List.length_take]; omega
  unfold Sp.textUp
  simp only [List.length_cons, List.length_append]
  omega
theorem textUp_zero (t : Sp.Task) : Sp.textUp t 0 = Sp.letters t.start ++ [62] ++ Sp.codeText t.goal := by simp [Sp.textUp]
theorem textUp_succ (t : Sp.Task) (k : Nat) (h : k < t.deeds.length) : Sp.textUp t (k + 1) = Sp.textUp t k ++ Sp.deedTail (t.deeds.getD k default) := by
  unfold Sp.textUp
  rw [List.take_succ_eq_append_getElem h, List.flatMap_append]
  simp [List.getElem?_eq_getElem h]
theorem textUp_ne (t : Sp.Task) (k : Nat) : Sp.textUp t k ≠ [] := by unfold Sp.textUp; simp
theorem taskText_no {t : Sp.Task} (h : Sp.taskOk t = false) : Sp.taskText t = [] := by unfold Sp.taskText; rw [if_neg (by rw [h]; decide)]
theorem taskText_yes {t : Sp.Task} (h : Sp.taskOk t = true) : Sp.taskText t = Sp.textUp t t.deeds.length := by unfold Sp.taskText; rw [if_pos h]

theorem Kept.beside {W0 wr w' : World} {b : Nat} (h : Kept W0 wr) (hb : Beside W0.heap.size b wr w') : Kept W0 w' := Below.trans h hb.1
theorem c_WriteB (B b : Nat) (l : List UInt8) (u : UInt8) (x : Int) (hx : x = (u.toNat : Int)) (w : World) (h : Bld w B b l) (hlen : l.length + 1 ≤ 1048576) (hBw : B ≤ w.heap.size) :
    Calls Tryz.prog 23 #[.pointer (some ⟨b, 0, none⟩), .int .u8 x] w (fun e w' => e = .returned .nilIface ∧ Bld w' B b (l ++ [u]) ∧ Beside B b w w') := by
  subst hx
  exact (c_WriteByte B b l u w h hlen hBw).mono fun _ _ h => ⟨h.1, .inr h.2.1, h.2.2⟩
theorem c_WriteS (B b : Nat) (l m : List UInt8) (w : World) (h : Bld w B b l) (hlen : l.length + m.length ≤ 1048576) (hBw : B ≤ w.heap.size) :
    Calls Tryz.prog 22 #[.pointer (some ⟨b, 0, none⟩), .string ⟨m.toArray⟩] w (fun e w' => e = .returned (.tuple #[.int .i64 (m.length : Nat), .nilIface]) ∧ Bld w' B b (l ++ m) ∧ Beside B b w w') :=
  (c_WriteString B b l m w h hlen hBw).mono fun _ _ h => ⟨h.1, .inr h.2.1, h.2.2⟩






















































































































































































end Go.Proofs.YtphdojebdclonaaGreatDoor

namespace Go.Proofs.YtphdojebdclonaaGreatDoor
set_option linter.unusedSimpArgs false
set_option linter.unusedVariables false
open Go.RowKit

theorem str_tail (x a b c d : List UInt8) : ((⟨x.toArray⟩ : ByteArray) ++ ⟨#[59]⟩ ++ ⟨a.toArray⟩ ++ ⟨#[58]⟩ ++ ⟨b.toArray⟩ ++ ⟨#[44]⟩ ++ ⟨c.toArray⟩ ++ ⟨#[44]⟩ ++ ⟨d.toArray⟩) = ⟨(x ++ 59 :: (a ++ 58 :: (b ++ 44 :: (c ++ 44 :: d)))).toArray⟩ := by
  rw [str_add1, str_add, str_add1, str_add, str_add1, str_add, str_add1, str_add]; simp































































































































































end Go.Proofs.YtphdojebdclonaaGreatDoor

namespace Go.Proofs.YtphdojebdclonaaGreatDoor
set_option linter.unusedSimpArgs false
set_option linter.unusedVariables false

/-- the signs of codes and of letters -/
def Sp.inner (x : UInt8) : Prop := x ≠ 59 ∧ x ≠ 58 ∧ x ≠ 44 ∧ x ≠ 62 ∧ x ≠ 32
theorem letters_fin : ∀ s : Fin 32, ∀ x ∈ Sp.letters ((s.val : Nat) : Int), x ≠ 59 ∧ x ≠ 58 ∧ x ≠ 44 ∧ x ≠ 62 ∧ x ≠ 32 := by decide +kernel
theorem letters_inner {s : Int} (h0 : 0 ≤ s) (h1 : s ≤ 31) : ∀ x ∈ Sp.letters s, Sp.inner x := by
  obtain ⟨k, rfl⟩ := Int.eq_ofNat_of_zero_le h0
  exact letters_fin ⟨k, by omega⟩
theorem sgn_fin : ∀ s : Fin 7, Sp.sgn ((s.val : Nat) : Int) ≠ 59 ∧ Sp.sgn ((s.val : Nat) : Int) ≠ 58 ∧ Sp.sgn ((s.val : Nat) : Int) ≠ 44 ∧ Sp.sgn ((s.val : Nat) : Int) ≠ 62 ∧ Sp.sgn ((s.val : Nat) : Int) ≠ 32 := by decide +kernel
theorem brk_inner {b : Bool} {l : List UInt8} (h : ∀ x ∈ l, Sp.inner x) : ∀ x ∈ Sp.brk b l, Sp.inner x := by
  intro x hx
  unfold Sp.brk at hx
  split at hx
  · rcases List.mem_cons.1 hx with rfl | hx
    · unfold Sp.inner; decide
    · rcases List.mem_append.1 hx with hx | hx
      · exact h x hx
      · obtain rfl := List.mem_singleton.1 hx
        unfold Sp.inner; decide
  · exact h x hx
theorem txt_inner {c : Sp.Cond} (hc : c.ok) : ∀ x ∈ c.txt, Sp.inner x := by
  induction c with
  | one s =>
    obtain ⟨h0, h6⟩ := hc
    obtain ⟨k, rfl⟩ := Int.eq_ofNat_of_zero_le h0
    intro x hx
    obtain rfl := List.mem_singleton.1 hx
    exact sgn_fin ⟨k, by omega⟩
  | neg c ih =>
    intro x hx
    rcases List.mem_cons.1 hx with rfl | hx
    · unfold Sp.inner; decide
    · exact brk_inner (ih hc) x hx
  | two s l h ihl ihh =>
    obtain ⟨_, h1, h2⟩ := hc
    intro x hx
    simp only [Sp.Cond.txt] at hx
    split at hx
    all_goals
      rcases List.mem_append.1 hx with hx | hx
      · exact brk_inner (ihl h1) x hx
      · rcases List.mem_cons.1 hx with rfl | hx
        · unfold Sp.inner; decide
        · exact brk_inner (ihh h2) x hx
theorem codeText_inner (l : List Int) : ∀ x ∈ Sp.codeText l, Sp.inner x := by
  cases h : Sp.codeOk l
  · rw [codeText_no h]; simp
  · rw [codeText_yes h]
    unfold Sp.Cond.text
    exact brk_inner (txt_inner (tree_code h).2.1)
/-- a deed's part of a text, without the sign ahead -/
def Sp.deedText (d : Sp.Deed) : List UInt8 := Sp.codeText d.need ++ 58 :: (Sp.letters d.on ++ 44 :: (Sp.letters d.off ++ 44 :: Sp.letters d.flip))
theorem deedText_noSemi {d : Sp.Deed} (h : Sp.deedOk d = true) : ∀ x ∈ Sp.deedText d, x ≠ 59 := by
  obtain ⟨o0, o1⟩ := deedOk_on h
  obtain ⟨f0, f1⟩ := deedOk_off h
  obtain ⟨p0, p1⟩ := deedOk_flip h
  intro x hx
  unfold Sp.deedText at hx
  rcases List.mem_append.1 hx with hx | hx
  · exact (codeText_inner _ x hx).1
  rcases List.mem_cons.1 hx with rfl | hx
  · decide
  rcases List.mem_append.1 hx with hx | hx
  · exact (letters_inner o0 o1 x hx).1
  rcases List.mem_cons.1 hx with rfl | hx
  · decide
  rcases List.mem_append.1 hx with hx | hx
  · exact (letters_inner f0 f1 x hx).1
  rcases List.mem_cons.1 hx with rfl | hx
  · decide
  exact (letters_inner p0 p1 x hx).1
/-- the parts of a valid task's text -/
theorem flat_cut (ds : List Sp.Deed) (h : ∀ d ∈ ds, Sp.deedOk d = true) (p : List UInt8) (hp : ∀ x ∈ p, x ≠ 59) : Sp.cutB 59 (p ++ ds.flatMap Sp.deedTail) = p :: ds.map Sp.deedText := by
  induction ds generalizing p with
  | nil => rw [List.flatMap_nil, List.append_nil, cutB_none _ _ hp]; rfl
  | cons d ds ih =>
    have hd := h d (by simp)
    rw [List.flatMap_cons]
    show Sp.cutB 59 (p ++ (59 :: Sp.deedText d ++ ds.flatMap Sp.deedTail)) = _
    rw [List.cons_append, cutB_app _ _ _ hp, ih (fun e he => h e (by simp [he])) _ (deedText_noSemi hd)]
    rfl

def Sp.headText (t : Sp.Task) : List UInt8 := Sp.letters t.start ++ 62 :: Sp.codeText t.goal
theorem headText_noSemi {t : Sp.Task} (h : Sp.taskOk t = true) : ∀ x ∈ Sp.headText t, x ≠ 59 := by
  obtain ⟨h0, h1⟩ := Sp.taskOk_start h
  intro x hx
  unfold Sp.headText at hx
  rcases List.mem_append.1 hx with hx | hx
  · exact (letters_inner h0 h1 x hx).1
  rcases List.mem_cons.1 hx with rfl | hx
  · decide
  exact (codeText_inner _ x hx).1
theorem taskText_form {t : Sp.Task} (h : Sp.taskOk t = true) : Sp.taskText t = Sp.headText t ++ t.deeds.flatMap Sp.deedTail := by
  rw [taskText_yes h]
  unfold Sp.textUp Sp.headText
  rw [List.take_length]; simp
theorem deeds_ok {t : Sp.Task} (h : Sp.taskOk t = true) : ∀ d ∈ t.deeds, Sp.deedOk d = true := by
  unfold Sp.taskOk at h
  simp only [Bool.and_eq_true, List.all_eq_true] at h
  exact h.2
theorem taskText_cut {t : Sp.Task} (h : Sp.taskOk t = true) : Sp.cutB 59 (Sp.taskText t) = Sp.headText t :: t.deeds.map Sp.deedText := by
  rw [taskText_form h, flat_cut _ (deeds_ok h) _ (headText_noSemi h)]
theorem head_cut {t : Sp.Task} (h : Sp.taskOk t = true) : Sp.cutB 62 (Sp.headText t) = [Sp.letters t.start, Sp.codeText t.goal] := by
  obtain ⟨h0, h1⟩ := Sp.taskOk_start h
  unfold Sp.headText
  rw [cutB_app _ _ _ (fun x hx => (letters_inner h0 h1 x hx).2.2.2.1), cutB_none _ _ (fun x hx => (codeText_inner _ x hx).2.2.2.1)]
theorem head_cut2 {t : Sp.Task} (h : Sp.taskOk t = true) : Lib.cut (Sp.headText t) [62] = (Sp.letters t.start, Sp.codeText t.goal, true) := by
  obtain ⟨h0, h1⟩ := Sp.taskOk_start h
  exact cut_hit _ _ _ (fun x hx => (letters_inner h0 h1 x hx).2.2.2.1)
/-- the three sets of a deed -/
def Sp.setsText (d : Sp.Deed) : List UInt8 := Sp.letters d.on ++ 44 :: (Sp.letters d.off ++ 44 :: Sp.letters d.flip)
theorem deed_cut2 (d : Sp.Deed) : Lib.cut (Sp.deedText d) [58] = (Sp.codeText d.need, Sp.setsText d, true) := cut_hit _ _ _ (fun x hx => (codeText_inner _ x hx).2.1)
theorem sets_noColon {d : Sp.Deed} (h : Sp.deedOk d = true) : ∀ x ∈ Sp.setsText d, x ≠ 58 := by
  obtain ⟨o0, o1⟩ := deedOk_on h
  obtain ⟨f0, f1⟩ := deedOk_off h
  obtain ⟨p0, p1⟩ := deedOk_flip h
  intro x hx
  unfold Sp.setsText at hx
  rcases List.mem_append.1 hx with hx | hx
  · exact (letters_inner o0 o1 x hx).2.1
  rcases List.mem_cons.1 hx with rfl | hx
  · decide
  rcases List.mem_append.1 hx with hx | hx
  · exact (letters_inner f0 f1 x hx).2.1
  rcases List.mem_cons.1 hx with rfl | hx
  · decide
  exact (letters_inner p0 p1 x hx).2.1
theorem deed_cut {d : Sp.Deed} (h : Sp.deedOk d = true) : Sp.cutB 58 (Sp.deedText d) = [Sp.codeText d.need, Sp.setsText d] := by
  show Sp.cutB 58 (Sp.codeText d.need ++ 58 :: Sp.setsText d) = _
  rw [cutB_app _ _ _ (fun x hx => (codeText_inner _ x hx).2.1), cutB_none _ _ (sets_noColon h)]
theorem sets_cut {d : Sp.Deed} (h : Sp.deedOk d = true) : Sp.cutB 44 (Sp.setsText d) = [Sp.letters d.on, Sp.letters d.off, Sp.letters d.flip] := by
  obtain ⟨o0, o1⟩ := deedOk_on h
  obtain ⟨f0, f1⟩ := deedOk_off h
  obtain ⟨p0, p1⟩ := deedOk_flip h
  unfold Sp.setsText
  rw [cutB_app _ _ _ (fun x hx => (letters_inner o0 o1 x hx).2.2.1), cutB_app _ _ _ (fun x hx => (letters_inner f0 f1 x hx).2.2.1), cutB_none _ _ (fun x hx => (letters_inner p0 p1 x hx).2.2.1)]

end Go.Proofs.YtphdojebdclonaaGreatDoor
