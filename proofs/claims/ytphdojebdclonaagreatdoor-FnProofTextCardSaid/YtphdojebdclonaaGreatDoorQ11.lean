/- Joined texts. No condition. -/
import Derived.Laws.IdiomStrings
import Derived.Lib.UnsafeStr
import Derived.Lib.Builder
import Derived.Laws.Concat
import Derived.Test.YtphdojebdclonaaGreatDoorQ10
import Derived.Test.YtphdojebdclonaaGreatDoorQ8
/- Plain: codes as trees, their texts. No program in sight. The letters of a set of facts: plain, and the walks of both. The reference's CodeText: where a part of a code begins, its text. No condition. -/
namespace Go.Proofs.YtphdojebdclonaaGreatDoor
set_option linter.unusedSimpArgs false
set_option linter.unusedVariables false

/-- a code as a tree -/
inductive Sp.Cond where
  | one (s : Int)
  | neg (c : Sp.Cond)
  | two (s : Int) (l h : Sp.Cond)
  deriving Inhabited

def Sp.Cond.steps : Sp.Cond → List Int
  | .one s => [s]
  | .neg c => c.steps ++ [7]
  | .two s l h => l.steps ++ h.steps ++ [s]
def Sp.Cond.ok : Sp.Cond → Prop
  | .one s => 0 ≤ s ∧ s ≤ 6
  | .neg c => c.ok
  | .two s l h => (s = 8 ∨ s = 9) ∧ l.ok ∧ h.ok
def Sp.Cond.last : Sp.Cond → Int
  | .one s => s
  | .neg _ => 7
  | .two s _ _ => s
def Sp.Cond.eval (n : Nat) : Sp.Cond → Bool
  | .one s => if s = 5 then true else if s = 6 then false else n.testBit s.toNat
  | .neg c => !c.eval n
  | .two s l h => if s = 8 then (l.eval n && h.eval n) else (l.eval n || h.eval n)
/-- one step of reading a code into trees -/
def Sp.tstep (st : List Sp.Cond) (c : Int) : List Sp.Cond :=
  if c = 7 then .neg (st.headD default) :: st.tail
  else if c = 8 ∨ c = 9 then .two c (st.tail.headD default) (st.headD default) :: st.tail.tail
  else .one c :: st
def Sp.treesOf (l : List Int) : List Sp.Cond := l.foldl Sp.tstep []
def Sp.treeOf (l : List Int) : Sp.Cond := (Sp.treesOf l).headD default
/-- the steps of several trees, the last one first -/
def Sp.stepsOf : List Sp.Cond → List Int
  | [] => []
  | c :: cs => Sp.stepsOf cs ++ c.steps
theorem steps_pos (c : Sp.Cond) : 1 ≤ c.steps.length := by
  cases c <;> simp [Sp.Cond.steps] <;> omega
theorem steps_last (c : Sp.Cond) : ∃ p, c.steps = p ++ [c.last] := by
  cases c with
  | one s => exact ⟨[], rfl⟩
  | neg c => exact ⟨c.steps, rfl⟩
  | two s l h => exact ⟨l.steps ++ h.steps, rfl⟩
theorem trees_snoc (l : List Int) (k : Nat) (h : k < l.length) : Sp.treesOf (l.take (k + 1)) = Sp.tstep (Sp.treesOf (l.take k)) (l.getD k default) :=
  Sp.take_foldl l Sp.tstep _ k h
theorem trees_at (l : List Int) (k : Nat) : ∀ p, Sp.depthOf (l.take k) = some p → (Sp.treesOf (l.take k)).length = p.1 ∧ (∀ c ∈ Sp.treesOf (l.take k), c.ok) ∧ Sp.stepsOf (Sp.treesOf (l.take k)) = l.take k ∧ ∀ n, (Sp.treesOf (l.take k)).map (Sp.Cond.eval n) = Sp.stackOf (l.take k) n := by
  induction k with
  | zero =>
    intro p hp
    simp [Sp.depthOf] at hp; subst hp
    refine ⟨rfl, fun c hc => ?_, rfl, fun n => rfl⟩
    simp [Sp.treesOf] at hc
  | succ k ih =>
    intro p hp
    by_cases hk : k < l.length
    · rw [Sp.depth_snoc l k hk] at hp
      cases hq : Sp.depthOf (l.take k) with
      | none => rw [hq] at hp; simp [Sp.dstep] at hp
      | some q =>
        rw [hq] at hp
        obtain ⟨i1, i2, i3, i4⟩ := ih q hq
        have hsn : ∀ n, Sp.stackOf (l.take (k + 1)) n = Sp.rstep n (Sp.stackOf (l.take k) n) (l.getD k default) := fun n => Sp.stack_snoc l n k hk
        have htk : l.take (k + 1) = l.take k ++ [l.getD k default] := by
          rw [List.take_succ_eq_append_getElem hk, List.getD_eq_getElem?_getD, List.getElem?_eq_getElem hk]; rfl
        rw [trees_snoc l k hk, htk]
        have hsn2 : ∀ n, Sp.stackOf (l.take k ++ [l.getD k default]) n = Sp.rstep n (Sp.stackOf (l.take k) n) (l.getD k default) := fun n => by rw [← htk]; exact hsn n
        generalize Sp.treesOf (l.take k) = st at *
        generalize l.getD k default = c at *
        generalize l.take k = pre at *
        simp only [Sp.dstep] at hp
        split at hp
        · rename_i hc
          simp only [Option.some.injEq] at hp
          subst hp
          obtain ⟨h1, h2, h3⟩ := hc
          unfold Sp.takes at h3
          show (Sp.tstep st c).length = q.1 - Sp.takes c + 1 ∧ _
          unfold Sp.takes
          by_cases e7 : c = 7
          · subst e7
            rw [if_pos rfl] at h3
            obtain ⟨x, xs, rfl⟩ : ∃ x xs, st = x :: xs := by
              cases st with
              | nil => simp at i1; omega
              | cons x xs => exact ⟨x, xs, rfl⟩
            refine ⟨by simp [Sp.tstep] at i1 ⊢; omega, fun c hc => ?_, ?_, fun n => ?_⟩
            · simp only [Sp.tstep, if_true, List.headD_cons, List.tail_cons, List.mem_cons] at hc
              rcases hc with rfl | hc
              · exact i2 x (by simp)
              · exact i2 c (by simp [hc])
            · rw [← i3]; simp [Sp.tstep, Sp.stepsOf, Sp.Cond.steps]
            · rw [hsn2, ← i4 n]; simp [Sp.tstep, Sp.rstep, Sp.Cond.eval]
          · by_cases e89 : c = 8 ∨ c = 9
            · rw [if_neg e7, if_pos e89] at h3
              obtain ⟨x, y, xs, rfl⟩ : ∃ x y xs, st = x :: y :: xs := by
                cases st with
                | nil => simp at i1; omega
                | cons x xs =>
                  cases xs with
                  | nil => simp at i1; omega
                  | cons y xs => exact ⟨x, y, xs, rfl⟩
              have ht : Sp.tstep (x :: y :: xs) c = .two c y x :: xs := by unfold Sp.tstep; rw [if_neg e7, if_pos e89]; rfl
              rw [ht]
              refine ⟨by rw [if_neg e7, if_pos e89]; simp at i1 ⊢; omega, fun d hd => ?_, ?_, fun n => ?_⟩
              · rw [List.mem_cons] at hd
                rcases hd with rfl | hd
                · exact ⟨e89, i2 y (by simp), i2 x (by simp)⟩
                · exact i2 d (by simp [hd])
              · rw [← i3]; simp [Sp.stepsOf, Sp.Cond.steps]
              · rw [hsn2, ← i4 n]
                rcases e89 with rfl | rfl <;> simp [Sp.rstep, Sp.Cond.eval]
            · have ht : Sp.tstep st c = .one c :: st := by unfold Sp.tstep; rw [if_neg e7, if_neg e89]
              rw [ht]
              have hc6 : c ≤ 6 := by omega
              refine ⟨by rw [if_neg e7, if_neg e89]; simp; omega, fun d hd => ?_, ?_, fun n => ?_⟩
              · rw [List.mem_cons] at hd
                rcases hd with rfl | hd
                · exact ⟨h1, hc6⟩
                · exact i2 d hd
              · rw [← i3]; simp [Sp.stepsOf, Sp.Cond.steps]
              · rw [hsn2, ← i4 n]
                unfold Sp.rstep
                rw [if_neg e7, if_neg (by omega), if_neg (by omega)]
                by_cases e5 : c = 5
                · subst e5; simp [Sp.Cond.eval]
                · by_cases e6 : c = 6
                  · subst e6; simp [Sp.Cond.eval]
                  · simp [Sp.Cond.eval, e5, e6]
        · simp at hp
    · have e : l.take (k + 1) = l.take k := by rw [List.take_of_length_le (by omega), List.take_of_length_le (by omega)]
      rw [e] at hp ⊢
      exact ih p hp
theorem tree_code {l : List Int} (h : Sp.codeOk l = true) : (Sp.treesOf l = [Sp.treeOf l]) ∧ (Sp.treeOf l).ok ∧ (Sp.treeOf l).steps = l ∧ ∀ n, (Sp.treeOf l).eval n = Sp.run l n := by
  obtain ⟨q, hq, h1, _, _⟩ := (Sp.codeOk_iff l).1 h
  have ht : l.take l.length = l := List.take_length
  obtain ⟨i1, i2, i3, i4⟩ := trees_at l l.length q (by rw [ht]; exact hq)
  rw [ht] at i1 i2 i3 i4
  unfold Sp.treeOf Sp.run
  have i5 := fun n => (i4 n).symm
  generalize Sp.treesOf l = st at *
  match st, i1 with
  | [c], _ =>
    refine ⟨rfl, i2 c (by simp), by rw [← i3]; simp [Sp.stepsOf], fun n => ?_⟩
    rw [i5 n]; rfl
  | [], i1 => simp at i1; omega
  | _ :: _ :: _, i1 => simp at i1; omega
/-- how deep a stack a tree wants -/
theorem depth_tree (c : Sp.Cond) (hc : c.ok) : ∀ p : Nat × Nat, ∃ m, c.steps.foldl Sp.dstep (some p) = some (p.1 + 1, m) := by
  induction c with
  | one s =>
    intro p
    obtain ⟨h1, h2⟩ := hc
    refine ⟨max p.2 (p.1 + 1), ?_⟩
    show Sp.dstep (some p) s = _
    have ht : Sp.takes s = 0 := by unfold Sp.takes; rw [if_neg (by omega), if_neg (by omega)]
    unfold Sp.dstep
    rw [ht]
    show (if _ then _ else _) = _
    rw [if_pos ⟨h1, by omega, Nat.zero_le _⟩]; rfl
  | neg c ih =>
    intro p
    obtain ⟨m, hm⟩ := ih hc p
    refine ⟨max m (p.1 + 1), ?_⟩
    show (c.steps ++ [7]).foldl _ _ = _
    rw [List.foldl_append, hm]
    show Sp.dstep (some (p.1 + 1, m)) 7 = _
    unfold Sp.dstep Sp.takes
    simp
  | two s l h ihl ihh =>
    intro p
    obtain ⟨h1, h2, h3⟩ := hc
    obtain ⟨m, hm⟩ := ihl h2 p
    obtain ⟨m2, hm2⟩ := ihh h3 (p.1 + 1, m)
    refine ⟨max m2 (p.1 + 1), ?_⟩
    show (l.steps ++ h.steps ++ [s]).foldl _ _ = _
    rw [List.foldl_append, List.foldl_append, hm, hm2]
    show Sp.dstep (some (p.1 + 1 + 1, m2)) s = _
    unfold Sp.dstep Sp.takes
    rcases h1 with rfl | rfl <;> simp
theorem code_tree {c : Sp.Cond} (hc : c.ok) (hl : c.steps.length ≤ 40) : Sp.codeOk c.steps = true := by
  obtain ⟨m, hm⟩ := depth_tree c hc (0, 0)
  exact (Sp.codeOk_iff _).2 ⟨_, hm, rfl, steps_pos c, hl⟩
/-- the trees of a tree's steps, upon others -/
theorem trees_tree (c : Sp.Cond) (hc : c.ok) : ∀ st, c.steps.foldl Sp.tstep st = c :: st := by
  induction c with
  | one s =>
    intro st
    obtain ⟨h1, h2⟩ := hc
    show Sp.tstep st s = _
    unfold Sp.tstep
    rw [if_neg (by omega), if_neg (by omega)]
  | neg c ih =>
    intro st
    show (c.steps ++ [7]).foldl _ _ = _
    rw [List.foldl_append, ih hc]
    rfl
  | two s l h ihl ihh =>
    intro st
    obtain ⟨h1, h2, h3⟩ := hc
    show (l.steps ++ h.steps ++ [s]).foldl _ _ = _
    rw [List.foldl_append, List.foldl_append, ihl h2, ihh h3]
    show Sp.tstep (h :: l :: st) s = _
    unfold Sp.tstep
    rw [if_neg (by omega), if_pos h1]
    rfl
theorem tree_steps {c : Sp.Cond} (hc : c.ok) : Sp.treeOf c.steps = c := by
  unfold Sp.treeOf Sp.treesOf
  rw [trees_tree c hc]
  rfl

/-! texts -/

/-- the sign of a single step -/
def Sp.sgn (s : Int) : UInt8 := if s = 5 then 49 else if s = 6 then 48 else UInt8.ofNat (97 + s.toNat)
/-- how strongly a tree binds -/
def Sp.Cond.mine : Sp.Cond → Nat
  | .two s _ _ => if s = 8 then 2 else 1
  | _ => 3
def Sp.brk (b : Bool) (l : List UInt8) : List UInt8 := if b = true then 40 :: (l ++ [41]) else l
/-- the text of a tree -/
def Sp.Cond.txt : Sp.Cond → List UInt8
  | .one s => [Sp.sgn s]
  | .neg c => 33 :: Sp.brk (decide (c.mine < 3)) c.txt
  | .two s l h => if s = 8 then Sp.brk (decide (l.mine < 2)) l.txt ++ 38 :: Sp.brk (decide (h.mine < 3)) h.txt
      else Sp.brk (decide (l.mine < 1)) l.txt ++ 124 :: Sp.brk (decide (h.mine < 2)) h.txt
/-- the text of a tree where so much is to bind -/
def Sp.Cond.text (c : Sp.Cond) (n : Nat) : List UInt8 := Sp.brk (decide (c.mine < n)) c.txt
theorem text_one (s : Int) (n : Nat) (hn : n ≤ 3) : (Sp.Cond.one s).text n = [Sp.sgn s] := by
  unfold Sp.Cond.text
  rw [decide_eq_false (by show ¬ 3 < n; omega)]; rfl
theorem text_neg (c : Sp.Cond) (n : Nat) (hn : n ≤ 3) : (Sp.Cond.neg c).text n = 33 :: c.text 3 := by
  unfold Sp.Cond.text
  rw [decide_eq_false (by show ¬ 3 < n; omega)]; rfl
theorem text_two (s : Int) (l h : Sp.Cond) (n : Nat) : (Sp.Cond.two s l h).text n = if s = 8 then Sp.brk (decide (2 < n)) (l.text 2 ++ 38 :: h.text 3) else Sp.brk (decide (1 < n)) (l.text 1 ++ 124 :: h.text 2) := by
  unfold Sp.Cond.text
  by_cases e : s = 8
  · rw [if_pos e]
    show Sp.brk (decide ((if s = 8 then 2 else 1) < n)) (if s = 8 then _ else _) = _
    rw [if_pos e, if_pos e]
  · rw [if_neg e]
    show Sp.brk (decide ((if s = 8 then 2 else 1) < n)) (if s = 8 then _ else _) = _
    rw [if_neg e, if_neg e]
theorem brk_len (b : Bool) (l : List UInt8) : l.length ≤ (Sp.brk b l).length ∧ (Sp.brk b l).length ≤ l.length + 2 := by
  unfold Sp.brk
  split
  · simp; omega
  · omega
theorem text_len (c : Sp.Cond) (n : Nat) : 1 ≤ (c.text n).length ∧ (c.text n).length ≤ 3 * c.steps.length := by
  induction c generalizing n with
  | one s =>
    have h := brk_len (decide ((Sp.Cond.one s).mine < n)) [Sp.sgn s]
    have h2 : ((Sp.Cond.one s).text n) = Sp.brk (decide ((Sp.Cond.one s).mine < n)) [Sp.sgn s] := rfl
    rw [h2]
    simp only [List.length_cons, List.length_nil] at h
    have h3 : (Sp.Cond.one s).steps.length = 1 := rfl
    omega
  | neg c ih =>
    have h := ih 3
    have h1 := brk_len (decide ((Sp.Cond.neg c).mine < n)) (33 :: c.text 3)
    have h2 : ((Sp.Cond.neg c).text n) = Sp.brk (decide ((Sp.Cond.neg c).mine < n)) (33 :: c.text 3) := rfl
    rw [h2]
    simp only [List.length_cons] at h1
    have h3 : (Sp.Cond.neg c).steps.length = c.steps.length + 1 := by simp [Sp.Cond.steps]
    omega
  | two s l h ihl ihh =>
    have h2 : (Sp.Cond.two s l h).steps.length = l.steps.length + h.steps.length + 1 := by simp [Sp.Cond.steps]; omega
    rw [text_two, h2]
    by_cases e : s = 8
    · rw [if_pos e]
      have a := ihl 2; have b := ihh 3
      have h1 := brk_len (decide (2 < n)) (l.text 2 ++ 38 :: h.text 3)
      simp only [List.length_cons, List.length_append] at h1
      omega
    · rw [if_neg e]
      have a := ihl 1; have b := ihh 2
      have h1 := brk_len (decide (1 < n)) (l.text 1 ++ 124 :: h.text 2)
      simp only [List.length_cons, List.length_append] at h1
      omega
/-- the text of a code -/
def Sp.codeText (l : List Int) : List UInt8 := if Sp.codeOk l = true then (Sp.treeOf l).text 0 else []

end Go.Proofs.YtphdojebdclonaaGreatDoor

namespace Go.Proofs.YtphdojebdclonaaGreatDoor
set_option linter.unusedSimpArgs false
set_option linter.unusedVariables false
open Go.RowKit

/-- the letters of the facts below k -/
def Sp.lets (s : Nat) : Nat → List UInt8
  | 0 => []
  | k + 1 => Sp.lets s k ++ (if s.testBit k = true then [UInt8.ofNat (97 + k)] else [])
def Sp.letters (x : Int) : List UInt8 := if x = 0 then [45] else Sp.lets x.toNat 5
theorem lets_none : ∀ s : Fin 32, Sp.lets s.val 5 = [] ↔ s.val = 0 := by decide +kernel
theorem lets_len (s k : Nat) : (Sp.lets s k).length ≤ k := by
  induction k with
  | zero => simp [Sp.lets]
  | succ k ih => simp only [Sp.lets, List.length_append]; split <;> simp <;> omega
/-- one byte made a string -/
theorem run_byte_string (w : World) (c : Nat) (hc : c < 256) : (convert 22 9 (.slice (some ⟨w.heap.size, 0, none⟩) 1 1)).run Tryz.prog (w.alloc (.cells #[.int .u8 (c : Int)] 5)) = .ok (.string ⟨#[UInt8.ofNat c]⟩) (w.alloc (.cells #[.int .u8 (c : Int)] 5)) := by
  have h := run_convert_bytes_back (P := Tryz.prog) (w.alloc (.cells #[.int .u8 (c : Int)] 5)) 22 9 5 ⟨w.heap.size, 0, none⟩ 1 [UInt8.ofNat c] Tryz.underlying22 Tryz.underlying5 Tryz.underlying9 (by
    intro j hj
    have : j = 0 := by simpa using hj
    subst this
    rw [show (⟨w.heap.size, 0, none⟩ : Addr).add 0 = ⟨w.heap.size, 0, none⟩ from rfl, World.cell?_alloc_new]
    simp
    omega)
  exact h

theorem str_add (x y : List UInt8) : ((⟨x.toArray⟩ : ByteArray) ++ ⟨y.toArray⟩) = ⟨(x ++ y).toArray⟩ := ByteArray.mk_append_mk x y
theorem str_add1 (x : List UInt8) (u : UInt8) : ((⟨x.toArray⟩ : ByteArray) ++ ⟨#[u]⟩) = ⟨(x ++ [u]).toArray⟩ := ByteArray.mk_append_mk x [u]

set_option maxHeartbeats 1000000 in
theorem c_sLetters (x : Int) (w : World) (h0 : 0 ≤ x) (h1 : x ≤ 31) : Calls Tryz.prog 32 #[.int .i64 x] w (RetK (.string ⟨(Sp.letters x).toArray⟩) w) := by
  obtain ⟨s, rfl⟩ := Int.eq_ofNat_of_zero_le h0
  have HE := Lib.hid (lets_none ⟨s, by omega⟩)
  go_enter Tryz.func32, Tryz.ntmps32
  go_wp2_with fail
  go_loopw [3, 4] (fun x i wr => ∃ k : Nat, k ≤ 5 ∧ i = .int .i64 k ∧ x = .string ⟨(Sp.lets s k).toArray⟩ ∧ Kept w wr) (fun x i _ => 5 - (intOf i).toNat)
  case atStart => exact ⟨0, Nat.zero_le _, rfl, rfl, Kept.refl _⟩
  case round =>
    obtain ⟨k, hk, rfl, rfl, hkp⟩ := hrel
    by_cases hlt : k < 5
    · have hll := lets_len s k
      clear HE
      obtain ⟨c, HC⟩ : ∃ c : Nat, Hid (c = 97 + k) := ⟨_, rfl⟩
      have hw : IntKind.i64.wrap (97 + (k : Int)) = (c : Int) := by rw [HC.out, IntKind.wrap_i64]; omega
      have hw8 : IntKind.u8.wrap (c : Int) = (c : Int) := by rw [HC.out]; simp [IntKind.wrap, IntKind.bits, IntKind.signed]; omega
      go_wp2_with fail
      refine (c_l1Bit (s : Int) (k : Int) _ (by omega) (by omega) (by omega) (by omega)).mono ?_; rintro e w2 ⟨rfl, rfl⟩
      rw [Int.toNat_natCast, Int.toNat_natCast]
      have hl1 : Sp.lets s (k + 1) = Sp.lets s k ++ (if s.testBit k = true then [UInt8.ofNat (97 + k)] else []) := rfl
      have HL := Lib.hid hl1
      clear hl1
      cases hb : s.testBit k
      · rw [hb] at HL
        have HL2 : Hid (Sp.lets s (k + 1) = Sp.lets s k) := by show _ = _; rw [HL.out]; simp
        clear hb hll hw hw8
        go_wp2_with fail
        exact ⟨⟨k + 1, by omega, by go_num, by rw [HL2.out], hkp⟩, by simp [intOf]; omega⟩
      · rw [hb] at HL
        have HL2 : Hid (Sp.lets s (k + 1) = Sp.lets s k ++ [UInt8.ofNat c]) := by show _ = _; rw [HL.out, HC.out]; simp
        clear hb
        have hcv := run_byte_string wr c (by rw [HC.out]; omega)
        obtain ⟨u, HU⟩ : ∃ u, Hid (UInt8.ofNat c = u) := ⟨_, rfl⟩
        rw [HU.out] at HL2 hcv
        go_wp2_with fail
        exact ⟨⟨k + 1, by omega, by go_num, by rw [HL2.out, str_add1], hkp.alloc _⟩, by simp [intOf]; omega⟩
    · obtain rfl : k = 5 := by omega
      clear hlt
      by_cases hz : s = 0
      · subst hz
        have HZ : Hid (Sp.letters ((0 : Nat) : Int) = [45]) := rfl
        have hE : (Sp.lets 0 5).isEmpty = true := rfl
        go_wp2_with fail
        all_goals (go_ret; exact ⟨by rfl, hkp⟩)
      · have HZ : Hid (Sp.letters (s : Int) = Sp.lets s 5) := by show _ = _; unfold Sp.letters; rw [if_neg (by omega), Int.toNat_natCast]
        have hE : (Sp.lets s 5).isEmpty = false := by
          cases e : Sp.lets s 5 with
          | nil => exact absurd (HE.out.1 e) hz
          | cons a l => rfl
        generalize Sp.lets s 5 = l at *
        go_wp2_with fail
        go_ret
        exact ⟨by rw [HZ.out]; rfl, hkp⟩

theorem info_u8 : (Tryz.prog.info? 5).map (fun i => (i.zero, i.size, i.bytes)) = some (some (.int .u8 0), 1, 1) := by kernel_rfl
/-- a row of bytes of the call's own -/
def OwnB (w : World) (B : Nat) (v : Value) (l : List UInt8) : Prop := w.ownsRow B 5 1 v l.length (Lib.byteCells l)
theorem OwnB.form {w : World} {B : Nat} {v : Value} {l : List UInt8} (h : OwnB w B v l) : ∃ A c, v = .slice A l.length c := own_form h
theorem OwnB.nil (w : World) (B : Nat) : OwnB w B (.slice none 0 0) [] := World.ownsRow_nil _ _ _ _
theorem OwnB.keep {w w' : World} {B : Nat} {v : Value} {l : List UInt8} (h : OwnB w B v l) (hk : Kept w w') : OwnB w' B v l := own_keep h hk
theorem OwnB.cells {w : World} {B : Nat} {A : Option Addr} {m c : Nat} {l : List UInt8} (h : OwnB w B (.slice A m c) l) (hl : l ≠ []) :
    ∃ g, A = some ⟨g, 0, none⟩ ∧ m = l.length ∧ B ≤ g ∧ g < w.heap.size ∧ ∀ j (hj : j < l.length), w.cell? ⟨g, j, none⟩ = some (.int .u8 (l[j].toNat : Int)) := by
  have hp : 0 < l.length := List.length_pos_iff.2 hl
  rcases h.2 with ⟨_, h0⟩ | ⟨g, cap, cur, e, hg, hh, h1, _, hc, ht⟩
  · omega
  · injection e with e1 e2 e3
    subst e1 e2 e3
    refine ⟨g, rfl, rfl, hg, ?_, fun j hj => ?_⟩
    · rcases Nat.lt_or_ge g w.heap.size with h' | h'
      · exact h'
      · simp [Array.getElem?_eq_none h'] at hh
    · rw [Lib.cell_of_heap hh]
      have h2 : (Lib.byteCells l)[j]? = some (.int .u8 (l[j].toNat : Int)) := by simp [Lib.byteCells, List.getElem?_eq_getElem hj]
      rw [← ht, List.getElem?_take] at h2
      split at h2
      · rw [Array.getElem?_toList] at h2; exact h2
      · cases h2
theorem OwnB.str {w : World} {B : Nat} {A : Option Addr} {m c : Nat} {l : List UInt8} (h : OwnB w B (.slice A m c) l) (hl : l ≠ []) :
    (convert 22 9 (.slice A m c)).run Tryz.prog w = .ok (.string ⟨l.toArray⟩) w := by
  obtain ⟨g, rfl, rfl, _, _, hc⟩ := h.cells hl
  exact run_convert_bytes_back (P := Tryz.prog) w 22 9 5 ⟨g, 0, none⟩ c l Tryz.underlying22 Tryz.underlying5 Tryz.underlying9 (fun j hj => by
    rw [show (⟨g, 0, none⟩ : Addr).add j = ⟨g, j, none⟩ by cases j <;> simp [Addr.add]]
    exact hc j hj)
theorem own_bytes {w : World} {B : Nat} {v : Value} {l m : List UInt8} {n : Nat} (h : w.ownsRow B 5 1 v n (Lib.byteCells l ++ Lib.byteCells m)) (hn : n = l.length + m.length) : OwnB w B v (l ++ m) := by
  subst hn
  rw [← Lib.byteCells_append, ← List.length_append] at h
  exact h

set_option maxHeartbeats 1000000 in
theorem c_iLetters (x : Int) (w : World) (h0 : 0 ≤ x) (h1 : x ≤ 31) : Calls Tryz.prog 27 #[.int .i64 x] w (RetK (.string ⟨(Sp.letters x).toArray⟩) w) := by
  obtain ⟨s, rfl⟩ := Int.eq_ofNat_of_zero_le h0
  obtain ⟨i0, hi0, hz0, hz1, hz2⟩ := info_parts info_u8
  have HI := Lib.hid (And.intro hi0 (And.intro hz0 (And.intro hz1 hz2)))
  clear hi0 hz0 hz1 hz2
  by_cases hs : s = 0
  · subst hs
    go_enter Tryz.func27, Tryz.ntmps27
    go_wp2_with fail
    go_ret
    exact ⟨rfl, Kept.refl _⟩
  have HE := Lib.hid (lets_none ⟨s, by omega⟩)
  have HS := Lib.hid hs
  have hs1 : ¬ ((s : Int) = 0) := by omega
  have HZ : Hid (Sp.letters (s : Int) = Sp.lets s 5) := by show _ = _; unfold Sp.letters; rw [if_neg (by omega), Int.toNat_natCast]
  clear hs
  go_enter Tryz.func27, Tryz.ntmps27
  go_wp2_with fail
  go_loopw [3, 4, 7] (fun v _ i wr => ∃ k : Nat, k ≤ 5 ∧ i = .int .i64 k ∧ OwnB wr w.heap.size v (Sp.lets s k) ∧ Kept w wr) (fun _ _ i _ => 5 - (intOf i).toNat)
  case atStart => exact ⟨0, Nat.zero_le _, rfl, OwnB.nil _ _, Kept.refl _⟩
  case round =>
    obtain ⟨k, hk, rfl, hO, hkp⟩ := hrel
    obtain ⟨A, cp, rfl⟩ := hO.form
    have HO := Lib.hid hO
    by_cases hlt : k < 5
    · have HLN := Lib.hid (lets_len s k)
      obtain ⟨c, HC⟩ : ∃ c : Nat, Hid (c = 97 + k) := ⟨_, rfl⟩
      have hw : IntKind.i64.wrap (97 + (k : Int)) = (c : Int) := by rw [HC.out, IntKind.wrap_i64]; omega
      have hw8 : IntKind.u8.wrap (c : Int) = (c : Int) := by rw [HC.out]; simp [IntKind.wrap, IntKind.bits, IntKind.signed]; omega
      have hbt := and_bit s k (by omega)
      have hl1 : Sp.lets s (k + 1) = Sp.lets s k ++ (if s.testBit k = true then [UInt8.ofNat (97 + k)] else []) := rfl
      have HL := Lib.hid hl1
      clear hO hl1
      cases hb : s.testBit k
      · rw [hb] at HL hbt
        have HL2 : Hid (Sp.lets s (k + 1) = Sp.lets s k) := by show _ = _; rw [HL.out]; simp
        clear hb hw hw8
        go_wp2_with fail
        refine ⟨⟨k + 1, by omega, by go_num, by rw [HL2.out]; exact HO.out, hkp⟩, by simp [intOf]; omega⟩
      · rw [hb] at HL hbt
        have HL2 : Hid (Sp.lets s (k + 1) = Sp.lets s k ++ [UInt8.ofNat c]) := by show _ = _; rw [HL.out, HC.out]; simp
        have HB : Hid (Lib.byteCells [UInt8.ofNat c] = [.int .u8 (c : Int)]) := by
          show _ = _
          have : (UInt8.ofNat c).toNat = c := by simp [UInt8.toNat_ofNat']; rw [HC.out]; omega
          simp only [Lib.byteCells, List.map_cons, List.map_nil, this]
        clear hb
        go_wp2_with (at_builtin; refine wpList_append_own _ rfl (.tmp 15) (.tmp 19) 22 rfl (w.heap.size) 5 i0 (.int .u8 0) 1 1 Tryz.underlying22 HI.out.1 HI.out.2.1 HI.out.2.2.1 HI.out.2.2.2 rfl (by decide) (.slice A (Sp.lets s k).length cp) (Sp.lets s k).length _ rfl (World.ownsRow.alloc HO.out _) ⟨wr.heap.size, 0, none⟩ 1 1 [.int .u8 ((c : Int))] rfl rfl (one_new _ _ _) (by simp [Value.oneCell']) (by have := HLN.out; unfold maxLen; omega) (by have := HLN.out; omega) (by have := hkp.size; simp; omega) ?_; intro v' wapp hown2 hg2 _)
        have HO2 : OwnB wapp w.heap.size v' (Sp.lets s k ++ [UInt8.ofNat c]) := own_bytes (by rw [HB.out]; exact hown2) rfl
        have hk2 : Kept w wapp := (hkp.alloc _).grown hg2 (fun k e => (HO.out.lt k e).1)
        go_wp2_with fail
        refine ⟨⟨k + 1, by omega, by go_num, by rw [HL2.out]; exact HO2, hk2⟩, by simp [intOf]; omega⟩
    · obtain rfl : k = 5 := by omega
      have hcv := hO.str (fun e => HS.out (HE.out.1 e))
      clear hlt
      go_wp2_with fail
      go_ret
      exact ⟨by rw [HZ.out]; rfl, hkp⟩

end Go.Proofs.YtphdojebdclonaaGreatDoor

namespace Go.Proofs.YtphdojebdclonaaGreatDoor
set_option linter.unusedSimpArgs false
set_option linter.unusedVariables false
open Go.RowKit

theorem span_step (c : Sp.Cond) (ts : List Sp.Cond) (hok : ∀ d ∈ c :: ts, d.ok) : ∃ ts', Sp.stepsOf (c :: ts) = Sp.stepsOf ts' ++ [c.last] ∧ ts'.length = ts.length + Sp.takes c.last ∧ ∀ d ∈ ts', d.ok := by
  have hc := hok c (by simp)
  have ht : ∀ d ∈ ts, d.ok := fun d hd => hok d (by simp [hd])
  cases c with
  | one s =>
    refine ⟨ts, rfl, ?_, ht⟩
    have : Sp.takes s = 0 := by unfold Sp.takes; obtain ⟨_, h6⟩ := hc; rw [if_neg (by omega), if_neg (by omega)]
    show _ = _ + Sp.takes s
    rw [this]; rfl
  | neg c =>
    refine ⟨c :: ts, by simp [Sp.stepsOf, Sp.Cond.steps, Sp.Cond.last], rfl, fun d hd => ?_⟩
    rcases List.mem_cons.1 hd with rfl | hd
    · exact hc
    · exact ht d hd
  | two s l h =>
    refine ⟨h :: l :: ts, by simp [Sp.stepsOf, Sp.Cond.steps, Sp.Cond.last], ?_, fun d hd => ?_⟩
    · show _ = _ + Sp.takes s
      rcases hc.1 with rfl | rfl <;> rfl
    · rcases List.mem_cons.1 hd with rfl | hd
      · exact hc.2.2
      · rcases List.mem_cons.1 hd with rfl | hd
        · exact hc.2.1
        · exact ht d hd
theorem getD_mid (a b : List Int) (x : Int) : (a ++ x :: b).getD a.length default = x := by simp
theorem getD_at {l a b : List Int} {x : Int} {k : Nat} (hl : l = a ++ x :: b) (hk : k = a.length) : l.getD k default = x := by subst hl hk; exact getD_mid a b x
theorem str_brk (l : List UInt8) : ((⟨#[40]⟩ : ByteArray) ++ ⟨l.toArray⟩ ++ ⟨#[41]⟩) = ⟨(Sp.brk true l).toArray⟩ := by
  exact (congrArg (fun z : ByteArray => z ++ ⟨#[41]⟩) (str_add [40] l)).trans (str_add1 (40 :: l) 41)
theorem stepsOf_ge (ts : List Sp.Cond) : ts.length ≤ (Sp.stepsOf ts).length := by
  induction ts with
  | nil => simp
  | cons c ts ih => have := steps_pos c; simp only [Sp.stepsOf, List.length_append, List.length_cons]; omega
























































/-- the sign that stands for one step -/
theorem sgn_one {s : Int} (h0 : 0 ≤ s) (h1 : s < 5) : Sp.sgn s = UInt8.ofNat (97 + s.toNat) := by
  unfold Sp.sgn
  rw [if_neg (by omega), if_neg (by omega)]





























































































































































































theorem codeText_no {l : List Int} (h : Sp.codeOk l = false) : Sp.codeText l = [] := by unfold Sp.codeText; rw [if_neg (by rw [h]; decide)]
theorem codeText_yes {l : List Int} (h : Sp.codeOk l = true) : Sp.codeText l = (Sp.treeOf l).text 0 := by unfold Sp.codeText; rw [if_pos h]
theorem codeOk_len {l : List Int} (h : Sp.codeOk l = true) : 1 ≤ l.length ∧ l.length ≤ 40 := by
  obtain ⟨q, _, _, h1, h2⟩ := (Sp.codeOk_iff l).1 h
  exact ⟨h1, h2⟩
theorem codeText_len (l : List Int) : (Sp.codeText l).length ≤ 120 := by
  cases h : Sp.codeOk l
  · rw [codeText_no h]; simp
  · rw [codeText_yes h]
    have h1 := (text_len (Sp.treeOf l) 0).2
    rw [(tree_code h).2.2.1] at h1
    have := (codeOk_len h).2
    omega

































end Go.Proofs.YtphdojebdclonaaGreatDoor
