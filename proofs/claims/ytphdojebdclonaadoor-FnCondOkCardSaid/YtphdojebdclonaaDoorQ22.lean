/- Joined texts. No condition. -/
import Derived.Laws.IdiomStrings
import Derived.Lib.UnsafeStr
import Derived.Lib.Builder
import Derived.Laws.Concat
import Derived.Test.YtphdojebdclonaaDoorQ21
import Derived.Test.YtphdojebdclonaaDoorQ7
/- Plain: codes as trees, their texts. No program in sight. The letters of a set of facts: plain, and the walks of both. The reference's CodeText: where a part of a code begins, its text. No condition. -/
namespace Go.Proofs.YtphdojebdclonaaDoor
set_option linter.unusedSimpArgs false
set_option linter.unusedVariables false

/-- a code as a tree -/
inductive Sp.Cond where
  | one (s : Int)
  | neg (c : Sp.Cond)
  | two (s : Int) (l h : Sp.Cond)
  deriving Inhabited

def Sp.Cond.steps : Sp.Cond → List Int
  | .one s => [s]
  | .neg c => c.steps ++ [7]
  | .two s l h => l.steps ++ h.steps ++ [s]
def Sp.Cond.ok : Sp.Cond → Prop
  | .one s => 0 ≤ s ∧ s ≤ 6
  | .neg c => c.ok
  | .two s l h => (s = 8 ∨ s = 9) ∧ l.ok ∧ h.ok
def Sp.Cond.last : Sp.Cond → Int
  | .one s => s
  | .neg _ => 7
  | .two s _ _ => s
def Sp.Cond.eval (n : Nat) : Sp.Cond → Bool
  | .one s => if s = 5 then true else if s = 6 then false else n.testBit s.toNat
  | .neg c => !c.eval n
  | .two s l h => if s = 8 then (l.eval n && h.eval n) else (l.eval n || h.eval n)
/-- one step of reading a code into trees -/
def Sp.tstep (st : List Sp.Cond) (c : Int) : List Sp.Cond :=
  if c = 7 then .neg (st.headD default) :: st.tail
  else if c = 8 ∨ c = 9 then .two c (st.tail.headD default) (st.headD default) :: st.tail.tail
  else .one c :: st
def Sp.treesOf (l : List Int) : List Sp.Cond := l.foldl Sp.tstep []
def Sp.treeOf (l : List Int) : Sp.Cond := (Sp.treesOf l).headD default
/-- the steps of several trees, the last one first -/
def Sp.stepsOf : List Sp.Cond → List Int
  | [] => []
  | c :: cs => Sp.stepsOf cs ++ c.steps
theorem steps_pos (c : Sp.Cond) : 1 ≤ c.steps.length := by
  cases c <;> simp [Sp.Cond.steps] <;> omega
theorem steps_last (c : Sp.Cond) : ∃ p, c.steps = p ++ [c.last] := by
  cases c with
  | one s => exact ⟨[], rfl⟩
  | neg c => exact ⟨c.steps, rfl⟩
  | two s l h => exact ⟨l.steps ++ h.steps, rfl⟩
theorem trees_snoc (l : List Int) (k : Nat) (h : k < l.length) : Sp.treesOf (l.take (k + 1)) = Sp.tstep (Sp.treesOf (l.take k)) (l.getD k default) :=
  Sp.take_foldl l Sp.tstep _ k h
theorem trees_at (l : List Int) (k : Nat) : ∀ p, Sp.depthOf (l.take k) = some p → (Sp.treesOf (l.take k)).length = p.1 ∧ (∀ c ∈ Sp.treesOf (l.take k), c.ok) ∧ Sp.stepsOf (Sp.treesOf (l.take k)) = l.take k ∧ ∀ n, (Sp.treesOf (l.take k)).map (Sp.Cond.eval n) = Sp.stackOf (l.take k) n := by
  induction k with
  | zero =>
    intro p hp
    simp [Sp.depthOf] at hp; subst hp
    refine ⟨rfl, fun c hc => ?_, rfl, fun n => rfl⟩
    simp [Sp.treesOf] at hc
  | succ k ih =>
    intro p hp
    by_cases hk : k < l.length
    · rw [Sp.depth_snoc l k hk] at hp
      cases hq : Sp.depthOf (l.take k) with
      | none => rw [hq] at hp; simp [Sp.dstep] at hp
      | some q =>
        rw [hq] at hp
        obtain ⟨i1, i2, i3, i4⟩ := ih q hq
        have hsn : ∀ n, Sp.stackOf (l.take (k + 1)) n = Sp.rstep n (Sp.stackOf (l.take k) n) (l.getD k default) := fun n => Sp.stack_snoc l n k hk
        have htk : l.take (k + 1) = l.take k ++ [l.getD k default] := by
          rw [List.take_succ_eq_append_getElem hk, List.getD_eq_getElem?_getD, List.getElem?_eq_getElem hk]; rfl
        rw [trees_snoc l k hk, htk]
        have hsn2 : ∀ n, Sp.stackOf (l.take k ++ [l.getD k default]) n = Sp.rstep n (Sp.stackOf (l.take k) n) (l.getD k default) := fun n => by rw [← htk]; exact hsn n
        generalize Sp.treesOf (l.take k) = st at *
        generalize l.getD k default = c at *
        generalize l.take k = pre at *
        simp only [Sp.dstep] at hp
        split at hp
        · rename_i hc
          simp only [Option.some.injEq] at hp
          subst hp
          obtain ⟨h1, h2, h3⟩ := hc
          unfold Sp.takes at h3
          show (Sp.tstep st c).length = q.1 - Sp.takes c + 1 ∧ _
          unfold Sp.takes
          by_cases e7 : c = 7
          · subst e7
            rw [if_pos rfl] at h3
            obtain ⟨x, xs, rfl⟩ : ∃ x xs, st = x :: xs := by
              cases st with
              | nil => simp at i1; omega
              | cons x xs => exact ⟨x, xs, rfl⟩
            refine ⟨by simp [Sp.tstep] at i1 ⊢; omega, fun c hc => ?_, ?_, fun n => ?_⟩
            · simp only [Sp.tstep, if_true, List.headD_cons, List.tail_cons, List.mem_cons] at hc
              rcases hc with rfl | hc
              · exact i2 x (by simp)
              · exact i2 c (by simp [hc])
            · rw [← i3]; simp [Sp.tstep, Sp.stepsOf, Sp.Cond.steps]
            · rw [hsn2, ← i4 n]; simp [Sp.tstep, Sp.rstep, Sp.Cond.eval]
          · by_cases e89 : c = 8 ∨ c = 9
            · rw [if_neg e7, if_pos e89] at h3
              obtain ⟨x, y, xs, rfl⟩ : ∃ x y xs, st = x :: y :: xs := by
                cases st with
                | nil => simp at i1; omega
                | cons x xs =>
                  cases xs with
                  | nil => simp at i1; omega
                  | cons y xs => exact ⟨x, y, xs, rfl⟩
              have ht : Sp.tstep (x :: y :: xs) c = .two c y x :: xs := by unfold Sp.tstep; rw [if_neg e7, if_pos e89]; rfl
              rw [ht]
              refine ⟨by rw [if_neg e7, if_pos e89]; simp at i1 ⊢; omega, fun d hd => ?_, ?_, fun n => ?_⟩
              · rw [List.mem_cons] at hd
                rcases hd with rfl | hd
                · exact ⟨e89, i2 y (by simp), i2 x (by simp)⟩
                · exact i2 d (by simp [hd])
              · rw [← i3]; simp [Sp.stepsOf, Sp.Cond.steps]
              · rw [hsn2, ← i4 n]
                rcases e89 with rfl | rfl <;> simp [Sp.rstep, Sp.Cond.eval]
            · have ht : Sp.tstep st c = .one c :: st := by unfold Sp.tstep; rw [if_neg e7, if_neg e89]
              rw [ht]
              have hc6 : c ≤ 6 := by omega
              refine ⟨by rw [if_neg e7, if_neg e89]; simp; omega, fun d hd => ?_, ?_, fun n => ?_⟩
              · rw [List.mem_cons] at hd
                rcases hd with rfl | hd
                · exact ⟨h1, hc6⟩
                · exact i2 d hd
              · rw [← i3]; simp [Sp.stepsOf, Sp.Cond.steps]
              · rw [hsn2, ← i4 n]
                unfold Sp.rstep
                rw [if_neg e7, if_neg (by omega), if_neg (by omega)]
                by_cases e5 : c = 5
                · subst e5; simp [Sp.Cond.eval]
                · by_cases e6 : c = 6
                  · subst e6; simp [Sp.Cond.eval]
                  · simp [Sp.Cond.eval, e5, e6]
        · simp at hp
    · have e : l.take (k + 1) = l.take k := by rw [List.take_of_length_le (by omega), List.take_of_length_le (by omega)]
      rw [e] at hp ⊢
      exact ih p hp
theorem tree_code {l : List Int} (h : Sp.codeOk l = true) : (Sp.treesOf l = [Sp.treeOf l]) ∧ (Sp.treeOf l).ok ∧ (Sp.treeOf l).steps = l ∧ ∀ n, (Sp.treeOf l).eval n = Sp.run l n := by
  obtain ⟨q, hq, h1, _, _⟩ := (Sp.codeOk_iff l).1 h
  have ht : l.take l.length = l := List.take_length
  obtain ⟨i1, i2, i3, i4⟩ := trees_at l l.length q (by rw [ht]; exact hq)
  rw [ht] at i1 i2 i3 i4
  unfold Sp.treeOf Sp.run
  have i5 := fun n => (i4 n).symm
  generalize Sp.treesOf l = st at *
  match st, i1 with
  | [c], _ =>
    refine ⟨rfl, i2 c (by simp), by rw [← i3]; simp [Sp.stepsOf], fun n => ?_⟩
    rw [i5 n]; rfl
  | [], i1 => simp at i1; omega
  | _ :: _ :: _, i1 => simp at i1; omega
/-- how deep a stack a tree wants -/
theorem depth_tree (c : Sp.Cond) (hc : c.ok) : ∀ p : Nat × Nat, ∃ m, c.steps.foldl Sp.dstep (some p) = some (p.1 + 1, m) := by
  induction c with
  | one s =>
    intro p
    obtain ⟨h1, h2⟩ := hc
    refine ⟨max p.2 (p.1 + 1), ?_⟩
    show Sp.dstep (some p) s = _
    have ht : Sp.takes s = 0 := by unfold Sp.takes; rw [if_neg (by omega), if_neg (by omega)]
    unfold Sp.dstep
    rw [ht]
    show (if _ then _ else _) = _
    rw [if_pos ⟨h1, by omega, Nat.zero_le _⟩]; rfl
  | neg c ih =>
    intro p
    obtain ⟨m, hm⟩ := ih hc p
    refine ⟨max m (p.1 + 1), ?_⟩
    show (c.steps ++ [7]).foldl _ _ = _
    rw [List.foldl_append, hm]
    show Sp.dstep (some (p.1 + 1, m)) 7 = _
    unfold Sp.dstep Sp.takes
    simp
  | two s l h ihl ihh =>
    intro p
    obtain ⟨h1, h2, h3⟩ := hc
    obtain ⟨m, hm⟩ := ihl h2 p
    obtain ⟨m2, hm2⟩ := ihh h3 (p.1 + 1, m)
    refine ⟨max m2 (p.1 + 1), ?_⟩
    show (l.steps ++ h.steps ++ [s]).foldl _ _ = _
    rw [List.foldl_append, List.foldl_append, hm, hm2]
    show Sp.dstep (some (p.1 + 1 + 1, m2)) s = _
    unfold Sp.dstep Sp.takes
    rcases h1 with rfl | rfl <;> simp
theorem code_tree {c : Sp.Cond} (hc : c.ok) (hl : c.steps.length ≤ 40) : Sp.codeOk c.steps = true := by
  obtain ⟨m, hm⟩ := depth_tree c hc (0, 0)
  exact (Sp.codeOk_iff _).2 ⟨_, hm, rfl, steps_pos c, hl⟩
/-- the trees of a tree's steps, upon others -/
theorem trees_tree (c : Sp.Cond) (hc : c.ok) : ∀ st, c.steps.foldl Sp.tstep st = c :: st := by
  induction c with
  | one s =>
    intro st
    obtain ⟨h1, h2⟩ := hc
    show Sp.tstep st s = _
    unfold Sp.tstep
    rw [if_neg (by omega), if_neg (by omega)]
  | neg c ih =>
    intro st
    show (c.steps ++ [7]).foldl _ _ = _
    rw [List.foldl_append, ih hc]
    rfl
  | two s l h ihl ihh =>
    intro st
    obtain ⟨h1, h2, h3⟩ := hc
    show (l.steps ++ h.steps ++ [s]).foldl _ _ = _
    rw [List.foldl_append, List.foldl_append, ihl h2, ihh h3]
    show Sp.tstep (h :: l :: st) s = _
    unfold Sp.tstep
    rw [if_neg (by omega), if_pos h1]
    rfl
theorem tree_steps {c : Sp.Cond} (hc : c.ok) : Sp.treeOf c.steps = c := by
  unfold Sp.treeOf Sp.treesOf
  rw [trees_tree c hc]
  rfl

/-! texts -/

/-- the sign of a single step -/
def Sp.sgn (s : Int) : UInt8 := if s = 5 then 49 else if s = 6 then 48 else UInt8.ofNat (97 + s.toNat)
/-- how strongly a tree binds -/
def Sp.Cond.mine : Sp.Cond → Nat
  | .two s _ _ => if s = 8 then 2 else 1
  | _ => 3
def Sp.brk (b : Bool) (l : List UInt8) : List UInt8 := if b = true then 40 :: (l ++ [41]) else l
/-- the text of a tree -/
def Sp.Cond.txt : Sp.Cond → List UInt8
  | .one s => [Sp.sgn s]
  | .neg c => 33 :: Sp.brk (decide (c.mine < 3)) c.txt
  | .two s l h => if s = 8 then Sp.brk (decide (l.mine < 2)) l.txt ++ 38 :: Sp.brk (decide (h.mine < 3)) h.txt
      else Sp.brk (decide (l.mine < 1)) l.txt ++ 124 :: Sp.brk (decide (h.mine < 2)) h.txt
/-- the text of a tree where so much is to bind -/
def Sp.Cond.text (c : Sp.Cond) (n : Nat) : List UInt8 := Sp.brk (decide (c.mine < n)) c.txt
theorem text_one (s : Int) (n : Nat) (hn : n ≤ 3) : (Sp.Cond.one s).text n = [Sp.sgn s] := by
  unfold Sp.Cond.text
  rw [decide_eq_false (by show ¬ 3 < n; omega)]; rfl
theorem text_neg (c : Sp.Cond) (n : Nat) (hn : n ≤ 3) : (Sp.Cond.neg c).text n = 33 :: c.text 3 := by
  unfold Sp.Cond.text
  rw [decide_eq_false (by show ¬ 3 < n; omega)]; rfl
theorem text_two (s : Int) (l h : Sp.Cond) (n : Nat) : (Sp.Cond.two s l h).text n = if s = 8 then Sp.brk (decide (2 < n)) (l.text 2 ++ 38 :: h.text 3) else Sp.brk (decide (1 < n)) (l.text 1 ++ 124 :: h.text 2) := by
  unfold Sp.Cond.text
  by_cases e : s = 8
  · rw [if_pos e]
    show Sp.brk (decide ((if s = 8 then 2 else 1) < n)) (if s = 8 then _ else _) = _
    rw [if_pos e, if_pos e]
  · rw [if_neg e]
    show Sp.brk (decide ((if s = 8 then 2 else 1) < n)) (if s = 8 then _ else _) = _
    rw [if_neg e, if_neg e]
theorem brk_len (b : Bool) (l : List UInt8) : l.length ≤ (Sp.brk b l).length ∧ (Sp.brk b l).length ≤ l.length + 2 := by
  unfold Sp.brk
  split
  · simp; omega
  · omega
theorem text_len (c : Sp.Cond) (n : Nat) : 1 ≤ (c.text n).length ∧ (c.text n).length ≤ 3 * c.steps.length := by
  induction c generalizing n with
  | one s =>
    have h := brk_len (decide ((Sp.Cond.one s).mine < n)) [Sp.sgn s]
    have h2 : ((Sp.Cond.one s).text n) = Sp.brk (decide ((Sp.Cond.one s).mine < n)) [Sp.sgn s] := rfl
    rw [h2]
    simp only [List.length_cons, List.length_nil] at h
    have h3 : (Sp.Cond.one s).steps.length = 1 := rfl
    omega
  | neg c ih =>
    have h := ih 3
    have h1 := brk_len (decide ((Sp.Cond.neg c).mine < n)) (33 :: c.text 3)
    have h2 : ((Sp.Cond.neg c).text n) = Sp.brk (decide ((Sp.Cond.neg c).mine < n)) (33 :: c.text 3) := rfl
    rw [h2]
    simp only [List.length_cons] at h1
    have h3 : (Sp.Cond.neg c).steps.length = c.steps.length + 1 := by simp [Sp.Cond.steps]
    omega
  | two s l h ihl ihh =>
    have h2 : (Sp.Cond.two s l h).steps.length = l.steps.length + h.steps.length + 1 := by simp [Sp.Cond.steps]; omega
    rw [text_two, h2]
    by_cases e : s = 8
    · rw [if_pos e]
      have a := ihl 2; have b := ihh 3
      have h1 := brk_len (decide (2 < n)) (l.text 2 ++ 38 :: h.text 3)
      simp only [List.length_cons, List.length_append] at h1
      omega
    · rw [if_neg e]
      have a := ihl 1; have b := ihh 2
      have h1 := brk_len (decide (1 < n)) (l.text 1 ++ 124 :: h.text 2)
      simp only [List.length_cons, List.length_append] at h1
      omega
/-- the text of a code -/
def Sp.codeText (l : List Int) : List UInt8 := if Sp.codeOk l = true then (Sp.treeOf l).text 0 else []

end Go.Proofs.YtphdojebdclonaaDoor

namespace Go.Proofs.YtphdojebdclonaaDoor
set_option linter.unusedSimpArgs false
set_option linter.unusedVariables false
open Go.RowKit

/-- the letters of the facts below k -/
def Sp.lets (s : Nat) : Nat → List UInt8
  | 0 => []
  | k + 1 => Sp.lets s k ++ (if s.testBit k = true then [UInt8.ofNat (97 + k)] else [])
def Sp.letters (x : Int) : List UInt8 := if x = 0 then [45] else Sp.lets x.toNat 5
theorem lets_none : ∀ s : Fin 32, Sp.lets s.val 5 = [] ↔ s.val = 0 := by decide +kernel
theorem lets_len (s k : Nat) : (Sp.lets s k).length ≤ k := by
  induction k with
  | zero => simp [Sp.lets]
  | succ k ih => simp only [Sp.lets, List.length_append]; split <;> simp <;> omega
/-- one byte made a string -/
theorem run_byte_string (w : World) (c : Nat) (hc : c < 256) : (convert 22 9 (.slice (some ⟨w.heap.size, 0, none⟩) 1 1)).run Tryd.prog (w.alloc (.cells #[.int .u8 (c : Int)] 5)) = .ok (.string ⟨#[UInt8.ofNat c]⟩) (w.alloc (.cells #[.int .u8 (c : Int)] 5)) := by
  have h := run_convert_bytes_back (P := Tryd.prog) (w.alloc (.cells #[.int .u8 (c : Int)] 5)) 22 9 5 ⟨w.heap.size, 0, none⟩ 1 [UInt8.ofNat c] Tryd.underlying22 Tryd.underlying5 Tryd.underlying9 (by
    intro j hj
    have : j = 0 := by simpa using hj
    subst this
    rw [show (⟨w.heap.size, 0, none⟩ : Addr).add 0 = ⟨w.heap.size, 0, none⟩ from rfl, World.cell?_alloc_new]
    simp
    omega)
  exact h

theorem str_add (x y : List UInt8) : ((⟨x.toArray⟩ : ByteArray) ++ ⟨y.toArray⟩) = ⟨(x ++ y).toArray⟩ := ByteArray.mk_append_mk x y
theorem str_add1 (x : List UInt8) (u : UInt8) : ((⟨x.toArray⟩ : ByteArray) ++ ⟨#[u]⟩) = ⟨(x ++ [u]).toArray⟩ := ByteArray.mk_append_mk x [u]

set_option maxHeartbeats 1000000 in
theorem c_sLetters (x : Int) (w : World) (h0 : 0 ≤ x) (h1 : x ≤ 31) : Calls Tryd.prog 75 #[.int .i64 x] w (RetK (.string ⟨(Sp.letters x).toArray⟩) w) := by
  obtain ⟨s, rfl⟩ := Int.eq_ofNat_of_zero_le h0
  have HE := Lib.hid (lets_none ⟨s, by omega⟩)
  go_enter Tryd.func75, Tryd.ntmps75
  go_wp2_with fail
  go_loopw [3, 4] (fun x i wr => ∃ k : Nat, k ≤ 5 ∧ i = .int .i64 k ∧ x = .string ⟨(Sp.lets s k).toArray⟩ ∧ Kept w wr) (fun x i _ => 5 - (intOf i).toNat)
  case atStart => exact ⟨0, Nat.zero_le _, rfl, rfl, Kept.refl _⟩
  case round =>
    obtain ⟨k, hk, rfl, rfl, hkp⟩ := hrel
    by_cases hlt : k < 5
    · have hll := lets_len s k
      clear HE
      obtain ⟨c, HC⟩ : ∃ c : Nat, Hid (c = 97 + k) := ⟨_, rfl⟩
      have hw : IntKind.i64.wrap (97 + (k : Int)) = (c : Int) := by rw [HC.out, IntKind.wrap_i64]; omega
      have hw8 : IntKind.u8.wrap (c : Int) = (c : Int) := by rw [HC.out]; simp [IntKind.wrap, IntKind.bits, IntKind.signed]; omega
      go_wp2_with fail
      refine (c_l1Bit (s : Int) (k : Int) _ (by omega) (by omega) (by omega) (by omega)).mono ?_; rintro e w2 ⟨rfl, rfl⟩
      rw [Int.toNat_natCast, Int.toNat_natCast]
      have hl1 : Sp.lets s (k + 1) = Sp.lets s k ++ (if s.testBit k = true then [UInt8.ofNat (97 + k)] else []) := rfl
      have HL := Lib.hid hl1
      clear hl1
      cases hb : s.testBit k
      · rw [hb] at HL
        have HL2 : Hid (Sp.lets s (k + 1) = Sp.lets s k) := by show _ = _; rw [HL.out]; simp
        clear hb hll hw hw8
        go_wp2_with fail
        exact ⟨⟨k + 1, by omega, by go_num, by rw [HL2.out], hkp⟩, by simp [intOf]; omega⟩
      · rw [hb] at HL
        have HL2 : Hid (Sp.lets s (k + 1) = Sp.lets s k ++ [UInt8.ofNat c]) := by show _ = _; rw [HL.out, HC.out]; simp
        clear hb
        have hcv := run_byte_string wr c (by rw [HC.out]; omega)
        obtain ⟨u, HU⟩ : ∃ u, Hid (UInt8.ofNat c = u) := ⟨_, rfl⟩
        rw [HU.out] at HL2 hcv
        go_wp2_with fail
        exact ⟨⟨k + 1, by omega, by go_num, by rw [HL2.out, str_add1], hkp.alloc _⟩, by simp [intOf]; omega⟩
    · obtain rfl : k = 5 := by omega
      clear hlt
      by_cases hz : s = 0
      · subst hz
        have HZ : Hid (Sp.letters ((0 : Nat) : Int) = [45]) := rfl
        have hE : (Sp.lets 0 5).isEmpty = true := rfl
        go_wp2_with fail
        all_goals (go_ret; exact ⟨by rfl, hkp⟩)
      · have HZ : Hid (Sp.letters (s : Int) = Sp.lets s 5) := by show _ = _; unfold Sp.letters; rw [if_neg (by omega), Int.toNat_natCast]
        have hE : (Sp.lets s 5).isEmpty = false := by
          cases e : Sp.lets s 5 with
          | nil => exact absurd (HE.out.1 e) hz
          | cons a l => rfl
        generalize Sp.lets s 5 = l at *
        go_wp2_with fail
        go_ret
        exact ⟨by rw [HZ.out]; rfl, hkp⟩

theorem info_u8 : (Tryd.prog.info? 5).map (fun i => (i.zero, i.size, i.bytes)) = some (some (.int .u8 0), 1, 1) := by kernel_rfl
/-- a row of bytes of the call's own -/
def OwnB (w : World) (B : Nat) (v : Value) (l : List UInt8) : Prop := w.ownsRow B 5 1 v l.length (Lib.byteCells l)
theorem OwnB.form {w : World} {B : Nat} {v : Value} {l : List UInt8} (h : OwnB w B v l) : ∃ A c, v = .slice A l.length c := own_form h
theorem OwnB.nil (w : World) (B : Nat) : OwnB w B (.slice none 0 0) [] := World.ownsRow_nil _ _ _ _
theorem OwnB.keep {w w' : World} {B : Nat} {v : Value} {l : List UInt8} (h : OwnB w B v l) (hk : Kept w w') : OwnB w' B v l := own_keep h hk
theorem OwnB.cells {w : World} {B : Nat} {A : Option Addr} {m c : Nat} {l : List UInt8} (h : OwnB w B (.slice A m c) l) (hl : l ≠ []) :
    ∃ g, A = some ⟨g, 0, none⟩ ∧ m = l.length ∧ B ≤ g ∧ g < w.heap.size ∧ ∀ j (hj : j < l.length), w.cell? ⟨g, j, none⟩ = some (.int .u8 (l[j].toNat : Int)) := by
  have hp : 0 < l.length := List.length_pos_iff.2 hl
  rcases h.2 with ⟨_, h0⟩ | ⟨g, cap, cur, e, hg, hh, h1, _, hc, ht⟩
  · omega
  · injection e with e1 e2 e3
    subst e1 e2 e3
    refine ⟨g, rfl, rfl, hg, ?_, fun j hj => ?_⟩
    · rcases Nat.lt_or_ge g w.heap.size with h' | h'
      · exact h'
      · simp [Array.getElem?_eq_none h'] at hh
    · rw [Lib.cell_of_heap hh]
      have h2 : (Lib.byteCells l)[j]? = some (.int .u8 (l[j].toNat : Int)) := by simp [Lib.byteCells, List.getElem?_eq_getElem hj]
      rw [← ht, List.getElem?_take] at h2
      split at h2
      · rw [Array.getElem?_toList] at h2; exact h2
      · cases h2
theorem OwnB.str {w : World} {B : Nat} {A : Option Addr} {m c : Nat} {l : List UInt8} (h : OwnB w B (.slice A m c) l) (hl : l ≠ []) :
    (convert 22 9 (.slice A m c)).run Tryd.prog w = .ok (.string ⟨l.toArray⟩) w := by
  obtain ⟨g, rfl, rfl, _, _, hc⟩ := h.cells hl
  exact run_convert_bytes_back (P := Tryd.prog) w 22 9 5 ⟨g, 0, none⟩ c l Tryd.underlying22 Tryd.underlying5 Tryd.underlying9 (fun j hj => by
    rw [show (⟨g, 0, none⟩ : Addr).add j = ⟨g, j, none⟩ by cases j <;> simp [Addr.add]]
    exact hc j hj)
theorem own_bytes {w : World} {B : Nat} {v : Value} {l m : List UInt8} {n : Nat} (h : w.ownsRow B 5 1 v n (Lib.byteCells l ++ Lib.byteCells m)) (hn : n = l.length + m.length) : OwnB w B v (l ++ m) := by
  subst hn
  rw [← Lib.byteCells_append, ← List.length_append] at h
  exact h

set_option maxHeartbeats 1000000 in
theorem c_iLetters (x : Int) (w : World) (h0 : 0 ≤ x) (h1 : x ≤ 31) : Calls Tryd.prog 71 #[.int .i64 x] w (RetK (.string ⟨(Sp.letters x).toArray⟩) w) := by
  obtain ⟨s, rfl⟩ := Int.eq_ofNat_of_zero_le h0
  obtain ⟨i0, hi0, hz0, hz1, hz2⟩ := info_parts info_u8
  have HI := Lib.hid (And.intro hi0 (And.intro hz0 (And.intro hz1 hz2)))
  clear hi0 hz0 hz1 hz2
  by_cases hs : s = 0
  · subst hs
    go_enter Tryd.func71, Tryd.ntmps71
    go_wp2_with fail
    go_ret
    exact ⟨rfl, Kept.refl _⟩
  have HE := Lib.hid (lets_none ⟨s, by omega⟩)
  have HS := Lib.hid hs
  have hs1 : ¬ ((s : Int) = 0) := by omega
  have HZ : Hid (Sp.letters (s : Int) = Sp.lets s 5) := by show _ = _; unfold Sp.letters; rw [if_neg (by omega), Int.toNat_natCast]
  clear hs
  go_enter Tryd.func71, Tryd.ntmps71
  go_wp2_with fail
  go_loopw [3, 4, 7] (fun v _ i wr => ∃ k : Nat, k ≤ 5 ∧ i = .int .i64 k ∧ OwnB wr w.heap.size v (Sp.lets s k) ∧ Kept w wr) (fun _ _ i _ => 5 - (intOf i).toNat)
  case atStart => exact ⟨0, Nat.zero_le _, rfl, OwnB.nil _ _, Kept.refl _⟩
  case round =>
    obtain ⟨k, hk, rfl, hO, hkp⟩ := hrel
    obtain ⟨A, cp, rfl⟩ := hO.form
    have HO := Lib.hid hO
    by_cases hlt : k < 5
    · have HLN := Lib.hid (lets_len s k)
      obtain ⟨c, HC⟩ : ∃ c : Nat, Hid (c = 97 + k) := ⟨_, rfl⟩
      have hw : IntKind.i64.wrap (97 + (k : Int)) = (c : Int) := by rw [HC.out, IntKind.wrap_i64]; omega
      have hw8 : IntKind.u8.wrap (c : Int) = (c : Int) := by rw [HC.out]; simp [IntKind.wrap, IntKind.bits, IntKind.signed]; omega
      have hbt := and_bit s k (by omega)
      have hl1 : Sp.lets s (k + 1) = Sp.lets s k ++ (if s.testBit k = true then [UInt8.ofNat (97 + k)] else []) := rfl
      have HL := Lib.hid hl1
      clear hO hl1
      cases hb : s.testBit k
      · rw [hb] at HL hbt
        have HL2 : Hid (Sp.lets s (k + 1) = Sp.lets s k) := by show _ = _; rw [HL.out]; simp
        clear hb hw hw8
        go_wp2_with fail
        refine ⟨⟨k + 1, by omega, by go_num, by rw [HL2.out]; exact HO.out, hkp⟩, by simp [intOf]; omega⟩
      · rw [hb] at HL hbt
        have HL2 : Hid (Sp.lets s (k + 1) = Sp.lets s k ++ [UInt8.ofNat c]) := by show _ = _; rw [HL.out, HC.out]; simp
        have HB : Hid (Lib.byteCells [UInt8.ofNat c] = [.int .u8 (c : Int)]) := by
          show _ = _
          have : (UInt8.ofNat c).toNat = c := by simp [UInt8.toNat_ofNat']; rw [HC.out]; omega
          simp only [Lib.byteCells, List.map_cons, List.map_nil, this]
        clear hb
        go_wp2_with (at_builtin; refine wpList_append_own _ rfl (.tmp 15) (.tmp 19) 22 rfl (w.heap.size) 5 i0 (.int .u8 0) 1 1 Tryd.underlying22 HI.out.1 HI.out.2.1 HI.out.2.2.1 HI.out.2.2.2 rfl (by decide) (.slice A (Sp.lets s k).length cp) (Sp.lets s k).length _ rfl (World.ownsRow.alloc HO.out _) ⟨wr.heap.size, 0, none⟩ 1 1 [.int .u8 ((c : Int))] rfl rfl (one_new _ _ _) (by simp [Value.oneCell']) (by have := HLN.out; unfold maxLen; omega) (by have := HLN.out; omega) (by have := hkp.size; simp; omega) ?_; intro v' wapp hown2 hg2 _)
        have HO2 : OwnB wapp w.heap.size v' (Sp.lets s k ++ [UInt8.ofNat c]) := own_bytes (by rw [HB.out]; exact hown2) rfl
        have hk2 : Kept w wapp := (hkp.alloc _).grown hg2 (fun k e => (HO.out.lt k e).1)
        go_wp2_with fail
        refine ⟨⟨k + 1, by omega, by go_num, by rw [HL2.out]; exact HO2, hk2⟩, by simp [intOf]; omega⟩
    · obtain rfl : k = 5 := by omega
      have hcv := hO.str (fun e => HS.out (HE.out.1 e))
      clear hlt
      go_wp2_with fail
      go_ret
      exact ⟨by rw [HZ.out]; rfl, hkp⟩

end Go.Proofs.YtphdojebdclonaaDoor

namespace Go.Proofs.YtphdojebdclonaaDoor
set_option linter.unusedSimpArgs false
set_option linter.unusedVariables false
open Go.RowKit

theorem span_step (c : Sp.Cond) (ts : List Sp.Cond) (hok : ∀ d ∈ c :: ts, d.ok) : ∃ ts', Sp.stepsOf (c :: ts) = Sp.stepsOf ts' ++ [c.last] ∧ ts'.length = ts.length + Sp.takes c.last ∧ ∀ d ∈ ts', d.ok := by
  have hc := hok c (by simp)
  have ht : ∀ d ∈ ts, d.ok := fun d hd => hok d (by simp [hd])
  cases c with
  | one s =>
    refine ⟨ts, rfl, ?_, ht⟩
    have : Sp.takes s = 0 := by unfold Sp.takes; obtain ⟨_, h6⟩ := hc; rw [if_neg (by omega), if_neg (by omega)]
    show _ = _ + Sp.takes s
    rw [this]; rfl
  | neg c =>
    refine ⟨c :: ts, by simp [Sp.stepsOf, Sp.Cond.steps, Sp.Cond.last], rfl, fun d hd => ?_⟩
    rcases List.mem_cons.1 hd with rfl | hd
    · exact hc
    · exact ht d hd
  | two s l h =>
    refine ⟨h :: l :: ts, by simp [Sp.stepsOf, Sp.Cond.steps, Sp.Cond.last], ?_, fun d hd => ?_⟩
    · show _ = _ + Sp.takes s
      rcases hc.1 with rfl | rfl <;> rfl
    · rcases List.mem_cons.1 hd with rfl | hd
      · exact hc.2.2
      · rcases List.mem_cons.1 hd with rfl | hd
        · exact hc.2.1
        · exact ht d hd
theorem getD_mid (a b : List Int) (x : Int) : (a ++ x :: b).getD a.length default = x := by simp
theorem getD_at {l a b : List Int} {x : Int} {k : Nat} (hl : l = a ++ x :: b) (hk : k = a.length) : l.getD k default = x := by subst hl hk; exact getD_mid a b x
theorem str_brk (l : List UInt8) : ((⟨#[40]⟩ : ByteArray) ++ ⟨l.toArray⟩ ++ ⟨#[41]⟩) = ⟨(Sp.brk true l).toArray⟩ := by
  exact (congrArg (fun z : ByteArray => z ++ ⟨#[41]⟩) (str_add [40] l)).trans (str_add1 (40 :: l) 41)
theorem stepsOf_ge (ts : List Sp.Cond) : ts.length ≤ (Sp.stepsOf ts).length := by
  induction ts with
  | nil => simp
  | cons c ts ih => have := steps_pos c; simp only [Sp.stepsOf, List.length_append, List.length_cons]; omega

set_option maxHeartbeats 1000000 in
theorem c_l5Span (A : Option Addr) (n c p : Nat) (l pre post : List Int) (d : Sp.Cond) (w : World) (h : Ints w A n l) (hl : l = pre ++ d.steps ++ post) (hd : d.ok) (hn : n ≤ 40) (hp : p + 1 = pre.length + d.steps.length) :
    Calls Tryd.prog 148 #[.slice A n c, .int .i64 p] w (Ret (.int .i64 (pre.length : Nat)) w) := by
  have HL := Lib.hid h.len
  have hpn : p + 1 ≤ n := by rw [← h.len, hl]; simp; omega
  have hw : IntKind.i64.wrap ((p : Int) + 1) = ((p + 1 : Nat) : Int) := by rw [IntKind.wrap_i64]; omega
  have HP := Lib.hid hp
  have H0 : Hid (∃ ts post, p + 1 = pre.length + (Sp.stepsOf ts).length ∧ 1 = ts.length ∧ l = pre ++ Sp.stepsOf ts ++ post ∧ ∀ d ∈ ts, d.ok) := ⟨[d], post, by simpa [Sp.stepsOf] using hp, rfl, by simpa [Sp.stepsOf] using hl, by simpa using hd⟩
  obtain ⟨P1, HP1⟩ : ∃ x : Nat, Hid (p + 1 = x) := ⟨_, rfl⟩
  rw [HP1.out] at hw H0
  clear hl hp
  go_enter Tryd.func148, Tryd.ntmps148
  go_wp2_with fail
  go_loop [5, 6] (fun a b => ∃ (q k : Nat), a = .int .i64 q ∧ b = .int .i64 k ∧ k ≤ p + 1 ∧ Hid (∃ ts post, k = pre.length + (Sp.stepsOf ts).length ∧ q = ts.length ∧ l = pre ++ Sp.stepsOf ts ++ post ∧ ∀ d ∈ ts, d.ok)) (fun _ b => (intOf b).toNat)
  case atStart => exact ⟨1, P1, rfl, rfl, Nat.le_of_eq HP1.out.symm, H0⟩
  case round =>
    obtain ⟨q, k, rfl, rfl, hk, HQ⟩ := hrel
    by_cases hq : q = 0
    · subst hq
      have hpre : k = pre.length := by
        obtain ⟨ts, post, h1, h2, _⟩ := HQ.out
        obtain rfl : ts = [] := List.eq_nil_of_length_eq_zero h2.symm
        simpa [Sp.stepsOf] using h1
      subst hpre
      go_wp2_with fail
      go_ret
      exact ⟨rfl, rfl⟩
    · have hq1 : (0 : Int) < (q : Int) := by omega
      obtain ⟨k', x, HX, hk1, hq2, H2⟩ : ∃ (k' : Nat) (x : Int), Hid (l.getD k' default = x) ∧ k = k' + 1 ∧ q ≤ k ∧ Hid (∃ ts post, k' = pre.length + (Sp.stepsOf ts).length ∧ q - 1 + Sp.takes x = ts.length ∧ l = pre ++ Sp.stepsOf ts ++ post ∧ ∀ d ∈ ts, d.ok) := by
        obtain ⟨ts, post, h1, h2, h3, h4⟩ := HQ.out
        match ts, h2 with
        | [], h2 => simp at h2; omega
        | c :: ts, h2 =>
          obtain ⟨ts', e1, e2, e3⟩ := span_step c ts h4
          have hge := stepsOf_ge (c :: ts)
          rw [e1] at h1 h3 hge
          simp only [List.length_append, List.length_cons, List.length_nil] at h1 h2 hge
          refine ⟨pre.length + (Sp.stepsOf ts').length, c.last, ?_, by omega, by omega, ⟨ts', c.last :: post, rfl, by omega, by rw [h3]; simp, e3⟩⟩
          show _ = _
          have := getD_mid (pre ++ Sp.stepsOf ts') post c.last
          rw [List.length_append] at this
          rw [h3, ← this]
          simp
      subst hk1
      obtain ⟨b, off, rfl, hb, hc, _⟩ := h.at (k := k') (by omega)
      rw [HX.out] at hc
      have ht : Sp.takes x ≤ 2 := by unfold Sp.takes; split <;> (try split) <;> omega
      have hw1 : IntKind.i64.wrap (((k' + 1 : Nat) : Int) - 1) = (k' : Int) := by rw [IntKind.wrap_i64]; omega
      have hw2 : IntKind.i64.wrap (IntKind.i64.wrap ((q : Int) - 1) + (Sp.takes x : Int)) = ((q - 1 + Sp.takes x : Nat) : Int) := by simp only [IntKind.wrap_i64]; omega
      clear HX HQ hw
      go_wp2_with fail
      refine (c_l5Takes x _).mono ?_; rintro e w2 ⟨rfl, rfl⟩
      go_wp2_with fail
      exact ⟨⟨q - 1 + Sp.takes x, k', by congr 1; omega, rfl, by omega, H2⟩, by simp [intOf]⟩

/-- the sign that stands for one step -/
theorem sgn_one {s : Int} (h0 : 0 ≤ s) (h1 : s < 5) : Sp.sgn s = UInt8.ofNat (97 + s.toNat) := by
  unfold Sp.sgn
  rw [if_neg (by omega), if_neg (by omega)]

set_option maxHeartbeats 4000000 in
theorem c_l5Text (d : Sp.Cond) : ∀ (A : Option Addr) (n c p m : Nat) (l pre post : List Int) (w : World), Ints w A n l → l = pre ++ d.steps ++ post → d.ok → n ≤ 40 → p + 1 = pre.length + d.steps.length → m ≤ 3 →
    Calls Tryd.prog 131 #[.slice A n c, .int .i64 p, .int .i64 m] w (RetK (.string ⟨(d.text m).toArray⟩) w) := by
  induction d with
  | one s =>
    intro A n c p m l pre post w h hl hd hn hp hm
    have HT := Lib.hid (text_one s m hm)
    obtain ⟨h0, h6⟩ := hd
    have HL := Lib.hid h.len
    have hpn : p < n := by rw [← h.len, hl]; simp [Sp.Cond.steps] at hp ⊢; omega
    obtain ⟨b, off, rfl, hb, hc, _⟩ := h.at hpn
    have hg : l.getD p default = s := by
      have := getD_mid pre post s
      simp only [Sp.Cond.steps, List.length_cons, List.length_nil] at hp
      rw [hl, show p = pre.length by omega, ← this]
      simp [Sp.Cond.steps]
    rw [hg] at hc
    clear hg hl hp hm
    obtain ⟨s, rfl⟩ := Int.eq_ofNat_of_zero_le h0
    by_cases h5 : s < 5
    · rw [sgn_one (by omega) (by omega), Int.toNat_natCast] at HT
      have hi5 : (s : Int) < 5 := by omega
      obtain ⟨c', HC⟩ : ∃ c : Nat, Hid (c = 97 + s) := ⟨_, rfl⟩
      have hw : IntKind.i64.wrap (97 + (s : Int)) = (c' : Int) := by rw [HC.out, IntKind.wrap_i64]; omega
      have hw8 : IntKind.u8.wrap (c' : Int) = (c' : Int) := by rw [HC.out]; simp [IntKind.wrap, IntKind.bits, IntKind.signed]; omega
      have hcv := run_byte_string w c' (by rw [HC.out]; omega)
      rw [← HC.out] at HT
      obtain ⟨u, HU⟩ : ∃ u, Hid (UInt8.ofNat c' = u) := ⟨_, rfl⟩
      rw [HU.out] at HT hcv
      clear h6
      go_enter Tryd.func131, Tryd.ntmps131
      go_wp2_with fail
      go_ret
      exact ⟨by rw [HT.out]; rfl, (Kept.refl _).alloc _⟩
    · have hi5 : ¬ (s : Int) < 5 := by omega
      by_cases e : s = 5
      · subst e
        go_enter Tryd.func131, Tryd.ntmps131
        go_wp2_with fail
        go_ret
        exact ⟨by show _ = Ending.returned (.string ⟨((Sp.Cond.one ((5 : Nat) : Int)).text m).toArray⟩); rw [HT.out]; rfl, (Kept.refl _)⟩
      · obtain rfl : s = 6 := by omega
        go_enter Tryd.func131, Tryd.ntmps131
        go_wp2_with fail
        go_ret
        exact ⟨by show _ = Ending.returned (.string ⟨((Sp.Cond.one ((6 : Nat) : Int)).text m).toArray⟩); rw [HT.out]; rfl, (Kept.refl _)⟩
  | neg d ih =>
    intro A n c p m l pre post w h hl hd hn hp hm
    have HT := Lib.hid (text_neg d m hm)
    have HL := Lib.hid h.len
    have hs1 := steps_pos d
    have hss : (Sp.Cond.neg d).steps = d.steps ++ [7] := rfl
    rw [hss] at hl hp
    simp only [List.length_append, List.length_cons, List.length_nil] at hp
    have hpn : p < n := by rw [← h.len, hl]; simp; omega
    obtain ⟨b, off, rfl, hb, hc, _⟩ := h.at hpn
    have hg : l.getD p default = 7 := by
      have := getD_mid (pre ++ d.steps) post 7
      rw [List.length_append] at this
      rw [hl, show p = pre.length + d.steps.length by omega, ← this]
      simp
    rw [hg] at hc
    have IH := Lib.hid (ih (some ⟨b, off, none⟩) n c (p - 1) 3 l pre (7 :: post) w h (by rw [hl]; simp) hd hn (by omega) (by omega))
    have hw1 : IntKind.i64.wrap ((p : Int) - 1) = ((p - 1 : Nat) : Int) := by rw [IntKind.wrap_i64]; omega
    have HLen := Lib.hid (text_len d 3)
    have hlen : (d.text 3).length ≤ 120 := by
      have h1 : d.steps.length ≤ 40 := by
        have h2 := h.len
        rw [hl] at h2
        simp at h2
        omega
      have := HLen.out.2
      omega
    clear hg hl hp hm ih hss
    go_enter Tryd.func131, Tryd.ntmps131
    go_wp2_with fail
    refine IH.out.mono ?_; rintro e w2 ⟨rfl, hk2⟩
    generalize d.text 3 = tx at *
    go_wp2_with fail
    go_ret
    exact ⟨by rw [HT.out]; exact congrArg (fun x => Ending.returned (.string x)) (str_add [33] tx), hk2⟩
  | two s d1 d2 ih1 ih2 =>
    intro A n c p m l pre post w h hl hd hn hp hm
    have HL := Lib.hid h.len
    have hs1 := steps_pos d1
    have hs2 := steps_pos d2
    have hss : (Sp.Cond.two s d1 d2).steps = d1.steps ++ d2.steps ++ [s] := rfl
    rw [hss] at hl hp
    simp only [List.length_append, List.length_cons, List.length_nil] at hp
    have hln : d1.steps.length + d2.steps.length ≤ 39 ∧ p < n := by
      have h2 := h.len
      rw [hl] at h2
      simp at h2
      omega
    obtain ⟨hln, hpn⟩ := hln
    have hlen1 : ∀ k, (d1.text k).length ≤ 120 := fun k => by have := text_len d1 k; omega
    have hlen2 : ∀ k, (d2.text k).length ≤ 120 := fun k => by have := text_len d2 k; omega
    obtain ⟨b, off, rfl, hb, hc, _⟩ := h.at hpn
    have hg : l.getD p default = s := getD_at (a := pre ++ d1.steps ++ d2.steps) (b := post) (by rw [hl]; simp) (by simp only [List.length_append]; omega)
    rw [hg] at hc
    have IS := Lib.hid (c_l5Span (some ⟨b, off, none⟩) n c (p - 1) l (pre ++ d1.steps) (s :: post) d2 w h (by rw [hl]; simp) hd.2.2 hn (by rw [List.length_append]; omega))
    rw [List.length_append] at IS
    have hw1 : IntKind.i64.wrap ((p : Int) - 1) = ((p - 1 : Nat) : Int) := by rw [IntKind.wrap_i64]; omega
    have hw2 : IntKind.i64.wrap (((pre.length + d1.steps.length : Nat) : Int) - 1) = ((pre.length + d1.steps.length - 1 : Nat) : Int) := by rw [IntKind.wrap_i64]; omega
    clear hg
    obtain ⟨hs, hd⟩ := hd
    rcases hs with rfl | rfl
    · have HT := Lib.hid (text_two 8 d1 d2 m)
      rw [if_pos rfl] at HT
      have IH1 := Lib.hid (ih1 (some ⟨b, off, none⟩) n c (pre.length + d1.steps.length - 1) 2 l pre (d2.steps ++ 8 :: post) w h (by rw [hl]; simp) hd.1 hn (by omega) (by omega))
      have IH2 := Lib.hid (fun w3 (hk3 : Kept w w3) => ih2 (some ⟨b, off, none⟩) n c (p - 1) 3 l (pre ++ d1.steps) (8 :: post) w3 (h.keep hk3) (by rw [hl]; simp) hd.2 hn (by rw [List.length_append]; omega) (by omega))
      have hx1 := hlen1 2
      have hx2 := hlen2 3
      obtain ⟨q, HQ⟩ : ∃ q, Hid (pre.length + d1.steps.length = q) := ⟨_, rfl⟩
      rw [HQ.out] at IS hw2 IH1
      generalize d1.text 2 = t1 at *
      generalize d2.text 3 = t2 at *
      have hx3 : (t1 ++ 38 :: t2).length ≤ 241 := by simp; omega
      have HJ : Hid ((⟨t1.toArray⟩ : ByteArray) ++ ⟨#[38]⟩ ++ ⟨t2.toArray⟩ = ⟨(t1 ++ 38 :: t2).toArray⟩) := by
        show _ = _
        rw [str_add1, str_add]; simp
      clear hl hp ih1 ih2 hss hlen1 hlen2 hn hln
      by_cases hm2 : 2 < m
      · rw [decide_eq_true hm2] at HT
        have hmi : (2 : Int) < (m : Int) := by omega
        go_enter Tryd.func131, Tryd.ntmps131
        go_wp2_with fail
        refine IS.out.mono ?_; rintro e w2 ⟨rfl, rfl⟩
        go_wp2_with fail
        refine IH1.out.mono ?_; rintro e w3 ⟨rfl, hk3⟩
        go_wp2_with fail
        refine (IH2.out w3 hk3).mono ?_; rintro e w4 ⟨rfl, hk4⟩
        go_wp2_with fail
        go_ret
        exact ⟨by rw [HT.out, HJ.out]; exact congrArg (fun x => Ending.returned (.string x)) (str_brk _), hk3.trans hk4⟩
      · rw [decide_eq_false hm2] at HT
        have hmi : ¬ (2 : Int) < (m : Int) := by omega
        go_enter Tryd.func131, Tryd.ntmps131
        go_wp2_with fail
        refine IS.out.mono ?_; rintro e w2 ⟨rfl, rfl⟩
        go_wp2_with fail
        refine IH1.out.mono ?_; rintro e w3 ⟨rfl, hk3⟩
        go_wp2_with fail
        refine (IH2.out w3 hk3).mono ?_; rintro e w4 ⟨rfl, hk4⟩
        go_wp2_with fail
        go_ret
        exact ⟨by rw [HT.out, HJ.out]; rfl, hk3.trans hk4⟩
    · have HT := Lib.hid (text_two 9 d1 d2 m)
      rw [if_neg (by decide)] at HT
      have IH1 := Lib.hid (ih1 (some ⟨b, off, none⟩) n c (pre.length + d1.steps.length - 1) 1 l pre (d2.steps ++ 9 :: post) w h (by rw [hl]; simp) hd.1 hn (by omega) (by omega))
      have IH2 := Lib.hid (fun w3 (hk3 : Kept w w3) => ih2 (some ⟨b, off, none⟩) n c (p - 1) 2 l (pre ++ d1.steps) (9 :: post) w3 (h.keep hk3) (by rw [hl]; simp) hd.2 hn (by rw [List.length_append]; omega) (by omega))
      have hx1 := hlen1 1
      have hx2 := hlen2 2
      obtain ⟨q, HQ⟩ : ∃ q, Hid (pre.length + d1.steps.length = q) := ⟨_, rfl⟩
      rw [HQ.out] at IS hw2 IH1
      generalize d1.text 1 = t1 at *
      generalize d2.text 2 = t2 at *
      have hx3 : (t1 ++ 124 :: t2).length ≤ 241 := by simp; omega
      have HJ : Hid ((⟨t1.toArray⟩ : ByteArray) ++ ⟨#[124]⟩ ++ ⟨t2.toArray⟩ = ⟨(t1 ++ 124 :: t2).toArray⟩) := by
        show _ = _
        rw [str_add1, str_add]; simp
      clear hl hp ih1 ih2 hss hlen1 hlen2 hn hln
      by_cases hm2 : 1 < m
      · rw [decide_eq_true hm2] at HT
        have hmi : (1 : Int) < (m : Int) := by omega
        go_enter Tryd.func131, Tryd.ntmps131
        go_wp2_with fail
        refine IS.out.mono ?_; rintro e w2 ⟨rfl, rfl⟩
        go_wp2_with fail
        refine IH1.out.mono ?_; rintro e w3 ⟨rfl, hk3⟩
        go_wp2_with fail
        refine (IH2.out w3 hk3).mono ?_; rintro e w4 ⟨rfl, hk4⟩
        go_wp2_with fail
        go_ret
        exact ⟨by rw [HT.out, HJ.out]; exact congrArg (fun x => Ending.returned (.string x)) (str_brk _), hk3.trans hk4⟩
      · rw [decide_eq_false hm2] at HT
        have hmi : ¬ (1 : Int) < (m : Int) := by omega
        go_enter Tryd.func131, Tryd.ntmps131
        go_wp2_with fail
        refine IS.out.mono ?_; rintro e w2 ⟨rfl, rfl⟩
        go_wp2_with fail
        refine IH1.out.mono ?_; rintro e w3 ⟨rfl, hk3⟩
        go_wp2_with fail
        refine (IH2.out w3 hk3).mono ?_; rintro e w4 ⟨rfl, hk4⟩
        go_wp2_with fail
        go_ret
        exact ⟨by rw [HT.out, HJ.out]; rfl, hk3.trans hk4⟩

theorem codeText_no {l : List Int} (h : Sp.codeOk l = false) : Sp.codeText l = [] := by unfold Sp.codeText; rw [if_neg (by rw [h]; decide)]
theorem codeText_yes {l : List Int} (h : Sp.codeOk l = true) : Sp.codeText l = (Sp.treeOf l).text 0 := by unfold Sp.codeText; rw [if_pos h]
theorem codeOk_len {l : List Int} (h : Sp.codeOk l = true) : 1 ≤ l.length ∧ l.length ≤ 40 := by
  obtain ⟨q, _, _, h1, h2⟩ := (Sp.codeOk_iff l).1 h
  exact ⟨h1, h2⟩
theorem codeText_len (l : List Int) : (Sp.codeText l).length ≤ 120 := by
  cases h : Sp.codeOk l
  · rw [codeText_no h]; simp
  · rw [codeText_yes h]
    have h1 := (text_len (Sp.treeOf l) 0).2
    rw [(tree_code h).2.2.1] at h1
    have := (codeOk_len h).2
    omega

set_option maxHeartbeats 1000000 in
theorem c_sCodeText (A : Option Addr) (n c : Nat) (l : List Int) (w : World) (h : Ints w A n l) : Calls Tryd.prog 76 #[.slice A n c] w (RetK (.string ⟨(Sp.codeText l).toArray⟩) w) := by
  have hn := h.le
  cases hc : Sp.codeOk l
  · have HT := Lib.hid (codeText_no hc)
    have HO := Lib.hid hc
    clear hc
    go_enter Tryd.func76, Tryd.ntmps76
    go_wp2_with fail
    refine (c_sCodeValid A n c l w h).mono ?_; rintro e w2 ⟨rfl, rfl⟩
    rw [HO.out]
    go_wp2_with fail
    go_ret
    exact ⟨by rw [HT.out]; rfl, Kept.refl _⟩
  · have HT := Lib.hid (codeText_yes hc)
    have HO := Lib.hid hc
    obtain ⟨ht1, ht2, ht3, _⟩ := tree_code hc
    obtain ⟨h1, h2⟩ := codeOk_len hc
    rw [h.len] at h1 h2
    have IH := Lib.hid (c_l5Text (Sp.treeOf l) A n c (n - 1) 0 l [] [] w h (by rw [ht3]; simp) ht2 h2 (by rw [ht3, h.len]; simp; omega) (by omega))
    have hw1 : IntKind.i64.wrap ((n : Int) - 1) = ((n - 1 : Nat) : Int) := by rw [IntKind.wrap_i64]; omega
    clear hc ht1 ht2 ht3
    go_enter Tryd.func76, Tryd.ntmps76
    go_wp2_with fail
    refine (c_sCodeValid A n c l w h).mono ?_; rintro e w2 ⟨rfl, rfl⟩
    rw [HO.out]
    go_wp2_with fail
    refine IH.out.mono ?_; rintro e w4 ⟨rfl, hk4⟩
    go_wp2_with fail
    go_ret
    exact ⟨by rw [HT.out]; rfl, hk4⟩

end Go.Proofs.YtphdojebdclonaaDoor
