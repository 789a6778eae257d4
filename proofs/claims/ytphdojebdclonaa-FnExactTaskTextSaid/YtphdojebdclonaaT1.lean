/- Plain: codes as trees, their texts. No program in sight. No condition. -/
import Derived.Test.YtphdojebdclonaaG26
namespace Go.Proofs.Ytphdojebdclonaa

/-- a code as a tree -/
inductive Sp.Cond where
  | one (s : Int)
  | neg (c : Sp.Cond)
  | two (s : Int) (l h : Sp.Cond)
  deriving Inhabited

def Sp.Cond.steps : Sp.Cond → List Int
  | .one s => [s]
  | .neg c => c.steps ++ [7]
  | .two s l h => l.steps ++ h.steps ++ [s]
def Sp.Cond.ok : Sp.Cond → Prop
  | .one s => 0 ≤ s ∧ s ≤ 6
  | .neg c => c.ok
  | .two s l h => (s = 8 ∨ s = 9) ∧ l.ok ∧ h.ok
def Sp.Cond.last : Sp.Cond → Int
  | .one s => s
  | .neg _ => 7
  | .two s _ _ => s
def Sp.Cond.eval (n : Nat) : Sp.Cond → Bool
  | .one s => if s = 5 then true else if s = 6 then false else n.testBit s.toNat
  | .neg c => !c.eval n
  | .two s l h => if s = 8 then (l.eval n && h.eval n) else (l.eval n || h.eval n)
/-- one step of reading a code into trees -/
def Sp.tstep (st : List Sp.Cond) (c : Int) : List Sp.Cond :=
  if c = 7 then .neg (st.headD default) :: st.tail
  else if c = 8 ∨ c = 9 then .two c (st.tail.headD default) (st.headD default) :: st.tail.tail
  else .one c :: st
def Sp.treesOf (l : List Int) : List Sp.Cond := l.foldl Sp.tstep []
def Sp.treeOf (l : List Int) : Sp.Cond := (Sp.treesOf l).headD default
/-- the steps of several trees, the last one first -/
def Sp.stepsOf : List Sp.Cond → List Int
  | [] => []
  | c :: cs => Sp.stepsOf cs ++ c.steps
theorem steps_pos (c : Sp.Cond) : 1 ≤ c.steps.length := by
  cases c <;> simp [Sp.Cond.steps] <;> omega
theorem steps_last (c : Sp.Cond) : ∃ p, c.steps = p ++ [c.last] := by
  cases c with
  | one s => exact ⟨[], rfl⟩
  | neg c => exact ⟨c.steps, rfl⟩
  | two s l h => exact ⟨l.steps ++ h.steps, rfl⟩
theorem trees_snoc (l : List Int) (k : Nat) (h : k < l.length) : Sp.treesOf (l.take (k + 1)) = Sp.tstep (Sp.treesOf (l.take k)) (l.getD k default) :=
  Sp.take_foldl l Sp.tstep _ k h
theorem trees_at (l : List Int) (k : Nat) : ∀ p, Sp.depthOf (l.take k) = some p → (Sp.treesOf (l.take k)).length = p.1 ∧ (∀ c ∈ Sp.treesOf (l.take k), c.ok) ∧ Sp.stepsOf (Sp.treesOf (l.take k)) = l.take k ∧ ∀ n, (Sp.treesOf (l.take k)).map (Sp.Cond.eval n) = Sp.stackOf (l.take k) n := by
  induction k with
  | zero =>
    intro p hp
    simp [Sp.depthOf] at hp; subst hp
    refine ⟨rfl, fun c hc => ?_, rfl, fun n => rfl⟩
    simp [Sp.treesOf] at hc
  | succ k ih =>
    intro p hp
    by_cases hk : k < l.length
    · rw [Sp.depth_snoc l k hk] at hp
      cases hq : Sp.depthOf (l.take k) with
      | none => rw [hq] at hp; simp [Sp.dstep] at hp
      | some q =>
        rw [hq] at hp
        obtain ⟨i1, i2, i3, i4⟩ := ih q hq
        have hsn : ∀ n, Sp.stackOf (l.take (k + 1)) n = Sp.rstep n (Sp.stackOf (l.take k) n) (l.getD k default) := fun n => Sp.stack_snoc l n k hk
        have htk : l.take (k + 1) = l.take k ++ [l.getD k default] := by
          rw [List.take_succ_eq_append_getElem hk, List.getD_eq_getElem?_getD, List.getElem?_eq_getElem hk]; rfl
        rw [trees_snoc l k hk, htk]
        have hsn2 : ∀ n, Sp.stackOf (l.take k ++ [l.getD k default]) n = Sp.rstep n (Sp.stackOf (l.take k) n) (l.getD k default) := fun n => by rw [← htk]; exact hsn n
        generalize Sp.treesOf (l.take k) = st at *
        generalize l.getD k default = c at *
        generalize l.take k = pre at *
        simp only [Sp.dstep] at hp
        split at hp
        · rename_i hc
          simp only [Option.some.injEq] at hp
          subst hp
          obtain ⟨h1, h2, h3⟩ := hc
          unfold Sp.takes at h3
          show (Sp.tstep st c).length = q.1 - Sp.takes c + 1 ∧ _
          unfold Sp.takes
          by_cases e7 : c = 7
          · subst e7
            rw [if_pos rfl] at h3
            obtain ⟨x, xs, rfl⟩ : ∃ x xs, st = x :: xs := by
              cases st with
              | nil => simp at i1; omega
              | cons x xs => exact ⟨x, xs, rfl⟩
            refine ⟨by simp [Sp.tstep] at i1 ⊢; omega, fun c hc => ?_, ?_, fun n => ?_⟩
            · simp only [Sp.tstep, if_true, List.headD_cons, List.tail_cons, List.mem_cons] at hc
              rcases hc with rfl | hc
              · exact i2 x (by simp)
              · exact i2 c (by simp [hc])
            · rw [← i3]; simp [Sp.tstep, Sp.stepsOf, Sp.Cond.steps]
            · rw [hsn2, ← i4 n]; simp [Sp.tstep, Sp.rstep, Sp.Cond.eval]
          · by_cases e89 : c = 8 ∨ c = 9
            · rw [if_neg e7, if_pos e89] at h3
              obtain ⟨x, y, xs, rfl⟩ : ∃ x y xs, st = x :: y :: xs := by
                cases st with
                | nil => simp at i1; omega
                | cons x xs =>
                  cases xs with
                  | nil => simp at i1; omega
                  | cons y xs => exact ⟨x, y, xs, rfl⟩
              have ht : Sp.tstep (x :: y :: xs) c = .two c y x :: xs := by unfold Sp.tstep; rw [if_neg e7, if_pos e89]; rfl
              rw [ht]
              refine ⟨by rw [if_neg e7, if_pos e89]; simp at i1 ⊢; omega, fun d hd => ?_, ?_, fun n => ?_⟩
              · rw [List.mem_cons] at hd
                rcases hd with rfl | hd
                · exact ⟨e89, i2 y (by simp), i2 x (by simp)⟩
                · exact i2 d (by simp [hd])
              · rw [← i3]; simp [Sp.stepsOf, Sp.Cond.steps]
              · rw [hsn2, ← i4 n]
                rcases e89 with rfl | rfl <;> simp [Sp.rstep, Sp.Cond.eval]
            · have ht : Sp.tstep st c = .one c :: st := by unfold Sp.tstep; rw [if_neg e7, if_neg e89]
              rw [ht]
              have hc6 : c ≤ 6 := by omega
              refine ⟨by rw [if_neg e7, if_neg e89]; simp; omega, fun d hd => ?_, ?_, fun n => ?_⟩
              · rw [List.mem_cons] at hd
                rcases hd with rfl | hd
                · exact ⟨h1, hc6⟩
                · exact i2 d hd
              · rw [← i3]; simp [Sp.stepsOf, Sp.Cond.steps]
              · rw [hsn2, ← i4 n]
                unfold Sp.rstep
                rw [if_neg e7, if_neg (by omega), if_neg (by omega)]
                by_cases e5 : c = 5
                · subst e5; simp [Sp.Cond.eval]
                · by_cases e6 : c = 6
                  · subst e6; simp [Sp.Cond.eval]
                  · simp [Sp.Cond.eval, e5, e6]
        · simp at hp
    · have e : l.take (k + 1) = l.take k := by rw [List.take_of_length_le (by omega), List.take_of_length_le (by omega)]
      rw [e] at hp ⊢
      exact ih p hp
theorem tree_code {l : List Int} (h : Sp.codeOk l = true) : (Sp.treesOf l = [Sp.treeOf l]) ∧ (Sp.treeOf l).ok ∧ (Sp.treeOf l).steps = l ∧ ∀ n, (Sp.treeOf l).eval n = Sp.run l n := by
  obtain ⟨q, hq, h1, _, _⟩ := (Sp.codeOk_iff l).1 h
  have ht : l.take l.length = l := List.take_length
  obtain ⟨i1, i2, i3, i4⟩ := trees_at l l.length q (by rw [ht]; exact hq)
  rw [ht] at i1 i2 i3 i4
  unfold Sp.treeOf Sp.run
  have i5 := fun n => (i4 n).symm
  generalize Sp.treesOf l = st at *
  match st, i1 with
  | [c], _ =>
    refine ⟨rfl, i2 c (by simp), by rw [← i3]; simp [Sp.stepsOf], fun n => ?_⟩
    rw [i5 n]; rfl
  | [], i1 => simp at i1; omega
  | _ :: _ :: _, i1 => simp at i1; omega
/-- how deep a stack a tree wants -/
theorem depth_tree (c : Sp.Cond) (hc : c.ok) : ∀ p : Nat × Nat, ∃ m, c.steps.foldl Sp.dstep (some p) = some (p.1 + 1, m) := by
  induction c with
  | one s =>
    intro p
    obtain ⟨h1, h2⟩ := hc
    refine ⟨max p.2 (p.1 + 1), ?_⟩
    show Sp.dstep (some p) s = _
    have ht : Sp.takes s = 0 := by unfold Sp.takes; rw [if_neg (by omega), if_neg (by omega)]
    unfold Sp.dstep
    rw [ht]
    show (if _ then _ else _) = _
    rw [if_pos ⟨h1, by omega, Nat.zero_le _⟩]; rfl
  | neg c ih =>
    intro p
    obtain ⟨m, hm⟩ := ih hc p
    refine ⟨max m (p.1 + 1), ?_⟩
    show (c.steps ++ [7]).foldl _ _ = _
    rw [List.foldl_append, hm]
    show Sp.dstep (some (p.1 + 1, m)) 7 = _
    unfold Sp.dstep Sp.takes
    simp
  | two s l h ihl ihh =>
    intro p
    obtain ⟨h1, h2, h3⟩ := hc
    obtain ⟨m, hm⟩ := ihl h2 p
    obtain ⟨m2, hm2⟩ := ihh h3 (p.1 + 1, m)
    refine ⟨max m2 (p.1 + 1), ?_⟩
    show (l.steps ++ h.steps ++ [s]).foldl _ _ = _
    rw [List.foldl_append, List.foldl_append, hm, hm2]
    show Sp.dstep (some (p.1 + 1 + 1, m2)) s = _
    unfold Sp.dstep Sp.takes
    rcases h1 with rfl | rfl <;> simp
theorem code_tree {c : Sp.Cond} (hc : c.ok) (hl : c.steps.length ≤ 40) : Sp.codeOk c.steps = true := by
  obtain ⟨m, hm⟩ := depth_tree c hc (0, 0)
  exact (Sp.codeOk_iff _).2 ⟨_, hm, rfl, steps_pos c, hl⟩
/-- the trees of a tree's steps, upon others -/
theorem trees_tree (c : Sp.Cond) (hc : c.ok) : ∀ st, c.steps.foldl Sp.tstep st = c :: st := by
  induction c with
  | one s =>
    intro st
    obtain ⟨h1, h2⟩ := hc
    show Sp.tstep st s = _
    unfold Sp.tstep
    rw [if_neg (by omega), if_neg (by omega)]
  | neg c ih =>
    intro st
    show (c.steps ++ [7]).foldl _ _ = _
    rw [List.foldl_append, ih hc]
    rfl
  | two s l h ihl ihh =>
    intro st
    obtain ⟨h1, h2, h3⟩ := hc
    show (l.steps ++ h.steps ++ [s]).foldl _ _ = _
    rw [List.foldl_append, List.foldl_append, ihl h2, ihh h3]
    show Sp.tstep (h :: l :: st) s = _
    unfold Sp.tstep
    rw [if_neg (by omega), if_pos h1]
    rfl
theorem tree_steps {c : Sp.Cond} (hc : c.ok) : Sp.treeOf c.steps = c := by
  unfold Sp.treeOf Sp.treesOf
  rw [trees_tree c hc]
  rfl

/-! texts -/

/-- the sign of a single step -/
def Sp.sgn (s : Int) : UInt8 := if s = 5 then 49 else if s = 6 then 48 else UInt8.ofNat (97 + s.toNat)
/-- how strongly a tree binds -/
def Sp.Cond.mine : Sp.Cond → Nat
  | .two s _ _ => if s = 8 then 2 else 1
  | _ => 3
def Sp.brk (b : Bool) (l : List UInt8) : List UInt8 := if b = true then 40 :: (l ++ [41]) else l
/-- the text of a tree -/
def Sp.Cond.txt : Sp.Cond → List UInt8
  | .one s => [Sp.sgn s]
  | .neg c => 33 :: Sp.brk (decide (c.mine < 3)) c.txt
  | .two s l h => if s = 8 then Sp.brk (decide (l.mine < 2)) l.txt ++ 38 :: Sp.brk (decide (h.mine < 3)) h.txt
      else Sp.brk (decide (l.mine < 1)) l.txt ++ 124 :: Sp.brk (decide (h.mine < 2)) h.txt
/-- the text of a tree where so much is to bind -/
def Sp.Cond.text (c : Sp.Cond) (n : Nat) : List UInt8 := Sp.brk (decide (c.mine < n)) c.txt
theorem text_one (s : Int) (n : Nat) (hn : n ≤ 3) : (Sp.Cond.one s).text n = [Sp.sgn s] := by
  unfold Sp.Cond.text
  rw [decide_eq_false (by show ¬ 3 < n; omega)]; rfl
theorem text_neg (c : Sp.Cond) (n : Nat) (hn : n ≤ 3) : (Sp.Cond.neg c).text n = 33 :: c.text 3 := by
  unfold Sp.Cond.text
  rw [decide_eq_false (by show ¬ 3 < n; omega)]; rfl
theorem text_two (s : Int) (l h : Sp.Cond) (n : Nat) : (Sp.Cond.two s l h).text n = if s = 8 then Sp.brk (decide (2 < n)) (l.text 2 ++ 38 :: h.text 3) else Sp.brk (decide (1 < n)) (l.text 1 ++ 124 :: h.text 2) := by
  unfold Sp.Cond.text
  by_cases e : s = 8
  · rw [if_pos e]
    show Sp.brk (decide ((if s = 8 then 2 else 1) < n)) (if s = 8 then _ else _) = _
    rw [if_pos e, if_pos e]
  · rw [if_neg e]
    show Sp.brk (decide ((if s = 8 then 2 else 1) < n)) (if s = 8 then _ else _) = _
    rw [if_neg e, if_neg e]
theorem brk_len (b : Bool) (l : List UInt8) : l.length ≤ (Sp.brk b l).length ∧ (Sp.brk b l).length ≤ l.length + 2 := by
  unfold Sp.brk
  split
  · simp; omega
  · omega
theorem text_len (c : Sp.Cond) (n : Nat) : 1 ≤ (c.text n).length ∧ (c.text n).length ≤ 3 * c.steps.length := by
  induction c generalizing n with
  | one s =>
    have h := brk_len (decide ((Sp.Cond.one s).mine < n)) [Sp.sgn s]
    have h2 : ((Sp.Cond.one s).text n) = Sp.brk (decide ((Sp.Cond.one s).mine < n)) [Sp.sgn s] := rfl
    rw [h2]
    simp only [List.length_cons, List.length_nil] at h
    have h3 : (Sp.Cond.one s).steps.length = 1 := rfl
    omega
  | neg c ih =>
    have h := ih 3
    have h1 := brk_len (decide ((Sp.Cond.neg c).mine < n)) (33 :: c.text 3)
    have h2 : ((Sp.Cond.neg c).text n) = Sp.brk (decide ((Sp.Cond.neg c).mine < n)) (33 :: c.text 3) := rfl
    rw [h2]
    simp only [List.length_cons] at h1
    have h3 : (Sp.Cond.neg c).steps.length = c.steps.length + 1 := by simp [Sp.Cond.steps]
    omega
  | two s l h ihl ihh =>
    have h2 : (Sp.Cond.two s l h).steps.length = l.steps.length + h.steps.length + 1 := by simp [Sp.Cond.steps]; omega
    rw [text_two, h2]
    by_cases e : s = 8
    · rw [if_pos e]
      have a := ihl 2; have b := ihh 3
      have h1 := brk_len (decide (2 < n)) (l.text 2 ++ 38 :: h.text 3)
      simp only [List.length_cons, List.length_append] at h1
      omega
    · rw [if_neg e]
      have a := ihl 1; have b := ihh 2
      have h1 := brk_len (decide (1 < n)) (l.text 1 ++ 124 :: h.text 2)
      simp only [List.length_cons, List.length_append] at h1
      omega
/-- the text of a code -/
def Sp.codeText (l : List Int) : List UInt8 := if Sp.codeOk l = true then (Sp.treeOf l).text 0 else []

end Go.Proofs.Ytphdojebdclonaa
