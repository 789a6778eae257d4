/- Plain: the search with numbers. Walks: which state is looked at next (the program's). No condition. -/
import Derived.Test.YtphdojebdclonaaDoorG33
import Derived.StillTailTactics
namespace Go.Proofs.YtphdojebdclonaaDoor
open Go.RowKit

/-- a state comes before another one -/
def Sp.better (N f : Nat → Int) (a b : Nat) : Bool := decide (f a + N a < f b + N b) || (decide (f a + N a = f b + N b) && decide (N a < N b))
/-- the best one of the first states, of those that are reached and not looked at -/
def Sp.bestUp (N f : Nat → Int) (D : Nat) : Nat → Option Nat
  | 0 => none
  | j + 1 => if f j < 0 ∨ D.testBit j = true then Sp.bestUp N f D j else match Sp.bestUp N f D j with | none => some j | some b => if Sp.better N f j b = true then some j else some b
def Sp.optI : Option Nat → Int | none => -1 | some b => (b : Nat)
theorem bestUp_off {N f : Nat → Int} {D j : Nat} (h : f j < 0 ∨ D.testBit j = true) : Sp.bestUp N f D (j + 1) = Sp.bestUp N f D j := by
  show (if _ then _ else _) = _
  rw [if_pos h]
theorem bestUp_first {N f : Nat → Int} {D j : Nat} (h : ¬ (f j < 0 ∨ D.testBit j = true)) (hb : Sp.bestUp N f D j = none) : Sp.bestUp N f D (j + 1) = some j := by
  show (if _ then _ else _) = _
  rw [if_neg h, hb]
theorem bestUp_on {N f : Nat → Int} {D j b : Nat} (h : ¬ (f j < 0 ∨ D.testBit j = true)) (hb : Sp.bestUp N f D j = some b) : Sp.bestUp N f D (j + 1) = if Sp.better N f j b = true then some j else some b := by
  show (if _ then _ else _) = _
  rw [if_neg h, hb]
theorem bestUp_some {N f : Nat → Int} {D b : Nat} (j : Nat) (h : Sp.bestUp N f D j = some b) : b < j ∧ 0 ≤ f b ∧ D.testBit b = false := by
  induction j generalizing b with
  | zero => cases h
  | succ j ih =>
    by_cases ho : f j < 0 ∨ D.testBit j = true
    · rw [bestUp_off ho] at h
      have := ih h
      exact ⟨by omega, this.2⟩
    · have h2 : 0 ≤ f j ∧ D.testBit j = false := by
        refine ⟨Int.not_lt.1 fun h => ho (.inl h), ?_⟩
        cases hd : D.testBit j
        · rfl
        · exact absurd (.inr hd) ho
      cases hb : Sp.bestUp N f D j with
      | none =>
        rw [bestUp_first ho hb] at h
        obtain rfl := Option.some.inj h
        exact ⟨by omega, h2⟩
      | some c =>
        rw [bestUp_on ho hb] at h
        split at h
        · obtain rfl := Option.some.inj h
          exact ⟨by omega, h2⟩
        · obtain rfl := Option.some.inj h
          have := ih hb
          exact ⟨by omega, this.2⟩

/-- a state is reached by a deed -/
def Sp.relax (f : Nat → Int) (s : Nat) (to : Int) : Nat → Int := fun j => if 0 ≤ to ∧ (f to.toNat < 0 ∨ f s + 1 < f to.toNat) ∧ j = to.toNat then f s + 1 else f j
def Sp.lookUp (F : Nat → Int) (s : Nat) (f : Nat → Int) : Nat → (Nat → Int)
  | 0 => f
  | k + 1 => Sp.relax (Sp.lookUp F s f k) s (F (k * 32 + s))
theorem relax_self {f : Nat → Int} {s : Nat} {to : Int} (h : 0 ≤ f s) : Sp.relax f s to s = f s := by
  unfold Sp.relax
  split
  · rename_i hc
    obtain ⟨h0, h1, h2⟩ := hc
    rw [← h2] at h1
    omega
  · rfl
theorem lookUp_self {F : Nat → Int} {s : Nat} {f : Nat → Int} (h : 0 ≤ f s) (k : Nat) : Sp.lookUp F s f k s = f s := by
  induction k with
  | zero => rfl
  | succ k ih =>
    show Sp.relax (Sp.lookUp F s f k) s _ s = _
    rw [relax_self (by rw [ih]; exact h), ih]
theorem lookUp_bd {F : Nat → Int} {s : Nat} {f : Nat → Int} {M : Int} (h : ∀ j, -1 ≤ f j ∧ f j ≤ M) (hs : 0 ≤ f s) (k : Nat) : ∀ j, -1 ≤ Sp.lookUp F s f k j ∧ Sp.lookUp F s f k j ≤ M + 1 := by
  induction k with
  | zero => intro j; have := h j; show -1 ≤ f j ∧ f j ≤ M + 1; omega
  | succ k ih =>
    intro j
    show -1 ≤ Sp.relax (Sp.lookUp F s f k) s _ j ∧ Sp.relax (Sp.lookUp F s f k) s _ j ≤ M + 1
    have h1 := ih j
    have h2 := lookUp_self (F := F) hs k
    have h3 := h s
    unfold Sp.relax
    split
    · rw [h2]; omega
    · exact h1

/-- how many states were looked at -/
def Sp.pop (D : Nat) : Nat := (List.range 32).countP fun j => D.testBit j
theorem pop_le (D : Nat) : Sp.pop D ≤ 32 := by
  have := List.countP_le_length (p := fun j => D.testBit j) (l := List.range 32)
  rw [List.length_range] at this
  exact this
theorem countP_more {p q : Nat → Bool} {b : Nat} (l : List Nat) (hn : l.Nodup) (hb : b ∈ l) (h0 : p b = false) (h1 : q b = true) (h2 : ∀ j, j ≠ b → q j = p j) : l.countP q = l.countP p + 1 := by
  induction l with
  | nil => cases hb
  | cons x l ih =>
    rw [List.countP_cons, List.countP_cons]
    rw [List.nodup_cons] at hn
    by_cases e : x = b
    · have hout : l.countP q = l.countP p := by
        refine List.countP_congr fun j hj => ?_
        rw [h2 j (fun e2 => hn.1 (by rw [e, ← e2]; exact hj))]
      rw [hout, e, h0, h1]
      rfl
    · have hb2 : b ∈ l := by
        rcases List.mem_cons.1 hb with h | h
        · exact absurd h.symm e
        · exact h
      rw [ih hn.2 hb2, h2 x e]
      omega
theorem pop_add {D b : Nat} (hb : b < 32) (h : D.testBit b = false) : Sp.pop (D ||| 2 ^ b) = Sp.pop D + 1 := by
  unfold Sp.pop
  refine countP_more (b := b) _ List.nodup_range (List.mem_range.2 hb) h ?_ fun j hj => ?_
  · rw [Nat.testBit_or, Nat.testBit_two_pow]; simp
  · rw [Nat.testBit_or, Nat.testBit_two_pow, decide_eq_false (fun e => hj e.symm), Bool.or_false]

/-- the search from a state of things on: f the deeds to each state, D those that were looked at, m how many -/
def Sp.lookGo (t : Sp.Task) (N : Nat → Int) : Nat → (Nat → Int) → Nat → Nat → Int × Int
  | 0, _, _, m => (-1, m)
  | e + 1, f, D, m => match Sp.bestUp N f D 32 with
    | none => (-1, m)
    | some b => if Sp.run t.goal b = true then (f b, (m : Int) + 1) else Sp.lookGo t N e (Sp.lookUp (Sp.flat t.deeds) b f t.deeds.length) (D ||| 2 ^ b) (m + 1)
def Sp.lookFrom (t : Sp.Task) : Nat → Int := fun j => if j = t.start.toNat then 0 else -1
def Sp.lookFor (t : Sp.Task) (l : List Int) : Int × Int := if Sp.numbersOk t l = true then Sp.lookGo t (Sp.numAt l) 33 (Sp.lookFrom t) 0 0 else (-1, 0)
theorem lookGo_none {t : Sp.Task} {N f : Nat → Int} {e D m : Nat} (h : Sp.bestUp N f D 32 = none) : Sp.lookGo t N (e + 1) f D m = (-1, (m : Int)) := by
  show (match Sp.bestUp N f D 32 with | none => _ | some b => _) = _
  rw [h]
theorem lookGo_end {t : Sp.Task} {N f : Nat → Int} {e D m b : Nat} (h : Sp.bestUp N f D 32 = some b) (hg : Sp.run t.goal b = true) : Sp.lookGo t N (e + 1) f D m = (f b, (m : Int) + 1) := by
  show (match Sp.bestUp N f D 32 with | none => _ | some b => _) = _
  rw [h]
  show (if _ then _ else _) = _
  rw [if_pos hg]
theorem lookGo_on {t : Sp.Task} {N f : Nat → Int} {e D m b : Nat} (h : Sp.bestUp N f D 32 = some b) (hg : Sp.run t.goal b = false) : Sp.lookGo t N (e + 1) f D m = Sp.lookGo t N e (Sp.lookUp (Sp.flat t.deeds) b f t.deeds.length) (D ||| 2 ^ b) (m + 1) := by
  show (match Sp.bestUp N f D 32 with | none => _ | some b => _) = _
  rw [h]
  show (if _ then _ else _) = _
  rw [hg]; rfl

/-- the cells of the program's search -/
def Sp.lookRow (R D : Nat) (f : Nat → Int) : Nat → Int := fun i => if i = 0 then (R : Int) else if i = 1 then (D : Int) else if f (i - 2) < 0 then 0 else f (i - 2)
def LookB (w : World) (g R D : Nat) (f : Nat → Int) : Prop := IntRow w g 34 (Sp.lookRow R D f) ∧ R < 4294967296 ∧ D < 4294967296 ∧ ∀ j, j < 32 → R.testBit j = decide (0 ≤ f j)
theorem LookB.keep {w w' : World} {g R D : Nat} {f : Nat → Int} (h : LookB w g R D f) (hk : Kept w w') : LookB w' g R D f := ⟨h.1.keep hk, h.2⟩
theorem LookB.c0 {w : World} {g R D : Nat} {f : Nat → Int} (h : LookB w g R D f) : w.cell? ⟨g, 0, none⟩ = some (.int .i64 (R : Int)) := h.1.2.2 0 (by omega)
theorem LookB.c1 {w : World} {g R D : Nat} {f : Nat → Int} (h : LookB w g R D f) : w.cell? ⟨g, 1, none⟩ = some (.int .i64 (D : Int)) := h.1.2.2 1 (by omega)
theorem LookB.cs {w : World} {g R D : Nat} {f : Nat → Int} (h : LookB w g R D f) {j : Nat} (hj : j < 32) : w.cell? ⟨g, 2 + j, none⟩ = some (.int .i64 (if f j < 0 then 0 else f j)) := by
  rw [h.1.2.2 (2 + j) (by omega)]
  unfold Sp.lookRow
  rw [if_neg (by omega), if_neg (by omega), show 2 + j - 2 = j by omega]
theorem LookB.ce {w : World} {g R D : Nat} {f : Nat → Int} (h : LookB w g R D f) {j : Nat} (hj : j < 32) (h0 : 0 ≤ f j) : w.cell? ⟨g, 2 + j, none⟩ = some (.int .i64 (f j)) := by
  rw [h.cs hj, if_neg (by omega)]

/-- the search's steps, by value -/
def Sp.stepRow (f : Nat → Int) : Nat → Int := fun j => if f j < 0 then 0 else f j
theorem look_load_at {ops : Array Oper} {Q : Exit → Act → World → Prop} {rest : List Oper} {op : Oper} {a : Act} {w : World} {x : Operand} {g R D : Nat} {f : Nat → Int} (h : LookB w g R D f) (hg : op.guard = none) (ho : op.op = .load 81 x) (hx : a.eval x = .pointer (some ⟨g, 2, none⟩))
    (hn : wpList Tryd.prog ops Q rest (a.put op.dst (.agg (rowOf (Sp.stepRow f) 0).toArray)) w) : wpList Tryd.prog ops Q (op :: rest) a w :=
  wpList_load_mid hg 81 x ho g 2 hx (rowOf (Sp.stepRow f) 0) _ (fun j v hv => by
    have hj : j < 32 := by have := (List.getElem?_eq_some_iff.1 hv).1; rwa [rowOf_len] at this
    rw [rowOf_at (Sp.stepRow f) 0 j hj, Nat.zero_mul, Nat.zero_add] at hv
    rw [h.cs hj]
    exact hv) Tryd.underlying81 rfl (by rw [rowOf_len]; exact info_row_size) hn

set_option maxHeartbeats 2000000 in
set_option maxRecDepth 100000 in
theorem c_iBest (g R D : Nat) (f : Nat → Int) (b off c2 : Nat) (l : List Int) (w : World) (h : LookB w g R D f) (hN : NumRow w b off l) (hin : ∀ s, s < 32 → 0 ≤ Sp.numAt l s ∧ Sp.numAt l s ≤ 40) (hf : ∀ j, -1 ≤ f j ∧ f j ≤ 40) :
    Calls Tryd.prog 58 #[.pointer (some ⟨g, 0, none⟩), .slice (some ⟨b, off, none⟩) 32 c2] w (RetK (.int .i64 (Sp.optI (Sp.bestUp (Sp.numAt l) f D 32))) w) := by
  have HIn := Lib.hid hin
  have HF := Lib.hid hf
  clear hin hf
  go_enter Tryd.func58, Tryd.ntmps58
  go_wp2_with (first | (refine look_load_at h rfl rfl rfl ?_))
  obtain ⟨C, HC⟩ : ∃ C, Hid (C = (rowOf (Sp.stepRow f) 0).toArray) := ⟨_, rfl⟩
  rw [← HC.out]
  have HCa : Hid (∀ s, s < 32 → C[s]? = some (.int .i64 (Sp.stepRow f s))) := fun s hs => by rw [HC.out, List.getElem?_toArray, rowOf_at _ 0 s hs, Nat.zero_mul, Nat.zero_add]
  go_loopw [14, 5] (fun i v wr => ∃ j : Nat, j ≤ 32 ∧ i = .int .i64 j ∧ v = .int .i64 (Sp.optI (Sp.bestUp (Sp.numAt l) f D j)) ∧ Kept w wr) (fun i _ _ => 32 - (intOf i).toNat)
  case atStart => exact ⟨0, by omega, rfl, rfl, Kept.refl _⟩
  case round =>
    obtain ⟨j, hj, rfl, rfl, hkp⟩ := hrel
    by_cases hlt : j < 32
    · have hix := run_index_row C j _ hlt (HCa.out j hlt)
      have hB := h.keep hkp
      have c0 := hB.c0
      have c1 := hB.c1
      have hab := and_bit R j (by have := h.2.1; omega)
      have hac := and_bit D j (by have := h.2.2.1; omega)
      have hRb := h.2.2.2 j hlt
      have hfj := HF.out j
      have HOff := Lib.hid (@bestUp_off (Sp.numAt l) f D j)
      have HFst := Lib.hid (@bestUp_first (Sp.numAt l) f D j)
      have HOn := Lib.hid (fun b => @bestUp_on (Sp.numAt l) f D j b)
      have HSm := Lib.hid (fun b => @bestUp_some (Sp.numAt l) f D b j)
      by_cases hf0 : f j < 0
      · rw [decide_eq_false (by omega)] at hRb
        rw [hRb] at hab
        have HE := Lib.hid (HOff.out (.inl hf0))
        obtain ⟨q, Hq⟩ : ∃ q, Hid (Sp.optI (Sp.bestUp (Sp.numAt l) f D j) = q) := ⟨_, rfl⟩
        rw [Hq.out]
        clear hRb
        go_wp2_with fail
        exact ⟨⟨j + 1, by omega, by go_num, by rw [HE.out, Hq.out], hkp⟩, by simp [intOf]; omega⟩
      rw [decide_eq_true (by omega)] at hRb
      rw [hRb] at hab
      cases hd : D.testBit j
      case true =>
        rw [hd] at hac
        have HE := Lib.hid (HOff.out (.inr hd))
        obtain ⟨q, Hq⟩ : ∃ q, Hid (Sp.optI (Sp.bestUp (Sp.numAt l) f D j) = q) := ⟨_, rfl⟩
        rw [Hq.out]
        clear hRb hd
        go_wp2_with fail
        exact ⟨⟨j + 1, by omega, by go_num, by rw [HE.out, Hq.out], hkp⟩, by simp [intOf]; omega⟩
      rw [hd] at hac
      have HNo : Hid (¬ (f j < 0 ∨ D.testBit j = true)) := fun h => by
        rcases h with h | h
        · exact hf0 h
        · rw [hd] at h; cases h
      have hce := hB.ce hlt (by omega)
      have cx := (hN.keep hkp).2 j hlt
      have hx := HIn.out j hlt
      have HSt : Hid (Sp.stepRow f j = f j) := by show _ = _; unfold Sp.stepRow; rw [if_neg hf0]
      rw [HSt.out] at hix
      cases hb : Sp.bestUp (Sp.numAt l) f D j with
      | none =>
        have HE := Lib.hid (HFst.out HNo.out hb)
        have HI0 : Hid (Sp.optI none = -1) := rfl
        rw [HI0.out]
        clear hRb hd hb hce cx
        go_wp2_with fail
        exact ⟨⟨j + 1, by omega, by go_num, by rw [HE.out]; rfl, hkp⟩, by simp [intOf]; omega⟩
      | some b2 =>
        obtain ⟨hb2, hfb, _⟩ := HSm.out b2 hb
        have HE := Lib.hid (HOn.out b2 HNo.out hb)
        have HI1 : Hid (Sp.optI (some b2) = (b2 : Int)) := rfl
        have hb32 : b2 < 32 := by omega
        have hfb2 := HF.out b2
        have hy := HIn.out b2 hb32
        have HBt : Hid (Sp.better (Sp.numAt l) f j b2 = (decide (f j + Sp.numAt l j < f b2 + Sp.numAt l b2) || (decide (f j + Sp.numAt l j = f b2 + Sp.numAt l b2) && decide (Sp.numAt l j < Sp.numAt l b2)))) := rfl
        rw [HI1.out]
        obtain ⟨x, HX⟩ : ∃ x, Hid (Sp.numAt l j = x) := ⟨_, rfl⟩
        obtain ⟨y, HY⟩ : ∃ y, Hid (Sp.numAt l b2 = y) := ⟨_, rfl⟩
        obtain ⟨fj, HFj⟩ : ∃ fj, Hid (f j = fj) := ⟨_, rfl⟩
        obtain ⟨fb, HFb⟩ : ∃ fb, Hid (f b2 = fb) := ⟨_, rfl⟩
        rw [HX.out] at hx HBt
        rw [HY.out] at hy HBt
        rw [HFj.out] at hfj HBt hix hf0
        rw [HFb.out] at hfb hfb2 HBt
        have hw1 : IntKind.i64.wrap (fj + x) = fj + x := by rw [IntKind.wrap_i64]; omega
        have hw2 : IntKind.i64.wrap (fb + y) = fb + y := by rw [IntKind.wrap_i64]; omega
        have hb33 : ¬ (32 : Int) ≤ (b2 : Int) := by omega
        have hj33 : ¬ (32 : Int) ≤ (j : Int) := by omega
        have hb34 : ¬ (b2 : Int) < 0 := by omega
        clear hRb hd hb hce cx
        go_wp2_with fail
        have cx := (hN.keep hkp.drew).2 j hlt
        have cy := (hN.keep hkp.drew).2 b2 hb32
        have cb := (h.keep hkp.drew).ce hb32 (by rw [HFb.out]; exact hfb)
        rw [HX.out] at cx
        rw [HY.out] at cy
        rw [HFb.out] at cb
        refine wp_region_held_drew (S := fun w' => w'.cell? ⟨b, off + j, none⟩ = some (.int .i64 x) ∧ w'.cell? ⟨b, off + b2, none⟩ = some (.int .i64 y) ∧ w'.cell? ⟨g, 2 + b2, none⟩ = some (.int .i64 fb)) (by kernel_rfl) ⟨cx, cy, cb⟩ (fun hHeld => ?_)
        (refine take_val (i := 0) (v := .int .i64 fj) rfl rfl (by kernel_rfl) (by kernel_rfl) (by kernel_rfl) (fun _ _ _ h => h) rfl (by intro wq hq; (try go_split_ands); go_simp; try with_reducible rfl) (hHeld) ?_; simp only [List.setIfInBounds_toArray, List.set_cons_zero, List.set_cons_succ])
        (refine take_val (i := 1) (v := .slice (some ⟨b, off, none⟩) 32 c2) rfl rfl (by kernel_rfl) (by kernel_rfl) (by kernel_rfl) (fun _ _ _ h => h) rfl (by intro wq hq; (try go_split_ands); go_simp; try with_reducible rfl) (hHeld) ?_; simp only [List.setIfInBounds_toArray, List.set_cons_zero, List.set_cons_succ])
        (refine take_val (i := 2) (v := .int .i64 j) rfl rfl (by kernel_rfl) (by kernel_rfl) (by kernel_rfl) (fun _ _ _ h => h) rfl (by intro wq hq; (try go_split_ands); go_simp; try with_reducible rfl) (hHeld) ?_; simp only [List.setIfInBounds_toArray, List.set_cons_zero, List.set_cons_succ])
        (refine take_val (i := 3) (v := .pointer (some ⟨b, off + j, none⟩)) rfl rfl (by kernel_rfl) (by kernel_rfl) (by kernel_rfl) (fun _ _ _ h => h) rfl (by intro wq hq; (try go_split_ands); go_simp; try with_reducible rfl) (hHeld) ?_; simp only [List.setIfInBounds_toArray, List.set_cons_zero, List.set_cons_succ])
        (refine take_val (i := 4) (v := .int .i64 x) rfl rfl (by kernel_rfl) (by kernel_rfl) (by kernel_rfl) (fun _ _ _ h => h) rfl (by intro wq hq; (try go_split_ands); go_simp; try with_reducible rfl) (hHeld) ?_; simp only [List.setIfInBounds_toArray, List.set_cons_zero, List.set_cons_succ])
        (refine take_val (i := 5) (v := .int .i64 (fj + x)) rfl rfl (by kernel_rfl) (by kernel_rfl) (by kernel_rfl) (fun _ _ _ h => h) rfl (by intro wq hq; (try go_split_ands); go_simp; try with_reducible rfl) (hHeld) ?_; simp only [List.setIfInBounds_toArray, List.set_cons_zero, List.set_cons_succ])
        (refine take_val (i := 6) (v := .pointer (some ⟨g, 0, none⟩)) rfl rfl (by kernel_rfl) (by kernel_rfl) (by kernel_rfl) (fun _ _ _ h => h) rfl (by intro wq hq; (try go_split_ands); go_simp; try with_reducible rfl) (hHeld) ?_; simp only [List.setIfInBounds_toArray, List.set_cons_zero, List.set_cons_succ])
        (refine take_val (i := 7) (v := .int .i64 b2) rfl rfl (by kernel_rfl) (by kernel_rfl) (by kernel_rfl) (fun _ _ _ h => h) rfl (by intro wq hq; (try go_split_ands); go_simp; try with_reducible rfl) (hHeld) ?_; simp only [List.setIfInBounds_toArray, List.set_cons_zero, List.set_cons_succ])
        (refine take_val (i := 8) (v := .pointer (some ⟨g, 0, none⟩)) rfl rfl (by kernel_rfl) (by kernel_rfl) (by kernel_rfl) (fun _ _ _ h => h) rfl (by intro wq hq; (try go_split_ands); go_simp; try with_reducible rfl) (hHeld) ?_; simp only [List.setIfInBounds_toArray, List.set_cons_zero, List.set_cons_succ])
        (refine take_val (i := 9) (v := .pointer (some ⟨g, 2, none⟩)) rfl rfl (by kernel_rfl) (by kernel_rfl) (by kernel_rfl) (fun _ _ _ h => h) rfl (by intro wq hq; (try go_split_ands); go_simp; try with_reducible rfl) (hHeld) ?_; simp only [List.setIfInBounds_toArray, List.set_cons_zero, List.set_cons_succ])
        (refine take_val (i := 10) (v := .pointer (some ⟨g, 2 + b2, none⟩)) rfl rfl (by kernel_rfl) (by kernel_rfl) (by kernel_rfl) (fun _ _ _ h => h) rfl (by intro wq hq; (try go_split_ands); go_simp; try with_reducible rfl) (hHeld) ?_; simp only [List.setIfInBounds_toArray, List.set_cons_zero, List.set_cons_succ])
        (refine take_val (i := 11) (v := .int .i64 fb) rfl rfl (by kernel_rfl) (by kernel_rfl) (by kernel_rfl) (fun _ _ _ h => h) rfl (by intro wq hq; (try go_split_ands); go_simp; try with_reducible rfl) (hHeld) ?_; simp only [List.setIfInBounds_toArray, List.set_cons_zero, List.set_cons_succ])
        (refine take_val (i := 12) (v := .slice (some ⟨b, off, none⟩) 32 c2) rfl rfl (by kernel_rfl) (by kernel_rfl) (by kernel_rfl) (fun _ _ _ h => h) rfl (by intro wq hq; (try go_split_ands); go_simp; try with_reducible rfl) (hHeld) ?_; simp only [List.setIfInBounds_toArray, List.set_cons_zero, List.set_cons_succ])
        (refine take_val (i := 13) (v := .int .i64 b2) rfl rfl (by kernel_rfl) (by kernel_rfl) (by kernel_rfl) (fun _ _ _ h => h) rfl (by intro wq hq; (try go_split_ands); go_simp; try with_reducible rfl) (hHeld) ?_; simp only [List.setIfInBounds_toArray, List.set_cons_zero, List.set_cons_succ])
        (refine take_val (i := 14) (v := .pointer (some ⟨b, off + b2, none⟩)) rfl rfl (by kernel_rfl) (by kernel_rfl) (by kernel_rfl) (fun _ _ _ h => h) rfl (by intro wq hq; (try go_split_ands); go_simp; try with_reducible rfl) (hHeld) ?_; simp only [List.setIfInBounds_toArray, List.set_cons_zero, List.set_cons_succ])
        (refine take_val (i := 15) (v := .int .i64 y) rfl rfl (by kernel_rfl) (by kernel_rfl) (by kernel_rfl) (fun _ _ _ h => h) rfl (by intro wq hq; (try go_split_ands); go_simp; try with_reducible rfl) (hHeld) ?_; simp only [List.setIfInBounds_toArray, List.set_cons_zero, List.set_cons_succ])
        (refine take_val (i := 16) (v := .int .i64 (fb + y)) rfl rfl (by kernel_rfl) (by kernel_rfl) (by kernel_rfl) (fun _ _ _ h => h) rfl (by intro wq hq; (try go_split_ands); go_simp; try with_reducible rfl) (hHeld) ?_; simp only [List.setIfInBounds_toArray, List.set_cons_zero, List.set_cons_succ])
        (refine take_val (i := 17) (v := .int .i64 (fj + x)) rfl rfl (by kernel_rfl) (by kernel_rfl) (by kernel_rfl) (fun _ _ _ h => h) rfl (by intro wq hq; (try go_split_ands); go_simp; try with_reducible rfl) (hHeld) ?_; simp only [List.setIfInBounds_toArray, List.set_cons_zero, List.set_cons_succ])
        (refine take_val (i := 18) (v := .int .i64 (fb + y)) rfl rfl (by kernel_rfl) (by kernel_rfl) (by kernel_rfl) (fun _ _ _ h => h) rfl (by intro wq hq; (try go_split_ands); go_simp; try with_reducible rfl) (hHeld) ?_; simp only [List.setIfInBounds_toArray, List.set_cons_zero, List.set_cons_succ])
        refine wpAnyH_done (by kernel_rfl) ?_ _
        clear hHeld cx cy cb
        go_wp2_with fail
        have hkz := hkp.drew.drew
        have cx := (hN.keep hkz).2 j hlt
        have cy := (hN.keep hkz).2 b2 hb32
        rw [HX.out] at cx
        rw [HY.out] at cy
        refine wp_region_held_drew (S := fun w' => w'.cell? ⟨b, off + j, none⟩ = some (.int .i64 x) ∧ w'.cell? ⟨b, off + b2, none⟩ = some (.int .i64 y)) (by kernel_rfl) ⟨cx, cy⟩ (fun hHeld => ?_)
        by_cases h1 : fj + x < fb + y
        · have HR : Hid (Sp.bestUp (Sp.numAt l) f D (j + 1) = some j) := by show _ = _; rw [HE.out, HBt.out, decide_eq_true h1]; rfl
          (refine take_val (i := 0) (v := .int .i64 (fj + x)) rfl rfl (by kernel_rfl) (by kernel_rfl) (by kernel_rfl) (fun _ _ _ h => h) rfl (by intro wq hq; (try go_split_ands); go_simp; try with_reducible rfl) (hHeld) ?_; simp only [List.setIfInBounds_toArray, List.set_cons_zero, List.set_cons_succ])
          (refine take_val (i := 1) (v := .int .i64 (fb + y)) rfl rfl (by kernel_rfl) (by kernel_rfl) (by kernel_rfl) (fun _ _ _ h => h) rfl (by intro wq hq; (try go_split_ands); go_simp; try with_reducible rfl) (hHeld) ?_; simp only [List.setIfInBounds_toArray, List.set_cons_zero, List.set_cons_succ])
          (refine take_val (i := 2) (v := .bool true) rfl rfl (by kernel_rfl) (by kernel_rfl) (by kernel_rfl) (fun _ _ _ h => h) rfl (by intro wq hq; (try go_split_ands); go_simp; try with_reducible rfl) (hHeld) ?_; simp only [List.setIfInBounds_toArray, List.set_cons_zero, List.set_cons_succ])
          (refine take_val (i := 3) (v := .bool true) rfl rfl (by kernel_rfl) (by kernel_rfl) (by kernel_rfl) (fun _ _ _ h => h) rfl (by intro wq hq; (try go_split_ands); go_simp; try with_reducible rfl) (hHeld) ?_; simp only [List.setIfInBounds_toArray, List.set_cons_zero, List.set_cons_succ])
          (refine take_skip (i := 4) rfl rfl (by kernel_rfl) (by kernel_rfl) (by kernel_rfl) (fun _ _ _ h => h) rfl (hHeld) ?_; simp only [List.setIfInBounds_toArray, List.set_cons_zero, List.set_cons_succ])
          (refine take_skip (i := 5) rfl rfl (by kernel_rfl) (by kernel_rfl) (by kernel_rfl) (fun _ _ _ h => h) rfl (hHeld) ?_; simp only [List.setIfInBounds_toArray, List.set_cons_zero, List.set_cons_succ])
          (refine take_skip (i := 6) rfl rfl (by kernel_rfl) (by kernel_rfl) (by kernel_rfl) (fun _ _ _ h => h) rfl (hHeld) ?_; simp only [List.setIfInBounds_toArray, List.set_cons_zero, List.set_cons_succ])
          (refine take_skip (i := 7) rfl rfl (by kernel_rfl) (by kernel_rfl) (by kernel_rfl) (fun _ _ _ h => h) rfl (hHeld) ?_; simp only [List.setIfInBounds_toArray, List.set_cons_zero, List.set_cons_succ])
          (refine take_skip (i := 8) rfl rfl (by kernel_rfl) (by kernel_rfl) (by kernel_rfl) (fun _ _ _ h => h) rfl (hHeld) ?_; simp only [List.setIfInBounds_toArray, List.set_cons_zero, List.set_cons_succ])
          (refine take_skip (i := 9) rfl rfl (by kernel_rfl) (by kernel_rfl) (by kernel_rfl) (fun _ _ _ h => h) rfl (hHeld) ?_; simp only [List.setIfInBounds_toArray, List.set_cons_zero, List.set_cons_succ])
          (refine take_skip (i := 10) rfl rfl (by kernel_rfl) (by kernel_rfl) (by kernel_rfl) (fun _ _ _ h => h) rfl (hHeld) ?_; simp only [List.setIfInBounds_toArray, List.set_cons_zero, List.set_cons_succ])
          (refine take_skip (i := 11) rfl rfl (by kernel_rfl) (by kernel_rfl) (by kernel_rfl) (fun _ _ _ h => h) rfl (hHeld) ?_; simp only [List.setIfInBounds_toArray, List.set_cons_zero, List.set_cons_succ])
          (refine take_skip (i := 12) rfl rfl (by kernel_rfl) (by kernel_rfl) (by kernel_rfl) (fun _ _ _ h => h) rfl (hHeld) ?_; simp only [List.setIfInBounds_toArray, List.set_cons_zero, List.set_cons_succ])
          (refine take_skip (i := 13) rfl rfl (by kernel_rfl) (by kernel_rfl) (by kernel_rfl) (fun _ _ _ h => h) rfl (hHeld) ?_; simp only [List.setIfInBounds_toArray, List.set_cons_zero, List.set_cons_succ])
          (refine take_skip (i := 14) rfl rfl (by kernel_rfl) (by kernel_rfl) (by kernel_rfl) (fun _ _ _ h => h) rfl (hHeld) ?_; simp only [List.setIfInBounds_toArray, List.set_cons_zero, List.set_cons_succ])
          (refine take_skip (i := 15) rfl rfl (by kernel_rfl) (by kernel_rfl) (by kernel_rfl) (fun _ _ _ h => h) rfl (hHeld) ?_; simp only [List.setIfInBounds_toArray, List.set_cons_zero, List.set_cons_succ])
          (refine take_skip (i := 16) rfl rfl (by kernel_rfl) (by kernel_rfl) (by kernel_rfl) (fun _ _ _ h => h) rfl (hHeld) ?_; simp only [List.setIfInBounds_toArray, List.set_cons_zero, List.set_cons_succ])
          (refine take_skip (i := 17) rfl rfl (by kernel_rfl) (by kernel_rfl) (by kernel_rfl) (fun _ _ _ h => h) rfl (hHeld) ?_; simp only [List.setIfInBounds_toArray, List.set_cons_zero, List.set_cons_succ])
          (refine take_val (i := 18) (v := .bool true) rfl rfl (by kernel_rfl) (by kernel_rfl) (by kernel_rfl) (fun _ _ _ h => h) rfl (by intro wq hq; (try go_split_ands); go_simp; try with_reducible rfl) (hHeld) ?_; simp only [List.setIfInBounds_toArray, List.set_cons_zero, List.set_cons_succ])
          refine wpAnyH_done (by kernel_rfl) ?_ _
          clear hHeld cx cy
          go_wp2_with fail
          exact ⟨⟨j + 1, by omega, by go_num, by rw [HR.out]; rfl, hkz⟩, by simp [intOf]; omega⟩
        · by_cases h2 : fj + x = fb + y
          · have h2b : (fj + x == fb + y) = true := by rw [h2]; exact beq_self_eq_true _
            by_cases h3 : x < y
            · have HR : Hid (Sp.bestUp (Sp.numAt l) f D (j + 1) = some j) := by show _ = _; rw [HE.out, HBt.out, decide_eq_false h1, decide_eq_true h2, decide_eq_true h3]; rfl
              have HH2 := Lib.hid h2
              clear h2
              (refine take_val (i := 0) (v := .int .i64 (fj + x)) rfl rfl (by kernel_rfl) (by kernel_rfl) (by kernel_rfl) (fun _ _ _ h => h) rfl (by intro wq hq; (try go_split_ands); go_simp; try with_reducible rfl) (hHeld) ?_; simp only [List.setIfInBounds_toArray, List.set_cons_zero, List.set_cons_succ])
              (refine take_val (i := 1) (v := .int .i64 (fb + y)) rfl rfl (by kernel_rfl) (by kernel_rfl) (by kernel_rfl) (fun _ _ _ h => h) rfl (by intro wq hq; (try go_split_ands); go_simp; try with_reducible rfl) (hHeld) ?_; simp only [List.setIfInBounds_toArray, List.set_cons_zero, List.set_cons_succ])
              (refine take_val (i := 2) (v := .bool false) rfl rfl (by kernel_rfl) (by kernel_rfl) (by kernel_rfl) (fun _ _ _ h => h) rfl (by intro wq hq; (try go_split_ands); go_simp; try with_reducible rfl) (hHeld) ?_; simp only [List.setIfInBounds_toArray, List.set_cons_zero, List.set_cons_succ])
              (refine take_val (i := 3) (v := .bool false) rfl rfl (by kernel_rfl) (by kernel_rfl) (by kernel_rfl) (fun _ _ _ h => h) rfl (by intro wq hq; (try go_split_ands); go_simp; try with_reducible rfl) (hHeld) ?_; simp only [List.setIfInBounds_toArray, List.set_cons_zero, List.set_cons_succ])
              (refine take_val (i := 4) (v := .int .i64 (fj + x)) rfl rfl (by kernel_rfl) (by kernel_rfl) (by kernel_rfl) (fun _ _ _ h => h) rfl (by intro wq hq; (try go_split_ands); go_simp; try with_reducible rfl) (hHeld) ?_; simp only [List.setIfInBounds_toArray, List.set_cons_zero, List.set_cons_succ])
              (refine take_val (i := 5) (v := .int .i64 (fb + y)) rfl rfl (by kernel_rfl) (by kernel_rfl) (by kernel_rfl) (fun _ _ _ h => h) rfl (by intro wq hq; (try go_split_ands); go_simp; try with_reducible rfl) (hHeld) ?_; simp only [List.setIfInBounds_toArray, List.set_cons_zero, List.set_cons_succ])
              (refine take_val (i := 6) (v := .bool true) rfl rfl (by kernel_rfl) (by kernel_rfl) (by kernel_rfl) (fun _ _ _ h => h) rfl (by intro wq hq; (try go_split_ands); go_simp; try with_reducible rfl) (hHeld) ?_; simp only [List.setIfInBounds_toArray, List.set_cons_zero, List.set_cons_succ])
              (refine take_val (i := 7) (v := .bool true) rfl rfl (by kernel_rfl) (by kernel_rfl) (by kernel_rfl) (fun _ _ _ h => h) rfl (by intro wq hq; (try go_split_ands); go_simp; try with_reducible rfl) (hHeld) ?_; simp only [List.setIfInBounds_toArray, List.set_cons_zero, List.set_cons_succ])
              (refine take_val (i := 8) (v := .slice (some ⟨b, off, none⟩) 32 c2) rfl rfl (by kernel_rfl) (by kernel_rfl) (by kernel_rfl) (fun _ _ _ h => h) rfl (by intro wq hq; (try go_split_ands); go_simp; try with_reducible rfl) (hHeld) ?_; simp only [List.setIfInBounds_toArray, List.set_cons_zero, List.set_cons_succ])
              (refine take_val (i := 9) (v := .int .i64 j) rfl rfl (by kernel_rfl) (by kernel_rfl) (by kernel_rfl) (fun _ _ _ h => h) rfl (by intro wq hq; (try go_split_ands); go_simp; try with_reducible rfl) (hHeld) ?_; simp only [List.setIfInBounds_toArray, List.set_cons_zero, List.set_cons_succ])
              (refine take_val (i := 10) (v := .pointer (some ⟨b, off + j, none⟩)) rfl rfl (by kernel_rfl) (by kernel_rfl) (by kernel_rfl) (fun _ _ _ h => h) rfl (by intro wq hq; (try go_split_ands); go_simp; try with_reducible rfl) (hHeld) ?_; simp only [List.setIfInBounds_toArray, List.set_cons_zero, List.set_cons_succ])
              (refine take_val (i := 11) (v := .int .i64 x) rfl rfl (by kernel_rfl) (by kernel_rfl) (by kernel_rfl) (fun _ _ _ h => h) rfl (by intro wq hq; (try go_split_ands); go_simp; try with_reducible rfl) (hHeld) ?_; simp only [List.setIfInBounds_toArray, List.set_cons_zero, List.set_cons_succ])
              (refine take_val (i := 12) (v := .slice (some ⟨b, off, none⟩) 32 c2) rfl rfl (by kernel_rfl) (by kernel_rfl) (by kernel_rfl) (fun _ _ _ h => h) rfl (by intro wq hq; (try go_split_ands); go_simp; try with_reducible rfl) (hHeld) ?_; simp only [List.setIfInBounds_toArray, List.set_cons_zero, List.set_cons_succ])
              (refine take_val (i := 13) (v := .int .i64 b2) rfl rfl (by kernel_rfl) (by kernel_rfl) (by kernel_rfl) (fun _ _ _ h => h) rfl (by intro wq hq; (try go_split_ands); go_simp; try with_reducible rfl) (hHeld) ?_; simp only [List.setIfInBounds_toArray, List.set_cons_zero, List.set_cons_succ])
              (refine take_val (i := 14) (v := .pointer (some ⟨b, off + b2, none⟩)) rfl rfl (by kernel_rfl) (by kernel_rfl) (by kernel_rfl) (fun _ _ _ h => h) rfl (by intro wq hq; (try go_split_ands); go_simp; try with_reducible rfl) (hHeld) ?_; simp only [List.setIfInBounds_toArray, List.set_cons_zero, List.set_cons_succ])
              (refine take_val (i := 15) (v := .int .i64 y) rfl rfl (by kernel_rfl) (by kernel_rfl) (by kernel_rfl) (fun _ _ _ h => h) rfl (by intro wq hq; (try go_split_ands); go_simp; try with_reducible rfl) (hHeld) ?_; simp only [List.setIfInBounds_toArray, List.set_cons_zero, List.set_cons_succ])
              (refine take_val (i := 16) (v := .bool true) rfl rfl (by kernel_rfl) (by kernel_rfl) (by kernel_rfl) (fun _ _ _ h => h) rfl (by intro wq hq; (try go_split_ands); go_simp; try with_reducible rfl) (hHeld) ?_; simp only [List.setIfInBounds_toArray, List.set_cons_zero, List.set_cons_succ])
              (refine take_val (i := 17) (v := .bool true) rfl rfl (by kernel_rfl) (by kernel_rfl) (by kernel_rfl) (fun _ _ _ h => h) rfl (by intro wq hq; (try go_split_ands); go_simp; try with_reducible rfl) (hHeld) ?_; simp only [List.setIfInBounds_toArray, List.set_cons_zero, List.set_cons_succ])
              (refine take_val (i := 18) (v := .bool true) rfl rfl (by kernel_rfl) (by kernel_rfl) (by kernel_rfl) (fun _ _ _ h => h) rfl (by intro wq hq; (try go_split_ands); go_simp; try with_reducible rfl) (hHeld) ?_; simp only [List.setIfInBounds_toArray, List.set_cons_zero, List.set_cons_succ])
              refine wpAnyH_done (by kernel_rfl) ?_ _
              clear hHeld cx cy
              go_wp2_with fail
              exact ⟨⟨j + 1, by omega, by go_num, by rw [HR.out]; rfl, hkz⟩, by simp [intOf]; omega⟩
            · have HR : Hid (Sp.bestUp (Sp.numAt l) f D (j + 1) = some b2) := by show _ = _; rw [HE.out, HBt.out, decide_eq_false h1, decide_eq_true h2, decide_eq_false h3]; rfl
              have HH2 := Lib.hid h2
              clear h2
              (refine take_val (i := 0) (v := .int .i64 (fj + x)) rfl rfl (by kernel_rfl) (by kernel_rfl) (by kernel_rfl) (fun _ _ _ h => h) rfl (by intro wq hq; (try go_split_ands); go_simp; try with_reducible rfl) (hHeld) ?_; simp only [List.setIfInBounds_toArray, List.set_cons_zero, List.set_cons_succ])
              (refine take_val (i := 1) (v := .int .i64 (fb + y)) rfl rfl (by kernel_rfl) (by kernel_rfl) (by kernel_rfl) (fun _ _ _ h => h) rfl (by intro wq hq; (try go_split_ands); go_simp; try with_reducible rfl) (hHeld) ?_; simp only [List.setIfInBounds_toArray, List.set_cons_zero, List.set_cons_succ])
              (refine take_val (i := 2) (v := .bool false) rfl rfl (by kernel_rfl) (by kernel_rfl) (by kernel_rfl) (fun _ _ _ h => h) rfl (by intro wq hq; (try go_split_ands); go_simp; try with_reducible rfl) (hHeld) ?_; simp only [List.setIfInBounds_toArray, List.set_cons_zero, List.set_cons_succ])
              (refine take_val (i := 3) (v := .bool false) rfl rfl (by kernel_rfl) (by kernel_rfl) (by kernel_rfl) (fun _ _ _ h => h) rfl (by intro wq hq; (try go_split_ands); go_simp; try with_reducible rfl) (hHeld) ?_; simp only [List.setIfInBounds_toArray, List.set_cons_zero, List.set_cons_succ])
              (refine take_val (i := 4) (v := .int .i64 (fj + x)) rfl rfl (by kernel_rfl) (by kernel_rfl) (by kernel_rfl) (fun _ _ _ h => h) rfl (by intro wq hq; (try go_split_ands); go_simp; try with_reducible rfl) (hHeld) ?_; simp only [List.setIfInBounds_toArray, List.set_cons_zero, List.set_cons_succ])
              (refine take_val (i := 5) (v := .int .i64 (fb + y)) rfl rfl (by kernel_rfl) (by kernel_rfl) (by kernel_rfl) (fun _ _ _ h => h) rfl (by intro wq hq; (try go_split_ands); go_simp; try with_reducible rfl) (hHeld) ?_; simp only [List.setIfInBounds_toArray, List.set_cons_zero, List.set_cons_succ])
              (refine take_val (i := 6) (v := .bool true) rfl rfl (by kernel_rfl) (by kernel_rfl) (by kernel_rfl) (fun _ _ _ h => h) rfl (by intro wq hq; (try go_split_ands); go_simp; try with_reducible rfl) (hHeld) ?_; simp only [List.setIfInBounds_toArray, List.set_cons_zero, List.set_cons_succ])
              (refine take_val (i := 7) (v := .bool true) rfl rfl (by kernel_rfl) (by kernel_rfl) (by kernel_rfl) (fun _ _ _ h => h) rfl (by intro wq hq; (try go_split_ands); go_simp; try with_reducible rfl) (hHeld) ?_; simp only [List.setIfInBounds_toArray, List.set_cons_zero, List.set_cons_succ])
              (refine take_val (i := 8) (v := .slice (some ⟨b, off, none⟩) 32 c2) rfl rfl (by kernel_rfl) (by kernel_rfl) (by kernel_rfl) (fun _ _ _ h => h) rfl (by intro wq hq; (try go_split_ands); go_simp; try with_reducible rfl) (hHeld) ?_; simp only [List.setIfInBounds_toArray, List.set_cons_zero, List.set_cons_succ])
              (refine take_val (i := 9) (v := .int .i64 j) rfl rfl (by kernel_rfl) (by kernel_rfl) (by kernel_rfl) (fun _ _ _ h => h) rfl (by intro wq hq; (try go_split_ands); go_simp; try with_reducible rfl) (hHeld) ?_; simp only [List.setIfInBounds_toArray, List.set_cons_zero, List.set_cons_succ])
              (refine take_val (i := 10) (v := .pointer (some ⟨b, off + j, none⟩)) rfl rfl (by kernel_rfl) (by kernel_rfl) (by kernel_rfl) (fun _ _ _ h => h) rfl (by intro wq hq; (try go_split_ands); go_simp; try with_reducible rfl) (hHeld) ?_; simp only [List.setIfInBounds_toArray, List.set_cons_zero, List.set_cons_succ])
              (refine take_val (i := 11) (v := .int .i64 x) rfl rfl (by kernel_rfl) (by kernel_rfl) (by kernel_rfl) (fun _ _ _ h => h) rfl (by intro wq hq; (try go_split_ands); go_simp; try with_reducible rfl) (hHeld) ?_; simp only [List.setIfInBounds_toArray, List.set_cons_zero, List.set_cons_succ])
              (refine take_val (i := 12) (v := .slice (some ⟨b, off, none⟩) 32 c2) rfl rfl (by kernel_rfl) (by kernel_rfl) (by kernel_rfl) (fun _ _ _ h => h) rfl (by intro wq hq; (try go_split_ands); go_simp; try with_reducible rfl) (hHeld) ?_; simp only [List.setIfInBounds_toArray, List.set_cons_zero, List.set_cons_succ])
              (refine take_val (i := 13) (v := .int .i64 b2) rfl rfl (by kernel_rfl) (by kernel_rfl) (by kernel_rfl) (fun _ _ _ h => h) rfl (by intro wq hq; (try go_split_ands); go_simp; try with_reducible rfl) (hHeld) ?_; simp only [List.setIfInBounds_toArray, List.set_cons_zero, List.set_cons_succ])
              (refine take_val (i := 14) (v := .pointer (some ⟨b, off + b2, none⟩)) rfl rfl (by kernel_rfl) (by kernel_rfl) (by kernel_rfl) (fun _ _ _ h => h) rfl (by intro wq hq; (try go_split_ands); go_simp; try with_reducible rfl) (hHeld) ?_; simp only [List.setIfInBounds_toArray, List.set_cons_zero, List.set_cons_succ])
              (refine take_val (i := 15) (v := .int .i64 y) rfl rfl (by kernel_rfl) (by kernel_rfl) (by kernel_rfl) (fun _ _ _ h => h) rfl (by intro wq hq; (try go_split_ands); go_simp; try with_reducible rfl) (hHeld) ?_; simp only [List.setIfInBounds_toArray, List.set_cons_zero, List.set_cons_succ])
              (refine take_val (i := 16) (v := .bool false) rfl rfl (by kernel_rfl) (by kernel_rfl) (by kernel_rfl) (fun _ _ _ h => h) rfl (by intro wq hq; (try go_split_ands); go_simp; try with_reducible rfl) (hHeld) ?_; simp only [List.setIfInBounds_toArray, List.set_cons_zero, List.set_cons_succ])
              (refine take_val (i := 17) (v := .bool false) rfl rfl (by kernel_rfl) (by kernel_rfl) (by kernel_rfl) (fun _ _ _ h => h) rfl (by intro wq hq; (try go_split_ands); go_simp; try with_reducible rfl) (hHeld) ?_; simp only [List.setIfInBounds_toArray, List.set_cons_zero, List.set_cons_succ])
              (refine take_val (i := 18) (v := .bool false) rfl rfl (by kernel_rfl) (by kernel_rfl) (by kernel_rfl) (fun _ _ _ h => h) rfl (by intro wq hq; (try go_split_ands); go_simp; try with_reducible rfl) (hHeld) ?_; simp only [List.setIfInBounds_toArray, List.set_cons_zero, List.set_cons_succ])
              refine wpAnyH_done (by kernel_rfl) ?_ _
              clear hHeld cx cy
              go_wp2_with fail
              exact ⟨⟨j + 1, by omega, by go_num, by rw [HR.out]; rfl, hkz⟩, by simp [intOf]; omega⟩
          · have h2b : (fj + x == fb + y) = false := beq_eq_false_iff_ne.2 h2
            have HR : Hid (Sp.bestUp (Sp.numAt l) f D (j + 1) = some b2) := by show _ = _; rw [HE.out, HBt.out, decide_eq_false h1, decide_eq_false h2]; rfl
            (refine take_val (i := 0) (v := .int .i64 (fj + x)) rfl rfl (by kernel_rfl) (by kernel_rfl) (by kernel_rfl) (fun _ _ _ h => h) rfl (by intro wq hq; (try go_split_ands); go_simp; try with_reducible rfl) (hHeld) ?_; simp only [List.setIfInBounds_toArray, List.set_cons_zero, List.set_cons_succ])
            (refine take_val (i := 1) (v := .int .i64 (fb + y)) rfl rfl (by kernel_rfl) (by kernel_rfl) (by kernel_rfl) (fun _ _ _ h => h) rfl (by intro wq hq; (try go_split_ands); go_simp; try with_reducible rfl) (hHeld) ?_; simp only [List.setIfInBounds_toArray, List.set_cons_zero, List.set_cons_succ])
            (refine take_val (i := 2) (v := .bool false) rfl rfl (by kernel_rfl) (by kernel_rfl) (by kernel_rfl) (fun _ _ _ h => h) rfl (by intro wq hq; (try go_split_ands); go_simp; try with_reducible rfl) (hHeld) ?_; simp only [List.setIfInBounds_toArray, List.set_cons_zero, List.set_cons_succ])
            (refine take_val (i := 3) (v := .bool false) rfl rfl (by kernel_rfl) (by kernel_rfl) (by kernel_rfl) (fun _ _ _ h => h) rfl (by intro wq hq; (try go_split_ands); go_simp; try with_reducible rfl) (hHeld) ?_; simp only [List.setIfInBounds_toArray, List.set_cons_zero, List.set_cons_succ])
            (refine take_val (i := 4) (v := .int .i64 (fj + x)) rfl rfl (by kernel_rfl) (by kernel_rfl) (by kernel_rfl) (fun _ _ _ h => h) rfl (by intro wq hq; (try go_split_ands); go_simp; try with_reducible rfl) (hHeld) ?_; simp only [List.setIfInBounds_toArray, List.set_cons_zero, List.set_cons_succ])
            (refine take_val (i := 5) (v := .int .i64 (fb + y)) rfl rfl (by kernel_rfl) (by kernel_rfl) (by kernel_rfl) (fun _ _ _ h => h) rfl (by intro wq hq; (try go_split_ands); go_simp; try with_reducible rfl) (hHeld) ?_; simp only [List.setIfInBounds_toArray, List.set_cons_zero, List.set_cons_succ])
            (refine take_val (i := 6) (v := .bool false) rfl rfl (by kernel_rfl) (by kernel_rfl) (by kernel_rfl) (fun _ _ _ h => h) rfl (by intro wq hq; (try go_split_ands); go_simp; try with_reducible rfl) (hHeld) ?_; simp only [List.setIfInBounds_toArray, List.set_cons_zero, List.set_cons_succ])
            (refine take_val (i := 7) (v := .bool false) rfl rfl (by kernel_rfl) (by kernel_rfl) (by kernel_rfl) (fun _ _ _ h => h) rfl (by intro wq hq; (try go_split_ands); go_simp; try with_reducible rfl) (hHeld) ?_; simp only [List.setIfInBounds_toArray, List.set_cons_zero, List.set_cons_succ])
            (refine take_skip (i := 8) rfl rfl (by kernel_rfl) (by kernel_rfl) (by kernel_rfl) (fun _ _ _ h => h) rfl (hHeld) ?_; simp only [List.setIfInBounds_toArray, List.set_cons_zero, List.set_cons_succ])
            (refine take_skip (i := 9) rfl rfl (by kernel_rfl) (by kernel_rfl) (by kernel_rfl) (fun _ _ _ h => h) rfl (hHeld) ?_; simp only [List.setIfInBounds_toArray, List.set_cons_zero, List.set_cons_succ])
            (refine take_skip (i := 10) rfl rfl (by kernel_rfl) (by kernel_rfl) (by kernel_rfl) (fun _ _ _ h => h) rfl (hHeld) ?_; simp only [List.setIfInBounds_toArray, List.set_cons_zero, List.set_cons_succ])
            (refine take_skip (i := 11) rfl rfl (by kernel_rfl) (by kernel_rfl) (by kernel_rfl) (fun _ _ _ h => h) rfl (hHeld) ?_; simp only [List.setIfInBounds_toArray, List.set_cons_zero, List.set_cons_succ])
            (refine take_skip (i := 12) rfl rfl (by kernel_rfl) (by kernel_rfl) (by kernel_rfl) (fun _ _ _ h => h) rfl (hHeld) ?_; simp only [List.setIfInBounds_toArray, List.set_cons_zero, List.set_cons_succ])
            (refine take_skip (i := 13) rfl rfl (by kernel_rfl) (by kernel_rfl) (by kernel_rfl) (fun _ _ _ h => h) rfl (hHeld) ?_; simp only [List.setIfInBounds_toArray, List.set_cons_zero, List.set_cons_succ])
            (refine take_skip (i := 14) rfl rfl (by kernel_rfl) (by kernel_rfl) (by kernel_rfl) (fun _ _ _ h => h) rfl (hHeld) ?_; simp only [List.setIfInBounds_toArray, List.set_cons_zero, List.set_cons_succ])
            (refine take_skip (i := 15) rfl rfl (by kernel_rfl) (by kernel_rfl) (by kernel_rfl) (fun _ _ _ h => h) rfl (hHeld) ?_; simp only [List.setIfInBounds_toArray, List.set_cons_zero, List.set_cons_succ])
            (refine take_skip (i := 16) rfl rfl (by kernel_rfl) (by kernel_rfl) (by kernel_rfl) (fun _ _ _ h => h) rfl (hHeld) ?_; simp only [List.setIfInBounds_toArray, List.set_cons_zero, List.set_cons_succ])
            (refine take_val (i := 17) (v := .bool false) rfl rfl (by kernel_rfl) (by kernel_rfl) (by kernel_rfl) (fun _ _ _ h => h) rfl (by intro wq hq; (try go_split_ands); go_simp; try with_reducible rfl) (hHeld) ?_; simp only [List.setIfInBounds_toArray, List.set_cons_zero, List.set_cons_succ])
            (refine take_val (i := 18) (v := .bool false) rfl rfl (by kernel_rfl) (by kernel_rfl) (by kernel_rfl) (fun _ _ _ h => h) rfl (by intro wq hq; (try go_split_ands); go_simp; try with_reducible rfl) (hHeld) ?_; simp only [List.setIfInBounds_toArray, List.set_cons_zero, List.set_cons_succ])
            refine wpAnyH_done (by kernel_rfl) ?_ _
            clear hHeld cx cy
            go_wp2_with fail
            exact ⟨⟨j + 1, by omega, by go_num, by rw [HR.out]; rfl, hkz⟩, by simp [intOf]; omega⟩
    · obtain rfl : j = 32 := by omega
      obtain ⟨q, Hq⟩ : ∃ q, Hid (Sp.optI (Sp.bestUp (Sp.numAt l) f D 32) = q) := ⟨_, rfl⟩
      rw [Hq.out]
      go_wp2_with fail
      go_ret
      exact ⟨ret_int Hq.out.symm, hkp⟩

end Go.Proofs.YtphdojebdclonaaDoor
