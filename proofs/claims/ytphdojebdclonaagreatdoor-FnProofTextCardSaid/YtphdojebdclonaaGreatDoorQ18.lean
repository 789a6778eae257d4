/- Joined texts. No condition. -/
import Derived.Test.YtphdojebdclonaaGreatDoorRows
import Derived.ProofKit
import Derived.OpenShut
import Derived.ShutString
import Derived.ChangeOld
import Derived.Lib.SmallJoins
import Derived.Deep.Slices
import Derived.Deep.Fields
import Derived.ChangeSame
import Derived.Deep.RegionHeld3
import Derived.Test.YtphdojebdclonaaGreatDoorQ1
import Derived.Test.YtphdojebdclonaaGreatDoorQ13
import Derived.Test.YtphdojebdclonaaGreatDoorQ7
import Derived.Test.YtphdojebdclonaaGreatDoorQ15
import Derived.Test.YtphdojebdclonaaGreatDoorQ17
import Derived.Test.YtphdojebdclonaaGreatDoorQ14
import Derived.Test.YtphdojebdclonaaGreatDoorQ12
import Derived.Test.YtphdojebdclonaaGreatDoorQ16
/- Arguments opened: a task by value, a slice of integers, a slice of bytes, a string. No condition. -/
namespace Go.Proofs.YtphdojebdclonaaGreatDoor
set_option linter.unusedSimpArgs false
set_option linter.unusedVariables false
open Go.ChangeShapes Go.WideShapes Go.ChangeAt Go.RowKit Go.Joins Go.Deep

theorem own : ownKnob Tryz.prog.godebug = none := by kernel_rfl
theorem laidOut : laidOutB Tryz.prog = true := by kernel_rfl

section
variable {H : Type} {enc : TypeId × Value → H} {P : Program} {w : World} {base : Nat} {spare : Nat → Bool} {held : Bool}
theorem open_slice_fields {t e : TypeId} {fs : Array Field} {fuel : Nat} {cs : List Value} {x : DataW H × List MemPlace} (ht : P.underlying t = some (.slice e)) (he : P.underlying e = some (.struct fs))
    (hone : oneCellFields P fs = true) (hC : P.cellsOf e = fs.size) (h : DataW.trod enc P w base spare held fuel t cs = some x) :
    (cs = [.slice none 0 0] ∧ x = (.nil, [])) ∨
    ∃ (a : Addr) (len cap m : Nat) (D : Nat → DataW H) (Pl : Nat → List MemPlace), cs = [.slice (some a) len cap] ∧ base ≤ a.block ∧ len ≤ cap ∧ cap ≤ maxLen ∧ m = (if spare a.block then cap else len) ∧
      x = (.slice ((List.range len).map D) ((List.range (m - len)).map fun j => D (len + j)), MemPlace.row a (m * fs.size) ++ (List.range m).flatMap Pl) ∧
      ∀ i, i < m → ∃ (ys : List (DataW H × List MemPlace)) (n : Nat), D i = .agg (ys.map (·.1)) ∧ Pl i = ys.flatMap (·.2) ∧ ys.length = fs.size ∧
        ∀ (j : Nat) (f : Field), fs[j]? = some f → ∃ (v : Value) (y : DataW H × List MemPlace), w.cell? (a.add (i * fs.size + j)) = some v ∧ ys[j]? = some y ∧ DataW.trod enc P w base spare held n f.type [v] = some y := by
  rcases open_slice ht h with h0 | ⟨a, len, cap, m, n, D, Pl, hcs, hb, hl, hm, hmm, hx, hi⟩
  · exact .inl h0
  · refine .inr ⟨a, len, cap, m, D, Pl, hcs, hb, hl, hm, hmm, by rw [hC] at hx; exact hx, fun i him => ?_⟩
    obtain ⟨cs', hc, ht'⟩ := hi i him
    rw [hC] at hc
    obtain ⟨ys, n', hn', hy, hlen, hyl, hf⟩ := DataW.trod_struct he ht'
    obtain ⟨_, hcl, hat⟩ := World.cells?_some hc
    simp only [Prod.mk.injEq] at hy
    refine ⟨ys, n', hy.1, hy.2, hyl, fun j f hj => ?_⟩
    obtain ⟨ho, hk⟩ := hone_of hone j f hj
    have hjl : j < fs.size := (Array.getElem?_eq_some_iff.1 hj).1
    have hcell := hat j hjl
    have hv : cs'[j]? = some (cs'[j]'(by omega)) := List.getElem?_eq_getElem (by omega)
    have h1 := hf j f hj
    rw [ho, hk] at h1
    have hone' : (cs'.drop j).take 1 = [cs'[j]'(by omega)] := by
      rw [List.drop_eq_getElem_cons (by omega)]
      rfl
    rw [hone'] at h1
    have hys : ys[j]? = some (ys[j]'(by omega)) := List.getElem?_eq_getElem (by omega)
    refine ⟨_, _, ?_, hys, h1.trans hys⟩
    rw [← Go.Deep.add_add, hcell, hv]
end

theorem wf_inI {n : Int} (h : (Lit.int .i64 n).wf = true) : Sp.inI n := by
  have := bounds_i64 h
  exact this

section
variable {H : Type} {enc : TypeId × Value → H} {w : World} {base : Nat} {spare : Nat → Bool} {held : Bool}

theorem add_none (b off k : Nat) : (⟨b, off, none⟩ : Addr).add k = ⟨b, off + k, none⟩ := by
  unfold Addr.add
  by_cases hk : k = 0
  · subst hk; simp
  · simp [hk]

/-- an address whose first cell is known has no spot -/
theorem addr_form {a : Addr} {w : World} {v : Value} (h : w.cell? (a.add 0) = some v) : ∃ b off, a = ⟨b, off, none⟩ ∧ b < w.heap.size := by
  obtain ⟨b, off, s⟩ := a
  have e : (⟨b, off, s⟩ : Addr).add 0 = ⟨b, off, s⟩ := by unfold Addr.add; simp
  rw [e] at h
  have hs := World.cell?_spot h
  have hb := World.block_lt_of_cell? _ _ h
  simp only at hs hb
  subst hs
  exact ⟨b, off, rfl, hb⟩

theorem open_intsI {fuel : Nat} {v : Value} {x : DataW H × List MemPlace} (h : DataW.trod enc Tryz.prog w base spare held fuel 23 [v] = some x) :
    ∃ A n c l, v = .slice A n c ∧ Ints w A n l := by
  rcases open_ints Tryz.underlying23 Tryz.underlying3 (by kernel_rfl) h with ⟨hcs, _⟩ | ⟨a, len, cap, zs, hcs, _, hl, hm, hz, _, hcell, hwz⟩
  · obtain rfl : v = .slice none 0 0 := by simpa using hcs
    exact ⟨none, 0, 0, [], rfl, rfl, by unfold maxLen; omega, by simp, by omega⟩
  · obtain rfl : v = .slice (some a) len cap := by simpa using hcs
    have hlen : len ≤ zs.length := by rw [hz]; split <;> omega
    refine ⟨some a, len, cap, zs.take len, rfl, by rw [List.length_take]; omega, by omega, fun y hy => wf_inI (hwz y (List.mem_of_mem_take hy)), fun h0 => ?_⟩
    obtain ⟨b, off, rfl, hb⟩ := addr_form (hcell 0 (by omega))
    refine ⟨b, off, rfl, hb, fun k hk => ?_⟩
    have hc := hcell k (by omega)
    rw [add_none] at hc
    rw [hc]
    congr 2
    have hk' : k < zs.length := by omega
    simp [List.getD, hk, hk']

set_option maxRecDepth 100000 in
theorem open_ltask {v : Value} {d : DataW H} {p : List MemPlace} {r : Reach} {b0 : Nat} (hv : Value.okWide Tryz.prog w r b0 37 v) (h : DataW.Trod enc Tryz.prog w base spare held 37 v d p) :
    ∃ t, TaskV w v t := by
  obtain ⟨v0, v1, v2, y0, y1, y2, n, rfl, _, _, h0, h1, h2⟩ := open_agg3 Tryz.underlying37 (by kernel_rfl) (by kernel_rfl) hv h
  obtain ⟨a, e0, _, wa⟩ := DataW.trod_int Tryz.underlying3 h0
  obtain rfl : v0 = .int .i64 a := by simpa using e0
  obtain ⟨A, n1, c1, l, rfl, hI⟩ := open_intsI h1
  rcases open_slice_fields Tryz.underlying35 Tryz.underlying112 (by kernel_rfl) (by kernel_rfl) h2 with ⟨hcs, _⟩ | ⟨a2, len, cap, m, D, Pl, hcs, _, hl, hm, hmm, _, hf⟩
  · obtain rfl : v2 = .slice none 0 0 := by simpa using hcs
    exact ⟨⟨a, l, []⟩, A, n1, c1, none, 0, 0, rfl, hI, ⟨rfl, by unfold maxLen; omega, by omega⟩, wf_inI wa⟩
  · obtain rfl : v2 = .slice (some a2) len cap := by simpa using hcs
    have hlm : len ≤ m := by rw [hmm]; split <;> omega
    have hd : ∀ i, i < len → ∃ d : Sp.Deed, ∃ A2 n2 c2, w.cell? (a2.add (i * 4)) = some (.slice A2 n2 c2) ∧ Ints w A2 n2 d.need ∧ w.cell? (a2.add (i * 4 + 1)) = some (.int .i64 d.on) ∧
        w.cell? (a2.add (i * 4 + 2)) = some (.int .i64 d.off) ∧ w.cell? (a2.add (i * 4 + 3)) = some (.int .i64 d.flip) ∧ Sp.inI d.on ∧ Sp.inI d.off ∧ Sp.inI d.flip := by
      intro i hi
      obtain ⟨ys, n', _, _, _, hj⟩ := hf i (by omega)
      obtain ⟨u0, z0, k0, _, t0⟩ := hj 0 _ rfl
      obtain ⟨u1, z1, k1, _, t1⟩ := hj 1 _ rfl
      obtain ⟨u2, z2, k2, _, t2⟩ := hj 2 _ rfl
      obtain ⟨u3, z3, k3, _, t3⟩ := hj 3 _ rfl
      obtain ⟨A2, n2, c2, l2, rfl, hI2⟩ := open_intsI t0
      obtain ⟨x1, e1, _, w1⟩ := DataW.trod_int Tryz.underlying3 t1
      obtain ⟨x2, e2, _, w2⟩ := DataW.trod_int Tryz.underlying3 t2
      obtain ⟨x3, e3, _, w3⟩ := DataW.trod_int Tryz.underlying3 t3
      obtain rfl : u1 = .int .i64 x1 := by simpa using e1
      obtain rfl : u2 = .int .i64 x2 := by simpa using e2
      obtain rfl : u3 = .int .i64 x3 := by simpa using e3
      exact ⟨⟨l2, x1, x2, x3⟩, A2, n2, c2, k0, hI2, k1, k2, k3, wf_inI w1, wf_inI w2, wf_inI w3⟩
    obtain ⟨g, hg⟩ : ∃ g : Nat → Sp.Deed, ∀ i, i < len → ∃ A2 n2 c2, w.cell? (a2.add (i * 4)) = some (.slice A2 n2 c2) ∧ Ints w A2 n2 (g i).need ∧ w.cell? (a2.add (i * 4 + 1)) = some (.int .i64 (g i).on) ∧
        w.cell? (a2.add (i * 4 + 2)) = some (.int .i64 (g i).off) ∧ w.cell? (a2.add (i * 4 + 3)) = some (.int .i64 (g i).flip) ∧ Sp.inI (g i).on ∧ Sp.inI (g i).off ∧ Sp.inI (g i).flip :=
      ⟨fun i => if h : i < len then Classical.choose (hd i h) else default, fun i hi => by simp only [hi, dif_pos]; exact Classical.choose_spec (hd i hi)⟩
    refine ⟨⟨a, l, (List.range len).map g⟩, A, n1, c1, some a2, len, cap, rfl, hI, ⟨by simp, by omega, fun h0 => ?_⟩, wf_inI wa⟩
    obtain ⟨_, _, _, q0, _⟩ := hg 0 h0
    obtain ⟨b, off, rfl, hb⟩ := addr_form (by rwa [Nat.zero_mul] at q0)
    refine ⟨b, off, rfl, hb, fun k hk => ?_⟩
    obtain ⟨A2, n2, c2, q0, q1, q2, q3, q4, q5⟩ := hg k hk
    have ek : ((List.range len).map g).getD k default = g k := by simp [List.getD, hk]
    rw [ek]
    rw [add_none] at q0 q2 q3 q4
    exact ⟨A2, n2, c2, q0, q1, q2, q3, q4, q5⟩
end

end Go.Proofs.YtphdojebdclonaaGreatDoor
/- Walks: the law's own set of both; the program's StatesNext, StatesBack; draws of sets of states. Walks: draws of a task and a set of states. No condition. -/
namespace Go.Proofs.YtphdojebdclonaaGreatDoor
set_option linter.unusedSimpArgs false
set_option linter.unusedVariables false
open Go.RowKit

theorem and_lt32 {a b : Nat} (ha : a < 4294967296) : a &&& b < 4294967296 := Nat.lt_of_le_of_lt Nat.and_le_left ha
theorem setOf_and {a b n : Nat} (ha : a < 4294967296) (hn : 32 ≤ n) : Sp.setOf n (fun i => a.testBit i && b.testBit i) = a &&& b := by
  refine Nat.eq_of_testBit_eq fun i => ?_
  rw [Sp.testBit_setOf, Nat.testBit_and]
  by_cases h : i < n
  · simp [h]
  · rw [Sp.bit_ge ha (by omega)]; simp
theorem setOf_lt2 (n : Nat) (f : Nat → Bool) : Sp.setOf n f < 2 ^ n := Sp.setOf_lt n f



















































theorem c_statesOk (S : Int) (w : World) : Calls Tryz.prog 87 #[.int .i64 S] w (Ret (.bool (Sp.setOk S)) w) := by
  by_cases h : 0 ≤ S
  · go_enter Tryz.func87, Tryz.ntmps87
    go_wp2_with fail
    go_ret
    exact ⟨ret_bool (by unfold Sp.setOk; simp [h]; omega), rfl⟩
  · go_enter Tryz.func87, Tryz.ntmps87
    go_wp2_with fail
    go_ret
    exact ⟨ret_bool (by unfold Sp.setOk; simp; omega), rfl⟩






























































































end Go.Proofs.YtphdojebdclonaaGreatDoor

namespace Go.Proofs.YtphdojebdclonaaGreatDoor
set_option linter.unusedSimpArgs false
set_option linter.unusedVariables false
open Go.RowKit

def StatesQ (v : Value) (_w : World) : Prop := ∃ x, v = .int .i64 x ∧ -8589934592 ≤ x ∧ x ≤ 8589934592
theorem But.keep1 {R : Nat} {w w1 w2 : World} (h : But R (R + 1) w w1) (k : But R (R + 1) w1 w2) : But R (R + 1) w w2 := h.trans k
theorem quo59 {x : Int} (h0 : 0 ≤ x) (h1 : x < 60) : Int.tdiv x 59 = 0 ∨ Int.tdiv x 59 = 1 := by
  rw [Int.tdiv_eq_ediv_of_nonneg h0]
  omega

























































/-- a task and a set of states that a draw made -/
def DrawnQ (v : Value) (w : World) : Prop := ∃ tv t x, v = .tuple #[tv, .int .i64 x] ∧ TaskV w tv t ∧ -8589934592 ≤ x ∧ x ≤ 8589934592
theorem BytesV.keep {w w' : World} {A : Option Addr} {n : Nat} (h : BytesV w A n) (hk : Kept w w') : BytesV w' A n :=
  ⟨h.1, fun hn => by obtain ⟨b, o, e, hb, hc⟩ := h.2 hn; exact ⟨b, o, e, Nat.lt_of_lt_of_le hb hk.size, fun k hk2 => by obtain ⟨x, h1, h2⟩ := hc k hk2; exact ⟨x, by rw [hk.cell hb]; exact h1, h2⟩⟩⟩























































































end Go.Proofs.YtphdojebdclonaaGreatDoor
/- Walks: draws of hard tasks. Walks: the draw of FnOnlyTurns, with room told. No condition. -/
namespace Go.Proofs.YtphdojebdclonaaGreatDoor
set_option linter.unusedSimpArgs false
set_option linter.unusedVariables false
open Go.RowKit

/-- a task that a draw made -/
def DrawnT (v : Value) (w : World) : Prop := ∃ t, TaskV w v t









































































end Go.Proofs.YtphdojebdclonaaGreatDoor

namespace Go.Proofs.YtphdojebdclonaaGreatDoor
set_option linter.unusedSimpArgs false
set_option linter.unusedVariables false
open Go.RowKit

/-- a task that a draw made: its deeds lie in a slice with room -/
def DrawnC (v : Value) (w : World) : Prop := ∃ t, TaskV w v t ∧ ∀ (A : Option Addr) (n c : Nat) (A' : Option Addr) (n' c' : Nat), v = .agg #[.int .i64 t.start, .slice A n c, .slice A' n' c'] → 0 < n' → n' ≤ c'












































end Go.Proofs.YtphdojebdclonaaGreatDoor
/- Arguments opened: a slice of bytes. No condition. -/
namespace Go.Proofs.YtphdojebdclonaaGreatDoor
set_option linter.unusedSimpArgs false
set_option linter.unusedVariables false
open Go.ChangeShapes Go.WideShapes Go.ChangeAt Go.RowKit Go.Joins Go.Deep

section
variable {H : Type} {enc : TypeId × Value → H} {w : World} {base : Nat} {spare : Nat → Bool} {held : Bool}
set_option maxRecDepth 100000 in
theorem open_bytesV {v : Value} {d : DataW H} {p : List MemPlace} {r : Reach} {b0 : Nat} (hv : Value.okWide Tryz.prog w r b0 22 v) (h : DataW.Trod enc Tryz.prog w base spare held 22 v d p) :
    ∃ A n c, v = .slice A n c ∧ (BytesV w A n ∧ n ≤ c ∧ c ≤ maxLen) := by
  obtain ⟨a1, len1, cap1, rfl⟩ := okWide_slice Tryz.underlying22 hv
  obtain ⟨fuel, hf⟩ := h
  rcases open_ints Tryz.underlying22 Tryz.underlying5 (by kernel_rfl) hf with ⟨hcs, _⟩ | ⟨a, len, cap, zs, hcs, _, hl, hm, hz, _, hcell, hwz⟩
  · simp [Value.cells] at hcs
    obtain ⟨rfl, rfl, rfl⟩ := hcs
    exact ⟨none, 0, 0, rfl, ⟨by unfold maxLen; omega, fun h => absurd h (Nat.lt_irrefl 0)⟩, Nat.le_refl _, by unfold maxLen; omega⟩
  · simp [Value.cells] at hcs
    obtain ⟨rfl, rfl, rfl⟩ := hcs
    have hlen : len1 ≤ zs.length := by rw [hz]; split <;> omega
    refine ⟨some a, len1, cap1, rfl, ⟨by omega, fun h0 => ?_⟩, hl, hm⟩
    obtain ⟨b, off, rfl, hb⟩ := addr_form (hcell 0 (by omega))
    refine ⟨b, off, rfl, hb, fun k hk => ?_⟩
    have hc := hcell k (by omega)
    rw [add_none] at hc
    have hmem : zs.getD k 0 ∈ zs := by
      have hk' : k < zs.length := by omega
      simp [List.getD, hk']
    have hw := hwz _ hmem
    refine ⟨_, hc, ?_⟩
    generalize zs.getD k 0 = z at hw
    have hb := bounds_u8 hw
    omega
end

end Go.Proofs.YtphdojebdclonaaGreatDoor
/- The law FnOnlyTurns, walked. No condition. -/
namespace Go.Proofs.YtphdojebdclonaaGreatDoor
set_option linter.unusedSimpArgs false
set_option linter.unusedVariables false
open Go.RowKit
























theorem turn_bit (d : Sp.Deed) (h : Sp.turnOk d = true) {s : Nat} (hs : s < 32) : Sp.run d.need s = true := by
  unfold Sp.turnOk at h
  simp only [Bool.and_eq_true, beq_iff_eq] at h
  have h1 : (Sp.truth d.need).testBit s = true := by
    rw [h.2]
    have : ∀ s : Fin 32, Nat.testBit 4294967295 s.val = true := by decide
    exact this ⟨s, hs⟩
  unfold Sp.truth at h1
  rw [Sp.testBit_setOf, Bool.and_eq_true] at h1
  exact h1.2
theorem turn_step {d : Sp.Deed} (h : Sp.turnOk d = true) {s : Nat} (hs : s < 32) : Sp.stepI d s = ((s ^^^ d.flip.toNat : Nat) : Int) := by
  have h2 := h
  unfold Sp.turnOk at h2
  simp only [Bool.and_eq_true, beq_iff_eq] at h2
  unfold Sp.stepI Sp.behind
  rw [if_pos (turn_bit d h hs), h2.1.1, h2.1.2]
  have h31 : ∀ s : Fin 32, (s.val ||| (0 : Int).toNat) &&& (31 ^^^ (0 : Int).toNat) = s.val := by decide
  have := h31 ⟨s, hs⟩
  simp only at this
  rw [this]
theorem turn_twice {d : Sp.Deed} (hd : Sp.deedOk d = true) (h : Sp.turnOk d = true) {s : Nat} (hs : s < 32) : ∃ u : Nat, u < 32 ∧ Sp.stepI d s = (u : Int) ∧ Sp.stepI d u = (s : Int) := by
  have hf := deedOk_flip hd
  have hu : s ^^^ d.flip.toNat < 32 := Nat.xor_lt_two_pow (n := 5) hs (by omega)
  refine ⟨_, hu, turn_step h hs, ?_⟩
  rw [turn_step h hu, Nat.xor_assoc, Nat.xor_self, Nat.xor_zero]
theorem only_deed {t : Sp.Task} (h : Sp.onlyTurns t = true) {k : Nat} (hk : k < t.deeds.length) : Sp.deedOk (t.deeds.getD k default) = true ∧ Sp.turnOk (t.deeds.getD k default) = true := by
  unfold Sp.onlyTurns at h
  rw [Bool.and_eq_true] at h
  refine ⟨Sp.taskOk_deed h.1 hk, ?_⟩
  have := List.all_eq_true.1 h.2 (t.deeds.getD k default) (by simp [List.getD, hk])
  exact this
theorem only_tail {st : Int} {g : List Int} {d : Sp.Deed} {ds : List Sp.Deed} (h : Sp.onlyTurns ⟨st, g, d :: ds⟩ = true) : Sp.onlyTurns ⟨st, g, ds⟩ = true := by
  unfold Sp.onlyTurns Sp.taskOk at *
  simp only [Bool.and_eq_true, List.all_cons, List.length_cons, decide_eq_true_eq] at *
  exact ⟨⟨⟨h.1.1.1, by omega⟩, h.1.2.2⟩, h.2.2⟩

/-- a task without its first deed -/
theorem task_tail {w : World} {A1 : Option Addr} {m1 c1 b off n' c' : Nat} {t : Sp.Task} (h : TaskV w (.agg #[.int .i64 t.start, .slice A1 m1 c1, .slice (some ⟨b, off, none⟩) n' c']) t) (hok : Sp.onlyTurns t = true) (hn : 0 < n') (hc : n' ≤ c') :
    ∃ t2, TaskV w (.agg #[.int .i64 t.start, .slice A1 m1 c1, .slice (if c' = 1 then some ⟨b, off, none⟩ else some ⟨b, off + 4, none⟩) (n' - 1) (c' - 1)]) t2 ∧ Sp.onlyTurns t2 = true := by
  have hG := h.goal
  have hD := h.deeds
  have hst : Sp.inI t.start := by obtain ⟨_, _, _, _, _, _, _, _, _, hi⟩ := h; exact hi
  obtain ⟨st, g, ds⟩ := t
  cases ds with
  | nil => have := hD.len; simp at this; omega
  | cons d ds =>
    have hl : ds.length + 1 = n' := hD.len
    refine ⟨⟨st, g, ds⟩, ⟨A1, m1, c1, _, n' - 1, c' - 1, rfl, hG, ⟨by show ds.length = _; omega, by have := hD.le; unfold maxLen; omega, fun h0 => ?_⟩, hst⟩, only_tail hok⟩
    obtain ⟨b2, off2, e, hb, hcell⟩ := hD.2.2 hn
    simp only [Option.some.injEq, Addr.mk.injEq] at e
    obtain ⟨rfl, rfl, _⟩ := e
    refine ⟨b, off + 4, by rw [if_neg (by omega)], hb, fun k hk => ?_⟩
    have := hcell (k + 1) (by omega)
    rw [show off + 4 + k * 4 = off + (k + 1) * 4 by omega]
    simpa using this





















































































































































end Go.Proofs.YtphdojebdclonaaGreatDoor
/- Walks: the draws of a task and a set of facts (FnSumOk, FnSumStates). No condition. -/
namespace Go.Proofs.YtphdojebdclonaaGreatDoor
set_option linter.unusedSimpArgs false
set_option linter.unusedVariables false
open Go.RowKit

/-- a task of the draw's own rows, and a set of facts, that a draw made -/
def DrawnS (X : Nat) (v : Value) (w : World) : Prop := ∃ tv x, v = .tuple #[tv, .int .i64 x] ∧ TaskQ X tv w ∧ -1000 ≤ x ∧ x ≤ 1000
theorem sumForN_bd (t : Sp.Task) : -1 ≤ Sp.sumForN t ∧ Sp.sumForN t ≤ 31 := by
  unfold Sp.sumForN Sp.sumFor
  cases hf : (List.range 32).find? (fun f => Sp.sumOk t (f : Nat)) with
  | none => simp
  | some s =>
    have := List.mem_range.1 (List.mem_of_find?_eq_some hf)
    simp only
    omega

theorem quo39 {x : Int} (h0 : 0 ≤ x) (h1 : x < 40) : Int.tdiv x 39 = 0 ∨ Int.tdiv x 39 = 1 := by
  rw [Int.tdiv_eq_ediv_of_nonneg h0]
  omega








































































































































































































































































































































end Go.Proofs.YtphdojebdclonaaGreatDoor
