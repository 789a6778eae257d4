/- Joined texts. No condition. -/
import Derived.Test.YtphdojebdclonaaDoorRows
import Derived.ProofKit
import Derived.OpenShut
import Derived.ShutString
import Derived.ChangeOld
import Derived.Lib.SmallJoins
import Derived.Deep.Slices
import Derived.Deep.Fields
import Derived.ChangeSame
import Derived.Test.YtphdojebdclonaaDoorQ1
/- Arguments opened: a task by value, a slice of integers, a slice of bytes, a string. No condition. -/
namespace Go.Proofs.YtphdojebdclonaaDoor
set_option linter.unusedSimpArgs false
set_option linter.unusedVariables false
open Go.ChangeShapes Go.WideShapes Go.ChangeAt Go.RowKit Go.Joins Go.Deep

theorem own : ownKnob Tryd.prog.godebug = none := by kernel_rfl
theorem laidOut : laidOutB Tryd.prog = true := by kernel_rfl

section
variable {H : Type} {enc : TypeId × Value → H} {P : Program} {w : World} {base : Nat} {spare : Nat → Bool} {held : Bool}
theorem open_slice_fields {t e : TypeId} {fs : Array Field} {fuel : Nat} {cs : List Value} {x : DataW H × List MemPlace} (ht : P.underlying t = some (.slice e)) (he : P.underlying e = some (.struct fs))
    (hone : oneCellFields P fs = true) (hC : P.cellsOf e = fs.size) (h : DataW.trod enc P w base spare held fuel t cs = some x) :
    (cs = [.slice none 0 0] ∧ x = (.nil, [])) ∨
    ∃ (a : Addr) (len cap m : Nat) (D : Nat → DataW H) (Pl : Nat → List MemPlace), cs = [.slice (some a) len cap] ∧ base ≤ a.block ∧ len ≤ cap ∧ cap ≤ maxLen ∧ m = (if spare a.block then cap else len) ∧
      x = (.slice ((List.range len).map D) ((List.range (m - len)).map fun j => D (len + j)), MemPlace.row a (m * fs.size) ++ (List.range m).flatMap Pl) ∧
      ∀ i, i < m → ∃ (ys : List (DataW H × List MemPlace)) (n : Nat), D i = .agg (ys.map (·.1)) ∧ Pl i = ys.flatMap (·.2) ∧ ys.length = fs.size ∧
        ∀ (j : Nat) (f : Field), fs[j]? = some f → ∃ (v : Value) (y : DataW H × List MemPlace), w.cell? (a.add (i * fs.size + j)) = some v ∧ ys[j]? = some y ∧ DataW.trod enc P w base spare held n f.type [v] = some y := by
  rcases open_slice ht h with h0 | ⟨a, len, cap, m, n, D, Pl, hcs, hb, hl, hm, hmm, hx, hi⟩
  · exact .inl h0
  · refine .inr ⟨a, len, cap, m, D, Pl, hcs, hb, hl, hm, hmm, by rw [hC] at hx; exact hx, fun i him => ?_⟩
    obtain ⟨cs', hc, ht'⟩ := hi i him
    rw [hC] at hc
    obtain ⟨ys, n', hn', hy, hlen, hyl, hf⟩ := DataW.trod_struct he ht'
    obtain ⟨_, hcl, hat⟩ := World.cells?_some hc
    simp only [Prod.mk.injEq] at hy
    refine ⟨ys, n', hy.1, hy.2, hyl, fun j f hj => ?_⟩
    obtain ⟨ho, hk⟩ := hone_of hone j f hj
    have hjl : j < fs.size := (Array.getElem?_eq_some_iff.1 hj).1
    have hcell := hat j hjl
    have hv : cs'[j]? = some (cs'[j]'(by omega)) := List.getElem?_eq_getElem (by omega)
    have h1 := hf j f hj
    rw [ho, hk] at h1
    have hone' : (cs'.drop j).take 1 = [cs'[j]'(by omega)] := by
      rw [List.drop_eq_getElem_cons (by omega)]
      rfl
    rw [hone'] at h1
    have hys : ys[j]? = some (ys[j]'(by omega)) := List.getElem?_eq_getElem (by omega)
    refine ⟨_, _, ?_, hys, h1.trans hys⟩
    rw [← Go.Deep.add_add, hcell, hv]
end

theorem wf_inI {n : Int} (h : (Lit.int .i64 n).wf = true) : Sp.inI n := by
  have := bounds_i64 h
  exact this

section
variable {H : Type} {enc : TypeId × Value → H} {w : World} {base : Nat} {spare : Nat → Bool} {held : Bool}

theorem add_none (b off k : Nat) : (⟨b, off, none⟩ : Addr).add k = ⟨b, off + k, none⟩ := by
  unfold Addr.add
  by_cases hk : k = 0
  · subst hk; simp
  · simp [hk]

/-- an address whose first cell is known has no spot -/
theorem addr_form {a : Addr} {w : World} {v : Value} (h : w.cell? (a.add 0) = some v) : ∃ b off, a = ⟨b, off, none⟩ ∧ b < w.heap.size := by
  obtain ⟨b, off, s⟩ := a
  have e : (⟨b, off, s⟩ : Addr).add 0 = ⟨b, off, s⟩ := by unfold Addr.add; simp
  rw [e] at h
  have hs := World.cell?_spot h
  have hb := World.block_lt_of_cell? _ _ h
  simp only at hs hb
  subst hs
  exact ⟨b, off, rfl, hb⟩

theorem open_intsI {fuel : Nat} {v : Value} {x : DataW H × List MemPlace} (h : DataW.trod enc Tryd.prog w base spare held fuel 23 [v] = some x) :
    ∃ A n c l, v = .slice A n c ∧ Ints w A n l := by
  rcases open_ints Tryd.underlying23 Tryd.underlying3 (by kernel_rfl) h with ⟨hcs, _⟩ | ⟨a, len, cap, zs, hcs, _, hl, hm, hz, _, hcell, hwz⟩
  · obtain rfl : v = .slice none 0 0 := by simpa using hcs
    exact ⟨none, 0, 0, [], rfl, rfl, by unfold maxLen; omega, by simp, by omega⟩
  · obtain rfl : v = .slice (some a) len cap := by simpa using hcs
    have hlen : len ≤ zs.length := by rw [hz]; split <;> omega
    refine ⟨some a, len, cap, zs.take len, rfl, by rw [List.length_take]; omega, by omega, fun y hy => wf_inI (hwz y (List.mem_of_mem_take hy)), fun h0 => ?_⟩
    obtain ⟨b, off, rfl, hb⟩ := addr_form (hcell 0 (by omega))
    refine ⟨b, off, rfl, hb, fun k hk => ?_⟩
    have hc := hcell k (by omega)
    rw [add_none] at hc
    rw [hc]
    congr 2
    have hk' : k < zs.length := by omega
    simp [List.getD, hk, hk']

set_option maxRecDepth 100000 in
theorem open_ltask {v : Value} {d : DataW H} {p : List MemPlace} {r : Reach} {b0 : Nat} (hv : Value.okWide Tryd.prog w r b0 37 v) (h : DataW.Trod enc Tryd.prog w base spare held 37 v d p) :
    ∃ t, TaskV w v t := by
  obtain ⟨v0, v1, v2, y0, y1, y2, n, rfl, _, _, h0, h1, h2⟩ := open_agg3 Tryd.underlying37 (by kernel_rfl) (by kernel_rfl) hv h
  obtain ⟨a, e0, _, wa⟩ := DataW.trod_int Tryd.underlying3 h0
  obtain rfl : v0 = .int .i64 a := by simpa using e0
  obtain ⟨A, n1, c1, l, rfl, hI⟩ := open_intsI h1
  rcases open_slice_fields Tryd.underlying35 Tryd.underlying142 (by kernel_rfl) (by kernel_rfl) h2 with ⟨hcs, _⟩ | ⟨a2, len, cap, m, D, Pl, hcs, _, hl, hm, hmm, _, hf⟩
  · obtain rfl : v2 = .slice none 0 0 := by simpa using hcs
    exact ⟨⟨a, l, []⟩, A, n1, c1, none, 0, 0, rfl, hI, ⟨rfl, by unfold maxLen; omega, by omega⟩, wf_inI wa⟩
  · obtain rfl : v2 = .slice (some a2) len cap := by simpa using hcs
    have hlm : len ≤ m := by rw [hmm]; split <;> omega
    have hd : ∀ i, i < len → ∃ d : Sp.Deed, ∃ A2 n2 c2, w.cell? (a2.add (i * 4)) = some (.slice A2 n2 c2) ∧ Ints w A2 n2 d.need ∧ w.cell? (a2.add (i * 4 + 1)) = some (.int .i64 d.on) ∧
        w.cell? (a2.add (i * 4 + 2)) = some (.int .i64 d.off) ∧ w.cell? (a2.add (i * 4 + 3)) = some (.int .i64 d.flip) ∧ Sp.inI d.on ∧ Sp.inI d.off ∧ Sp.inI d.flip := by
      intro i hi
      obtain ⟨ys, n', _, _, _, hj⟩ := hf i (by omega)
      obtain ⟨u0, z0, k0, _, t0⟩ := hj 0 _ rfl
      obtain ⟨u1, z1, k1, _, t1⟩ := hj 1 _ rfl
      obtain ⟨u2, z2, k2, _, t2⟩ := hj 2 _ rfl
      obtain ⟨u3, z3, k3, _, t3⟩ := hj 3 _ rfl
      obtain ⟨A2, n2, c2, l2, rfl, hI2⟩ := open_intsI t0
      obtain ⟨x1, e1, _, w1⟩ := DataW.trod_int Tryd.underlying3 t1
      obtain ⟨x2, e2, _, w2⟩ := DataW.trod_int Tryd.underlying3 t2
      obtain ⟨x3, e3, _, w3⟩ := DataW.trod_int Tryd.underlying3 t3
      obtain rfl : u1 = .int .i64 x1 := by simpa using e1
      obtain rfl : u2 = .int .i64 x2 := by simpa using e2
      obtain rfl : u3 = .int .i64 x3 := by simpa using e3
      exact ⟨⟨l2, x1, x2, x3⟩, A2, n2, c2, k0, hI2, k1, k2, k3, wf_inI w1, wf_inI w2, wf_inI w3⟩
    obtain ⟨g, hg⟩ : ∃ g : Nat → Sp.Deed, ∀ i, i < len → ∃ A2 n2 c2, w.cell? (a2.add (i * 4)) = some (.slice A2 n2 c2) ∧ Ints w A2 n2 (g i).need ∧ w.cell? (a2.add (i * 4 + 1)) = some (.int .i64 (g i).on) ∧
        w.cell? (a2.add (i * 4 + 2)) = some (.int .i64 (g i).off) ∧ w.cell? (a2.add (i * 4 + 3)) = some (.int .i64 (g i).flip) ∧ Sp.inI (g i).on ∧ Sp.inI (g i).off ∧ Sp.inI (g i).flip :=
      ⟨fun i => if h : i < len then Classical.choose (hd i h) else default, fun i hi => by simp only [hi, dif_pos]; exact Classical.choose_spec (hd i hi)⟩
    refine ⟨⟨a, l, (List.range len).map g⟩, A, n1, c1, some a2, len, cap, rfl, hI, ⟨by simp, by omega, fun h0 => ?_⟩, wf_inI wa⟩
    obtain ⟨_, _, _, q0, _⟩ := hg 0 h0
    obtain ⟨b, off, rfl, hb⟩ := addr_form (by rwa [Nat.zero_mul] at q0)
    refine ⟨b, off, rfl, hb, fun k hk => ?_⟩
    obtain ⟨A2, n2, c2, q0, q1, q2, q3, q4, q5⟩ := hg k hk
    have ek : ((List.range len).map g).getD k default = g k := by simp [List.getD, hk]
    rw [ek]
    rw [add_none] at q0 q2 q3 q4
    exact ⟨A2, n2, c2, q0, q1, q2, q3, q4, q5⟩
end

end Go.Proofs.YtphdojebdclonaaDoor
