/- Walks: what is behind a set of states. No condition. -/
import Derived.Test.YthkcdjnnacdeoaaG2
import Derived.Deep.WholeRow
namespace Go.Proofs.Ythkcdjnnacdeoaa
open Go.RowKit

/-- a set that holds, of what the first m places give -/
def Sp.To (q : Nat → Nat → Prop) (m T : Nat) : Prop := T < 4294967296 ∧ ∀ u, T.testBit u = true ↔ ∃ p, p < m ∧ q p u
theorem To_zero (q : Nat → Nat → Prop) : Sp.To q 0 0 := ⟨by omega, fun u => by simp⟩
theorem To_skip {q : Nat → Nat → Prop} {m T : Nat} (h : Sp.To q m T) (hn : ∀ u, ¬ q m u) : Sp.To q (m + 1) T := by
  refine ⟨h.1, fun u => (h.2 u).trans ⟨fun ⟨p, hp, hq⟩ => ⟨p, by omega, hq⟩, fun ⟨p, hp, hq⟩ => ⟨p, ?_, hq⟩⟩⟩
  by_cases e : p = m
  · subst e; exact absurd hq (hn u)
  · omega
theorem To_add {q : Nat → Nat → Prop} {m T v : Nat} (h : Sp.To q m T) (hv : v < 32) (hq : ∀ u, q m u ↔ u = v) : Sp.To q (m + 1) (T ||| 2 ^ v) := by
  refine ⟨Nat.or_lt_two_pow (n := 32) h.1 (Nat.pow_lt_pow_right (by decide) hv), fun u => ?_⟩
  rw [Nat.testBit_or, Nat.testBit_two_pow, Bool.or_eq_true, h.2 u, decide_eq_true_eq]
  constructor
  · rintro (⟨p, hp, h1⟩ | rfl)
    · exact ⟨p, by omega, h1⟩
    · exact ⟨m, by omega, (hq _).2 rfl⟩
  · rintro ⟨p, hp, h1⟩
    by_cases e : p = m
    · subst e; exact .inr ((hq _).1 h1).symm
    · exact .inl ⟨p, by omega, h1⟩

/-- the rows of n deeds: F, row behind row -/
def RowsF (w : World) (g n : Nat) (F : Nat → Int) : Prop := g < w.heap.size ∧ (∀ p, p < n * 32 → w.cell? ⟨g, p, none⟩ = some (.int .i64 (F p))) ∧ ∀ p, p < n * 32 → -1 ≤ F p ∧ F p ≤ 31
theorem RowsF.keep {w w' : World} {g n : Nat} {F : Nat → Int} (h : RowsF w g n F) (hk : Kept w w') : RowsF w' g n F :=
  ⟨Nat.lt_of_lt_of_le h.1 hk.size, fun p hp => by rw [hk.cell h.1]; exact h.2.1 p hp, h.2.2⟩

/-- an edge from s to u -/
def Sp.edge (n : Nat) (F : Nat → Int) (s u : Nat) : Bool := Sp.ex n (fun k => F (k * 32 + s) == (u : Int))
theorem edge_iff (n : Nat) (F : Nat → Int) (s u : Nat) : Sp.edge n F s u = true ↔ ∃ k, k < n ∧ F (k * 32 + s) = (u : Int) := by
  unfold Sp.edge
  rw [Sp.ex_iff]
  simp only [beq_iff_eq]

def Sp.qNext (F : Nat → Int) (S p u : Nat) : Prop := F p = (u : Int) ∧ S.testBit (p % 32) = true
theorem next_all {n : Nat} {F : Nat → Int} {S T : Nat} (h : Sp.To (Sp.qNext F S) (n * 32) T) : T = Sp.img (Sp.edge n F) S := by
  refine Sp.set_ext h.1 (Sp.img_lt _ _) fun u hu => ?_
  rw [h.2 u, Sp.img_bit]
  constructor
  · rintro ⟨p, hp, h1, h2⟩
    refine ⟨hu, p % 32, by omega, h2, (edge_iff _ _ _ _).2 ⟨p / 32, by omega, ?_⟩⟩
    rw [show p / 32 * 32 + p % 32 = p by omega]; exact h1
  · rintro ⟨_, s, hs, h2, h3⟩
    obtain ⟨k, hk, h1⟩ := (edge_iff _ _ _ _).1 h3
    exact ⟨k * 32 + s, by omega, h1, by rw [show (k * 32 + s) % 32 = s by omega]; exact h2⟩

theorem run_index_row (cs : Array Value) (i : Nat) (v : Value) (hi : i < 32) (hv : cs[i]? = some v) (w : World) : (Instr.index 79 (.agg cs) (.int .i64 (i : Int))).run Try.prog w = .ok v w := by
  have h1 := run_underlying (P := Try.prog) Try.underlying79 w

  obtain ⟨inf, hi1, _, hs, _⟩ := info_parts info_int
  have h3 : (0 : Int) ≤ (i : Int) ∧ (i : Int) < ((32 : Nat) : Int) := by omega
  simp [Instr.index, asIntOf, h1, h3, sizeOf, typeInfo, hi1, hs, part, isAgg, hv, hi]

/-- one row by value -/
def rowOf (F : Nat → Int) (k : Nat) : List Value := (List.range 32).map fun s => .int .i64 (F (k * 32 + s))
theorem rowOf_len (F : Nat → Int) (k : Nat) : (rowOf F k).length = 32 := by simp [rowOf]
theorem rowOf_at (F : Nat → Int) (k s : Nat) (hs : s < 32) : (rowOf F k)[s]? = some (.int .i64 (F (k * 32 + s))) := by
  simp [rowOf, hs]
theorem rowOf_one (F : Nat → Int) (k : Nat) : (rowOf F k).toArray.all (·.oneCell') = true := all_oneCell_toArray fun v hv => by
  simp only [rowOf, List.mem_map] at hv
  obtain ⟨s, _, rfl⟩ := hv
  rfl
theorem info_row_size : (Try.prog.info? 79).map (·.size) = some 32 := by kernel_rfl

theorem RowsF.load {w : World} {g n : Nat} {F : Nat → Int} (h : RowsF w g n F) {k : Nat} (hk : k < n) :
    (Instr.loadAt 79 (.pointer (some ⟨g, k * 32, none⟩))).run Try.prog w = .ok (.agg (rowOf F k).toArray) w := by
  refine run_loadAt_mid w g (k * 32) 79 (rowOf F k) _ (fun j v hv => ?_) Try.underlying79 rfl (by rw [rowOf_len]; exact info_row_size)
  have hj : j < 32 := by have := (List.getElem?_eq_some_iff.1 hv).1; rwa [rowOf_len] at this
  rw [rowOf_at F k j hj] at hv
  rw [h.2.1 _ (by omega)]
  exact hv

theorem row_zero (w : World) : (zeroValue 79).run Try.prog w = .ok (.agg zeros32) w := by
  obtain ⟨inf, hi1, hz, _, _⟩ := info_parts info_row
  simp [zeroValue, typeInfo, hi1, hz]
theorem row_store (F : Nat → Int) (k : Nat) (w : World) : (Instr.storeAt 79 (.pointer (some ⟨w.heap.size, 0, none⟩)) (.agg (rowOf F k).toArray)).run Try.prog (w.alloc (.cells zeros32 79)) = .ok () (w.alloc (.cells (rowOf F k).toArray 79)) :=
  run_storeAt_new w 79 zeros32 (rowOf F k).toArray (by rw [List.size_toArray, rowOf_len]; exact info_row_size) (by rw [zeros_size, List.size_toArray, rowOf_len]) (rowOf_one F k)
theorem row_load (F : Nat → Int) (k : Nat) (w : World) : (Instr.loadAt 79 (.pointer (some ⟨w.heap.size, 0, none⟩))).run Try.prog (w.alloc (.cells (rowOf F k).toArray 79)) = .ok (.agg (rowOf F k).toArray) (w.alloc (.cells (rowOf F k).toArray 79)) :=
  run_loadAt_new w 79 (rowOf F k).toArray 32 3 Try.underlying79 (by rw [List.size_toArray, rowOf_len]; exact info_row_size)

section
variable {ops : Array Oper} {Q : Exit → Act → World → Prop} {rest : List Oper} {op : Oper} {a : Act} {w : World} {x y : Operand} {F : Nat → Int} {k : Nat}
theorem row_load_at {g n : Nat} (h : RowsF w g n F) (hk : k < n) (hg : op.guard = none) (ho : op.op = .load 79 x) (hx : a.eval x = .pointer (some ⟨g, k * 32, none⟩))
    (hn : wpList Try.prog ops Q rest (a.put op.dst (.agg (rowOf F k).toArray)) w) : wpList Try.prog ops Q (op :: rest) a w :=
  wpList_load_mid hg 79 x ho g (k * 32) hx (rowOf F k) _ (fun j v hv => by
    have hj : j < 32 := by have := (List.getElem?_eq_some_iff.1 hv).1; rwa [rowOf_len] at this
    rw [rowOf_at F k j hj] at hv
    rw [h.2.1 _ (by omega)]
    exact hv) Try.underlying79 rfl (by rw [rowOf_len]; exact info_row_size) hn
theorem row_load_new (hg : op.guard = none) (ho : op.op = .load 79 x) (hx : a.eval x = .pointer (some ⟨w.heap.size, 0, none⟩))
    (hn : wpList Try.prog ops Q rest (a.put op.dst (.agg (rowOf F k).toArray)) (w.alloc (.cells (rowOf F k).toArray 79))) : wpList Try.prog ops Q (op :: rest) a (w.alloc (.cells (rowOf F k).toArray 79)) :=
  wpList_load_mid hg 79 x ho w.heap.size 0 hx (rowOf F k) _ (fun j v hv => by rw [Nat.zero_add, World.cell?_alloc_new, List.getElem?_toArray]; exact hv) Try.underlying79 rfl (by rw [rowOf_len]; exact info_row_size) hn
theorem wpList_store_new {P : Program} (ty : TypeId) (c c' : Array Value) (hg : op.guard = none) (ho : op.op = .store ty x y) (hx : a.eval x = .pointer (some ⟨w.heap.size, 0, none⟩)) (hy : a.eval y = .agg c')
    (hi : (P.info? ty).map (·.size) = some c'.size) (hs : c.size = c'.size) (h1 : c'.all (·.oneCell') = true)
    (hn : wpList P ops Q rest (a.put op.dst undef) (w.alloc (.cells c' ty))) : wpList P ops Q (op :: rest) a (w.alloc (.cells c ty)) :=
  wpList_plain hg fun K hK => by
    unfold Oper.wp execOp
    simp only [ho, hx, hy, run_storeAt_new w ty c c' hi hs h1, Sem.run_bind, Sem.run_pure, Result.andThen_ok]
    exact hK _ _ hn
theorem row_store_new (hg : op.guard = none) (ho : op.op = .store 79 x y) (hx : a.eval x = .pointer (some ⟨w.heap.size, 0, none⟩)) (hy : a.eval y = .agg (rowOf F k).toArray)
    (hn : wpList Try.prog ops Q rest (a.put op.dst undef) (w.alloc (.cells (rowOf F k).toArray 79))) : wpList Try.prog ops Q (op :: rest) a (w.alloc (.cells zeros32 79)) :=
  wpList_store_new 79 zeros32 (rowOf F k).toArray hg ho hx hy (by rw [List.size_toArray, rowOf_len]; exact info_row_size) (by rw [zeros_size, List.size_toArray, rowOf_len]) (rowOf_one F k) hn
end
attribute [irreducible] rowOf
attribute [-simp] Try.zeroValue79

set_option maxHeartbeats 1000000 in
set_option maxRecDepth 100000 in
theorem c_nextStates (g n c : Nat) (F : Nat → Int) (S : Nat) (w : World) (h : RowsF w g n F) (hS : S < 4294967296) (hn : n ≤ 6) :
    Calls Try.prog 85 #[.slice (some ⟨g, 0, none⟩) n c, .int .i64 S] w (RetK (.int .i64 (Sp.img (Sp.edge n F) S : Nat)) w) := by
  go_enter Try.func85, Try.ntmps85
  go_wp2_with fail
  go_loopw [12, 5] (fun i o wr => ∃ k T : Nat, k ≤ n ∧ i = .int .i64 k ∧ o = .int .i64 T ∧ Kept w wr ∧ Sp.To (Sp.qNext F S) (k * 32) T) (fun i _ _ => n - (intOf i).toNat)
  case atStart => exact ⟨0, 0, Nat.zero_le _, rfl, rfl, Kept.refl w, To_zero _⟩
  case round =>
    obtain ⟨k, T, hk, rfl, rfl, hkp, hT⟩ := hrel
    by_cases hlt : k < n
    · have HR := h.keep hkp
      have hl4 := row_zero
      have hl5 := zeros_cells
      go_wp2_with (first | (refine row_load_at HR hlt rfl rfl rfl ?_) | (refine row_store_new rfl rfl rfl rfl ?_) | (refine row_load_new rfl rfl rfl ?_))
      obtain ⟨C, HC⟩ : ∃ C, Hid (C = (rowOf F k).toArray) := ⟨_, rfl⟩
      rw [← HC.out]
      have HCa : Hid (∀ s, s < 32 → C[s]? = some (.int .i64 (F (k * 32 + s)))) := fun s hs => by rw [HC.out, List.getElem?_toArray]; exact rowOf_at F k s hs
      have hkD := hkp.alloc (.cells C 79)
      clear hl4 hl5
      go_loopw [17, 5] (fun i o wi => ∃ s T : Nat, s ≤ 32 ∧ i = .int .i64 s ∧ o = .int .i64 T ∧ Kept w wi ∧ Sp.To (Sp.qNext F S) (k * 32 + s) T) (fun i _ _ => 32 - (intOf i).toNat)
      case atStart => exact ⟨0, T, by omega, rfl, rfl, hkD, hT⟩
      case round =>
        obtain ⟨s, T, hs, rfl, rfl, hkp, hT⟩ := hrel
        by_cases hlt2 : s < 32
        · have hix := run_index_row C s _ hlt2 (HCa.out s hlt2)
          obtain ⟨hF0, hF1⟩ := h.2.2 (k * 32 + s) (by omega)
          have HQ := Lib.hid (show ∀ u, Sp.qNext F S (k * 32 + s) u ↔ (F (k * 32 + s) = (u : Int) ∧ S.testBit s = true) from fun u => by unfold Sp.qNext; rw [show (k * 32 + s) % 32 = s by omega])
          generalize F (k * 32 + s) = f at *
          by_cases hf : 0 ≤ f
          · obtain ⟨f, rfl⟩ := Int.eq_ofNat_of_zero_le hf
            have hab := and_bit S s (by omega)
            have hb1 := bit_one (S.testBit s)
            have hsh := bin_shl_one f (by omega)
            have hor := or_p2 T f hT.1 (by omega)
            cases hev : S.testBit s
            all_goals
              rw [hev] at hb1 hab
              have HV := Lib.hid hev
              clear hev
              go_wp2_with fail
            · exact ⟨⟨s + 1, T, by omega, by go_num, rfl, hkp, To_skip hT fun u hu => by have := ((HQ.out u).1 hu).2; rw [HV.out] at this; cases this⟩, by simp [intOf]; omega⟩
            · exact ⟨⟨s + 1, _, by omega, by go_num, rfl, hkp, To_add hT (by omega) fun u => (HQ.out u).trans ⟨fun hu => by have := hu.1; omega, fun e => ⟨by omega, HV.out⟩⟩⟩, by simp [intOf]; omega⟩
          · go_wp2_with fail
            exact ⟨⟨s + 1, T, by omega, by go_num, rfl, hkp, To_skip hT fun u hu => by have := ((HQ.out u).1 hu).1; omega⟩, by simp [intOf]; omega⟩
        · obtain rfl : s = 32 := by omega
          have hT2 : Hid (Sp.To (Sp.qNext F S) ((k + 1) * 32) T) := by show Sp.To _ _ _; rw [show (k + 1) * 32 = k * 32 + 32 by omega]; exact hT
          go_wp2_with fail
          exact ⟨⟨k + 1, T, by omega, by go_num, rfl, hkp, hT2⟩, by simp [intOf]; omega⟩
    · go_wp2_with fail
      go_ret
      obtain rfl : k = n := by omega
      exact ⟨ret_int (by rw [next_all hT]), hkp⟩

end Go.Proofs.Ythkcdjnnacdeoaa
