/- Joined texts. No condition. -/
import Derived.Deep.WholeRow
import Derived.Test.YtphdojebdclonaaDoorQ5
/- Walks: what is behind a set of states. Walks: steps on. Walks: the reference's states behind a set. No condition. -/
namespace Go.Proofs.YtphdojebdclonaaDoor
set_option linter.unusedSimpArgs false
set_option linter.unusedVariables false
open Go.RowKit

/-- a set that holds, of what the first m places give -/
def Sp.To (q : Nat → Nat → Prop) (m T : Nat) : Prop := T < 4294967296 ∧ ∀ u, T.testBit u = true ↔ ∃ p, p < m ∧ q p u
theorem To_zero (q : Nat → Nat → Prop) : Sp.To q 0 0 := ⟨by omega, fun u => by simp⟩
theorem To_skip {q : Nat → Nat → Prop} {m T : Nat} (h : Sp.To q m T) (hn : ∀ u, ¬ q m u) : Sp.To q (m + 1) T := by
  refine ⟨h.1, fun u => (h.2 u).trans ⟨fun ⟨p, hp, hq⟩ => ⟨p, by omega, hq⟩, fun ⟨p, hp, hq⟩ => ⟨p, ?_, hq⟩⟩⟩
  by_cases e : p = m
  · subst e; exact absurd hq (hn u)
  · omega
theorem To_add {q : Nat → Nat → Prop} {m T v : Nat} (h : Sp.To q m T) (hv : v < 32) (hq : ∀ u, q m u ↔ u = v) : Sp.To q (m + 1) (T ||| 2 ^ v) := by
  refine ⟨Nat.or_lt_two_pow (n := 32) h.1 (Nat.pow_lt_pow_right (by decide) hv), fun u => ?_⟩
  rw [Nat.testBit_or, Nat.testBit_two_pow, Bool.or_eq_true, h.2 u, decide_eq_true_eq]
  constructor
  · rintro (⟨p, hp, h1⟩ | rfl)
    · exact ⟨p, by omega, h1⟩
    · exact ⟨m, by omega, (hq _).2 rfl⟩
  · rintro ⟨p, hp, h1⟩
    by_cases e : p = m
    · subst e; exact .inr ((hq _).1 h1).symm
    · exact .inl ⟨p, by omega, h1⟩

/-- the rows of n deeds: F, row behind row -/
def RowsF (w : World) (g n : Nat) (F : Nat → Int) : Prop := g < w.heap.size ∧ (∀ p, p < n * 32 → w.cell? ⟨g, p, none⟩ = some (.int .i64 (F p))) ∧ ∀ p, p < n * 32 → -1 ≤ F p ∧ F p ≤ 31
theorem RowsF.keep {w w' : World} {g n : Nat} {F : Nat → Int} (h : RowsF w g n F) (hk : Kept w w') : RowsF w' g n F :=
  ⟨Nat.lt_of_lt_of_le h.1 hk.size, fun p hp => by rw [hk.cell h.1]; exact h.2.1 p hp, h.2.2⟩

/-- an edge from s to u -/
def Sp.edge (n : Nat) (F : Nat → Int) (s u : Nat) : Bool := Sp.ex n (fun k => F (k * 32 + s) == (u : Int))
theorem edge_iff (n : Nat) (F : Nat → Int) (s u : Nat) : Sp.edge n F s u = true ↔ ∃ k, k < n ∧ F (k * 32 + s) = (u : Int) := by
  unfold Sp.edge
  rw [Sp.ex_iff]
  simp only [beq_iff_eq]

def Sp.qNext (F : Nat → Int) (S p u : Nat) : Prop := F p = (u : Int) ∧ S.testBit (p % 32) = true
theorem next_all {n : Nat} {F : Nat → Int} {S T : Nat} (h : Sp.To (Sp.qNext F S) (n * 32) T) : T = Sp.img (Sp.edge n F) S := by
  refine Sp.set_ext h.1 (Sp.img_lt _ _) fun u hu => ?_
  rw [h.2 u, Sp.img_bit]
  constructor
  · rintro ⟨p, hp, h1, h2⟩
    refine ⟨hu, p % 32, by omega, h2, (edge_iff _ _ _ _).2 ⟨p / 32, by omega, ?_⟩⟩
    rw [show p / 32 * 32 + p % 32 = p by omega]; exact h1
  · rintro ⟨_, s, hs, h2, h3⟩
    obtain ⟨k, hk, h1⟩ := (edge_iff _ _ _ _).1 h3
    exact ⟨k * 32 + s, by omega, h1, by rw [show (k * 32 + s) % 32 = s by omega]; exact h2⟩

theorem run_index_row (cs : Array Value) (i : Nat) (v : Value) (hi : i < 32) (hv : cs[i]? = some v) (w : World) : (Instr.index 81 (.agg cs) (.int .i64 (i : Int))).run Tryd.prog w = .ok v w := by
  have h1 := run_underlying (P := Tryd.prog) Tryd.underlying81 w

  obtain ⟨inf, hi1, _, hs, _⟩ := info_parts info_int
  have h3 : (0 : Int) ≤ (i : Int) ∧ (i : Int) < ((32 : Nat) : Int) := by omega
  simp [Instr.index, asIntOf, h1, h3, sizeOf, typeInfo, hi1, hs, part, isAgg, hv, hi]

/-- one row by value -/
def rowOf (F : Nat → Int) (k : Nat) : List Value := (List.range 32).map fun s => .int .i64 (F (k * 32 + s))
theorem rowOf_len (F : Nat → Int) (k : Nat) : (rowOf F k).length = 32 := by simp [rowOf]
theorem rowOf_at (F : Nat → Int) (k s : Nat) (hs : s < 32) : (rowOf F k)[s]? = some (.int .i64 (F (k * 32 + s))) := by
  simp [rowOf, hs]
theorem rowOf_one (F : Nat → Int) (k : Nat) : (rowOf F k).toArray.all (·.oneCell') = true := all_oneCell_toArray fun v hv => by
  simp only [rowOf, List.mem_map] at hv
  obtain ⟨s, _, rfl⟩ := hv
  rfl
theorem info_row_size : (Tryd.prog.info? 81).map (·.size) = some 32 := by kernel_rfl

theorem RowsF.load {w : World} {g n : Nat} {F : Nat → Int} (h : RowsF w g n F) {k : Nat} (hk : k < n) :
    (Instr.loadAt 81 (.pointer (some ⟨g, k * 32, none⟩))).run Tryd.prog w = .ok (.agg (rowOf F k).toArray) w := by
  refine run_loadAt_mid w g (k * 32) 81 (rowOf F k) _ (fun j v hv => ?_) Tryd.underlying81 rfl (by rw [rowOf_len]; exact info_row_size)
  have hj : j < 32 := by have := (List.getElem?_eq_some_iff.1 hv).1; rwa [rowOf_len] at this
  rw [rowOf_at F k j hj] at hv
  rw [h.2.1 _ (by omega)]
  exact hv

theorem row_zero (w : World) : (zeroValue 81).run Tryd.prog w = .ok (.agg zeros32) w := by
  obtain ⟨inf, hi1, hz, _, _⟩ := info_parts info_row
  simp [zeroValue, typeInfo, hi1, hz]
theorem row_store (F : Nat → Int) (k : Nat) (w : World) : (Instr.storeAt 81 (.pointer (some ⟨w.heap.size, 0, none⟩)) (.agg (rowOf F k).toArray)).run Tryd.prog (w.alloc (.cells zeros32 81)) = .ok () (w.alloc (.cells (rowOf F k).toArray 81)) :=
  run_storeAt_new w 81 zeros32 (rowOf F k).toArray (by rw [List.size_toArray, rowOf_len]; exact info_row_size) (by rw [zeros_size, List.size_toArray, rowOf_len]) (rowOf_one F k)
theorem row_load (F : Nat → Int) (k : Nat) (w : World) : (Instr.loadAt 81 (.pointer (some ⟨w.heap.size, 0, none⟩))).run Tryd.prog (w.alloc (.cells (rowOf F k).toArray 81)) = .ok (.agg (rowOf F k).toArray) (w.alloc (.cells (rowOf F k).toArray 81)) :=
  run_loadAt_new w 81 (rowOf F k).toArray 32 3 Tryd.underlying81 (by rw [List.size_toArray, rowOf_len]; exact info_row_size)

section
variable {ops : Array Oper} {Q : Exit → Act → World → Prop} {rest : List Oper} {op : Oper} {a : Act} {w : World} {x y : Operand} {F : Nat → Int} {k : Nat}
theorem row_load_at {g n : Nat} (h : RowsF w g n F) (hk : k < n) (hg : op.guard = none) (ho : op.op = .load 81 x) (hx : a.eval x = .pointer (some ⟨g, k * 32, none⟩))
    (hn : wpList Tryd.prog ops Q rest (a.put op.dst (.agg (rowOf F k).toArray)) w) : wpList Tryd.prog ops Q (op :: rest) a w :=
  wpList_load_mid hg 81 x ho g (k * 32) hx (rowOf F k) _ (fun j v hv => by
    have hj : j < 32 := by have := (List.getElem?_eq_some_iff.1 hv).1; rwa [rowOf_len] at this
    rw [rowOf_at F k j hj] at hv
    rw [h.2.1 _ (by omega)]
    exact hv) Tryd.underlying81 rfl (by rw [rowOf_len]; exact info_row_size) hn
theorem row_load_new (hg : op.guard = none) (ho : op.op = .load 81 x) (hx : a.eval x = .pointer (some ⟨w.heap.size, 0, none⟩))
    (hn : wpList Tryd.prog ops Q rest (a.put op.dst (.agg (rowOf F k).toArray)) (w.alloc (.cells (rowOf F k).toArray 81))) : wpList Tryd.prog ops Q (op :: rest) a (w.alloc (.cells (rowOf F k).toArray 81)) :=
  wpList_load_mid hg 81 x ho w.heap.size 0 hx (rowOf F k) _ (fun j v hv => by rw [Nat.zero_add, World.cell?_alloc_new, List.getElem?_toArray]; exact hv) Tryd.underlying81 rfl (by rw [rowOf_len]; exact info_row_size) hn
theorem wpList_store_new {P : Program} (ty : TypeId) (c c' : Array Value) (hg : op.guard = none) (ho : op.op = .store ty x y) (hx : a.eval x = .pointer (some ⟨w.heap.size, 0, none⟩)) (hy : a.eval y = .agg c')
    (hi : (P.info? ty).map (·.size) = some c'.size) (hs : c.size = c'.size) (h1 : c'.all (·.oneCell') = true)
    (hn : wpList P ops Q rest (a.put op.dst undef) (w.alloc (.cells c' ty))) : wpList P ops Q (op :: rest) a (w.alloc (.cells c ty)) :=
  wpList_plain hg fun K hK => by
    unfold Oper.wp execOp
    simp only [ho, hx, hy, run_storeAt_new w ty c c' hi hs h1, Sem.run_bind, Sem.run_pure, Result.andThen_ok]
    exact hK _ _ hn
theorem row_store_new (hg : op.guard = none) (ho : op.op = .store 81 x y) (hx : a.eval x = .pointer (some ⟨w.heap.size, 0, none⟩)) (hy : a.eval y = .agg (rowOf F k).toArray)
    (hn : wpList Tryd.prog ops Q rest (a.put op.dst undef) (w.alloc (.cells (rowOf F k).toArray 81))) : wpList Tryd.prog ops Q (op :: rest) a (w.alloc (.cells zeros32 81)) :=
  wpList_store_new 81 zeros32 (rowOf F k).toArray hg ho hx hy (by rw [List.size_toArray, rowOf_len]; exact info_row_size) (by rw [zeros_size, List.size_toArray, rowOf_len]) (rowOf_one F k) hn
end
attribute [irreducible] rowOf
attribute [-simp] Tryd.zeroValue81

set_option maxHeartbeats 1000000 in
set_option maxRecDepth 100000 in
theorem c_nextStates (g n c : Nat) (F : Nat → Int) (S : Nat) (w : World) (h : RowsF w g n F) (hS : S < 4294967296) (hn : n ≤ 6) :
    Calls Tryd.prog 139 #[.slice (some ⟨g, 0, none⟩) n c, .int .i64 S] w (RetK (.int .i64 (Sp.img (Sp.edge n F) S : Nat)) w) := by
  go_enter Tryd.func139, Tryd.ntmps139
  go_wp2_with fail
  go_loopw [12, 5] (fun i o wr => ∃ k T : Nat, k ≤ n ∧ i = .int .i64 k ∧ o = .int .i64 T ∧ Kept w wr ∧ Sp.To (Sp.qNext F S) (k * 32) T) (fun i _ _ => n - (intOf i).toNat)
  case atStart => exact ⟨0, 0, Nat.zero_le _, rfl, rfl, Kept.refl w, To_zero _⟩
  case round =>
    obtain ⟨k, T, hk, rfl, rfl, hkp, hT⟩ := hrel
    by_cases hlt : k < n
    · have HR := h.keep hkp
      have hl4 := row_zero
      have hl5 := zeros_cells
      go_wp2_with (first | (refine row_load_at HR hlt rfl rfl rfl ?_) | (refine row_store_new rfl rfl rfl rfl ?_) | (refine row_load_new rfl rfl rfl ?_))
      obtain ⟨C, HC⟩ : ∃ C, Hid (C = (rowOf F k).toArray) := ⟨_, rfl⟩
      rw [← HC.out]
      have HCa : Hid (∀ s, s < 32 → C[s]? = some (.int .i64 (F (k * 32 + s)))) := fun s hs => by rw [HC.out, List.getElem?_toArray]; exact rowOf_at F k s hs
      have hkD := hkp.alloc (.cells C 81)
      clear hl4 hl5
      go_loopw [17, 5] (fun i o wi => ∃ s T : Nat, s ≤ 32 ∧ i = .int .i64 s ∧ o = .int .i64 T ∧ Kept w wi ∧ Sp.To (Sp.qNext F S) (k * 32 + s) T) (fun i _ _ => 32 - (intOf i).toNat)
      case atStart => exact ⟨0, T, by omega, rfl, rfl, hkD, hT⟩
      case round =>
        obtain ⟨s, T, hs, rfl, rfl, hkp, hT⟩ := hrel
        by_cases hlt2 : s < 32
        · have hix := run_index_row C s _ hlt2 (HCa.out s hlt2)
          obtain ⟨hF0, hF1⟩ := h.2.2 (k * 32 + s) (by omega)
          have HQ := Lib.hid (show ∀ u, Sp.qNext F S (k * 32 + s) u ↔ (F (k * 32 + s) = (u : Int) ∧ S.testBit s = true) from fun u => by unfold Sp.qNext; rw [show (k * 32 + s) % 32 = s by omega])
          generalize F (k * 32 + s) = f at *
          by_cases hf : 0 ≤ f
          · obtain ⟨f, rfl⟩ := Int.eq_ofNat_of_zero_le hf
            have hab := and_bit S s (by omega)
            have hb1 := bit_one (S.testBit s)
            have hsh := bin_shl_one f (by omega)
            have hor := or_p2 T f hT.1 (by omega)
            cases hev : S.testBit s
            all_goals
              rw [hev] at hb1 hab
              have HV := Lib.hid hev
              clear hev
              go_wp2_with fail
            · exact ⟨⟨s + 1, T, by omega, by go_num, rfl, hkp, To_skip hT fun u hu => by have := ((HQ.out u).1 hu).2; rw [HV.out] at this; cases this⟩, by simp [intOf]; omega⟩
            · exact ⟨⟨s + 1, _, by omega, by go_num, rfl, hkp, To_add hT (by omega) fun u => (HQ.out u).trans ⟨fun hu => by have := hu.1; omega, fun e => ⟨by omega, HV.out⟩⟩⟩, by simp [intOf]; omega⟩
          · go_wp2_with fail
            exact ⟨⟨s + 1, T, by omega, by go_num, rfl, hkp, To_skip hT fun u hu => by have := ((HQ.out u).1 hu).1; omega⟩, by simp [intOf]; omega⟩
        · obtain rfl : s = 32 := by omega
          have hT2 : Hid (Sp.To (Sp.qNext F S) ((k + 1) * 32) T) := by show Sp.To _ _ _; rw [show (k + 1) * 32 = k * 32 + 32 by omega]; exact hT
          go_wp2_with fail
          exact ⟨⟨k + 1, T, by omega, by go_num, rfl, hkp, hT2⟩, by simp [intOf]; omega⟩
    · go_wp2_with fail
      go_ret
      obtain rfl : k = n := by omega
      exact ⟨ret_int (by rw [next_all hT]), hkp⟩

end Go.Proofs.YtphdojebdclonaaDoor

namespace Go.Proofs.YtphdojebdclonaaDoor
set_option linter.unusedSimpArgs false
set_option linter.unusedVariables false
open Go.RowKit

/-- what is in the one and not in the other -/
def Sp.minus (a b : Nat) : Nat := a ^^^ (a &&& b)
theorem minus_bit (a b s : Nat) : (Sp.minus a b).testBit s = (a.testBit s && !b.testBit s) := by
  unfold Sp.minus
  rw [Nat.testBit_xor, Nat.testBit_and]
  cases a.testBit s <;> cases b.testBit s <;> rfl
theorem i64_andNot_nat (a b : Nat) (ha : a < 9223372036854775808) (hb : b < 9223372036854775808) : bits .andNot .i64 (a : Int) (b : Int) = ((Sp.minus a b : Nat) : Int) := by
  have hx : Sp.minus a b < 2 ^ 63 := Nat.xor_lt_two_pow (by omega) (Nat.and_lt_two_pow _ (by omega))
  show IntKind.i64.wrap ((BitVec.ofInt 64 (a : Int) &&& ~~~ BitVec.ofInt 64 (b : Int)).toNat : Int) = _
  have e : BitVec.ofInt 64 (a : Int) &&& ~~~ BitVec.ofInt 64 (b : Int) = BitVec.ofInt 64 (a : Int) ^^^ (BitVec.ofInt 64 (a : Int) &&& BitVec.ofInt 64 (b : Int)) := by
    apply BitVec.eq_of_getLsbD_eq
    intro i hi
    simp only [BitVec.getLsbD_and, BitVec.getLsbD_not, BitVec.getLsbD_xor, hi, decide_true, Bool.true_and]
    cases (BitVec.ofInt 64 (a : Int)).getLsbD i <;> cases (BitVec.ofInt 64 (b : Int)).getLsbD i <;> rfl
  rw [e, BitVec.toNat_xor, BitVec.toNat_and, ofInt_i64 a ha, ofInt_i64 b hb, IntKind.wrap_i64]
  unfold Sp.minus at *
  omega

section
variable {rel : Nat → Nat → Bool} {S : Nat}
theorem fresh_fr (hS : S < 2 ^ 32) (n : Nat) : Sp.minus (Sp.img rel (Sp.rch rel S n)) (Sp.rch rel S n) = Sp.fr rel S (n + 1) := by
  refine Sp.set_ext ?_ (Sp.fr_lt hS _) fun s hs => ?_
  · exact Nat.xor_lt_two_pow (Sp.img_lt _ _) (Nat.and_lt_two_pow _ (Sp.rch_lt hS n))
  · rw [minus_bit, Sp.fr_succ n s hs]
theorem or_fr (hS : S < 2 ^ 32) (n : Nat) : Sp.rch rel S n ||| Sp.fr rel S (n + 1) = Sp.rch rel S (n + 1) := by
  refine Sp.set_ext (Sp.or_lt (Sp.rch_lt hS n) (Sp.fr_lt hS _)) (Sp.rch_lt hS _) fun s hs => ?_
  rw [Nat.testBit_or, Sp.rch_fr n s hs]

/-- the steps that are known when m steps have been looked at -/
def Sp.dto (rel : Nat → Nat → Bool) (S m s : Nat) : Int := if (Sp.rch rel S m).testBit s = true then Sp.dist rel S s else -1
theorem dto_zero (hS : S < 2 ^ 32) (s : Nat) (hs : s < 32) : Sp.dto rel S 0 s = ((S.testBit s).toNat : Int) - 1 := by
  unfold Sp.dto
  show (if S.testBit s = true then _ else _) = _
  cases e : S.testBit s
  · rfl
  · rw [if_pos rfl, Sp.dist_yes (n := 0) hS hs e]; rfl
theorem dto_new (hS : S < 2 ^ 32) (m s : Nat) (hs : s < 32) (h : (Sp.fr rel S (m + 1)).testBit s = true) : Sp.dto rel S (m + 1) s = ((m : Int) + 1) := by
  unfold Sp.dto
  rw [if_pos (Sp.fr_rch hs h (Nat.le_refl _)), Sp.dist_yes hS hs h]; omega
theorem dto_old (m s : Nat) (hs : s < 32) (h : (Sp.fr rel S (m + 1)).testBit s = false) : Sp.dto rel S (m + 1) s = Sp.dto rel S m s := by
  unfold Sp.dto
  rw [Sp.rch_fr m s hs, h, Bool.or_false]
theorem dto_end (hS : S < 2 ^ 32) {m : Nat} (h : Sp.fr rel S (m + 1) = 0) (s : Nat) (hs : s < 32) : Sp.dto rel S m s = Sp.dist rel S s := by
  unfold Sp.dto
  split
  · rfl
  · rename_i hn
    rcases Sp.dist_cases (rel := rel) hS s hs with ⟨h1, _⟩ | ⟨n, _, _, h2⟩
    · exact h1.symm
    · exfalso
      by_cases e : n ≤ m
      · exact hn (Sp.fr_rch hs h2 e)
      · rw [Sp.fr_zero_all hS h (show m + 1 ≤ n by omega)] at h2; simp at h2
theorem dist_bd (hS : S < 2 ^ 32) (s : Nat) (hs : s < 32) : -1 ≤ Sp.dist rel S s ∧ Sp.dist rel S s ≤ 31 := by
  rcases Sp.dist_cases (rel := rel) hS s hs with ⟨h1, _⟩ | ⟨n, h0, h1, _⟩ <;> omega
end

/-- the steps to all states -/
def Sp.distList (rel : Nat → Nat → Bool) (S : Nat) : List Int := (List.range 32).map (Sp.dist rel S)
theorem distList_len (rel : Nat → Nat → Bool) (S : Nat) : (Sp.distList rel S).length = 32 := by simp [Sp.distList]
theorem distList_at (rel : Nat → Nat → Bool) (S s : Nat) (hs : s < 32) : (Sp.distList rel S).getD s default = Sp.dist rel S s := by
  simp [Sp.distList, hs]
theorem distList_in (rel : Nat → Nat → Bool) (S : Nat) (hS : S < 2 ^ 32) : ∀ x ∈ Sp.distList rel S, Sp.inI x := fun x hx => by
  simp only [Sp.distList, List.mem_map, List.mem_range] at hx
  obtain ⟨s, hs, rfl⟩ := hx
  have := dist_bd (rel := rel) hS s hs
  unfold Sp.inI; omega

theorem Ints.ofBlk {w : World} {g n : Nat} {t : TypeId} {cs : Array Value} {l : List Int} (h : Blk w g t cs) (hl : l.length = n) (hm : n ≤ maxLen) (hi : ∀ x ∈ l, Sp.inI x)
    (hc : ∀ j, j < n → cs[j]? = some (.int .i64 (l.getD j default))) : Ints w (some ⟨g, 0, none⟩) n l :=
  ⟨hl, hm, hi, fun _ => ⟨_, _, rfl, h.lt, fun k hk => by rw [Nat.zero_add, h.cell]; exact hc k hk⟩⟩









































































































































end Go.Proofs.YtphdojebdclonaaDoor

namespace Go.Proofs.YtphdojebdclonaaDoor
set_option linter.unusedSimpArgs false
set_option linter.unusedVariables false
open Go.RowKit

/-- what is behind a state by some deed of a task -/
def Sp.rel (t : Sp.Task) : Nat → Nat → Bool := Sp.edge t.deeds.length (Sp.flat t.deeds)
theorem rel_iff (t : Sp.Task) (s u : Nat) (hs : s < 32) : Sp.rel t s u = true ↔ ∃ k, k < t.deeds.length ∧ Sp.stepI (t.deeds.getD k default) s = (u : Int) := by
  unfold Sp.rel
  rw [edge_iff]
  simp only [flat_at _ _ _ hs]

/-- a set that holds a set and what the first m places give -/
def Sp.ToB (b : Nat) (q : Nat → Nat → Prop) (m T : Nat) : Prop := T < 4294967296 ∧ ∀ u, T.testBit u = true ↔ b.testBit u = true ∨ ∃ p, p < m ∧ q p u
theorem ToB_zero {b : Nat} (hb : b < 4294967296) (q : Nat → Nat → Prop) : Sp.ToB b q 0 b := ⟨hb, fun u => by simp⟩
theorem ToB_skip {b : Nat} {q : Nat → Nat → Prop} {m T : Nat} (h : Sp.ToB b q m T) (hn : ∀ u, ¬ q m u) : Sp.ToB b q (m + 1) T := by
  refine ⟨h.1, fun u => (h.2 u).trans (or_congr_right ⟨fun ⟨p, hp, hq⟩ => ⟨p, by omega, hq⟩, fun ⟨p, hp, hq⟩ => ⟨p, ?_, hq⟩⟩)⟩
  by_cases e : p = m
  · subst e; exact absurd hq (hn u)
  · omega
theorem ToB_add {b : Nat} {q : Nat → Nat → Prop} {m T v : Nat} (h : Sp.ToB b q m T) (hv : v < 32) (hq : ∀ u, q m u ↔ u = v) : Sp.ToB b q (m + 1) (T ||| 2 ^ v) := by
  refine ⟨Nat.or_lt_two_pow (n := 32) h.1 (Nat.pow_lt_pow_right (by decide) hv), fun u => ?_⟩
  rw [Nat.testBit_or, Nat.testBit_two_pow, Bool.or_eq_true, h.2 u, decide_eq_true_eq, or_assoc]
  refine or_congr_right ⟨?_, ?_⟩
  · rintro (⟨p, hp, h1⟩ | rfl)
    · exact ⟨p, by omega, h1⟩
    · exact ⟨m, by omega, (hq _).2 rfl⟩
  · rintro ⟨p, hp, h1⟩
    by_cases e : p = m
    · subst e; exact .inr ((hq _).1 h1).symm
    · exact .inl ⟨p, by omega, h1⟩

def Sp.qRow (t : Sp.Task) (s k u : Nat) : Prop := Sp.stepI (t.deeds.getD k default) s = (u : Int)
def Sp.qFrom (t : Sp.Task) (S s u : Nat) : Prop := S.testBit s = true ∧ Sp.rel t s u = true
theorem from_row {t : Sp.Task} {S s b T : Nat} (hs : s < 32) (h : Sp.To (Sp.qFrom t S) s b) (hb : S.testBit s = true) (hr : Sp.ToB b (Sp.qRow t s) t.deeds.length T) : Sp.To (Sp.qFrom t S) (s + 1) T := by
  refine ⟨hr.1, fun u => ?_⟩
  rw [hr.2 u, h.2 u]
  constructor
  · rintro (⟨p, hp, h1⟩ | ⟨k, hk, h1⟩)
    · exact ⟨p, by omega, h1⟩
    · exact ⟨s, by omega, hb, (rel_iff t s u hs).2 ⟨k, hk, h1⟩⟩
  · rintro ⟨p, hp, h1⟩
    by_cases e : p = s
    · subst e; exact .inr ((rel_iff t p u hs).1 h1.2)
    · exact .inl ⟨p, by omega, h1⟩
theorem from_all {t : Sp.Task} {S T : Nat} (h : Sp.To (Sp.qFrom t S) 32 T) : T = Sp.img (Sp.rel t) S := by
  refine Sp.set_ext h.1 (Sp.img_lt _ _) fun u hu => ?_
  rw [h.2 u, Sp.img_bit]
  exact ⟨fun ⟨p, hp, h1⟩ => ⟨hu, p, hp, h1⟩, fun ⟨_, p, hp, h1⟩ => ⟨p, hp, h1⟩⟩

theorem c_bitN (S k : Nat) (w : World) (hS : S < 4294967296) (hk : k < 32) : Calls Tryd.prog 100 #[.int .i64 (S : Int), .int .i64 (k : Int)] w (Ret (.int .i64 ((S.testBit k).toNat : Nat)) w) := by
  have := c_l1Bit (S : Int) (k : Int) w (by omega) (by omega) (by omega) (by omega)
  rwa [Int.toNat_natCast, Int.toNat_natCast] at this
theorem c_eitherP (T v : Nat) (w : World) (hT : T < 4294967296) (hv : v < 32) : Calls Tryd.prog 109 #[.int .i64 (T : Int), .int .i64 (p2 v)] w (Ret (.int .i64 ((T ||| 2 ^ v : Nat) : Int)) w) := by
  obtain ⟨h1, h2⟩ := p2_bd32 v (by omega)
  have := c_l1Either (T : Int) (p2 v) w (by omega) (by omega) (by omega) (by omega)
  rw [Int.toNat_natCast] at this
  rw [p2_nat, Int.toNat_natCast] at this
  rwa [p2_nat]

def Sp.setOk (S : Int) : Bool := decide (0 ≤ S ∧ S ≤ 4294967295)
def Sp.statesNext (t : Sp.Task) (S : Int) : Int := if Sp.taskOk t = true ∧ Sp.setOk S = true then (Sp.img (Sp.rel t) S.toNat : Nat) else -1

set_option maxHeartbeats 1000000 in
theorem c_sStatesNext (v : Value) (t : Sp.Task) (S : Int) (w : World) (h : TaskV w v t) :
    Calls Tryd.prog 124 #[v, .int .i64 S] w (RetK (.int .i64 (Sp.statesNext t S)) w) := by
  obtain ⟨A, n, c, A', n', c', rfl⟩ := h.form
  have hk0 := (Kept.refl w).alloc (.cells #[.int .i64 t.start, .slice A n c, .slice A' n' c'] 26)
  have B0 := Blk.new w 26 #[.int .i64 t.start, .slice A n c, .slice A' n' c']
  have hn := h.deeds.le
  have HL := Lib.hid h.deeds.len
  have hT := h.keep hk0
  go_enter Tryd.func124, Tryd.ntmps124
  go_wp2_with fail
  refine (c_sTaskValid _ t _ hT).mono ?_; rintro e w2 ⟨rfl, hk2⟩
  replace hk0 := hk0.trans hk2
  replace B0 := B0.kept hk2
  replace hT := hT.keep hk2
  clear hk2
  have c0 := B0.cell
  cases ht : Sp.taskOk t
  · have HE : Hid (Sp.statesNext t S = -1) := by show _ = _; unfold Sp.statesNext; rw [ht]; simp
    clear ht
    go_wp2_with fail
    go_ret
    exact ⟨ret_int HE.out.symm, hk0⟩
  have HK := Lib.hid ht
  cases hs : Sp.setOk S
  · have HE : Hid (Sp.statesNext t S = -1) := by show _ = _; unfold Sp.statesNext; rw [hs]; simp
    have hno : ¬ (0 ≤ S ∧ S ≤ 4294967295) := by unfold Sp.setOk at hs; simpa using hs
    clear ht hs
    go_wp2_with (first | (go_at_call 48; refine (c_l1In_no _ _ _ _ hno).mono ?_; rintro e w' ⟨rfl, rfl⟩))
    go_ret
    exact ⟨ret_int HE.out.symm, hk0⟩
  have hyes : 0 ≤ S ∧ S ≤ 4294967295 := by unfold Sp.setOk at hs; simpa using hs
  have HS := Lib.hid hs
  obtain ⟨S, rfl⟩ := Int.eq_ofNat_of_zero_le hyes.1
  have hS : S < 4294967296 := by omega
  clear ht hs
  go_wp2_with (first | (go_at_call 48; refine (c_l1In_yes _ _ _ _ hyes).mono ?_; rintro e w' ⟨rfl, rfl⟩))
  have hyes' := hyes
  clear hyes c0
  go_loopw [6, 5] (fun i o wr => ∃ s T : Nat, s ≤ 32 ∧ i = .int .i64 s ∧ o = .int .i64 T ∧ Kept w wr ∧ Blk wr w.heap.size 26 #[.int .i64 t.start, .slice A n c, .slice A' n' c'] ∧ Sp.To (Sp.qFrom t S) s T) (fun i _ _ => 32 - (intOf i).toNat)
  case atStart => exact ⟨0, 0, by omega, rfl, rfl, hk0, B0, To_zero _⟩
  case round =>
    obtain ⟨s, T, hs, rfl, rfl, hkp, hB, hTo⟩ := hrel
    by_cases hlt : s < 32
    · go_wp2_with fail
      rw [show decide ((s : Int) < 32) = true from decide_eq_true (by omega)]
      have HT0 := Lib.hid hTo
      have hTlt := hTo.1
      cases hbit : S.testBit s
      · have HBit := Lib.hid hbit
        have HX : Hid (Sp.To (Sp.qFrom t S) (s + 1) T) := To_skip hTo fun u hu => by have := hu.1; rw [hbit] at this; cases this
        clear hbit hTo
        go_loopw [7, 5] (fun i o wr => i = .int .i64 0 ∧ o = .int .i64 T ∧ Kept w wr ∧ Blk wr w.heap.size 26 #[.int .i64 t.start, .slice A n c, .slice A' n' c']) (fun _ _ _ => 0)
        case atStart => exact ⟨rfl, rfl, hkp, hB⟩
        case round =>
          obtain ⟨rfl, rfl, hkp, hB⟩ := hrel
          have c0 := hB.cell
          by_cases h0 : n' = 0
          · subst h0
            go_wp2_with fail
            exact ⟨⟨s + 1, T, by omega, by go_num, rfl, hkp, hB, HX.out⟩, by simp [intOf]; omega⟩
          · go_wp2_with (first | (go_at_call 100; refine (c_bitN S s _ hS hlt).mono ?_; rintro e w3 ⟨rfl, rfl⟩; rw [HBit.out]))
            exact ⟨⟨s + 1, T, by omega, by go_num, rfl, hkp, hB, HX.out⟩, by simp [intOf]; omega⟩
      · have HBit := Lib.hid hbit
        clear hbit hTo
        go_loopw [7, 5] (fun i o wr => ∃ k T1 : Nat, k ≤ n' ∧ i = .int .i64 k ∧ o = .int .i64 T1 ∧ Kept w wr ∧ Blk wr w.heap.size 26 #[.int .i64 t.start, .slice A n c, .slice A' n' c'] ∧ Sp.ToB T (Sp.qRow t s) k T1) (fun i _ _ => n' - (intOf i).toNat)
        case atStart => exact ⟨0, T, by omega, rfl, rfl, hkp, hB, ToB_zero hTlt _⟩
        case round =>
          obtain ⟨k, T1, hk, rfl, rfl, hkp, hB, hTB⟩ := hrel
          have c0 := hB.cell
          by_cases hlt2 : k < n'
          · have hkl : k < t.deeds.length := by rw [HL.out]; exact hlt2
            have h' := h.keep hkp
            obtain ⟨b, off, rfl, hb, hc⟩ := h'.deeds.at hlt2
            have HY := Lib.hid (show ∀ u, Sp.qRow t s k u ↔ Sp.stepI (t.deeds.getD k default) s = (u : Int) from fun u => Iff.rfl)
            have hdo := Lib.hid (Sp.taskOk_deed HK.out hkl)
            generalize t.deeds.getD k default = d at *
            obtain ⟨A2, n2, c2, hc0, hc1, hc2, hc3, hdv⟩ := hc.v
            have HD := Lib.hid hdv
            clear hdv
            have hTl := hTB.1
            have hbd := stepI_bd (d := d) hlt hdo.out
            go_wp2_with (first | (go_at_call 100; refine (c_bitN S s _ hS hlt).mono ?_; rintro e w3 ⟨rfl, rfl⟩; rw [HBit.out]))
            refine (c_l6Do _ d _ _ HD.out hdo.out (by omega) (by omega)).mono ?_; rintro e w4 ⟨rfl, hk4⟩
            rw [Int.toNat_natCast]
            replace hkp := hkp.trans hk4
            replace hB := hB.kept hk4
            clear c0 hc0 hc1 hc2 hc3 hk4 hb HD
            obtain ⟨x, HX⟩ : ∃ x, Hid (Sp.stepI d s = x) := ⟨_, rfl⟩
            rw [HX.out] at hbd ⊢
            by_cases hx : 0 ≤ x
            · obtain ⟨x, rfl⟩ := Int.eq_ofNat_of_zero_le hx
              have hsh := bin_shl_one x (by omega)
              go_wp2_with (first | (go_at_call 109; refine (c_eitherP T1 x _ hTl (by omega)).mono ?_; rintro e w3 ⟨rfl, rfl⟩))
              exact ⟨⟨k + 1, _, by omega, by go_num, rfl, hkp, hB, ToB_add hTB (by omega) fun u => (HY.out u).trans (by rw [HX.out]; omega)⟩, by simp [intOf]; omega⟩
            · go_wp2_with fail
              exact ⟨⟨k + 1, T1, by omega, by go_num, rfl, hkp, hB, ToB_skip hTB fun u hu => by have := (HY.out u).1 hu; rw [HX.out] at this; omega⟩, by simp [intOf]; omega⟩
          · have HX : Hid (Sp.To (Sp.qFrom t S) (s + 1) T1) := from_row hlt HT0.out HBit.out (by rw [HL.out]; rw [show k = n' by omega] at hTB; exact hTB)
            go_wp2_with fail
            exact ⟨⟨s + 1, T1, by omega, by go_num, rfl, hkp, hB, HX.out⟩, by simp [intOf]; omega⟩
    · go_wp2_with fail
      go_ret
      obtain rfl : s = 32 := by omega
      exact ⟨ret_int (by unfold Sp.statesNext; rw [if_pos ⟨HK.out, HS.out⟩, Int.toNat_natCast, from_all hTo]), hkp⟩

end Go.Proofs.YtphdojebdclonaaDoor
