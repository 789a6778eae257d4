/- Walks: steps on. No condition. -/
import Derived.Test.YthkcdjnnacdeoaaG3
namespace Go.Proofs.Ythkcdjnnacdeoaa
open Go.RowKit

/-- what is in the one and not in the other -/
def Sp.minus (a b : Nat) : Nat := a ^^^ (a &&& b)
theorem minus_bit (a b s : Nat) : (Sp.minus a b).testBit s = (a.testBit s && !b.testBit s) := by
  unfold Sp.minus
  rw [Nat.testBit_xor, Nat.testBit_and]
  cases a.testBit s <;> cases b.testBit s <;> rfl
theorem i64_andNot_nat (a b : Nat) (ha : a < 9223372036854775808) (hb : b < 9223372036854775808) : bits .andNot .i64 (a : Int) (b : Int) = ((Sp.minus a b : Nat) : Int) := by
  have hx : Sp.minus a b < 2 ^ 63 := Nat.xor_lt_two_pow (by omega) (Nat.and_lt_two_pow _ (by omega))
  show IntKind.i64.wrap ((BitVec.ofInt 64 (a : Int) &&& ~~~ BitVec.ofInt 64 (b : Int)).toNat : Int) = _
  have e : BitVec.ofInt 64 (a : Int) &&& ~~~ BitVec.ofInt 64 (b : Int) = BitVec.ofInt 64 (a : Int) ^^^ (BitVec.ofInt 64 (a : Int) &&& BitVec.ofInt 64 (b : Int)) := by
    apply BitVec.eq_of_getLsbD_eq
    intro i hi
    simp only [BitVec.getLsbD_and, BitVec.getLsbD_not, BitVec.getLsbD_xor, hi, decide_true, Bool.true_and]
    cases (BitVec.ofInt 64 (a : Int)).getLsbD i <;> cases (BitVec.ofInt 64 (b : Int)).getLsbD i <;> rfl
  rw [e, BitVec.toNat_xor, BitVec.toNat_and, ofInt_i64 a ha, ofInt_i64 b hb, IntKind.wrap_i64]
  unfold Sp.minus at *
  omega

section
variable {rel : Nat → Nat → Bool} {S : Nat}
theorem fresh_fr (hS : S < 2 ^ 32) (n : Nat) : Sp.minus (Sp.img rel (Sp.rch rel S n)) (Sp.rch rel S n) = Sp.fr rel S (n + 1) := by
  refine Sp.set_ext ?_ (Sp.fr_lt hS _) fun s hs => ?_
  · exact Nat.xor_lt_two_pow (Sp.img_lt _ _) (Nat.and_lt_two_pow _ (Sp.rch_lt hS n))
  · rw [minus_bit, Sp.fr_succ n s hs]
theorem or_fr (hS : S < 2 ^ 32) (n : Nat) : Sp.rch rel S n ||| Sp.fr rel S (n + 1) = Sp.rch rel S (n + 1) := by
  refine Sp.set_ext (Sp.or_lt (Sp.rch_lt hS n) (Sp.fr_lt hS _)) (Sp.rch_lt hS _) fun s hs => ?_
  rw [Nat.testBit_or, Sp.rch_fr n s hs]

/-- the steps that are known when m steps have been looked at -/
def Sp.dto (rel : Nat → Nat → Bool) (S m s : Nat) : Int := if (Sp.rch rel S m).testBit s = true then Sp.dist rel S s else -1
theorem dto_zero (hS : S < 2 ^ 32) (s : Nat) (hs : s < 32) : Sp.dto rel S 0 s = ((S.testBit s).toNat : Int) - 1 := by
  unfold Sp.dto
  show (if S.testBit s = true then _ else _) = _
  cases e : S.testBit s
  · rfl
  · rw [if_pos rfl, Sp.dist_yes (n := 0) hS hs e]; rfl
theorem dto_new (hS : S < 2 ^ 32) (m s : Nat) (hs : s < 32) (h : (Sp.fr rel S (m + 1)).testBit s = true) : Sp.dto rel S (m + 1) s = ((m : Int) + 1) := by
  unfold Sp.dto
  rw [if_pos (Sp.fr_rch hs h (Nat.le_refl _)), Sp.dist_yes hS hs h]; omega
theorem dto_old (m s : Nat) (hs : s < 32) (h : (Sp.fr rel S (m + 1)).testBit s = false) : Sp.dto rel S (m + 1) s = Sp.dto rel S m s := by
  unfold Sp.dto
  rw [Sp.rch_fr m s hs, h, Bool.or_false]
theorem dto_end (hS : S < 2 ^ 32) {m : Nat} (h : Sp.fr rel S (m + 1) = 0) (s : Nat) (hs : s < 32) : Sp.dto rel S m s = Sp.dist rel S s := by
  unfold Sp.dto
  split
  · rfl
  · rename_i hn
    rcases Sp.dist_cases (rel := rel) hS s hs with ⟨h1, _⟩ | ⟨n, _, _, h2⟩
    · exact h1.symm
    · exfalso
      by_cases e : n ≤ m
      · exact hn (Sp.fr_rch hs h2 e)
      · rw [Sp.fr_zero_all hS h (show m + 1 ≤ n by omega)] at h2; simp at h2
theorem dist_bd (hS : S < 2 ^ 32) (s : Nat) (hs : s < 32) : -1 ≤ Sp.dist rel S s ∧ Sp.dist rel S s ≤ 31 := by
  rcases Sp.dist_cases (rel := rel) hS s hs with ⟨h1, _⟩ | ⟨n, h0, h1, _⟩ <;> omega
end

/-- the steps to all states -/
def Sp.distList (rel : Nat → Nat → Bool) (S : Nat) : List Int := (List.range 32).map (Sp.dist rel S)
theorem distList_len (rel : Nat → Nat → Bool) (S : Nat) : (Sp.distList rel S).length = 32 := by simp [Sp.distList]
theorem distList_at (rel : Nat → Nat → Bool) (S s : Nat) (hs : s < 32) : (Sp.distList rel S).getD s default = Sp.dist rel S s := by
  simp [Sp.distList, hs]
theorem distList_in (rel : Nat → Nat → Bool) (S : Nat) (hS : S < 2 ^ 32) : ∀ x ∈ Sp.distList rel S, Sp.inI x := fun x hx => by
  simp only [Sp.distList, List.mem_map, List.mem_range] at hx
  obtain ⟨s, hs, rfl⟩ := hx
  have := dist_bd (rel := rel) hS s hs
  unfold Sp.inI; omega

theorem Ints.ofBlk {w : World} {g n : Nat} {t : TypeId} {cs : Array Value} {l : List Int} (h : Blk w g t cs) (hl : l.length = n) (hm : n ≤ maxLen) (hi : ∀ x ∈ l, Sp.inI x)
    (hc : ∀ j, j < n → cs[j]? = some (.int .i64 (l.getD j default))) : Ints w (some ⟨g, 0, none⟩) n l :=
  ⟨hl, hm, hi, fun _ => ⟨_, _, rfl, h.lt, fun k hk => by rw [Nat.zero_add, h.cell]; exact hc k hk⟩⟩

set_option maxHeartbeats 1000000 in
theorem c_stepsOn (g n c : Nat) (F : Nat → Int) (s0 : Int) (w : World) (h : RowsF w g n F) (hn : n ≤ 6) (hs0 : 0 ≤ s0) (hs1 : s0 ≤ 31) :
    Calls Try.prog 92 #[.slice (some ⟨g, 0, none⟩) n c, .int .i64 s0] w (RetS (NewInts w (Sp.distList (Sp.edge n F) (2 ^ s0.toNat))) w) := by
  obtain ⟨s0, rfl⟩ := Int.eq_ofNat_of_zero_le hs0
  rw [Int.toNat_natCast]
  have hS : 2 ^ s0 < 2 ^ 32 := Nat.pow_lt_pow_right (by decide) (by omega)
  obtain ⟨S, HSd⟩ : ∃ S, Hid (S = 2 ^ s0) := ⟨2 ^ s0, rfl⟩
  rw [← HSd.out] at hS ⊢
  have hsh := bin_shl_one s0 (by omega)
  have hp2 : p2 s0 = (S : Int) := by rw [p2_nat, HSd.out]
  rw [hp2] at hsh
  have hmk : ∀ w, (Instr.makeSlice 23 (.int .i64 32) (.int .i64 32)).run Try.prog w = _ := fun w => make_ints 32 (by omega) w
  clear hp2
  go_enter Try.func92, Try.ntmps92
  go_wp2_with fail
  clear hmk hsh
  have hk0 := (Kept.refl w).alloc (.cells (madeCells #[.int .i64 0] 32) 3)
  have B0 := Blk.new w 3 (madeCells #[.int .i64 0] 32)
  obtain ⟨C0, hC0⟩ : ∃ C0, C0 = madeCells #[.int .i64 0] 32 := ⟨_, rfl⟩
  have hz : C0.size = 32 := by rw [hC0]; exact size_madeCells _ _
  rw [← hC0] at hk0 B0 ⊢
  have HZ := Lib.hid hz
  clear hz hC0
  obtain ⟨rel, HRel⟩ : ∃ rel, Hid (rel = Sp.edge n F) := ⟨Sp.edge n F, rfl⟩
  rw [← HRel.out]
  go_loopw [16] (fun i wr => ∃ (k : Nat) (cs : Array Value), k ≤ 32 ∧ i = .int .i64 k ∧ Kept w wr ∧ Blk wr w.heap.size 3 cs ∧ Hid (cs.size = 32) ∧ Hid (∀ s, s < k → cs[s]? = some (.int .i64 (Sp.dto rel S 0 s)))) (fun i _ => 32 - (intOf i).toNat)
  case atStart => exact ⟨0, _, Nat.zero_le _, rfl, hk0, B0, HZ, by show ∀ s, s < 0 → _; omega⟩
  case round =>
    obtain ⟨k, cs, hk, rfl, hkp, hB, HZ, HA⟩ := hrel
    by_cases hlt : k < 32
    · obtain ⟨u, hu⟩ : ∃ u, cs[k]? = some u := ⟨_, Array.getElem?_eq_getElem (by rw [HZ.out]; exact hlt)⟩
      have c0 := hB.cell k
      rw [hu] at c0
      clear hu
      have f0 := hB.frozen k
      have hab := and_bit S k (by omega)
      have HD := Lib.hid (dto_zero (rel := rel) hS k hlt)
      have HX : Hid (∀ x : Int, x = Sp.dto rel S 0 k → ∀ s, s < k + 1 → (cs.setIfInBounds k (.int .i64 x))[s]? = some (.int .i64 (Sp.dto rel S 0 s))) := by
        intro x hx s hs
        rw [Array.getElem?_setIfInBounds]
        by_cases e : k = s
        · subst e; rw [if_pos rfl, if_pos (by rw [HZ.out]; exact hlt), hx]
        · rw [if_neg e]; exact HA.out s (by omega)
      cases hev : S.testBit k
      all_goals
        rw [hev] at hab HD
        clear hev
        go_wp2_with fail
        exact ⟨⟨k + 1, _, by omega, by go_num, hkp.setCell (by simp) _, hB.set_ k _, by show _ = 32; rw [Array.size_setIfInBounds]; exact HZ.out, HX.out _ (by rw [HD.out]; rfl)⟩, by simp [intOf]; omega⟩
    · have HA0 : Hid (∀ s, s < 32 → cs[s]? = some (.int .i64 (Sp.dto rel S 0 s))) := fun s hs => HA.out s (by omega)
      go_wp2_with fail
      clear HA
      have HA := HA0
      clear HA0 hlt hk
      go_loopw [5, 8] (fun o y wr => ∃ (m : Nat) (cs : Array Value), m ≤ 31 ∧ o = .int .i64 (Sp.rch rel S m : Nat) ∧ y = .int .i64 ((m : Int) + 1) ∧ Kept w wr ∧ Blk wr w.heap.size 3 cs ∧ Hid (cs.size = 32) ∧ Hid (∀ s, s < 32 → cs[s]? = some (.int .i64 (Sp.dto rel S m s)))) (fun _ y _ => 40 - (intOf y).toNat)
      case atStart => exact ⟨0, cs, by omega, rfl, rfl, hkp, hB, HZ, HA⟩
      case round =>
        obtain ⟨m, cs, hm, rfl, rfl, hkp, hB, HZ, HA⟩ := hrel
        have hT := Sp.rch_lt (rel := rel) hS m
        have hf := Sp.fr_lt (rel := rel) hS (m + 1)
        have hand := i64_andNot_nat (Sp.img rel (Sp.rch rel S m)) (Sp.rch rel S m) (by have := Sp.img_lt rel (Sp.rch rel S m); omega) (by omega)
        rw [fresh_fr hS m] at hand
        have hor := i64_or_nat (Sp.rch rel S m) (Sp.fr rel S (m + 1)) (by omega) (by omega)
        rw [or_fr hS m] at hor
        have HEnd := Lib.hid (@dto_end rel S hS m)
        have HNew := Lib.hid (@dto_new rel S hS m)
        have HOld := Lib.hid (@dto_old rel S m)
        have HBd := Lib.hid (Sp.fr_bound (rel := rel) hS (m + 1))
        have hstep := (c_nextStates g n c F (Sp.rch rel S m) wr (h.keep hkp) (by omega) hn)
        rw [← HRel.out] at hstep
        obtain ⟨T1, HT1⟩ : ∃ T1, Hid (Sp.rch rel S (m + 1) = T1) := ⟨Sp.rch rel S (m + 1), rfl⟩
        rw [HT1.out] at hor
        generalize Sp.rch rel S m = T at *
        generalize Sp.img rel T = I at *
        generalize Sp.fr rel S (m + 1) = f at *
        go_wp2_with fail
        refine hstep.mono ?_; rintro e w2 ⟨rfl, hk2⟩
        replace hkp := hkp.trans hk2
        replace hB := hB.kept hk2
        clear hk2 hstep
        by_cases hf0 : f = 0
        · subst hf0
          go_wp2_with fail
          go_ret
          exact ⟨_, rfl, ⟨w.heap.size, by rw [distList_len]; rfl, Nat.le_refl _, by
            rw [distList_len]
            rw [← HRel.out]
            refine Own.ofBlk hB ?_
            exact Ints.ofBlk hB (distList_len _ _) (by unfold maxLen; omega) (distList_in _ _ hS) (fun j hj => by rw [distList_at _ _ j hj, ← HEnd.out trivial j hj]; exact HA.out j hj)⟩, hkp⟩
        · have hm1 : m + 1 ≤ 31 := HBd.out hf0
          go_wp2_with fail
          clear hand
          go_loopw [40] (fun i wr => ∃ (k : Nat) (cs : Array Value), k ≤ 32 ∧ i = .int .i64 k ∧ Kept w wr ∧ Blk wr w.heap.size 3 cs ∧ Hid (cs.size = 32) ∧ Hid (∀ s, s < 32 → cs[s]? = some (.int .i64 (if s < k then Sp.dto rel S (m + 1) s else Sp.dto rel S m s)))) (fun i _ => 32 - (intOf i).toNat)
          case atStart => exact ⟨0, _, Nat.zero_le _, rfl, hkp, hB, HZ, fun s hs => by rw [if_neg (by omega)]; exact HA.out s hs⟩
          case round =>
            obtain ⟨k, cs, hk, rfl, hkp, hB, HZ, HA⟩ := hrel
            by_cases hlt : k < 32
            · have hab := and_bit f k (by omega)
              have hb1 := bit_one (f.testBit k)
              have HN2 := Lib.hid (HNew.out k hlt)
              have HO2 := Lib.hid (HOld.out k hlt)
              cases hev : f.testBit k
              · rw [hev] at hab hb1 HO2
                have HX : Hid (∀ s, s < 32 → cs[s]? = some (.int .i64 (if s < k + 1 then Sp.dto rel S (m + 1) s else Sp.dto rel S m s))) := by
                  intro s hs
                  rw [HA.out s hs]
                  by_cases e : s = k
                  · subst e; rw [if_neg (by omega), if_pos (by omega), HO2.out rfl]
                  · by_cases e2 : s < k
                    · rw [if_pos e2, if_pos (by omega)]
                    · rw [if_neg e2, if_neg (by omega)]
                clear hev
                go_wp2_with fail
                exact ⟨⟨k + 1, cs, by omega, by go_num, hkp, hB, HZ, HX⟩, by simp [intOf]; omega⟩
              · rw [hev] at hab hb1 HN2
                obtain ⟨u, hu⟩ : ∃ u, cs[k]? = some u := ⟨_, Array.getElem?_eq_getElem (by rw [HZ.out]; exact hlt)⟩
                have c0 := hB.cell k
                rw [hu] at c0
                clear hu hev
                have f0 := hB.frozen k
                have HX : Hid (∀ s, s < 32 → (cs.setIfInBounds k (.int .i64 ((m : Int) + 1)))[s]? = some (.int .i64 (if s < k + 1 then Sp.dto rel S (m + 1) s else Sp.dto rel S m s))) := by
                  intro s hs
                  rw [Array.getElem?_setIfInBounds]
                  by_cases e : k = s
                  · subst e; rw [if_pos rfl, if_pos (by rw [HZ.out]; exact hlt), if_pos (by omega), HN2.out rfl]
                  · rw [if_neg e, HA.out s hs]
                    by_cases e2 : s < k
                    · rw [if_pos e2, if_pos (by omega)]
                    · rw [if_neg e2, if_neg (by omega)]
                go_wp2_with fail
                exact ⟨⟨k + 1, _, by omega, by go_num, hkp.setCell (by simp) _, hB.set_ k _, by show _ = 32; rw [Array.size_setIfInBounds]; exact HZ.out, HX⟩, by simp [intOf]; omega⟩
            · obtain rfl : k = 32 := by omega
              have HA2 : Hid (∀ s, s < 32 → cs[s]? = some (.int .i64 (Sp.dto rel S (m + 1) s))) := fun s hs => by rw [HA.out s hs, if_pos hs]
              go_wp2_with fail
              exact ⟨⟨m + 1, cs, hm1, by rw [HT1.out], by go_num, hkp, hB, HZ, HA2⟩, by simp [intOf]; omega⟩

end Go.Proofs.Ythkcdjnnacdeoaa
