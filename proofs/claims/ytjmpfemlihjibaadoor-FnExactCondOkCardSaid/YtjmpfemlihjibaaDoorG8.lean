/- Walks: steps back. No condition. -/
import Derived.Test.YtjmpfemlihjibaaDoorG7
namespace Go.Proofs.YtjmpfemlihjibaaDoor
open Go.RowKit

set_option maxHeartbeats 1000000 in
theorem c_stepsBack (g n c : Nat) (F : Nat → Int) (S : Nat) (w : World) (h : RowsF w g n F) (hn : n ≤ 6) (hS : S < 2 ^ 32) :
    Calls Tryd.prog 68 #[.slice (some ⟨g, 0, none⟩) n c, .int .i64 (S : Int)] w (RetS (NewInts w (Sp.distList (Sp.rev (Sp.edge n F)) S)) w) := by
  have hmk : ∀ w, (Instr.makeSlice 22 (.int .i64 32) (.int .i64 32)).run Tryd.prog w = _ := fun w => make_ints 32 (by omega) w
  go_enter Tryd.func68, Tryd.ntmps68
  go_wp2_with fail
  clear hmk
  have hk0 := (Kept.refl w).alloc (.cells (madeCells #[.int .i64 0] 32) 3)
  have B0 := Blk.new w 3 (madeCells #[.int .i64 0] 32)
  obtain ⟨C0, hC0⟩ : ∃ C0, C0 = madeCells #[.int .i64 0] 32 := ⟨_, rfl⟩
  have hz : C0.size = 32 := by rw [hC0]; exact size_madeCells _ _
  rw [← hC0] at hk0 B0 ⊢
  have HZ := Lib.hid hz
  clear hz hC0
  obtain ⟨rel, HRel⟩ : ∃ rel, Hid (rel = Sp.rev (Sp.edge n F)) := ⟨Sp.rev (Sp.edge n F), rfl⟩
  rw [← HRel.out]
  go_loopw [13] (fun i wr => ∃ (k : Nat) (cs : Array Value), k ≤ 32 ∧ i = .int .i64 k ∧ Kept w wr ∧ Blk wr w.heap.size 3 cs ∧ Hid (cs.size = 32) ∧ Hid (∀ s, s < k → cs[s]? = some (.int .i64 (Sp.dto rel S 0 s)))) (fun i _ => 32 - (intOf i).toNat)
  case atStart => exact ⟨0, _, Nat.zero_le _, rfl, hk0, B0, HZ, by show ∀ s, s < 0 → _; omega⟩
  case round =>
    obtain ⟨k, cs, hk, rfl, hkp, hB, HZ, HA⟩ := hrel
    by_cases hlt : k < 32
    · obtain ⟨u, hu⟩ : ∃ u, cs[k]? = some u := ⟨_, Array.getElem?_eq_getElem (by rw [HZ.out]; exact hlt)⟩
      have c0 := hB.cell k
      rw [hu] at c0
      clear hu
      have f0 := hB.frozen k
      have hab := and_bit S k (by omega)
      have HD := Lib.hid (dto_zero (rel := rel) hS k hlt)
      have HX : Hid (∀ x : Int, x = Sp.dto rel S 0 k → ∀ s, s < k + 1 → (cs.setIfInBounds k (.int .i64 x))[s]? = some (.int .i64 (Sp.dto rel S 0 s))) := by
        intro x hx s hs
        rw [Array.getElem?_setIfInBounds]
        by_cases e : k = s
        · subst e; rw [if_pos rfl, if_pos (by rw [HZ.out]; exact hlt), hx]
        · rw [if_neg e]; exact HA.out s (by omega)
      cases hev : S.testBit k
      all_goals
        rw [hev] at hab HD
        clear hev
        go_wp2_with fail
        exact ⟨⟨k + 1, _, by omega, by go_num, hkp.setCell (by simp) _, hB.set_ k _, by show _ = 32; rw [Array.size_setIfInBounds]; exact HZ.out, HX.out _ (by rw [HD.out]; rfl)⟩, by simp [intOf]; omega⟩
    · have HA0 : Hid (∀ s, s < 32 → cs[s]? = some (.int .i64 (Sp.dto rel S 0 s))) := fun s hs => HA.out s (by omega)
      go_wp2_with fail
      clear HA
      have HA := HA0
      clear HA0 hlt hk
      go_loopw [1, 7] (fun o y wr => ∃ (m : Nat) (cs : Array Value), m ≤ 31 ∧ o = .int .i64 (Sp.rch rel S m : Nat) ∧ y = .int .i64 ((m : Int) + 1) ∧ Kept w wr ∧ Blk wr w.heap.size 3 cs ∧ Hid (cs.size = 32) ∧ Hid (∀ s, s < 32 → cs[s]? = some (.int .i64 (Sp.dto rel S m s)))) (fun _ y _ => 40 - (intOf y).toNat)
      case atStart => exact ⟨0, cs, by omega, rfl, rfl, hkp, hB, HZ, HA⟩
      case round =>
        obtain ⟨m, cs, hm, rfl, rfl, hkp, hB, HZ, HA⟩ := hrel
        have hT := Sp.rch_lt (rel := rel) hS m
        have hf := Sp.fr_lt (rel := rel) hS (m + 1)
        have hand := i64_andNot_nat (Sp.img rel (Sp.rch rel S m)) (Sp.rch rel S m) (by have := Sp.img_lt rel (Sp.rch rel S m); omega) (by omega)
        rw [fresh_fr hS m] at hand
        have hor := i64_or_nat (Sp.rch rel S m) (Sp.fr rel S (m + 1)) (by omega) (by omega)
        rw [or_fr hS m] at hor
        have HEnd := Lib.hid (@dto_end rel S hS m)
        have HNew := Lib.hid (@dto_new rel S hS m)
        have HOld := Lib.hid (@dto_old rel S m)
        have HBd := Lib.hid (Sp.fr_bound (rel := rel) hS (m + 1))
        have hstep := (c_backStates g n c F (Sp.rch rel S m) wr (h.keep hkp) (by omega) hn)
        rw [← HRel.out] at hstep
        obtain ⟨T1, HT1⟩ : ∃ T1, Hid (Sp.rch rel S (m + 1) = T1) := ⟨Sp.rch rel S (m + 1), rfl⟩
        rw [HT1.out] at hor
        generalize Sp.rch rel S m = T at *
        generalize Sp.img rel T = I at *
        generalize Sp.fr rel S (m + 1) = f at *
        go_wp2_with fail
        refine hstep.mono ?_; rintro e w2 ⟨rfl, hk2⟩
        replace hkp := hkp.trans hk2
        replace hB := hB.kept hk2
        clear hk2 hstep
        by_cases hf0 : f = 0
        · subst hf0
          go_wp2_with fail
          go_ret
          exact ⟨_, rfl, ⟨w.heap.size, by rw [distList_len]; rfl, Nat.le_refl _, by
            rw [distList_len]
            rw [← HRel.out]
            refine Own.ofBlk hB ?_
            exact Ints.ofBlk hB (distList_len _ _) (by unfold maxLen; omega) (distList_in _ _ hS) (fun j hj => by rw [distList_at _ _ j hj, ← HEnd.out trivial j hj]; exact HA.out j hj)⟩, hkp⟩
        · have hm1 : m + 1 ≤ 31 := HBd.out hf0
          go_wp2_with fail
          clear hand
          go_loopw [37] (fun i wr => ∃ (k : Nat) (cs : Array Value), k ≤ 32 ∧ i = .int .i64 k ∧ Kept w wr ∧ Blk wr w.heap.size 3 cs ∧ Hid (cs.size = 32) ∧ Hid (∀ s, s < 32 → cs[s]? = some (.int .i64 (if s < k then Sp.dto rel S (m + 1) s else Sp.dto rel S m s)))) (fun i _ => 32 - (intOf i).toNat)
          case atStart => exact ⟨0, _, Nat.zero_le _, rfl, hkp, hB, HZ, fun s hs => by rw [if_neg (by omega)]; exact HA.out s hs⟩
          case round =>
            obtain ⟨k, cs, hk, rfl, hkp, hB, HZ, HA⟩ := hrel
            by_cases hlt : k < 32
            · have hab := and_bit f k (by omega)
              have hb1 := bit_one (f.testBit k)
              have HN2 := Lib.hid (HNew.out k hlt)
              have HO2 := Lib.hid (HOld.out k hlt)
              cases hev : f.testBit k
              · rw [hev] at hab hb1 HO2
                have HX : Hid (∀ s, s < 32 → cs[s]? = some (.int .i64 (if s < k + 1 then Sp.dto rel S (m + 1) s else Sp.dto rel S m s))) := by
                  intro s hs
                  rw [HA.out s hs]
                  by_cases e : s = k
                  · subst e; rw [if_neg (by omega), if_pos (by omega), HO2.out rfl]
                  · by_cases e2 : s < k
                    · rw [if_pos e2, if_pos (by omega)]
                    · rw [if_neg e2, if_neg (by omega)]
                clear hev
                go_wp2_with fail
                exact ⟨⟨k + 1, cs, by omega, by go_num, hkp, hB, HZ, HX⟩, by simp [intOf]; omega⟩
              · rw [hev] at hab hb1 HN2
                obtain ⟨u, hu⟩ : ∃ u, cs[k]? = some u := ⟨_, Array.getElem?_eq_getElem (by rw [HZ.out]; exact hlt)⟩
                have c0 := hB.cell k
                rw [hu] at c0
                clear hu hev
                have f0 := hB.frozen k
                have HX : Hid (∀ s, s < 32 → (cs.setIfInBounds k (.int .i64 ((m : Int) + 1)))[s]? = some (.int .i64 (if s < k + 1 then Sp.dto rel S (m + 1) s else Sp.dto rel S m s))) := by
                  intro s hs
                  rw [Array.getElem?_setIfInBounds]
                  by_cases e : k = s
                  · subst e; rw [if_pos rfl, if_pos (by rw [HZ.out]; exact hlt), if_pos (by omega), HN2.out rfl]
                  · rw [if_neg e, HA.out s hs]
                    by_cases e2 : s < k
                    · rw [if_pos e2, if_pos (by omega)]
                    · rw [if_neg e2, if_neg (by omega)]
                go_wp2_with fail
                exact ⟨⟨k + 1, _, by omega, by go_num, hkp.setCell (by simp) _, hB.set_ k _, by show _ = 32; rw [Array.size_setIfInBounds]; exact HZ.out, HX⟩, by simp [intOf]; omega⟩
            · obtain rfl : k = 32 := by omega
              have HA2 : Hid (∀ s, s < 32 → cs[s]? = some (.int .i64 (Sp.dto rel S (m + 1) s))) := fun s hs => by rw [HA.out s hs, if_pos hs]
              go_wp2_with fail
              exact ⟨⟨m + 1, cs, hm1, by rw [HT1.out], by go_num, hkp, hB, HZ, HA2⟩, by simp [intOf]; omega⟩

end Go.Proofs.YtjmpfemlihjibaaDoor
