/- Walks: the reference's run of a code. No condition. -/
import Derived.Test.YthkcdjnnacdeoaaR0
namespace Go.Proofs.Ythkcdjnnacdeoaa
open Go.RowKit

set_option maxHeartbeats 1000000 in
set_option maxRecDepth 100000 in
theorem c_l5Run (A : Option Addr) (n c : Nat) (l : List Int) (s : Int) (w : World) (h : Ints w A n l) (hok : Sp.codeOk l = true) (hs0 : 0 ≤ s) (hs1 : s ≤ 31) :
    Calls Try.prog 98 #[.slice A n c, .int .i64 s] w (RetK (.bool (Sp.run l s.toNat)) w) := by
  obtain ⟨i0, hi0, hz0, hz1, hz2⟩ := info_parts info_bool
  have HI := Lib.hid (And.intro hi0 (And.intro hz0 (And.intro hz1 hz2)))
  clear hi0 hz0 hz1 hz2
  have hn := h.le
  have HL := Lib.hid h.len
  have HB := Lib.hid (fun k hk => bot_step s.toNat hok (k := k) hk)
  have HE := Lib.hid (bot_end (s := s.toNat) hok)
  clear hok
  go_enter Try.func98, Try.ntmps98
  go_wp2_with fail
  go_loopw [5, 6] (fun v i wr => ∃ (k m : Nat) (A2 : Option Addr) (c2 : Nat) (bs : List Bool), k ≤ n ∧ i = .int .i64 k ∧ v = .slice A2 m c2 ∧ wr.ownsRow w.heap.size 4 1 (.slice A2 m c2) m (bs.map Value.bool) ∧ Kept w wr ∧ Hid (bs = Sp.bot l s.toNat k) ∧ Hid (bs.length = m)) (fun _ i _ => n - (intOf i).toNat)
  case atStart => exact ⟨0, 0, _, _, [], Nat.zero_le _, rfl, rfl, World.ownsRow_made w #[] 0 (Nat.le_refl _) (by unfold maxLen; omega) rfl, (Kept.refl w).alloc _, rfl, rfl⟩
  case round =>
    obtain ⟨k, m, A2, c2, bs, hk, rfl, rfl, hown, hkp, HS, HM⟩ := hrel
    by_cases hlt : k < n
    · obtain ⟨b, off, rfl, hb, hc, hin⟩ := (h.keep hkp).at hlt
      have hkl : k < l.length := by rw [HL.out]; exact hlt
      obtain ⟨hx0, hx9, hx3, hx4, hx5⟩ := HB.out k hkl
      rw [← HS.out, HM.out] at hx3 hx4
      have G1 := Lib.hid (@bot_fact l s.toNat k hkl)
      have G2 := Lib.hid (@bot_yes l s.toNat k hkl)
      have G3 := Lib.hid (@bot_no l s.toNat k hkl)
      have G4 := Lib.hid (@bot_not l s.toNat k hkl)
      have G5 := Lib.hid (@bot_and l s.toNat k hkl)
      have G6 := Lib.hid (@bot_or l s.toNat k hkl)
      rw [← HS.out] at G1 G2 G3 G4 G5 G6
      generalize l.getD k default = x at *
      clear hin hkl
      by_cases h5 : x < 5
      · have HG := Lib.hid (G1.out hx0 h5)
        clear G1 G2 G3 G4 G5 G6 hx3
        have hb1 := bit_one (s.toNat.testBit x.toNat)
        go_wp2_with (first | (go_at_call 90; refine (c_l1Bit _ _ _ (by omega) (by omega) (by omega) (by omega)).mono ?_; rintro e w' ⟨rfl, rfl⟩) | (at_builtin; refine wpList_append_own _ rfl (.tmp 42) (.tmp 50) 97 rfl w.heap.size 4 i0 (.bool false) 1 1 Try.underlying97 HI.out.1 HI.out.2.1 HI.out.2.2.1 HI.out.2.2.2 rfl (by decide) (.slice A2 m c2) m _ rfl (hown.alloc _) ⟨wr.heap.size, 0, none⟩ 1 1 [.bool (s.toNat.testBit x.toNat)] rfl rfl (one_new _ _ _) (by simp [Value.oneCell']) (by unfold maxLen; omega) (by omega) (by have := hkp.size; simp; omega) ?_; intro v' w2 hown2 hg2 _))
        obtain ⟨A3, c3, rfl⟩ := own_form hown2
        exact ⟨⟨k + 1, m + 1, A3, c3, bs ++ [s.toNat.testBit x.toNat], by omega, by go_num, rfl, by rw [List.map_append]; exact hown2, own_more hown hkp hg2, HG.out.symm, by show (bs ++ [s.toNat.testBit x.toNat]).length = m + 1; rw [List.length_append, HM.out]; rfl⟩, by simp [intOf]; omega⟩
      · have hx5' : (x < 5) = False := by simp; omega
        by_cases e5 : x = 5
        · subst e5
          have HG := Lib.hid (G2.out rfl)
          clear G1 G2 G3 G4 G5 G6 hx3 hx5'
          go_wp2_with (first | (at_builtin; refine wpList_append_own _ rfl (.tmp 65) (.tmp 71) 97 rfl w.heap.size 4 i0 (.bool false) 1 1 Try.underlying97 HI.out.1 HI.out.2.1 HI.out.2.2.1 HI.out.2.2.2 rfl (by decide) (.slice A2 m c2) m _ rfl (hown.alloc _) ⟨wr.heap.size, 0, none⟩ 1 1 [.bool true] rfl rfl (one_new _ _ _) (by simp [Value.oneCell']) (by unfold maxLen; omega) (by omega) (by have := hkp.size; simp; omega) ?_; intro v' w2 hown2 hg2 _))
          obtain ⟨A3, c3, rfl⟩ := own_form hown2
          exact ⟨⟨k + 1, m + 1, A3, c3, bs ++ [true], by omega, by go_num, rfl, by rw [List.map_append]; exact hown2, own_more hown hkp hg2, HG.out.symm, by show (bs ++ [true]).length = m + 1; rw [List.length_append, HM.out]; rfl⟩, by simp [intOf]; omega⟩
        by_cases e6 : x = 6
        · subst e6
          have HG := Lib.hid (G3.out rfl)
          clear G1 G2 G3 G4 G5 G6 hx3 hx5'
          go_wp2_with (first | (at_builtin; refine wpList_append_own _ rfl (.tmp 65) (.tmp 71) 97 rfl w.heap.size 4 i0 (.bool false) 1 1 Try.underlying97 HI.out.1 HI.out.2.1 HI.out.2.2.1 HI.out.2.2.2 rfl (by decide) (.slice A2 m c2) m _ rfl (hown.alloc _) ⟨wr.heap.size, 0, none⟩ 1 1 [.bool false] rfl rfl (one_new _ _ _) (by simp [Value.oneCell']) (by unfold maxLen; omega) (by omega) (by have := hkp.size; simp; omega) ?_; intro v' w2 hown2 hg2 _))
          obtain ⟨A3, c3, rfl⟩ := own_form hown2
          exact ⟨⟨k + 1, m + 1, A3, c3, bs ++ [false], by omega, by go_num, rfl, by rw [List.map_append]; exact hown2, own_more hown hkp hg2, HG.out.symm, by show (bs ++ [false]).length = m + 1; rw [List.length_append, HM.out]; rfl⟩, by simp [intOf]; omega⟩
        by_cases e7 : x = 7
        · subst e7
          rw [show Sp.takes 7 = 1 from rfl] at hx3
          obtain ⟨ini, y, hbs, hnx⟩ := G4.out rfl (by rw [HM.out]; exact hx3)
          clear G1 G2 G3 G4 G5 G6 hx5'
          subst hbs
          obtain rfl : m = ini.length + 1 := by rw [← HM.out]; simp
          obtain ⟨_, g, rfl, hg, hglt, hmc, hfz⟩ := own_some hown (by omega)
          have hcell := own_cell hown (getElem_last ini y Value.bool)
          have HG := Lib.hid hnx
          clear hnx
          go_wp2_with fail
          have hst := (hown.stored ini.length (.bool !y)).1
          rw [set_last] at hst
          exact ⟨⟨k + 1, ini.length + 1, some ⟨g, 0, none⟩, c2, ini ++ [!y], by omega, by go_num, rfl, hst, hkp.setCell hg _, HG.out.symm, by show (ini ++ [!y]).length = _; simp⟩, by simp [intOf]; omega⟩
        by_cases e8 : x = 8
        · subst e8
          rw [show Sp.takes 8 = 2 from rfl] at hx3
          obtain ⟨ini, y, z, hbs, hnx⟩ := G5.out rfl (by rw [HM.out]; exact hx3)
          clear G1 G2 G3 G4 G5 G6 hx5'
          subst hbs
          obtain rfl : m = ini.length + 2 := by rw [← HM.out]; simp
          obtain ⟨_, g, rfl, hg, hglt, hmc, hfz⟩ := own_some hown (by omega)
          have hcell := own_cell hown (getElem_pre ini y z Value.bool)
          have hcell2 := own_cell hown (getElem_top ini y z Value.bool)
          have HG := Lib.hid hnx
          clear hnx
          cases y
          all_goals
            go_wp2_with fail
            exact ⟨⟨k + 1, ini.length + 1, some ⟨g, 0, none⟩, c2, ini ++ [_], by omega, by go_num, by go_num, own_join _ hown, hkp.setCell hg _, HG.out.symm, by show (ini ++ [_]).length = _; simp⟩, by simp [intOf]; omega⟩
        · obtain rfl : x = 9 := by omega
          rw [show Sp.takes 9 = 2 from rfl] at hx3
          obtain ⟨ini, y, z, hbs, hnx⟩ := G6.out rfl (by rw [HM.out]; exact hx3)
          clear G1 G2 G3 G4 G5 G6 hx5'
          subst hbs
          obtain rfl : m = ini.length + 2 := by rw [← HM.out]; simp
          obtain ⟨_, g, rfl, hg, hglt, hmc, hfz⟩ := own_some hown (by omega)
          have hcell := own_cell hown (getElem_pre ini y z Value.bool)
          have hcell2 := own_cell hown (getElem_top ini y z Value.bool)
          have HG := Lib.hid hnx
          clear hnx
          cases y
          all_goals
            go_wp2_with fail
            exact ⟨⟨k + 1, ini.length + 1, some ⟨g, 0, none⟩, c2, ini ++ [_], by omega, by go_num, by go_num, own_join _ hown, hkp.setCell hg _, HG.out.symm, by show (ini ++ [_]).length = _; simp⟩, by simp [intOf]; omega⟩
    · have hkn : k = n := by omega
      have hfin : bs = [Sp.run l s.toNat] := by rw [HS.out, hkn, ← HL.out]; exact HE.out
      subst hfin
      obtain rfl : m = 1 := by rw [← HM.out]; rfl
      obtain ⟨_, g, rfl, hg, hglt, hmc, hfz⟩ := own_some hown (by omega)
      have hcell : wr.cell? ⟨g, 0, none⟩ = some (.bool (Sp.run l s.toNat)) := own_cell hown rfl
      go_wp2_with fail
      go_ret
      exact ⟨rfl, hkp⟩

end Go.Proofs.Ythkcdjnnacdeoaa
