/- Walks: the program's run of a code. No condition. -/
import Derived.Test.YthkcdjnnacdeoaaR1
namespace Go.Proofs.Ythkcdjnnacdeoaa
open Go.RowKit

/-- the first cells of an array are a stack -/
def Stk (arr : Array Value) (bs : List Bool) : Prop := arr.size = 40 ∧ bs.length ≤ 40 ∧ ∀ j, j < bs.length → arr[j]? = some (.bool (bs.getD j false))

theorem Stk.push {arr : Array Value} {bs : List Bool} (h : Stk arr bs) (hl : bs.length < 40) (b : Bool) : Stk (arr.setIfInBounds bs.length (.bool b)) (bs ++ [b]) := by
  obtain ⟨h1, _, h3⟩ := h
  refine ⟨by simpa using h1, by simp; omega, fun j hj => ?_⟩
  rw [Array.getElem?_setIfInBounds]
  rw [List.length_append] at hj
  simp at hj
  by_cases e : bs.length = j
  · subst e; rw [if_pos rfl, if_pos (by omega)]; simp
  · rw [if_neg e, h3 j (by omega)]; simp [List.getD, List.getElem?_append_left (show j < bs.length by omega)]

theorem Stk.set_ {arr : Array Value} {ini : List Bool} {x : Bool} {r : List Bool} (h : Stk arr (ini ++ x :: r)) (z : Bool) : Stk (arr.setIfInBounds ini.length (.bool z)) (ini ++ [z]) := by
  obtain ⟨h1, h2, h3⟩ := h
  rw [List.length_append, List.length_cons] at h2
  refine ⟨by simpa using h1, by simp; omega, fun j hj => ?_⟩
  rw [Array.getElem?_setIfInBounds]
  rw [List.length_append] at hj
  simp at hj
  by_cases e : ini.length = j
  · subst e; rw [if_pos rfl, if_pos (by omega)]; simp
  · rw [if_neg e, h3 j (by rw [List.length_append, List.length_cons]; omega)]
    simp [List.getD, List.getElem?_append_left (show j < ini.length by omega)]

theorem Stk.get {arr : Array Value} {ini : List Bool} {x : Bool} {r : List Bool} (h : Stk arr (ini ++ x :: r)) : arr[ini.length]? = some (.bool x) := by
  rw [h.2.2 ini.length (by simp)]; simp
theorem Stk.get2 {arr : Array Value} {ini : List Bool} {x y : Bool} {r : List Bool} (h : Stk arr (ini ++ x :: y :: r)) : arr[ini.length + 1]? = some (.bool y) := by
  rw [h.2.2 (ini.length + 1) (by simp)]; simp

set_option maxHeartbeats 1000000 in
set_option maxRecDepth 100000 in
theorem c_runCode (A : Option Addr) (n c : Nat) (l : List Int) (s : Int) (w : World) (h : Ints w A n l) (hok : Sp.codeOk l = true) (hs0 : 0 ≤ s) (hs1 : s ≤ 31) :
    Calls Try.prog 84 #[.slice A n c, .int .i64 s] w (RetK (.bool (Sp.run l s.toNat)) w) := by
  have hn := h.le
  have HL := Lib.hid h.len
  have HB := Lib.hid (fun k hk => bot_step s.toNat hok (k := k) hk)
  have HE := Lib.hid (bot_end (s := s.toNat) hok)
  clear hok
  go_enter Try.func84, Try.ntmps84
  go_wp2_with fail
  go_loopw [6, 11] (fun v i wr => ∃ (k m : Nat) (arr : Array Value) (bs : List Bool), k ≤ n ∧ i = .int .i64 k ∧ v = .int .i64 m ∧ wr = w.alloc (.cells arr 96) ∧ Stk arr bs ∧ Hid (bs = Sp.bot l s.toNat k) ∧ Hid (bs.length = m)) (fun _ i _ => n - (intOf i).toNat)
  case atStart => exact ⟨0, 0, _, [], Nat.zero_le _, rfl, rfl, rfl, ⟨by rfl, by simp, by simp⟩, rfl, rfl⟩
  case round =>
    obtain ⟨k, m, arr, bs, hk, rfl, rfl, rfl, hstk, HS, HM⟩ := hrel
    have hsz := hstk.1
    by_cases hlt : k < n
    · obtain ⟨b, off, rfl, hb, hc, hin⟩ := h.at hlt
      have hc' : (w.alloc (.cells arr 96)).cell? ⟨b, off + k, none⟩ = some (.int .i64 (l.getD k default)) := by rw [World.cell?_alloc_lt _ _ _ hb]; exact hc
      have hkl : k < l.length := by rw [HL.out]; exact hlt
      obtain ⟨hx0, hx9, hx3, hx4, hx5⟩ := HB.out k hkl
      rw [← HS.out, HM.out] at hx3 hx4
      have hold : m < 40 → ∃ u, arr[m]? = some u := fun h => ⟨_, Array.getElem?_eq_getElem (by rw [hsz]; exact h)⟩
      obtain ⟨u, hu⟩ := hold (by omega)
      have HSZ := Lib.hid hsz
      have G1 := Lib.hid (@bot_fact l s.toNat k hkl)
      have G2 := Lib.hid (@bot_yes l s.toNat k hkl)
      have G3 := Lib.hid (@bot_no l s.toNat k hkl)
      have G4 := Lib.hid (@bot_not l s.toNat k hkl)
      have G5 := Lib.hid (@bot_and l s.toNat k hkl)
      have G6 := Lib.hid (@bot_or l s.toNat k hkl)
      rw [← HS.out] at G1 G2 G3 G4 G5 G6
      generalize l.getD k default = x at *
      clear hin hkl hc hold hsz
      by_cases h5 : x < 5
      · have HG := Lib.hid (G1.out hx0 h5)
        clear G1 G2 G3 G4 G5 G6 hx3
        obtain ⟨x, rfl⟩ := Int.eq_ofNat_of_zero_le hx0
        obtain ⟨s, rfl⟩ := Int.eq_ofNat_of_zero_le hs0
        rw [Int.toNat_natCast, Int.toNat_natCast] at HG
        have hab := and_bit s x (by omega)
        have hb1 := bit_one (s.testBit x)
        have n5 : ((x : Int) == 5) = false := by simp; omega
        have n6 : ((x : Int) == 6) = false := by simp; omega
        have n7 : ((x : Int) == 7) = false := by simp; omega
        have n8 : ((x : Int) == 8) = false := by simp; omega
        have n9 : ((x : Int) == 9) = false := by simp; omega
        go_wp2_with fail
        exact ⟨⟨k + 1, m + 1, _, bs ++ [s.testBit x], by omega, by go_num, by go_num, rfl, by have := hstk.push (by rw [HM.out]; omega) (s.testBit x); rwa [HM.out] at this, HG.out.symm, by show (bs ++ [_]).length = m + 1; rw [List.length_append, HM.out]; rfl⟩, by simp [intOf]; omega⟩
      · have hx5' : (x < 5) = False := by simp; omega
        by_cases e5 : x = 5
        · subst e5
          have HG := Lib.hid (G2.out rfl)
          clear G1 G2 G3 G4 G5 G6 hx3 hx5'
          go_wp2_with fail
          exact ⟨⟨k + 1, m + 1, _, bs ++ [true], by omega, by go_num, by go_num, rfl, by have := hstk.push (by rw [HM.out]; omega) (true); rwa [HM.out] at this, HG.out.symm, by show (bs ++ [_]).length = m + 1; rw [List.length_append, HM.out]; rfl⟩, by simp [intOf]; omega⟩
        by_cases e6 : x = 6
        · subst e6
          have HG := Lib.hid (G3.out rfl)
          clear G1 G2 G3 G4 G5 G6 hx3 hx5'
          go_wp2_with fail
          exact ⟨⟨k + 1, m + 1, _, bs ++ [false], by omega, by go_num, by go_num, rfl, by have := hstk.push (by rw [HM.out]; omega) (false); rwa [HM.out] at this, HG.out.symm, by show (bs ++ [_]).length = m + 1; rw [List.length_append, HM.out]; rfl⟩, by simp [intOf]; omega⟩
        by_cases e7 : x = 7
        · subst e7
          rw [show Sp.takes 7 = 1 from rfl] at hx3
          obtain ⟨ini, y, hbs, hnx⟩ := G4.out rfl (by rw [HM.out]; exact hx3)
          clear G1 G2 G3 G4 G5 G6 hx5'
          subst hbs
          obtain rfl : m = ini.length + 1 := by rw [← HM.out]; simp
          have hcell := hstk.get
          have HG := Lib.hid hnx
          clear hnx
          go_wp2_with fail
          exact ⟨⟨k + 1, ini.length + 1, _, ini ++ [!y], by omega, by go_num, rfl, rfl, hstk.set_ _, HG.out.symm, by show (ini ++ [!y]).length = _; simp⟩, by simp [intOf]; omega⟩
        by_cases e8 : x = 8
        · subst e8
          rw [show Sp.takes 8 = 2 from rfl] at hx3
          obtain ⟨ini, y, z, hbs, hnx⟩ := G5.out rfl (by rw [HM.out]; exact hx3)
          clear G1 G2 G3 G4 G5 G6 hx5'
          subst hbs
          obtain rfl : m = ini.length + 2 := by rw [← HM.out]; simp
          have hcell := hstk.get
          have hcell2 := hstk.get2
          have HG := Lib.hid hnx
          clear hnx
          cases y
          all_goals
            go_wp2_with fail
            exact ⟨⟨k + 1, ini.length + 1, _, ini ++ [_], by omega, by go_num, by go_num, rfl, hstk.set_ _, HG.out.symm, by show (ini ++ [_]).length = _; simp⟩, by simp [intOf]; omega⟩
        · obtain rfl : x = 9 := by omega
          rw [show Sp.takes 9 = 2 from rfl] at hx3
          obtain ⟨ini, y, z, hbs, hnx⟩ := G6.out rfl (by rw [HM.out]; exact hx3)
          clear G1 G2 G3 G4 G5 G6 hx5'
          subst hbs
          obtain rfl : m = ini.length + 2 := by rw [← HM.out]; simp
          have hcell := hstk.get
          have hcell2 := hstk.get2
          have HG := Lib.hid hnx
          clear hnx
          cases y
          all_goals
            go_wp2_with fail
            exact ⟨⟨k + 1, ini.length + 1, _, ini ++ [_], by omega, by go_num, by go_num, rfl, hstk.set_ _, HG.out.symm, by show (ini ++ [_]).length = _; simp⟩, by simp [intOf]; omega⟩
    · have hkn : k = n := by omega
      have hfin : bs = [Sp.run l s.toNat] := by rw [HS.out, hkn, ← HL.out]; exact HE.out
      subst hfin
      have hcell : arr[0]? = some (.bool (Sp.run l s.toNat)) := hstk.get (ini := [])
      clear hsz hstk
      go_wp2_with fail
      go_ret
      exact ⟨rfl, (Kept.refl w).alloc _⟩

end Go.Proofs.Ythkcdjnnacdeoaa
