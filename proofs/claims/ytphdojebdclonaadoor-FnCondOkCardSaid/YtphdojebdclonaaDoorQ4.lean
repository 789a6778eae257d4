/- Joined texts. No condition. -/
import Derived.OwnWalk
import Derived.WalkSmall
import Derived.Test.YtphdojebdclonaaDoorQ3
/- Plain: the stack of a code, from the bottom. Own rows. Walks: the reference's run of a code. Walks: the program's run of a code. Walks: CodeTruth, GoalOne. Walks: GoalOne. Walks: OnlyTurns. No condition. -/
namespace Go.Proofs.YtphdojebdclonaaDoor
set_option linter.unusedSimpArgs false
set_option linter.unusedVariables false
open Go.RowKit

/-- the stack from the bottom -/
def Sp.bot (l : List Int) (s k : Nat) : List Bool := (Sp.stackOf (l.take k) s).reverse

theorem bot_zero (l : List Int) (s : Nat) : Sp.bot l s 0 = [] := rfl

theorem bot_push {l : List Int} {s k : Nat} {b : Bool} (hk : k < l.length) (h : Sp.rstep s (Sp.stackOf (l.take k) s) (l.getD k default) = b :: Sp.stackOf (l.take k) s) :
    Sp.bot l s (k + 1) = Sp.bot l s k ++ [b] := by
  unfold Sp.bot
  rw [Sp.stack_snoc l s k hk, h, List.reverse_cons]

theorem bot_fact {l : List Int} {s k : Nat} (hk : k < l.length) (h0 : 0 ≤ l.getD k default) (h : l.getD k default < 5) : Sp.bot l s (k + 1) = Sp.bot l s k ++ [s.testBit (l.getD k default).toNat] := by
  apply bot_push hk
  unfold Sp.rstep
  rw [if_neg (by omega), if_neg (by omega), if_neg (by omega), if_neg (by omega), if_neg (by omega)]
theorem bot_yes {l : List Int} {s k : Nat} (hk : k < l.length) (h : l.getD k default = 5) : Sp.bot l s (k + 1) = Sp.bot l s k ++ [true] := by
  apply bot_push hk
  unfold Sp.rstep
  rw [if_neg (by omega), if_neg (by omega), if_neg (by omega), if_pos h]
theorem bot_no {l : List Int} {s k : Nat} (hk : k < l.length) (h : l.getD k default = 6) : Sp.bot l s (k + 1) = Sp.bot l s k ++ [false] := by
  apply bot_push hk
  unfold Sp.rstep
  rw [if_neg (by omega), if_neg (by omega), if_neg (by omega), if_neg (by omega), if_pos h]

theorem bot_not {l : List Int} {s k : Nat} (hk : k < l.length) (h : l.getD k default = 7) (hl : 1 ≤ (Sp.bot l s k).length) :
    ∃ ini x, Sp.bot l s k = ini ++ [x] ∧ Sp.bot l s (k + 1) = ini ++ [!x] := by
  unfold Sp.bot at *
  rw [List.length_reverse] at hl
  rw [Sp.stack_snoc l s k hk]
  cases e : Sp.stackOf (l.take k) s with
  | nil => rw [e] at hl; simp at hl
  | cons x r => exact ⟨r.reverse, x, by simp, by unfold Sp.rstep; rw [if_pos h]; simp⟩

theorem bot_and {l : List Int} {s k : Nat} (hk : k < l.length) (h : l.getD k default = 8) (hl : 2 ≤ (Sp.bot l s k).length) :
    ∃ ini x y, Sp.bot l s k = ini ++ [x, y] ∧ Sp.bot l s (k + 1) = ini ++ [x && y] := by
  unfold Sp.bot at *
  rw [List.length_reverse] at hl
  rw [Sp.stack_snoc l s k hk]
  cases e : Sp.stackOf (l.take k) s with
  | nil => rw [e] at hl; simp at hl
  | cons y r =>
    cases r with
    | nil => rw [e] at hl; simp at hl
    | cons x r => exact ⟨r.reverse, x, y, by simp, by unfold Sp.rstep; rw [if_neg (by omega), if_pos h]; simp⟩

theorem bot_or {l : List Int} {s k : Nat} (hk : k < l.length) (h : l.getD k default = 9) (hl : 2 ≤ (Sp.bot l s k).length) :
    ∃ ini x y, Sp.bot l s k = ini ++ [x, y] ∧ Sp.bot l s (k + 1) = ini ++ [x || y] := by
  unfold Sp.bot at *
  rw [List.length_reverse] at hl
  rw [Sp.stack_snoc l s k hk]
  cases e : Sp.stackOf (l.take k) s with
  | nil => rw [e] at hl; simp at hl
  | cons y r =>
    cases r with
    | nil => rw [e] at hl; simp at hl
    | cons x r => exact ⟨r.reverse, x, y, by simp, by unfold Sp.rstep; rw [if_neg (by omega), if_neg (by omega), if_pos h]; simp⟩

theorem bot_end {l : List Int} {s : Nat} (h : Sp.codeOk l = true) : Sp.bot l s l.length = [Sp.run l s] := by
  unfold Sp.bot Sp.run
  rw [List.take_length]
  have hl := Sp.stack_last l s h
  cases e : Sp.stackOf l s with
  | nil => rw [e] at hl; simp at hl
  | cons x r =>
    rw [e] at hl
    simp at hl
    subst hl
    rfl

/-- what a valid code finds at its step k -/
theorem bot_step {l : List Int} (s : Nat) (h : Sp.codeOk l = true) {k : Nat} (hk : k < l.length) :
    0 ≤ l.getD k default ∧ l.getD k default ≤ 9 ∧ Sp.takes (l.getD k default) ≤ (Sp.bot l s k).length ∧ (Sp.bot l s k).length ≤ k ∧ k < 40 := by
  obtain ⟨p, hp, h1, h2, h3, h4, h5⟩ := Sp.codeOk_step l h k hk
  have hl := Sp.stack_len l s k p hp
  unfold Sp.bot
  rw [List.length_reverse, hl]
  exact ⟨h1, h2, h3, h4, h5⟩

/-- a slice that the call owns, written out -/
theorem own_form {w : World} {B : Nat} {T : TypeId} {sz : Nat} {v : Value} {n : Nat} {xs : List Value} (h : w.ownsRow B T sz v n xs) : ∃ A c, v = .slice A n c := by
  rcases h.2 with ⟨e, h0⟩ | ⟨g, cap, cur, e, _⟩
  · exact ⟨none, 0, by rw [e, h0]⟩
  · exact ⟨_, _, e⟩

theorem own_some {w : World} {B : Nat} {T : TypeId} {sz : Nat} {A : Option Addr} {n m c : Nat} {xs : List Value} (h : w.ownsRow B T sz (.slice A m c) n xs) (hn : 0 < n) :
    m = n ∧ ∃ g, A = some ⟨g, 0, none⟩ ∧ B ≤ g ∧ g < w.heap.size ∧ n ≤ c ∧ ∀ j, w.frozen? ⟨g, j, none⟩ = false := by
  rcases h.2 with ⟨_, h0⟩ | ⟨g, cap, cur, e, hg, hh, h1, _⟩
  · omega
  · simp only [Value.slice.injEq] at e
    obtain ⟨e1, e2, e3⟩ := e
    subst e1 e2 e3
    refine ⟨rfl, g, rfl, hg, ?_, h1, fun j => by simp [World.frozen?, hh]⟩
    rcases Nat.lt_or_ge g w.heap.size with h | h
    · exact h
    · rw [Array.getElem?_eq_none h] at hh; cases hh

theorem own_cell {w : World} {B : Nat} {T : TypeId} {g n c : Nat} {xs : List Value} (h : w.ownsRow B T 1 (.slice (some ⟨g, 0, none⟩) n c) n xs) {j : Nat} {u : Value} (hj : xs[j]? = some u) :
    w.cell? ⟨g, j, none⟩ = some u := by
  rw [h.cellAt j (by have := h.1; have := (List.getElem?_eq_some_iff.1 hj).1; omega)]
  exact hj

theorem info_bool : (Tryd.prog.info? 4).map (fun i => (i.zero, i.size, i.bytes)) = some (some (.bool false), 1, 1) := by kernel_rfl

theorem bit_one (b : Bool) : (((b.toNat : Nat) : Int) == 1) = b := by cases b <;> rfl
theorem one_new (w : World) (v : Value) (T : TypeId) : ∀ (j : Nat) (u : Value), [v][j]? = some u → (w.alloc (.cells #[v] T)).cell? ((⟨w.heap.size, 0, none⟩ : Addr).add j) = some u := by
  intro j u hu
  cases j with
  | zero =>
    simp at hu
    subst hu
    show (w.alloc (.cells #[v] T)).cell? ⟨w.heap.size, 0, none⟩ = _
    rw [World.cell?_alloc_new]; rfl
  | succ j => simp at hu

/-- behind an append of one element to an owned row: the slice is written out, what was there is kept -/
theorem own_more {w wr w2 : World} {T : TypeId} {A : Option Addr} {m c : Nat} {xs : List Value} {o : Obj} (hown : wr.ownsRow w.heap.size T 1 (.slice A m c) m xs) (hk : Kept w wr)
    (hg : (wr.alloc o).grownBy w2 (Value.slice A m c).ownBlock) : Kept w w2 :=
  (hk.alloc o).grown hg (fun k e => (hown.lt k e).1)

theorem set_last (ini : List Bool) (y z : Bool) : ((ini ++ [y]).map Value.bool).set ini.length (.bool z) = (ini ++ [z]).map Value.bool := by
  rw [List.map_append, List.map_append, List.set_append_right _ _ (by simp)]
  simp
theorem set_pre (ini : List Bool) (x y z : Bool) : ((ini ++ [x, y]).map Value.bool).set ini.length (.bool z) = (ini ++ [z]).map Value.bool ++ [.bool y] := by
  rw [List.map_append, List.map_append, List.set_append_right _ _ (by simp)]
  simp
/-- two entries of a stack become one -/
theorem own_join {w : World} {B : Nat} {T : TypeId} {g c : Nat} {ini : List Bool} {x y : Bool} (z : Bool)
    (h : w.ownsRow B T 1 (.slice (some ⟨g, 0, none⟩) (ini.length + 2) c) (ini.length + 2) ((ini ++ [x, y]).map Value.bool)) :
    (w.setCell ⟨g, ini.length, none⟩ (.bool z)).ownsRow B T 1 (.slice (some ⟨g, 0, none⟩) (ini.length + 1) c) (ini.length + 1) ((ini ++ [z]).map Value.bool) := by
  have h2 := (h.stored ini.length (.bool z)).1
  rw [set_pre] at h2
  exact ownsRow_pop (by simp) h2

theorem getElem_last {α : Type} (ini : List α) (x : α) (f : α → Value) : ((ini ++ [x]).map f)[ini.length]? = some (f x) := by simp
theorem getElem_pre {α : Type} (ini : List α) (x y : α) (f : α → Value) : ((ini ++ [x, y]).map f)[ini.length]? = some (f x) := by simp
theorem getElem_top {α : Type} (ini : List α) (x y : α) (f : α → Value) : ((ini ++ [x, y]).map f)[ini.length + 1]? = some (f y) := by simp

end Go.Proofs.YtphdojebdclonaaDoor

namespace Go.Proofs.YtphdojebdclonaaDoor
set_option linter.unusedSimpArgs false
set_option linter.unusedVariables false
open Go.RowKit

set_option maxHeartbeats 1000000 in
set_option maxRecDepth 100000 in
theorem c_l5Run (A : Option Addr) (n c : Nat) (l : List Int) (s : Int) (w : World) (h : Ints w A n l) (hok : Sp.codeOk l = true) (hs0 : 0 ≤ s) (hs1 : s ≤ 31) :
    Calls Tryd.prog 49 #[.slice A n c, .int .i64 s] w (RetK (.bool (Sp.run l s.toNat)) w) := by
  obtain ⟨i0, hi0, hz0, hz1, hz2⟩ := info_parts info_bool
  have HI := Lib.hid (And.intro hi0 (And.intro hz0 (And.intro hz1 hz2)))
  clear hi0 hz0 hz1 hz2
  have hn := h.le
  have HL := Lib.hid h.len
  have HB := Lib.hid (fun k hk => bot_step s.toNat hok (k := k) hk)
  have HE := Lib.hid (bot_end (s := s.toNat) hok)
  clear hok
  go_enter Tryd.func49, Tryd.ntmps49
  go_wp2_with fail
  go_loopw [5, 6] (fun v i wr => ∃ (k m : Nat) (A2 : Option Addr) (c2 : Nat) (bs : List Bool), k ≤ n ∧ i = .int .i64 k ∧ v = .slice A2 m c2 ∧ wr.ownsRow w.heap.size 4 1 (.slice A2 m c2) m (bs.map Value.bool) ∧ Kept w wr ∧ Hid (bs = Sp.bot l s.toNat k) ∧ Hid (bs.length = m)) (fun _ i _ => n - (intOf i).toNat)
  case atStart => exact ⟨0, 0, _, _, [], Nat.zero_le _, rfl, rfl, World.ownsRow_made w #[] 0 (Nat.le_refl _) (by unfold maxLen; omega) rfl, (Kept.refl w).alloc _, rfl, rfl⟩
  case round =>
    obtain ⟨k, m, A2, c2, bs, hk, rfl, rfl, hown, hkp, HS, HM⟩ := hrel
    by_cases hlt : k < n
    · obtain ⟨b, off, rfl, hb, hc, hin⟩ := (h.keep hkp).at hlt
      have hkl : k < l.length := by rw [HL.out]; exact hlt
      obtain ⟨hx0, hx9, hx3, hx4, hx5⟩ := HB.out k hkl
      rw [← HS.out, HM.out] at hx3 hx4
      have G1 := Lib.hid (@bot_fact l s.toNat k hkl)
      have G2 := Lib.hid (@bot_yes l s.toNat k hkl)
      have G3 := Lib.hid (@bot_no l s.toNat k hkl)
      have G4 := Lib.hid (@bot_not l s.toNat k hkl)
      have G5 := Lib.hid (@bot_and l s.toNat k hkl)
      have G6 := Lib.hid (@bot_or l s.toNat k hkl)
      rw [← HS.out] at G1 G2 G3 G4 G5 G6
      generalize l.getD k default = x at *
      clear hin hkl
      by_cases h5 : x < 5
      · have HG := Lib.hid (G1.out hx0 h5)
        clear G1 G2 G3 G4 G5 G6 hx3
        have hb1 := bit_one (s.toNat.testBit x.toNat)
        go_wp2_with (first | (go_at_call 100; refine (c_l1Bit _ _ _ (by omega) (by omega) (by omega) (by omega)).mono ?_; rintro e w' ⟨rfl, rfl⟩) | (at_builtin; refine wpList_append_own _ rfl (.tmp 42) (.tmp 50) 84 rfl w.heap.size 4 i0 (.bool false) 1 1 Tryd.underlying84 HI.out.1 HI.out.2.1 HI.out.2.2.1 HI.out.2.2.2 rfl (by decide) (.slice A2 m c2) m _ rfl (hown.alloc _) ⟨wr.heap.size, 0, none⟩ 1 1 [.bool (s.toNat.testBit x.toNat)] rfl rfl (one_new _ _ _) (by simp [Value.oneCell']) (by unfold maxLen; omega) (by omega) (by have := hkp.size; simp; omega) ?_; intro v' w2 hown2 hg2 _))
        obtain ⟨A3, c3, rfl⟩ := own_form hown2
        exact ⟨⟨k + 1, m + 1, A3, c3, bs ++ [s.toNat.testBit x.toNat], by omega, by go_num, rfl, by rw [List.map_append]; exact hown2, own_more hown hkp hg2, HG.out.symm, by show (bs ++ [s.toNat.testBit x.toNat]).length = m + 1; rw [List.length_append, HM.out]; rfl⟩, by simp [intOf]; omega⟩
      · have hx5' : (x < 5) = False := by simp; omega
        by_cases e5 : x = 5
        · subst e5
          have HG := Lib.hid (G2.out rfl)
          clear G1 G2 G3 G4 G5 G6 hx3 hx5'
          go_wp2_with (first | (at_builtin; refine wpList_append_own _ rfl (.tmp 65) (.tmp 71) 84 rfl w.heap.size 4 i0 (.bool false) 1 1 Tryd.underlying84 HI.out.1 HI.out.2.1 HI.out.2.2.1 HI.out.2.2.2 rfl (by decide) (.slice A2 m c2) m _ rfl (hown.alloc _) ⟨wr.heap.size, 0, none⟩ 1 1 [.bool true] rfl rfl (one_new _ _ _) (by simp [Value.oneCell']) (by unfold maxLen; omega) (by omega) (by have := hkp.size; simp; omega) ?_; intro v' w2 hown2 hg2 _))
          obtain ⟨A3, c3, rfl⟩ := own_form hown2
          exact ⟨⟨k + 1, m + 1, A3, c3, bs ++ [true], by omega, by go_num, rfl, by rw [List.map_append]; exact hown2, own_more hown hkp hg2, HG.out.symm, by show (bs ++ [true]).length = m + 1; rw [List.length_append, HM.out]; rfl⟩, by simp [intOf]; omega⟩
        by_cases e6 : x = 6
        · subst e6
          have HG := Lib.hid (G3.out rfl)
          clear G1 G2 G3 G4 G5 G6 hx3 hx5'
          go_wp2_with (first | (at_builtin; refine wpList_append_own _ rfl (.tmp 65) (.tmp 71) 84 rfl w.heap.size 4 i0 (.bool false) 1 1 Tryd.underlying84 HI.out.1 HI.out.2.1 HI.out.2.2.1 HI.out.2.2.2 rfl (by decide) (.slice A2 m c2) m _ rfl (hown.alloc _) ⟨wr.heap.size, 0, none⟩ 1 1 [.bool false] rfl rfl (one_new _ _ _) (by simp [Value.oneCell']) (by unfold maxLen; omega) (by omega) (by have := hkp.size; simp; omega) ?_; intro v' w2 hown2 hg2 _))
          obtain ⟨A3, c3, rfl⟩ := own_form hown2
          exact ⟨⟨k + 1, m + 1, A3, c3, bs ++ [false], by omega, by go_num, rfl, by rw [List.map_append]; exact hown2, own_more hown hkp hg2, HG.out.symm, by show (bs ++ [false]).length = m + 1; rw [List.length_append, HM.out]; rfl⟩, by simp [intOf]; omega⟩
        by_cases e7 : x = 7
        · subst e7
          rw [show Sp.takes 7 = 1 from rfl] at hx3
          obtain ⟨ini, y, hbs, hnx⟩ := G4.out rfl (by rw [HM.out]; exact hx3)
          clear G1 G2 G3 G4 G5 G6 hx5'
          subst hbs
          obtain rfl : m = ini.length + 1 := by rw [← HM.out]; simp
          obtain ⟨_, g, rfl, hg, hglt, hmc, hfz⟩ := own_some hown (by omega)
          have hcell := own_cell hown (getElem_last ini y Value.bool)
          have HG := Lib.hid hnx
          clear hnx
          go_wp2_with fail
          have hst := (hown.stored ini.length (.bool !y)).1
          rw [set_last] at hst
          exact ⟨⟨k + 1, ini.length + 1, some ⟨g, 0, none⟩, c2, ini ++ [!y], by omega, by go_num, rfl, hst, hkp.setCell hg _, HG.out.symm, by show (ini ++ [!y]).length = _; simp⟩, by simp [intOf]; omega⟩
        by_cases e8 : x = 8
        · subst e8
          rw [show Sp.takes 8 = 2 from rfl] at hx3
          obtain ⟨ini, y, z, hbs, hnx⟩ := G5.out rfl (by rw [HM.out]; exact hx3)
          clear G1 G2 G3 G4 G5 G6 hx5'
          subst hbs
          obtain rfl : m = ini.length + 2 := by rw [← HM.out]; simp
          obtain ⟨_, g, rfl, hg, hglt, hmc, hfz⟩ := own_some hown (by omega)
          have hcell := own_cell hown (getElem_pre ini y z Value.bool)
          have hcell2 := own_cell hown (getElem_top ini y z Value.bool)
          have HG := Lib.hid hnx
          clear hnx
          cases y
          all_goals
            go_wp2_with fail
            exact ⟨⟨k + 1, ini.length + 1, some ⟨g, 0, none⟩, c2, ini ++ [_], by omega, by go_num, by go_num, own_join _ hown, hkp.setCell hg _, HG.out.symm, by show (ini ++ [_]).length = _; simp⟩, by simp [intOf]; omega⟩
        · obtain rfl : x = 9 := by omega
          rw [show Sp.takes 9 = 2 from rfl] at hx3
          obtain ⟨ini, y, z, hbs, hnx⟩ := G6.out rfl (by rw [HM.out]; exact hx3)
          clear G1 G2 G3 G4 G5 G6 hx5'
          subst hbs
          obtain rfl : m = ini.length + 2 := by rw [← HM.out]; simp
          obtain ⟨_, g, rfl, hg, hglt, hmc, hfz⟩ := own_some hown (by omega)
          have hcell := own_cell hown (getElem_pre ini y z Value.bool)
          have hcell2 := own_cell hown (getElem_top ini y z Value.bool)
          have HG := Lib.hid hnx
          clear hnx
          cases y
          all_goals
            go_wp2_with fail
            exact ⟨⟨k + 1, ini.length + 1, some ⟨g, 0, none⟩, c2, ini ++ [_], by omega, by go_num, by go_num, own_join _ hown, hkp.setCell hg _, HG.out.symm, by show (ini ++ [_]).length = _; simp⟩, by simp [intOf]; omega⟩
    · have hkn : k = n := by omega
      have hfin : bs = [Sp.run l s.toNat] := by rw [HS.out, hkn, ← HL.out]; exact HE.out
      subst hfin
      obtain rfl : m = 1 := by rw [← HM.out]; rfl
      obtain ⟨_, g, rfl, hg, hglt, hmc, hfz⟩ := own_some hown (by omega)
      have hcell : wr.cell? ⟨g, 0, none⟩ = some (.bool (Sp.run l s.toNat)) := own_cell hown rfl
      go_wp2_with fail
      go_ret
      exact ⟨rfl, hkp⟩

end Go.Proofs.YtphdojebdclonaaDoor

namespace Go.Proofs.YtphdojebdclonaaDoor
set_option linter.unusedSimpArgs false
set_option linter.unusedVariables false
open Go.RowKit

/-- the first cells of an array are a stack -/
def Stk (arr : Array Value) (bs : List Bool) : Prop := arr.size = 40 ∧ bs.length ≤ 40 ∧ ∀ j, j < bs.length → arr[j]? = some (.bool (bs.getD j false))

theorem Stk.push {arr : Array Value} {bs : List Bool} (h : Stk arr bs) (hl : bs.length < 40) (b : Bool) : Stk (arr.setIfInBounds bs.length (.bool b)) (bs ++ [b]) := by
  obtain ⟨h1, _, h3⟩ := h
  refine ⟨by simpa using h1, by simp; omega, fun j hj => ?_⟩
  rw [Array.getElem?_setIfInBounds]
  rw [List.length_append] at hj
  simp at hj
  by_cases e : bs.length = j
  · subst e; rw [if_pos rfl, if_pos (by omega)]; simp
  · rw [if_neg e, h3 j (by omega)]; simp [List.getD, List.getElem?_append_left (show j < bs.length by omega)]

theorem Stk.set_ {arr : Array Value} {ini : List Bool} {x : Bool} {r : List Bool} (h : Stk arr (ini ++ x :: r)) (z : Bool) : Stk (arr.setIfInBounds ini.length (.bool z)) (ini ++ [z]) := by
  obtain ⟨h1, h2, h3⟩ := h
  rw [List.length_append, List.length_cons] at h2
  refine ⟨by simpa using h1, by simp; omega, fun j hj => ?_⟩
  rw [Array.getElem?_setIfInBounds]
  rw [List.length_append] at hj
  simp at hj
  by_cases e : ini.length = j
  · subst e; rw [if_pos rfl, if_pos (by omega)]; simp
  · rw [if_neg e, h3 j (by rw [List.length_append, List.length_cons]; omega)]
    simp [List.getD, List.getElem?_append_left (show j < ini.length by omega)]

theorem Stk.get {arr : Array Value} {ini : List Bool} {x : Bool} {r : List Bool} (h : Stk arr (ini ++ x :: r)) : arr[ini.length]? = some (.bool x) := by
  rw [h.2.2 ini.length (by simp)]; simp
theorem Stk.get2 {arr : Array Value} {ini : List Bool} {x y : Bool} {r : List Bool} (h : Stk arr (ini ++ x :: y :: r)) : arr[ini.length + 1]? = some (.bool y) := by
  rw [h.2.2 (ini.length + 1) (by simp)]; simp

set_option maxHeartbeats 1000000 in
set_option maxRecDepth 100000 in
theorem c_runCode (A : Option Addr) (n c : Nat) (l : List Int) (s : Int) (w : World) (h : Ints w A n l) (hok : Sp.codeOk l = true) (hs0 : 0 ≤ s) (hs1 : s ≤ 31) :
    Calls Tryd.prog 102 #[.slice A n c, .int .i64 s] w (RetK (.bool (Sp.run l s.toNat)) w) := by
  have hn := h.le
  have HL := Lib.hid h.len
  have HB := Lib.hid (fun k hk => bot_step s.toNat hok (k := k) hk)
  have HE := Lib.hid (bot_end (s := s.toNat) hok)
  clear hok
  go_enter Tryd.func102, Tryd.ntmps102
  go_wp2_with fail
  go_loopw [6, 11] (fun v i wr => ∃ (k m : Nat) (arr : Array Value) (bs : List Bool), k ≤ n ∧ i = .int .i64 k ∧ v = .int .i64 m ∧ wr = w.alloc (.cells arr 166) ∧ Stk arr bs ∧ Hid (bs = Sp.bot l s.toNat k) ∧ Hid (bs.length = m)) (fun _ i _ => n - (intOf i).toNat)
  case atStart => exact ⟨0, 0, _, [], Nat.zero_le _, rfl, rfl, rfl, ⟨by rfl, by simp, by simp⟩, rfl, rfl⟩
  case round =>
    obtain ⟨k, m, arr, bs, hk, rfl, rfl, rfl, hstk, HS, HM⟩ := hrel
    have hsz := hstk.1
    by_cases hlt : k < n
    · obtain ⟨b, off, rfl, hb, hc, hin⟩ := h.at hlt
      have hc' : (w.alloc (.cells arr 166)).cell? ⟨b, off + k, none⟩ = some (.int .i64 (l.getD k default)) := by rw [World.cell?_alloc_lt _ _ _ hb]; exact hc
      have hkl : k < l.length := by rw [HL.out]; exact hlt
      obtain ⟨hx0, hx9, hx3, hx4, hx5⟩ := HB.out k hkl
      rw [← HS.out, HM.out] at hx3 hx4
      have hold : m < 40 → ∃ u, arr[m]? = some u := fun h => ⟨_, Array.getElem?_eq_getElem (by rw [hsz]; exact h)⟩
      obtain ⟨u, hu⟩ := hold (by omega)
      have HSZ := Lib.hid hsz
      have G1 := Lib.hid (@bot_fact l s.toNat k hkl)
      have G2 := Lib.hid (@bot_yes l s.toNat k hkl)
      have G3 := Lib.hid (@bot_no l s.toNat k hkl)
      have G4 := Lib.hid (@bot_not l s.toNat k hkl)
      have G5 := Lib.hid (@bot_and l s.toNat k hkl)
      have G6 := Lib.hid (@bot_or l s.toNat k hkl)
      rw [← HS.out] at G1 G2 G3 G4 G5 G6
      generalize l.getD k default = x at *
      clear hin hkl hc hold hsz
      by_cases h5 : x < 5
      · have HG := Lib.hid (G1.out hx0 h5)
        clear G1 G2 G3 G4 G5 G6 hx3
        obtain ⟨x, rfl⟩ := Int.eq_ofNat_of_zero_le hx0
        obtain ⟨s, rfl⟩ := Int.eq_ofNat_of_zero_le hs0
        rw [Int.toNat_natCast, Int.toNat_natCast] at HG
        have hab := and_bit s x (by omega)
        have hb1 := bit_one (s.testBit x)
        have n5 : ((x : Int) == 5) = false := by simp; omega
        have n6 : ((x : Int) == 6) = false := by simp; omega
        have n7 : ((x : Int) == 7) = false := by simp; omega
        have n8 : ((x : Int) == 8) = false := by simp; omega
        have n9 : ((x : Int) == 9) = false := by simp; omega
        go_wp2_with fail
        exact ⟨⟨k + 1, m + 1, _, bs ++ [s.testBit x], by omega, by go_num, by go_num, rfl, by have := hstk.push (by rw [HM.out]; omega) (s.testBit x); rwa [HM.out] at this, HG.out.symm, by show (bs ++ [_]).length = m + 1; rw [List.length_append, HM.out]; rfl⟩, by simp [intOf]; omega⟩
      · have hx5' : (x < 5) = False := by simp; omega
        by_cases e5 : x = 5
        · subst e5
          have HG := Lib.hid (G2.out rfl)
          clear G1 G2 G3 G4 G5 G6 hx3 hx5'
          go_wp2_with fail
          exact ⟨⟨k + 1, m + 1, _, bs ++ [true], by omega, by go_num, by go_num, rfl, by have := hstk.push (by rw [HM.out]; omega) (true); rwa [HM.out] at this, HG.out.symm, by show (bs ++ [_]).length = m + 1; rw [List.length_append, HM.out]; rfl⟩, by simp [intOf]; omega⟩
        by_cases e6 : x = 6
        · subst e6
          have HG := Lib.hid (G3.out rfl)
          clear G1 G2 G3 G4 G5 G6 hx3 hx5'
          go_wp2_with fail
          exact ⟨⟨k + 1, m + 1, _, bs ++ [false], by omega, by go_num, by go_num, rfl, by have := hstk.push (by rw [HM.out]; omega) (false); rwa [HM.out] at this, HG.out.symm, by show (bs ++ [_]).length = m + 1; rw [List.length_append, HM.out]; rfl⟩, by simp [intOf]; omega⟩
        by_cases e7 : x = 7
        · subst e7
          rw [show Sp.takes 7 = 1 from rfl] at hx3
          obtain ⟨ini, y, hbs, hnx⟩ := G4.out rfl (by rw [HM.out]; exact hx3)
          clear G1 G2 G3 G4 G5 G6 hx5'
          subst hbs
          obtain rfl : m = ini.length + 1 := by rw [← HM.out]; simp
          have hcell := hstk.get
          have HG := Lib.hid hnx
          clear hnx
          go_wp2_with fail
          exact ⟨⟨k + 1, ini.length + 1, _, ini ++ [!y], by omega, by go_num, rfl, rfl, hstk.set_ _, HG.out.symm, by show (ini ++ [!y]).length = _; simp⟩, by simp [intOf]; omega⟩
        by_cases e8 : x = 8
        · subst e8
          rw [show Sp.takes 8 = 2 from rfl] at hx3
          obtain ⟨ini, y, z, hbs, hnx⟩ := G5.out rfl (by rw [HM.out]; exact hx3)
          clear G1 G2 G3 G4 G5 G6 hx5'
          subst hbs
          obtain rfl : m = ini.length + 2 := by rw [← HM.out]; simp
          have hcell := hstk.get
          have hcell2 := hstk.get2
          have HG := Lib.hid hnx
          clear hnx
          cases y
          all_goals
            go_wp2_with fail
            exact ⟨⟨k + 1, ini.length + 1, _, ini ++ [_], by omega, by go_num, by go_num, rfl, hstk.set_ _, HG.out.symm, by show (ini ++ [_]).length = _; simp⟩, by simp [intOf]; omega⟩
        · obtain rfl : x = 9 := by omega
          rw [show Sp.takes 9 = 2 from rfl] at hx3
          obtain ⟨ini, y, z, hbs, hnx⟩ := G6.out rfl (by rw [HM.out]; exact hx3)
          clear G1 G2 G3 G4 G5 G6 hx5'
          subst hbs
          obtain rfl : m = ini.length + 2 := by rw [← HM.out]; simp
          have hcell := hstk.get
          have hcell2 := hstk.get2
          have HG := Lib.hid hnx
          clear hnx
          cases y
          all_goals
            go_wp2_with fail
            exact ⟨⟨k + 1, ini.length + 1, _, ini ++ [_], by omega, by go_num, by go_num, rfl, hstk.set_ _, HG.out.symm, by show (ini ++ [_]).length = _; simp⟩, by simp [intOf]; omega⟩
    · have hkn : k = n := by omega
      have hfin : bs = [Sp.run l s.toNat] := by rw [HS.out, hkn, ← HL.out]; exact HE.out
      subst hfin
      have hcell : arr[0]? = some (.bool (Sp.run l s.toNat)) := hstk.get (ini := [])
      clear hsz hstk
      go_wp2_with fail
      go_ret
      exact ⟨rfl, (Kept.refl w).alloc _⟩

end Go.Proofs.YtphdojebdclonaaDoor

namespace Go.Proofs.YtphdojebdclonaaDoor
set_option linter.unusedSimpArgs false
set_option linter.unusedVariables false
open Go.RowKit

def Sp.codeTruth (l : List Int) : Int := if Sp.codeOk l = true then (Sp.truth l : Nat) else -1

theorem c_sCodeTruth (A : Option Addr) (n c : Nat) (l : List Int) (w : World) (h : Ints w A n l) :
    Calls Tryd.prog 66 #[.slice A n c] w (RetK (.int .i64 (Sp.codeTruth l)) w) := by
  cases hok : Sp.codeOk l
  · have HE : Hid (Sp.codeTruth l = -1) := by show _ = _; unfold Sp.codeTruth; rw [if_neg (by simp [hok])]
    have HO := Lib.hid hok
    clear hok
    go_enter Tryd.func66, Tryd.ntmps66
    go_wp2_with fail
    refine (c_sCodeValid _ _ _ _ _ h).mono ?_; rintro e w2 ⟨rfl, rfl⟩
    rw [HO.out]
    go_wp2_with fail
    go_ret
    exact ⟨ret_int HE.out.symm, Kept.refl _⟩
  · have HE : Hid (Sp.codeTruth l = (Sp.truth l : Nat)) := by show _ = _; unfold Sp.codeTruth; rw [if_pos hok]
    have HO := Lib.hid hok
    clear hok
    go_enter Tryd.func66, Tryd.ntmps66
    go_wp2_with fail
    refine (c_sCodeValid _ _ _ _ _ h).mono ?_; rintro e w2 ⟨rfl, rfl⟩
    rw [HO.out]
    go_wp2_with fail
    go_loopw [3, 4] (fun x i wr => ∃ k : Nat, k ≤ 32 ∧ i = .int .i64 k ∧ x = .int .i64 (Sp.setOf k (Sp.run l)) ∧ Kept w wr) (fun _ i _ => 32 - (intOf i).toNat)
    case atStart => exact ⟨0, by omega, rfl, rfl, Kept.refl _⟩
    case round =>
      obtain ⟨k, hk, rfl, rfl, hkp⟩ := hrel
      by_cases hlt : k < 32
      · have hbd := setOf_bd k (Sp.run l) hk
        have hsh := bin_shl_one k (by omega)
        obtain ⟨hp1, hp2⟩ := p2_bd32 k hk
        have HH := Lib.hid (setOf_step k (Sp.run l) hlt)
        cases hev : Sp.run l k
        all_goals
          have HE2 := Lib.hid hev
          clear hev
          go_wp2_with fail
          refine (c_l5Run _ _ _ _ _ _ (h.keep hkp) HO.out (by omega) (by omega)).mono ?_; rintro e w2 ⟨rfl, hk2⟩
          rw [Int.toNat_natCast, HE2.out]
          go_wp2_with fail
        · exact ⟨⟨k + 1, by omega, by go_num, by rw [HH.out.2.2 HE2.out], hkp.trans hk2⟩, by simp [intOf]; omega⟩
        · exact ⟨⟨k + 1, by omega, by go_num, by rw [HH.out.1 HE2.out], hkp.trans hk2⟩, by simp [intOf]; omega⟩
      · obtain rfl : k = 32 := by omega
        go_wp2_with fail
        go_ret
        exact ⟨ret_int HE.out.symm, hkp⟩

theorem c_iCodeTruth (A : Option Addr) (n c : Nat) (l : List Int) (w : World) (h : Ints w A n l) :
    Calls Tryd.prog 44 #[.slice A n c] w (RetK (.int .i64 (Sp.codeTruth l)) w) := by
  cases hok : Sp.codeOk l
  · have HE : Hid (Sp.codeTruth l = -1) := by show _ = _; unfold Sp.codeTruth; rw [if_neg (by simp [hok])]
    have HO := Lib.hid hok
    clear hok
    go_enter Tryd.func44, Tryd.ntmps44
    go_wp2_with fail
    refine (c_iCodeValid _ _ _ _ _ h).mono ?_; rintro e w2 ⟨rfl, rfl⟩
    rw [HO.out]
    go_wp2_with fail
    go_ret
    exact ⟨ret_int HE.out.symm, Kept.refl _⟩
  · have HE : Hid (Sp.codeTruth l = (Sp.truth l : Nat)) := by show _ = _; unfold Sp.codeTruth; rw [if_pos hok]
    have HO := Lib.hid hok
    clear hok
    go_enter Tryd.func44, Tryd.ntmps44
    go_wp2_with fail
    refine (c_iCodeValid _ _ _ _ _ h).mono ?_; rintro e w2 ⟨rfl, rfl⟩
    rw [HO.out]
    go_wp2_with fail
    go_loopw [3, 8] (fun x i wr => ∃ k : Nat, k ≤ 32 ∧ i = .int .i64 k ∧ x = .int .i64 (Sp.setOf k (Sp.run l)) ∧ Kept w wr) (fun _ i _ => 32 - (intOf i).toNat)
    case atStart => exact ⟨0, by omega, rfl, rfl, Kept.refl _⟩
    case round =>
      obtain ⟨k, hk, rfl, rfl, hkp⟩ := hrel
      by_cases hlt : k < 32
      · have hbd := setOf_bd k (Sp.run l) hk
        have hsh := bin_shl_one k (by omega)
        have hor := or_p2 _ k hbd hlt
        have HH := Lib.hid (setOf_step k (Sp.run l) hlt)
        cases hev : Sp.run l k
        all_goals
          have HE2 := Lib.hid hev
          clear hev
          go_wp2_with fail
          refine (c_runCode _ _ _ _ _ _ (h.keep hkp) HO.out (by omega) (by omega)).mono ?_; rintro e w2 ⟨rfl, hk2⟩
          rw [Int.toNat_natCast, HE2.out]
          go_wp2_with fail
        · exact ⟨⟨k + 1, by omega, by go_num, by rw [HH.out.2.2 HE2.out], hkp.trans hk2⟩, by simp [intOf]; omega⟩
        · exact ⟨⟨k + 1, by omega, by go_num, by rw [HH.out.2.1 HE2.out], hkp.trans hk2⟩, by simp [intOf]; omega⟩
      · obtain rfl : k = 32 := by omega
        go_wp2_with fail
        go_ret
        exact ⟨ret_int HE.out.symm, hkp⟩

/-! the only end -/

def Sp.oneOf (f : Nat → Bool) : Int := match (List.range 32).find? (fun s => Sp.setOf 32 f == 2 ^ s) with | some s => s | none => -1
def Sp.goalOne (t : Sp.Task) : Int := if Sp.taskOk t = true then Sp.oneOf (Sp.run t.goal) else -1

theorem one_yes {f : Nat → Bool} {k : Nat} (hk : k < 32) (h : Sp.setOf 32 f = 2 ^ k) : Sp.oneOf f = k := by
  unfold Sp.oneOf
  cases hf : (List.range 32).find? (fun s => Sp.setOf 32 f == 2 ^ s) with
  | none =>
    have := List.find?_eq_none.1 hf k (List.mem_range.2 hk)
    simp [h] at this
  | some s =>
    have h1 := List.find?_some hf
    simp only [beq_iff_eq] at h1
    rw [h] at h1
    have := (Nat.pow_right_inj (by decide)).1 h1
    simp only
    omega

theorem one_no {f : Nat → Bool} (h : ∀ k, k < 32 → Sp.setOf 32 f ≠ 2 ^ k) : Sp.oneOf f = -1 := by
  unfold Sp.oneOf
  cases hf : (List.range 32).find? (fun s => Sp.setOf 32 f == 2 ^ s) with
  | none => rfl
  | some s =>
    have h1 := List.find?_some hf
    simp only [beq_iff_eq] at h1
    exact absurd h1 (h s (List.mem_range.1 (List.mem_of_find?_eq_some hf)))

theorem one_bit {f : Nat → Bool} {k : Nat} (h : Sp.setOf 32 f = 2 ^ k) (s : Nat) (hs : s < 32) : f s = decide (k = s) := by
  have := Sp.testBit_setOf 32 f s
  rw [h, Nat.testBit_two_pow] at this
  simp only [hs, decide_true, Bool.true_and] at this
  exact this.symm

theorem one_only {f : Nat → Bool} {k : Nat} (hk : k < 32) (h1 : f k = true) (h2 : ∀ s, s < 32 → s ≠ k → f s = false) : Sp.oneOf f = k := by
  refine one_yes hk (Nat.eq_of_testBit_eq fun s => ?_)
  rw [Sp.testBit_setOf, Nat.testBit_two_pow]
  by_cases hs : s < 32
  · by_cases e : k = s
    · subst e; simp [hk, h1]
    · simp [hs, e, h2 s hs (fun e' => e e'.symm)]
  · have : k ≠ s := by omega
    simp [hs, this]

theorem one_two {f : Nat → Bool} {a b : Nat} (ha : a < 32) (hb : b < 32) (hab : a ≠ b) (h1 : f a = true) (h2 : f b = true) : Sp.oneOf f = -1 := by
  refine one_no fun k _ h => ?_
  have e1 := one_bit h a ha
  have e2 := one_bit h b hb
  rw [h1] at e1
  rw [h2] at e2
  have e1 := of_decide_eq_true e1.symm
  have e2 := of_decide_eq_true e2.symm
  omega

theorem one_none {f : Nat → Bool} (h : ∀ s, s < 32 → f s = false) : Sp.oneOf f = -1 := by
  refine one_no fun k hk h2 => ?_
  have := one_bit h2 k hk
  rw [h k hk] at this
  simp at this

end Go.Proofs.YtphdojebdclonaaDoor

namespace Go.Proofs.YtphdojebdclonaaDoor
set_option linter.unusedSimpArgs false
set_option linter.unusedVariables false
open Go.RowKit

/-- a task laid in a box, and read from there later -/
theorem TaskV.box {w : World} {A A' : Option Addr} {n c n' c' : Nat} {t : Sp.Task} {T : TypeId} (h : TaskV w (.agg #[.int .i64 t.start, .slice A n c, .slice A' n' c']) t) :
    TaskV (w.alloc (.cells #[.int .i64 t.start, .slice A n c, .slice A' n' c'] T)) (.agg #[.int .i64 t.start, .slice A n c, .slice A' n' c']) t := h.keep ((Kept.refl w).alloc _)

theorem TaskV.goal {w : World} {A A' : Option Addr} {n c n' c' : Nat} {t : Sp.Task} (h : TaskV w (.agg #[.int .i64 t.start, .slice A n c, .slice A' n' c']) t) : Ints w A n t.goal := by
  obtain ⟨A1, n1, c1, A2, n2, c2, e, h1, _⟩ := h
  simp only [Value.agg.injEq, Array.mk.injEq, List.cons.injEq, Value.slice.injEq, and_true, true_and] at e
  obtain ⟨⟨rfl, rfl, rfl⟩, _⟩ := e
  exact h1
theorem TaskV.deeds {w : World} {A A' : Option Addr} {n c n' c' : Nat} {t : Sp.Task} (h : TaskV w (.agg #[.int .i64 t.start, .slice A n c, .slice A' n' c']) t) : Deeds w A' n' t.deeds := by
  obtain ⟨A1, n1, c1, A2, n2, c2, e, _, h1, _⟩ := h
  simp only [Value.agg.injEq, Array.mk.injEq, List.cons.injEq, Value.slice.injEq, and_true, true_and] at e
  obtain ⟨_, rfl, rfl, rfl⟩ := e
  exact h1













































































































































end Go.Proofs.YtphdojebdclonaaDoor

namespace Go.Proofs.YtphdojebdclonaaDoor
set_option linter.unusedSimpArgs false
set_option linter.unusedVariables false
open Go.RowKit

def Sp.turnOk (d : Sp.Deed) : Bool := d.on == 0 && d.off == 0 && Sp.truth d.need == 4294967295
def Sp.onlyTurns (t : Sp.Task) : Bool := Sp.taskOk t && t.deeds.all Sp.turnOk

theorem only_no {t : Sp.Task} {k : Nat} (h : k < t.deeds.length) (hp : Sp.turnOk (t.deeds.getD k default) = false) : Sp.onlyTurns t = false := by
  unfold Sp.onlyTurns
  rw [all_take_no _ _ k h hp, Bool.and_false]

theorem deedOk_need {d : Sp.Deed} (h : Sp.deedOk d = true) : Sp.codeOk d.need = true := by
  unfold Sp.deedOk at h
  simp only [Bool.and_eq_true] at h
  exact h.1.1.1.1.1.1
theorem deedOk_on {d : Sp.Deed} (h : Sp.deedOk d = true) : 0 ≤ d.on ∧ d.on ≤ 31 := by
  unfold Sp.deedOk at h
  simp only [Bool.and_eq_true] at h
  exact st_bd h.1.1.1.1.1.2
theorem deedOk_off {d : Sp.Deed} (h : Sp.deedOk d = true) : 0 ≤ d.off ∧ d.off ≤ 31 := by
  unfold Sp.deedOk at h
  simp only [Bool.and_eq_true] at h
  exact st_bd h.1.1.1.1.2
theorem deedOk_flip {d : Sp.Deed} (h : Sp.deedOk d = true) : 0 ≤ d.flip ∧ d.flip ≤ 31 := by
  unfold Sp.deedOk at h
  simp only [Bool.and_eq_true] at h
  exact st_bd h.1.1.1.2
theorem truth_codeTruth {l : List Int} (h : Sp.codeOk l = true) : Sp.codeTruth l = (Sp.truth l : Nat) := by unfold Sp.codeTruth; rw [if_pos h]
theorem truth_bd (l : List Int) : Sp.truth l < 4294967296 := setOf_bd 32 (Sp.run l) (Nat.le_refl _)

set_option maxRecDepth 100000 in
theorem c_sOnlyTurns (v : Value) (t : Sp.Task) (w : World) (h : TaskV w v t) : Calls Tryd.prog 157 #[v] w (RetK (.bool (Sp.onlyTurns t)) w) := by
  obtain ⟨A, n, c, A', n', c', rfl⟩ := h.form
  have hk0 := (Kept.refl w).alloc (.cells #[.int .i64 t.start, .slice A n c, .slice A' n' c'] 26)
  have B0 := Blk.new w 26 #[.int .i64 t.start, .slice A n c, .slice A' n' c']
  have hn := h.deeds.le
  have HL := Lib.hid h.deeds.len
  cases hto : Sp.taskOk t
  · have HE : Hid (Sp.onlyTurns t = false) := by show _ = _; unfold Sp.onlyTurns; rw [hto]; rfl
    have HT := Lib.hid hto
    clear hto
    by_cases h0 : (0 : Int) < (n' : Int)
    · go_enter Tryd.func157, Tryd.ntmps157
      go_wp2_with fail
      refine wp_loop_rounds 1 ?_
      rw [rounds_succ]
      go_wp2_with fail
      refine (c_sTaskValid _ t _ h.box).mono ?_; rintro e w2 ⟨rfl, hk2⟩
      rw [HT.out]
      replace B0 := B0.kept hk2
      have c0 := B0.cell
      go_wp2_with fail
      refine (c_sTaskValid _ t _ (h.keep (hk0.trans hk2))).mono ?_; rintro e w3 ⟨rfl, hk3⟩
      rw [HT.out]
      go_wp2_with fail
      go_ret
      exact ⟨ret_bool HE.out.symm, (hk0.trans hk2).trans hk3⟩
    · go_enter Tryd.func157, Tryd.ntmps157
      go_wp2_with fail
      refine wp_loop_rounds 1 ?_
      rw [rounds_succ]
      go_wp2_with fail
      refine (c_sTaskValid _ t _ h.box).mono ?_; rintro e w2 ⟨rfl, hk2⟩
      rw [HT.out]
      go_wp2_with fail
      go_ret
      exact ⟨ret_bool HE.out.symm, hk0.trans hk2⟩
  have HT := Lib.hid hto
  clear hto
  go_enter Tryd.func157, Tryd.ntmps157
  go_wp2_with fail
  go_loopw [3] (fun i wr => ∃ k : Nat, k ≤ n' ∧ i = .int .i64 k ∧ Kept w wr ∧ Blk wr w.heap.size 26 #[.int .i64 t.start, .slice A n c, .slice A' n' c'] ∧ Hid ((t.deeds.take k).all Sp.turnOk = true)) (fun i _ => n' - (intOf i).toNat)
  case atStart => exact ⟨0, Nat.zero_le _, rfl, hk0, B0, rfl⟩
  case round =>
    obtain ⟨k, hk, rfl, hkp, hB, HA⟩ := hrel
    have c0 := hB.cell
    by_cases hlt : k < n'
    · go_wp2_with fail
      refine (c_sTaskValid _ t _ (h.keep hkp)).mono ?_; rintro e w2 ⟨rfl, hk2⟩
      rw [HT.out]
      replace hB := hB.kept hk2
      replace hkp := hkp.trans hk2
      clear c0 hk2
      have c0 := hB.cell
      have hkl : k < t.deeds.length := by rw [HL.out]; exact hlt
      obtain ⟨b, off, rfl, hb, hc⟩ := (h.keep hkp).deeds.at hlt
      have HY := Lib.hid (all_take_succ t.deeds Sp.turnOk k hkl)
      have HN := Lib.hid (@only_no t k hkl)
      have hdo := Sp.taskOk_deed HT.out hkl
      generalize t.deeds.getD k default = d at *
      obtain ⟨A2, n2, c2, hc0, hc1, hc2, hc3, hdv⟩ := hc.v
      obtain ⟨_, _, _, _, hneed, _⟩ := hdv
      obtain ⟨A2, n2, c2, q0, hI, hc1, hc2, hc3, _⟩ := hc
      have HC := Lib.hid (truth_codeTruth (deedOk_need hdo))
      have htb := truth_bd d.need
      clear hdo hneed hc0
      by_cases h1 : d.on = 0
      · have h1b : (d.on != 0) = false := by simp [h1]
        by_cases h2 : d.off = 0
        · have h2b : (d.off != 0) = false := by simp [h2]
          have HX : Hid (Sp.turnOk d = (Sp.truth d.need == 4294967295)) := by show _ = _; unfold Sp.turnOk; rw [h1, h2]; rfl
          clear h1 h2
          go_wp2_with fail
          refine (c_sCodeTruth _ _ _ _ _ hI).mono ?_; rintro e w3 ⟨rfl, hk3⟩
          rw [HC.out]
          by_cases h3 : Sp.truth d.need = 4294967295
          · have HX2 : Hid (Sp.turnOk d = true) := by show _ = true; rw [HX.out, h3]; rfl
            have HY' : Hid ((t.deeds.take (k + 1)).all Sp.turnOk = true) := by show _ = true; rw [HY.out, HA.out, HX2.out]; rfl
            have h3b : ((Sp.truth d.need : Int) != 4294967295) = false := by simp; omega
            clear h3
            go_wp2_with fail
            exact ⟨⟨k + 1, by omega, by go_num, hkp.trans hk3, hB.kept hk3, HY'⟩, by simp [intOf]; omega⟩
          · have HX2 : Hid (Sp.turnOk d = false) := by show _ = false; rw [HX.out]; simpa using h3
            have h3b : ((Sp.truth d.need : Int) != 4294967295) = true := by simp; omega
            clear h3
            go_wp2_with fail
            go_ret
            exact ⟨ret_bool (HN.out HX2.out).symm, hkp.trans hk3⟩
        · have HX : Hid (Sp.turnOk d = false) := by show _ = false; unfold Sp.turnOk; simp [h2]
          have h2b : (d.off != 0) = true := by simp [h2]
          clear h1 h2
          go_wp2_with fail
          go_ret
          exact ⟨ret_bool (HN.out HX.out).symm, hkp⟩
      · have HX : Hid (Sp.turnOk d = false) := by show _ = false; unfold Sp.turnOk; simp [h1]
        have h1b : (d.on != 0) = true := by simp [h1]
        clear h1
        go_wp2_with fail
        go_ret
        exact ⟨ret_bool (HN.out HX.out).symm, hkp⟩
    · have HX : Hid (Sp.onlyTurns t = true) := by
        have := HA.out
        rw [Sp.take_all _ k (by rw [HL.out]; omega)] at this
        show _ = true
        unfold Sp.onlyTurns
        rw [HT.out, this]; rfl
      go_wp2_with fail
      refine (c_sTaskValid _ t _ (h.keep hkp)).mono ?_; rintro e w2 ⟨rfl, hk2⟩
      rw [HT.out]
      go_wp2_with fail
      go_ret
      exact ⟨ret_bool HX.out.symm, hkp.trans hk2⟩

theorem c_iOnlyTurns (v : Value) (t : Sp.Task) (w : World) (h : TaskV w v t) : Calls Tryd.prog 160 #[v] w (RetK (.bool (Sp.onlyTurns t)) w) := by
  obtain ⟨A, n, c, A', n', c', rfl⟩ := h.form
  have hk0 := (Kept.refl w).alloc (.cells #[.int .i64 t.start, .slice A n c, .slice A' n' c'] 26)
  have B0 := Blk.new w 26 #[.int .i64 t.start, .slice A n c, .slice A' n' c']
  have hn := h.deeds.le
  have HL := Lib.hid h.deeds.len
  go_enter Tryd.func160, Tryd.ntmps160
  go_wp2_with fail
  refine (c_iTaskValid _ t _ h.box).mono ?_; rintro e w2 ⟨rfl, hk2⟩
  replace hk0 := hk0.trans hk2
  replace B0 := B0.kept hk2
  have c0 := B0.cell
  cases hto : Sp.taskOk t
  · have HE : Hid (Sp.onlyTurns t = false) := by show _ = _; unfold Sp.onlyTurns; rw [hto]; rfl
    clear hto
    go_wp2_with fail
    go_ret
    exact ⟨ret_bool HE.out.symm, hk0⟩
  have HT := Lib.hid hto
  clear hto
  go_wp2_with fail
  clear c0 B0 hk2
  go_loopw [11] (fun i wr => ∃ k : Nat, k ≤ n' ∧ i = .int .i64 k ∧ Kept w wr ∧ Hid ((t.deeds.take k).all Sp.turnOk = true)) (fun i _ => n' - (intOf i).toNat)
  case atStart => exact ⟨0, Nat.zero_le _, rfl, hk0, rfl⟩
  case round =>
    obtain ⟨k, hk, rfl, hkp, HA⟩ := hrel
    by_cases hlt : k < n'
    · have hkl : k < t.deeds.length := by rw [HL.out]; exact hlt
      obtain ⟨b, off, rfl, hb, hc⟩ := (h.keep hkp).deeds.at hlt
      have HY := Lib.hid (all_take_succ t.deeds Sp.turnOk k hkl)
      have HN := Lib.hid (@only_no t k hkl)
      have hdo := Sp.taskOk_deed HT.out hkl
      generalize t.deeds.getD k default = d at *
      obtain ⟨A2, n2, c2, hc0, hI, hc1, hc2, hc3, _⟩ := hc
      have hkb := (Kept.refl wr).alloc (.cells #[.slice A2 n2 c2, .int .i64 d.on, .int .i64 d.off, .int .i64 d.flip] 72)
      have HC := Lib.hid (truth_codeTruth (deedOk_need hdo))
      have htb := truth_bd d.need
      clear hdo
      by_cases h1 : d.on = 0
      · have h1b : (d.on != 0) = false := by simp [h1]
        by_cases h2 : d.off = 0
        · have h2b : (d.off != 0) = false := by simp [h2]
          have HX : Hid (Sp.turnOk d = (Sp.truth d.need == 4294967295)) := by show _ = _; unfold Sp.turnOk; rw [h1, h2]; rfl
          clear h1 h2
          go_wp2_with fail
          refine (c_iCodeTruth _ _ _ _ _ (hI.keep hkb)).mono ?_; rintro e w3 ⟨rfl, hk3⟩
          rw [HC.out]
          by_cases h3 : Sp.truth d.need = 4294967295
          · have HX2 : Hid (Sp.turnOk d = true) := by show _ = true; rw [HX.out, h3]; rfl
            have HY' : Hid ((t.deeds.take (k + 1)).all Sp.turnOk = true) := by show _ = true; rw [HY.out, HA.out, HX2.out]; rfl
            have h3b : ((Sp.truth d.need : Int) != 4294967295) = false := by simp; omega
            clear h3
            go_wp2_with fail
            exact ⟨⟨k + 1, by omega, by go_num, hkp.trans (hkb.trans hk3), HY'⟩, by simp [intOf]; omega⟩
          · have HX2 : Hid (Sp.turnOk d = false) := by show _ = false; rw [HX.out]; simpa using h3
            have h3b : ((Sp.truth d.need : Int) != 4294967295) = true := by simp; omega
            clear h3
            go_wp2_with fail
            go_ret
            exact ⟨ret_bool (HN.out HX2.out).symm, hkp.trans (hkb.trans hk3)⟩
        · have HX : Hid (Sp.turnOk d = false) := by show _ = false; unfold Sp.turnOk; simp [h2]
          have h2b : (d.off != 0) = true := by simp [h2]
          clear h1 h2
          go_wp2_with fail
          go_ret
          exact ⟨ret_bool (HN.out HX.out).symm, hkp.trans hkb⟩
      · have HX : Hid (Sp.turnOk d = false) := by show _ = false; unfold Sp.turnOk; simp [h1]
        have h1b : (d.on != 0) = true := by simp [h1]
        clear h1
        go_wp2_with fail
        go_ret
        exact ⟨ret_bool (HN.out HX.out).symm, hkp.trans hkb⟩
    · have HX : Hid (Sp.onlyTurns t = true) := by
        have := HA.out
        rw [Sp.take_all _ k (by rw [HL.out]; omega)] at this
        show _ = true
        unfold Sp.onlyTurns
        rw [HT.out, this]; rfl
      go_wp2_with fail
      go_ret
      exact ⟨ret_bool HX.out.symm, hkp⟩

end Go.Proofs.YtphdojebdclonaaDoor
