/- Walks: NumbersFor. No condition. -/
import Derived.Test.YtjmpfemlihjibaaDoorG10
import Derived.Maps.AppendAt
namespace Go.Proofs.YtjmpfemlihjibaaDoor
open Go.RowKit

/-- 40 in place of none -/
def Sp.big (x : Int) : Int := if x < 0 then 40 else x
theorem big_in {x : Int} (h : Sp.inI x) : Sp.inI (Sp.big x) := by unfold Sp.big Sp.inI at *; split <;> omega
def Sp.numbersFor (t : Sp.Task) : List Int := (Sp.stepsLeast t).map Sp.big
theorem numbersFor_len (t : Sp.Task) : (Sp.numbersFor t).length ≤ 1073741824 := by unfold Sp.numbersFor; rw [List.length_map]; exact stepsLeast_len t

theorem Own.row {w : World} {g n : Nat} {l : List Int} (h : Own w g n l) (hn : 0 < n) : IntRow w g n (fun s => l.getD s default) := by
  refine ⟨h.1, h.2.1, fun s hs => ?_⟩
  obtain ⟨b, o, e, _, hc⟩ := h.2.2.2.2.2 hn
  simp only [Option.some.injEq, Addr.mk.injEq] at e
  obtain ⟨rfl, rfl, _⟩ := e
  have := hc s hs
  rwa [Nat.zero_add] at this

theorem c_mostForNone (w0 : World) (g n c : Nat) (f : Nat → Int) (w : World) (h : IntRow w g n f) (hk : Kept w0 w) (hg : w0.heap.size ≤ g) (hn : n ≤ 1073741824) :
    Calls Tryd.prog 61 #[.slice (some ⟨g, 0, none⟩) n c] w (RetS (fun v w' => v = .slice (some ⟨g, 0, none⟩) n c ∧ IntRow w' g n (fun s => Sp.big (f s))) w0) := by
  go_enter Tryd.func61, Tryd.ntmps61
  go_wp2_with fail
  go_loopw [7] (fun i wr => ∃ k : Nat, k ≤ n ∧ i = .int .i64 k ∧ Kept w0 wr ∧ IntRow wr g n (fun s => if s < k then Sp.big (f s) else f s)) (fun i _ => n - (intOf i).toNat)
  case atStart => exact ⟨0, Nat.zero_le _, rfl, hk, h.congr fun s _ => by rw [if_neg (by omega)]⟩
  case round =>
    obtain ⟨k, hkn, rfl, hkp, hR⟩ := hrel
    by_cases hlt : k < n
    · have c0 := hR.2.2 k hlt
      simp only [Nat.lt_irrefl, if_false] at c0
      have f0 := hR.2.1 k
      by_cases hx : f k < 0
      · have hR2 := (hR.set hlt 40).congr (f' := fun s => if s < k + 1 then Sp.big (f s) else f s) fun s hs => by
          by_cases e : s = k
          · subst e; rw [if_pos rfl, if_pos (by omega)]; unfold Sp.big; rw [if_pos hx]
          · rw [if_neg e]
            by_cases e2 : s < k
            · rw [if_pos e2, if_pos (by omega)]
            · rw [if_neg e2, if_neg (by omega)]
        go_wp2_with fail
        exact ⟨⟨k + 1, by omega, by go_num, hkp.setCell (p := ⟨g, k, none⟩) hg _, hR2⟩, by simp [intOf]; omega⟩
      · have hR2 := hR.congr (f' := fun s => if s < k + 1 then Sp.big (f s) else f s) fun s hs => by
          by_cases e : s = k
          · subst e; rw [if_neg (by omega), if_pos (by omega)]; unfold Sp.big; rw [if_neg hx]
          · by_cases e2 : s < k
            · rw [if_pos e2, if_pos (by omega)]
            · rw [if_neg e2, if_neg (by omega)]
        go_wp2_with fail
        exact ⟨⟨k + 1, by omega, by go_num, hkp, hR2⟩, by simp [intOf]; omega⟩
    · have hR2 := hR.congr (f' := fun s => Sp.big (f s)) fun s hs => by rw [if_pos (by omega)]
      go_wp2_with fail
      go_ret
      exact ⟨_, rfl, ⟨rfl, hR2⟩, hkp⟩
theorem c_mostForNone0 (A : Option Addr) (c : Nat) (w : World) :
    Calls Tryd.prog 61 #[.slice A 0 c] w (RetK (.slice A 0 c) w) := by
  go_enter Tryd.func61, Tryd.ntmps61
  go_wp2_with fail
  go_loopw [7] (fun i wr => i = .int .i64 0 ∧ Kept w wr) (fun _ _ => 0)
  case atStart => exact ⟨rfl, Kept.refl w⟩
  case round =>
    obtain ⟨rfl, hkp⟩ := hrel
    go_wp2_with fail
    go_ret
    exact ⟨rfl, hkp⟩

/-- a list that a call made, with 40 in place of none -/
theorem c_mostOut (w0 : World) (l : List Int) (v : Value) (w : World) (h : OutInts w0 l v w) (hk : Kept w0 w) (hl : l.length ≤ 1073741824) (hi : ∀ x ∈ l, Sp.inI x) :
    Calls Tryd.prog 61 #[v] w (RetS (OutInts w0 (l.map Sp.big)) w0) := by
  obtain ⟨A, c, rfl, hI, hO⟩ := h
  by_cases h0 : l.length = 0
  · obtain rfl : l = [] := List.length_eq_zero_iff.1 h0
    refine (c_mostForNone0 A c w).mono ?_
    rintro e w2 ⟨rfl, hk2⟩
    exact ⟨_, rfl, OutInts.none _ _ _ _, hk.trans hk2⟩
  · obtain ⟨g, rfl, hg, _, hw⟩ := hO (by omega)
    refine (c_mostForNone w0 g l.length c _ w (hw.row (by omega)) hk hg hl).mono ?_
    rintro e w2 ⟨v, rfl, ⟨rfl, hR⟩, hk2⟩
    refine ⟨_, rfl, ?_, hk2⟩
    have := hR.own (l := l.map Sp.big) (by rw [List.length_map]) (by unfold maxLen; omega) (fun x hx => by
      obtain ⟨y, hy, rfl⟩ := List.mem_map.1 hx
      exact big_in (hi y hy)) (fun s hs => by simp [List.getD, hs])
    have e : l.length = (l.map Sp.big).length := by rw [List.length_map]
    rw [e] at this ⊢
    exact OutInts.of this hg

theorem stepsLeast_in (t : Sp.Task) : ∀ x ∈ Sp.stepsLeast t, Sp.inI x := by
  intro x hx
  unfold Sp.stepsLeast at hx
  split at hx
  · exact distList_in _ _ (truth_bd _) x hx
  · cases hx

theorem IntRow.grown {w w2 : World} {g n : Nat} {f : Nat → Int} {o : Obj} {row : Option Nat} (h : IntRow w g n f) (hg : (w.alloc o).grownBy w2 row) (hr : row ≠ some g) : IntRow w2 g n f := by
  have h' := h.keep ((Kept.refl w).alloc o)
  have hb := hg.block g h'.1 (fun e => hr e.symm)
  refine ⟨Nat.lt_of_lt_of_le h'.1 hg.size, fun i => ?_, fun s hs => ?_⟩
  · have := h'.2.1 i
    unfold World.frozen? at this ⊢
    rw [hb]; exact this
  · rw [World.cell?_of_block (a := ⟨g, s, none⟩) hb]; exact h'.2.2 s hs
theorem row_off {w : World} {A A' : Option Addr} {k c k' c' G : Nat} {o : Obj} (h : (Value.slice A k c).ownBlock ≠ some G) (hat : (Value.slice A' k' c').ownBlock = (Value.slice A k c).ownBlock ∨ (Value.slice A' k' c').ownBlock = some (w.alloc o).heap.size) (hG : G < w.heap.size) :
    Hid ((Value.slice A' k' c').ownBlock ≠ some G) := by
  show _ ≠ _
  rcases hat with e | e
  · rw [e]; exact h
  · rw [e]; simp; omega
theorem outInts_own {w w1 wr : World} {A : Option Addr} {l : List Int} {n c : Nat} (hn : n = l.length) (h : wr.ownsRow w1.heap.size 3 1 (.slice A n c) n ((l.take n).map (Value.int .i64))) (hm : n ≤ maxLen) (hw : w.heap.size ≤ w1.heap.size) (hi : ∀ x ∈ l.take n, Sp.inI x) :
    OutInts w (l.take n) (.slice A n c) wr := by
  subst hn
  rw [List.take_length] at h hi ⊢
  refine ⟨A, c, rfl, ?_⟩
  by_cases h0 : l.length = 0
  · have : l = [] := List.length_eq_zero_iff.1 h0
    subst this
    exact ⟨⟨rfl, Nat.zero_le _, fun x hx => (by cases hx), fun h => absurd h (Nat.lt_irrefl 0)⟩, fun h => absurd h (Nat.lt_irrefl 0)⟩
  · obtain ⟨_, g, rfl, hg, _, hR⟩ := own_row h (by omega)
    have := hR.own rfl hm hi (fun _ _ => rfl)
    exact ⟨this.ints, fun _ => ⟨g, rfl, by omega, this.1, this⟩⟩

theorem c_iNumbersFor (v : Value) (t : Sp.Task) (w : World) (h : TaskV w v t) : Calls Tryd.prog 23 #[v] w (RetS (OutInts w (Sp.numbersFor t)) w) := by
  obtain ⟨A, n, c, A', n', c', rfl⟩ := h.form
  have hk0 := (Kept.refl w).alloc (.cells #[.int .i64 t.start, .slice A n c, .slice A' n' c'] 30)
  have B0 := Blk.new w 30 #[.int .i64 t.start, .slice A n c, .slice A' n' c']
  have hT := h.keep hk0
  go_enter Tryd.func23, Tryd.ntmps23
  go_wp2_with fail
  refine (c_iTaskValid _ t _ hT).mono ?_; rintro e w2 ⟨rfl, hk2⟩
  replace hk0 := hk0.trans hk2
  replace B0 := B0.kept hk2
  replace hT := hT.keep hk2
  clear hk2
  have c0 := B0.cell
  cases ht : Sp.taskOk t
  · have HE : Hid (Sp.numbersFor t = []) := by show _ = _; unfold Sp.numbersFor Sp.stepsLeast; rw [ht]; simp
    clear ht
    go_wp2_with fail
    go_ret
    exact ⟨_, rfl, by rw [HE.out]; exact OutInts.none _ _ _ _, hk0⟩
  clear ht
  go_wp2_with fail
  refine (c_iStepsLeast _ t _ hT).mono ?_; rintro e w3 ⟨v, rfl, ⟨A2, c2, rfl, hO⟩, hk3⟩
  have hO2 : OutInts w (Sp.stepsLeast t) (.slice A2 (Sp.stepsLeast t).length c2) w3 := ⟨A2, c2, rfl, hO.1, fun h0 => by obtain ⟨g, h1, h2, h3⟩ := hO.2 h0; exact ⟨g, h1, Nat.le_trans hk0.size h2, h3⟩⟩
  replace hk0 := hk0.trans hk3
  clear hk3 c0 hO
  go_wp2_with fail
  refine (c_mostOut w _ _ _ hO2 hk0 (stepsLeast_len t) (stepsLeast_in t)).mono ?_; rintro e w4 ⟨v, rfl, hO3, hk4⟩
  go_wp2_with fail
  go_ret
  exact ⟨_, rfl, hO3, hk4⟩

theorem c_sNumbersFor (v : Value) (t : Sp.Task) (w : World) (h : TaskV w v t) : Calls Tryd.prog 25 #[v] w (RetS (OutInts w (Sp.numbersFor t)) w) := by
  obtain ⟨i0, hi0, hz0, hz1, hz2⟩ := info_parts info_int
  have HI := Lib.hid (And.intro hi0 (And.intro hz0 (And.intro hz1 hz2)))
  clear hi0 hz0 hz1 hz2
  obtain ⟨A, n, c, A', n', c', rfl⟩ := h.form
  have hk0 := (Kept.refl w).alloc (.cells #[.int .i64 t.start, .slice A n c, .slice A' n' c'] 30)
  have B0 := Blk.new w 30 #[.int .i64 t.start, .slice A n c, .slice A' n' c']
  have hT := h.keep hk0
  obtain ⟨l, HL⟩ : ∃ l, Hid (Sp.stepsLeast t = l) := ⟨_, rfl⟩
  have hll : l.length ≤ 1073741824 := by rw [← HL.out]; exact stepsLeast_len t
  have HIn := Lib.hid (stepsLeast_in t)
  rw [HL.out] at HIn
  go_enter Tryd.func25, Tryd.ntmps25
  go_wp2_with fail
  obtain ⟨w1, HW1⟩ : ∃ w1, Hid (w1 = w.alloc (.cells #[.int .i64 t.start, .slice A n c, .slice A' n' c'] 30)) := ⟨w.alloc (.cells #[.int .i64 t.start, .slice A n c, .slice A' n' c'] 30), rfl⟩
  have hz1 : w1.heap.size = w.heap.size + 1 := by rw [HW1.out]; simp
  rw [← HW1.out, ← hz1]
  rw [← HW1.out] at hk0 hT B0
  have hO0 := World.ownsRow_made (e := 3) (size := 1) w1 #[] 0 (Nat.le_refl _) (by unfold maxLen; omega) rfl
  have hk1 := (Kept.refl w1).alloc (.cells #[] 3)
  refine (c_sStepsLeast _ t _ (hT.keep hk1)).mono ?_; rintro e w2 ⟨v, rfl, ⟨A4, c4, rfl, hO⟩, hk2⟩
  rw [HL.out] at hO ⊢
  replace hO0 := own_keep hO0 hk2
  replace hk1 := hk1.trans hk2
  have hRow : ∃ G, G ≠ w1.heap.size ∧ (0 < l.length → A4 = some ⟨G, 0, none⟩ ∧ IntRow w2 G l.length (fun s => l.getD s default)) := by
    by_cases h0 : l.length = 0
    · exact ⟨w1.heap.size + 1, by omega, by omega⟩
    · obtain ⟨g, e, hg, _, hw⟩ := hO.2 (by omega)
      simp only [World.size_alloc] at hg
      exact ⟨g, by omega, fun _ => ⟨e, hw.row (by omega)⟩⟩
  obtain ⟨G, hG1, hG2⟩ := hRow
  clear hk2 hO
  have HZ1 := Lib.hid hz1
  clear hz1
  go_wp2_with fail
  go_loopw [5, 3] (fun i v wr => ∃ (k : Nat) (A2 : Option Addr) (c2 : Nat), k ≤ l.length ∧ i = .int .i64 k ∧ v = .slice A2 k c2 ∧ wr.ownsRow w1.heap.size 3 1 (.slice A2 k c2) k (((l.map Sp.big).take k).map (Value.int .i64)) ∧ Kept w1 wr ∧ Hid ((Value.slice A2 k c2).ownBlock ≠ some G) ∧ (0 < l.length → A4 = some ⟨G, 0, none⟩ ∧ IntRow wr G l.length (fun s => l.getD s default))) (fun i _ _ => l.length - (intOf i).toNat)
  case atStart => exact ⟨0, _, _, Nat.zero_le _, rfl, rfl, hO0, hk1, by show _ ≠ _; simp [Value.ownBlock]; omega, hG2⟩
  case round =>
    obtain ⟨k, A2, c2, hk, rfl, rfl, hown, hkp, HG1, hG2⟩ := hrel
    by_cases hlt : k < l.length
    · obtain ⟨rfl, hR⟩ := hG2 (by omega)
      have c0 := hR.2.2 k hlt
      have HR := Lib.hid hR
      have hGl := hR.1
      clear hR hG2
      have HX : Hid ((l.map Sp.big).take (k + 1) = (l.map Sp.big).take k ++ [Sp.big (l.getD k default)]) := by
        show _ = _
        rw [List.take_succ_eq_append_getElem (by rw [List.length_map]; exact hlt)]
        simp [List.getD, hlt]
      have HB := Lib.hid (show ∀ x, Sp.big x = if x < 0 then 40 else x from fun _ => rfl)
      simp only [] at c0
      generalize l.getD k default = x at c0 HX
      by_cases hx : x < 0
      · have HV : Hid (Sp.big x = 40) := by show _ = _; rw [HB.out, if_pos hx]
        go_wp2_with (first | (at_builtin; refine wpList_append_own_at _ rfl (.tmp 20) (.tmp 21) 22 rfl (w1.heap.size) 3 i0 (.int .i64 0) 1 8 Tryd.underlying22 HI.out.1 HI.out.2.1 HI.out.2.2.1 HI.out.2.2.2 rfl (by decide) (.slice A2 k c2) k _ rfl (hown.alloc _) ⟨wr.heap.size, 0, none⟩ 1 1 [.int .i64 (40)] rfl rfl (one_new _ _ _) (by simp [Value.oneCell']) (by unfold maxLen; omega) (by omega) (by have := hkp.size; (try simp at this ⊢); omega) ?_; intro v' w2 hown2 hg2 _ hat))
        obtain ⟨A3, c3, rfl⟩ := own_form hown2
        exact ⟨⟨k + 1, A3, c3, by omega, by go_num, rfl, by rw [HX.out, HV.out, List.map_append]; exact hown2, own_more hown hkp hg2, row_off HG1.out hat hGl, fun _ => ⟨by trivial, HR.out.grown hg2 HG1.out⟩⟩, by simp [intOf]; omega⟩
      · have HV : Hid (Sp.big x = x) := by show _ = _; rw [HB.out, if_neg hx]
        go_wp2_with (first | (at_builtin; refine wpList_append_own_at _ rfl (.tmp 23) (.tmp 28) 22 rfl (w1.heap.size) 3 i0 (.int .i64 0) 1 8 Tryd.underlying22 HI.out.1 HI.out.2.1 HI.out.2.2.1 HI.out.2.2.2 rfl (by decide) (.slice A2 k c2) k _ rfl (hown.alloc _) ⟨wr.heap.size, 0, none⟩ 1 1 [.int .i64 (x)] rfl rfl (one_new _ _ _) (by simp [Value.oneCell']) (by unfold maxLen; omega) (by omega) (by have := hkp.size; (try simp at this ⊢); omega) ?_; intro v' w2 hown2 hg2 _ hat))
        obtain ⟨A3, c3, rfl⟩ := own_form hown2
        exact ⟨⟨k + 1, A3, c3, by omega, by go_num, rfl, by rw [HX.out, HV.out, List.map_append]; exact hown2, own_more hown hkp hg2, row_off HG1.out hat hGl, fun _ => ⟨by trivial, HR.out.grown hg2 HG1.out⟩⟩, by simp [intOf]; omega⟩
    · obtain rfl : k = l.length := by omega
      have HO := Lib.hid (outInts_own (w := w) (w1 := w1) (by rw [List.length_map]) hown (by unfold maxLen; omega) (by have := HZ1.out; omega) (fun x hx => by
        rw [List.take_of_length_le (by rw [List.length_map]; omega)] at hx
        obtain ⟨y, hy, rfl⟩ := List.mem_map.1 hx
        exact big_in (HIn.out y hy)))
      go_wp2_with fail
      go_ret
      refine ⟨_, rfl, ?_, hk0.trans hkp⟩
      have := HO.out
      rw [List.take_of_length_le (by rw [List.length_map]; omega)] at this
      show OutInts w ((Sp.stepsLeast t).map Sp.big) _ _
      rw [HL.out]
      exact this

end Go.Proofs.YtjmpfemlihjibaaDoor
