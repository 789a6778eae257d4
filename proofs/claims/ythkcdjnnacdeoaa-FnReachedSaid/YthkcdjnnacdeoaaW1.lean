/- Walks: codes and tasks are valid. No condition. -/
import Derived.Test.YthkcdjnnacdeoaaProg
import Derived.Test.YthkcdjnnacdeoaaMem
namespace Go.Proofs.Ythkcdjnnacdeoaa
open Go.RowKit

theorem c_l1In (n lo hi : Int) (w : World) :
    Calls Try.prog 95 #[.int .i64 n, .int .i64 lo, .int .i64 hi] w (Ret (.bool (decide (lo ≤ n ∧ n ≤ hi))) w) := by
  by_cases h : lo ≤ n
  · go_enter Try.func95, Try.ntmps95
    go_wp2
    go_ret
    exact ⟨ret_bool (by simp [h]), rfl⟩
  · go_enter Try.func95, Try.ntmps95
    go_wp2
    go_ret
    exact ⟨ret_bool (by simp; omega), rfl⟩

theorem c_l1In_yes (n lo hi : Int) (w : World) (h : lo ≤ n ∧ n ≤ hi) :
    Calls Try.prog 95 #[.int .i64 n, .int .i64 lo, .int .i64 hi] w (Ret (.bool true) w) :=
  (c_l1In n lo hi w).mono fun _ _ ⟨he, hw⟩ => ⟨by rw [he, decide_eq_true h], hw⟩

theorem c_l1In_no (n lo hi : Int) (w : World) (h : ¬ (lo ≤ n ∧ n ≤ hi)) :
    Calls Try.prog 95 #[.int .i64 n, .int .i64 lo, .int .i64 hi] w (Ret (.bool false) w) :=
  (c_l1In n lo hi w).mono fun _ _ ⟨he, hw⟩ => ⟨by rw [he, decide_eq_false h], hw⟩

theorem c_l5Takes (s : Int) (w : World) :
    Calls Try.prog 130 #[.int .i64 s] w (Ret (.int .i64 (Sp.takes s)) w) := by
  go_enter Try.func130, Try.ntmps130
  go_wp2
  all_goals (go_ret; refine ⟨ret_int ?_, rfl⟩; simp_all [Sp.takes])

/-- one step of the depth, as facts without equations -/
theorem step_yes {l : List Int} {k : Nat} {p : Nat × Nat} (hk : k < l.length) (hp : Sp.depthOf (l.take k) = some p)
    (h : 0 ≤ l.getD k default ∧ l.getD k default ≤ 9 ∧ Sp.takes (l.getD k default) ≤ p.1) :
    Sp.depthOf (l.take (k + 1)) = some (p.1 - Sp.takes (l.getD k default) + 1, max p.2 (p.1 - Sp.takes (l.getD k default) + 1)) := by
  rw [Sp.depth_snoc l k hk, hp]
  simp only [Sp.dstep]
  rw [if_pos h]

theorem step_no {l : List Int} {k : Nat} {p : Nat × Nat} (hk : k < l.length) (hp : Sp.depthOf (l.take k) = some p)
    (h : ¬ (0 ≤ l.getD k default ∧ l.getD k default ≤ 9 ∧ Sp.takes (l.getD k default) ≤ p.1)) : Sp.codeDepth l = -1 := by
  have h1 : Sp.depthOf (l.take (k + 1)) = none := by
    rw [Sp.depth_snoc l k hk, hp]
    simp only [Sp.dstep]
    rw [if_neg h]
  have h2 := Sp.depth_take_none l _ h1
  unfold Sp.codeDepth
  rw [h2]

theorem depth_end {l : List Int} {p : Nat × Nat} (hp : Sp.depthOf l = some p) :
    Sp.codeDepth l = if 1 ≤ l.length ∧ l.length ≤ 40 ∧ p.1 = 1 then (p.2 : Int) else -1 := by
  unfold Sp.codeDepth
  rw [hp]

theorem c_sCodeDepth (A : Option Addr) (n c : Nat) (l : List Int) (w : World) (h : Ints w A n l) :
    Calls Try.prog 120 #[.slice A n c] w (Ret (.int .i64 (Sp.codeDepth l)) w) := by
  have hn := h.le
  have HL := Lib.hid h.len
  go_enter Try.func120, Try.ntmps120
  go_wp2
  go_loop [3, 4, 5] (fun many most i => ∃ (k d m : Nat), k ≤ n ∧ i = .int .i64 k ∧ many = .int .i64 d ∧ most = .int .i64 m ∧ d ≤ k ∧ m ≤ k ∧ Hid (Sp.depthOf (l.take k) = some (d, m))) (fun _ _ i => n - (intOf i).toNat)
  case atStart => exact ⟨0, 0, 0, Nat.zero_le _, rfl, rfl, rfl, Nat.le_refl _, Nat.le_refl _, rfl⟩
  case round =>
    obtain ⟨k, d, m, hk, rfl, rfl, rfl, hd, hm, HD⟩ := hrel
    by_cases hlt : k < n
    · obtain ⟨b, off, rfl, hb, hc, hin⟩ := h.at hlt
      have hkl : k < l.length := by rw [HL.out]; exact hlt
      have HY := @step_yes l k (d, m) hkl HD.out
      have HN := @step_no l k (d, m) hkl HD.out
      generalize l.getD k default = x at *
      by_cases hx : 0 ≤ x ∧ x ≤ 9
      · by_cases ht : Sp.takes x ≤ d
        · have HY' := Lib.hid (HY ⟨hx.1, hx.2, ht⟩)
          clear HY HN
          go_wp2_with (first | (go_at_call 95; refine (c_l1In_yes _ _ _ _ hx).mono ?_; rintro e w' ⟨rfl, rfl⟩) | (go_at_call 130; refine (c_l5Takes _ _).mono ?_; rintro e w' ⟨rfl, rfl⟩))
          exact ⟨⟨k + 1, d - Sp.takes x + 1, max m (d - Sp.takes x + 1), by omega, by go_num, by congr 1; omega, by congr 1; split <;> omega, by omega, by omega, HY'⟩, by simp [intOf]; omega⟩
        · have HN' := Lib.hid (HN (fun h => ht h.2.2))
          clear HY HN
          go_wp2_with (first | (go_at_call 95; refine (c_l1In_yes _ _ _ _ hx).mono ?_; rintro e w' ⟨rfl, rfl⟩) | (go_at_call 130; refine (c_l5Takes _ _).mono ?_; rintro e w' ⟨rfl, rfl⟩))
          go_ret
          exact ⟨ret_int HN'.out.symm, rfl⟩
      · have HN' := Lib.hid (HN (fun h => hx ⟨h.1, h.2.1⟩))
        clear HY HN
        go_wp2_with (first | (go_at_call 95; refine (c_l1In_no _ _ _ _ hx).mono ?_; rintro e w' ⟨rfl, rfl⟩) | (go_at_call 130; refine (c_l5Takes _ _).mono ?_; rintro e w' ⟨rfl, rfl⟩))
        go_ret
        exact ⟨ret_int HN'.out.symm, rfl⟩
    · have HE := Lib.hid (depth_end (l := l) (p := (d, m)) (by have := HD.out; rwa [Sp.take_all l k (by rw [HL.out]; omega)] at this))
      rw [HL.out] at HE
      by_cases hr : (1 : Int) ≤ (n : Int) ∧ (n : Int) ≤ 40
      · by_cases h1 : d = 1
        · subst h1
          go_wp2_with (first | (go_at_call 95; refine (c_l1In_yes _ _ _ _ hr).mono ?_; rintro e w' ⟨rfl, rfl⟩))
          go_ret
          exact ⟨ret_int (by rw [HE.out, if_pos (by refine ⟨by omega, by omega, ?_⟩; simp)]), rfl⟩
        · go_wp2_with (first | (go_at_call 95; refine (c_l1In_yes _ _ _ _ hr).mono ?_; rintro e w' ⟨rfl, rfl⟩))
          go_ret
          exact ⟨ret_int (by rw [HE.out, if_neg (by omega)]), rfl⟩
      · go_wp2_with (first | (go_at_call 95; refine (c_l1In_no _ _ _ _ hr).mono ?_; rintro e w' ⟨rfl, rfl⟩))
        go_ret
        exact ⟨ret_int (by rw [HE.out, if_neg (by omega)]), rfl⟩

theorem c_sCodeValid (A : Option Addr) (n c : Nat) (l : List Int) (w : World) (h : Ints w A n l) :
    Calls Try.prog 96 #[.slice A n c] w (Ret (.bool (Sp.codeOk l)) w) := by
  go_enter Try.func96, Try.ntmps96
  go_wp2_with (first | (go_at_call 120; refine (c_sCodeDepth _ _ _ _ _ h).mono ?_; rintro e w' ⟨rfl, rfl⟩))
  go_ret
  exact ⟨ret_bool (by rw [Sp.codeOk_pos]), rfl⟩

theorem c_iCodeDepth (A : Option Addr) (n c : Nat) (l : List Int) (w : World) (h : Ints w A n l) :
    Calls Try.prog 118 #[.slice A n c] w (Ret (.int .i64 (Sp.codeDepth l)) w) := by
  have hn := h.le
  have HL := Lib.hid h.len
  by_cases hr : 1 ≤ n ∧ n ≤ 40
  · obtain ⟨hr1, hr2⟩ := hr
    go_enter Try.func118, Try.ntmps118
    go_wp2
    go_loop [3, 4, 17] (fun many most i => ∃ (k d m : Nat), k ≤ n ∧ i = .int .i64 k ∧ many = .int .i64 d ∧ most = .int .i64 m ∧ d ≤ k ∧ m ≤ k ∧ Hid (Sp.depthOf (l.take k) = some (d, m))) (fun _ _ i => n - (intOf i).toNat)
    case atStart => exact ⟨0, 0, 0, Nat.zero_le _, rfl, rfl, rfl, Nat.le_refl _, Nat.le_refl _, rfl⟩
    case round =>
      obtain ⟨k, d, m, hk, rfl, rfl, rfl, hd, hm, HD⟩ := hrel
      by_cases hlt : k < n
      · obtain ⟨b, off, rfl, hb, hc, hin⟩ := h.at hlt
        have hkl : k < l.length := by rw [HL.out]; exact hlt
        have HY := @step_yes l k (d, m) hkl HD.out
        have HN := @step_no l k (d, m) hkl HD.out
        generalize l.getD k default = x at *
        unfold Sp.inI at hin
        have HX : Hid ((0 ≤ x ∧ x ≤ 9 ∧ Sp.takes x ≤ d → _) ∧ (¬ (0 ≤ x ∧ x ≤ 9 ∧ Sp.takes x ≤ d) → _)) := ⟨HY, HN⟩
        clear HY HN
        by_cases hx : 0 ≤ x ∧ x ≤ 9
        · obtain ⟨hx0, hx9⟩ := hx
          by_cases hx6 : x ≤ 6
          · have ht : Sp.takes x = 0 := by unfold Sp.takes; rw [if_neg (by omega), if_neg (by omega)]
            rw [ht] at HX
            have HX' := Lib.hid (HX.out.1 ⟨hx0, hx9, by omega⟩)
            clear HX ht
            go_wp2
            exact ⟨⟨k + 1, d + 1, max m (d + 1), by omega, by go_num, by go_num, by congr 1; split <;> omega, by omega, by omega, HX'⟩, by simp [intOf]; omega⟩
          · by_cases hx7 : x = 7
            · subst hx7
              rw [show Sp.takes 7 = 1 from rfl] at HX
              by_cases hd1 : 1 ≤ d
              · have HX' := Lib.hid (HX.out.1 ⟨hx0, hx9, by omega⟩)
                clear HX
                go_wp2
                exact ⟨⟨k + 1, d - 1 + 1, max m (d - 1 + 1), by omega, by go_num, by congr 1; omega, by congr 1; split <;> omega, by omega, by omega, HX'⟩, by simp [intOf]; omega⟩
              · have HX' := Lib.hid (HX.out.2 (fun h => hd1 h.2.2))
                clear HX
                go_wp2
                go_ret
                exact ⟨ret_int HX'.out.symm, rfl⟩
            · have ht : Sp.takes x = 2 := by unfold Sp.takes; rw [if_neg (by omega), if_pos (by omega)]
              rw [ht] at HX
              have hn7 : (x == 7) = false := by simp; omega
              by_cases hd2 : 2 ≤ d
              · have HX' := Lib.hid (HX.out.1 ⟨hx0, hx9, by omega⟩)
                clear HX ht
                go_wp2
                exact ⟨⟨k + 1, d - 2 + 1, max m (d - 2 + 1), by omega, by go_num, by congr 1; omega, by congr 1; split <;> omega, by omega, by omega, HX'⟩, by simp [intOf]; omega⟩
              · have HX' := Lib.hid (HX.out.2 (fun h => hd2 h.2.2))
                clear HX ht
                go_wp2
                go_ret
                exact ⟨ret_int HX'.out.symm, rfl⟩
        · have HX' := Lib.hid (HX.out.2 (fun h => hx ⟨h.1, h.2.1⟩))
          clear HX
          by_cases hx0 : 0 ≤ x
          all_goals
            go_wp2
            go_ret
            exact ⟨ret_int HX'.out.symm, rfl⟩
      · have HE := Lib.hid (depth_end (l := l) (p := (d, m)) (by have := HD.out; rwa [Sp.take_all l k (by rw [HL.out]; omega)] at this))
        rw [HL.out] at HE
        by_cases h1 : d = 1
        · subst h1
          go_wp2
          go_ret
          exact ⟨ret_int (by rw [HE.out, if_pos (by refine ⟨by omega, by omega, ?_⟩; simp)]), rfl⟩
        · go_wp2
          go_ret
          exact ⟨ret_int (by rw [HE.out, if_neg (by omega)]), rfl⟩
  · have HE : Hid (Sp.codeDepth l = -1) := by
      show Sp.codeDepth l = -1
      unfold Sp.codeDepth
      split
      · rfl
      · rw [if_neg (by rw [HL.out]; omega)]
    by_cases h1 : n < 1
    · go_enter Try.func118, Try.ntmps118
      go_wp2
      go_ret
      exact ⟨ret_int HE.out.symm, rfl⟩
    · go_enter Try.func118, Try.ntmps118
      go_wp2
      go_ret
      exact ⟨ret_int HE.out.symm, rfl⟩

theorem c_iCodeValid (A : Option Addr) (n c : Nat) (l : List Int) (w : World) (h : Ints w A n l) :
    Calls Try.prog 83 #[.slice A n c] w (Ret (.bool (Sp.codeOk l)) w) := by
  go_enter Try.func83, Try.ntmps83
  go_wp2_with (first | (go_at_call 118; refine (c_iCodeDepth _ _ _ _ _ h).mono ?_; rintro e w' ⟨rfl, rfl⟩))
  go_ret
  exact ⟨ret_bool (by rfl), rfl⟩

end Go.Proofs.Ythkcdjnnacdeoaa
