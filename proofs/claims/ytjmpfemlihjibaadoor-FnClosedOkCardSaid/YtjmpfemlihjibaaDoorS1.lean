/- Walks: SumStates. No condition. -/
import Derived.Test.YtjmpfemlihjibaaDoorHar
namespace Go.Proofs.YtjmpfemlihjibaaDoor
open Go.RowKit





























































theorem c_iSumStates (v : Value) (t : Sp.Task) (f : Int) (w : World) (h : TaskV w v t) :
    Calls Tryd.prog 38 #[v, .int .i64 f] w (RetK (.int .i64 (Sp.sumStates t f)) w) := by
  obtain ⟨A, n, c, A', n', c', rfl, hI, hD, h1⟩ := h
  have hk0 := (Kept.refl w).alloc (.cells #[.int .i64 t.start, .slice A n c, .slice A' n' c'] 30)
  have hT : TaskV (w.alloc (.cells #[.int .i64 t.start, .slice A n c, .slice A' n' c'] 30)) (.agg #[.int .i64 t.start, .slice A n c, .slice A' n' c']) t := ⟨A, n, c, A', n', c', rfl, hI.keep hk0, hD.keep hk0, h1⟩
  go_enter Tryd.func38, Tryd.ntmps38
  go_wp2_with fail
  refine (c_iTaskValid _ t _ hT).mono ?_; rintro e w2 ⟨rfl, hk2⟩
  have hb0 := hk2.box 0
  simp only [List.getElem?_toArray, List.getElem?_cons_zero, List.getElem?_cons_succ] at hb0
  cases hto : Sp.taskOk t
  · have HE : Hid (Sp.sumStates t f = -1) := by show _ = _; unfold Sp.sumStates; rw [if_neg (by simp [hto])]
    clear hto
    go_wp2_with fail
    go_ret
    exact ⟨ret_int HE.out.symm, hk0.trans hk2⟩
  cases hsf : Sp.stOk f
  · have HE : Hid (Sp.sumStates t f = -1) := by show _ = _; unfold Sp.sumStates; rw [if_neg (by simp [hsf])]
    clear hto
    go_wp2_with (first | (go_at_call 63; refine (c_stateOk _ _).mono ?_; rintro e w' ⟨rfl, rfl⟩))
    go_ret
    exact ⟨ret_int HE.out.symm, hk0.trans hk2⟩
  have HE : Hid (Sp.sumStates t f = (Sp.sumSet t.start.toNat f.toNat : Nat)) := by show _ = _; unfold Sp.sumStates; rw [if_pos ⟨hto, hsf⟩]
  have hst := Sp.taskOk_start hto
  have hfb := st_bd hsf
  clear hto
  obtain ⟨hs0, hs1⟩ := hst
  obtain ⟨hf0, hf1⟩ := hfb
  have ha2 : t.start.toNat &&& f.toNat ≤ f.toNat := Nat.and_le_right
  have hand := i64_and t.start f (by omega) (by omega) (by omega) (by omega)
  have hcl2 := cnt_le (t.start.toNat &&& f.toNat)
  go_wp2_with (first | (go_at_call 63; refine (c_stateOk _ _).mono ?_; rintro e w' ⟨rfl, rfl⟩) | (go_at_call 78; refine (c_countBits _ _ (by omega) (by omega)).mono ?_; rintro e w' ⟨rfl, rfl⟩))
  clear hsf hand
  go_loop [6, 22] (fun x i => ∃ k : Nat, k ≤ 32 ∧ i = .int .i64 k ∧ x = .int .i64 (Sp.setOf k (fun s => Sp.even t.start.toNat s f.toNat))) (fun _ i => 32 - (intOf i).toNat)
  case atStart => exact ⟨0, by omega, rfl, rfl⟩
  case round =>
    obtain ⟨k, hk, rfl, rfl⟩ := hrel
    by_cases hlt : k < 32
    · have hbd := setOf_bd k (fun s => Sp.even t.start.toNat s f.toNat) hk
      have hsh := bin_shl_one k (by omega)
      have ha1 : k &&& f.toNat ≤ f.toNat := Nat.and_le_right
      have hcl := cnt_le (k &&& f.toNat)
      have hand := and_nat_int k f (by omega) (by omega) (by omega)
      have hor := or_p2 _ k hbd hlt
      have HH := Lib.hid (setOf_step k (fun s => Sp.even t.start.toNat s f.toNat) hlt)
      have hB := even_b2 t.start.toNat k f.toNat
      cases hev : Sp.even t.start.toNat k f.toNat
      all_goals
        rw [hev] at hB
        have HE2 := Lib.hid hev
        clear hev
        go_wp2_with (first | (go_at_call 78; refine (c_countBits _ _ (by omega) (by omega)).mono ?_; rintro e w' ⟨rfl, rfl⟩))
      · exact ⟨⟨k + 1, by omega, by go_num, by rw [HH.out.2.2 HE2.out]⟩, by simp [intOf]; omega⟩
      · exact ⟨⟨k + 1, by omega, by go_num, by rw [HH.out.2.1 HE2.out]⟩, by simp [intOf]; omega⟩
    · obtain rfl : k = 32 := by omega
      go_wp2_with fail
      go_ret
      exact ⟨ret_int HE.out.symm, hk0.trans hk2⟩

end Go.Proofs.YtjmpfemlihjibaaDoor
