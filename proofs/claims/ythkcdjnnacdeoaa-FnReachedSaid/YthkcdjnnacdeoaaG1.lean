/- Walks: a deed done. No condition. -/
import Derived.Test.YthkcdjnnacdeoaaR5
import Derived.Test.YthkcdjnnacdeoaaG0
namespace Go.Proofs.Ythkcdjnnacdeoaa
open Go.RowKit

def Sp.stepI (d : Sp.Deed) (s : Nat) : Int := if Sp.run d.need s = true then (Sp.behind d s : Nat) else -1

theorem andNot_fin : ∀ a : Fin 32, ∀ b : Fin 32, bits .andNot .i64 ((a.val : Nat) : Int) ((b.val : Nat) : Int) = ((a.val &&& (31 ^^^ b.val) : Nat) : Int) := by decide +kernel
theorem minus_fin : ∀ a : Fin 32, ∀ b : Fin 32, ∀ c : Fin 32, b.val &&& c.val = 0 → (a.val ||| b.val) - (a.val &&& c.val) = (a.val ||| b.val) &&& (31 ^^^ c.val) := by decide +kernel
theorem or32 (a b : Nat) (ha : a < 32) (hb : b < 32) : a ||| b < 32 := Nat.or_lt_two_pow (n := 5) ha hb
theorem xor32 (a b : Nat) (ha : a < 32) (hb : b < 32) : a ^^^ b < 32 := Nat.xor_lt_two_pow (n := 5) ha hb
theorem behind_lt {d : Sp.Deed} {s : Nat} (hs : s < 32) (h : Sp.deedOk d = true) : Sp.behind d s < 32 := by
  have h1 := deedOk_on h
  have h3 := deedOk_flip h
  unfold Sp.behind
  refine xor32 _ _ ?_ (by omega)
  exact Nat.lt_of_le_of_lt Nat.and_le_left (or32 _ _ hs (by omega))
theorem deedOk_apart {d : Sp.Deed} (h : Sp.deedOk d = true) : d.on.toNat &&& d.off.toNat = 0 := by
  unfold Sp.deedOk at h
  simp only [Bool.and_eq_true, beq_iff_eq] at h
  exact h.1.1.2
theorem stepI_bd {d : Sp.Deed} {s : Nat} (hs : s < 32) (h : Sp.deedOk d = true) : -1 ≤ Sp.stepI d s ∧ Sp.stepI d s ≤ 31 := by
  have := behind_lt hs h
  unfold Sp.stepI
  split <;> omega

theorem c_behindDeed (v : Value) (d : Sp.Deed) (s : Int) (w : World) (h : DeedV w v d) (hd : Sp.deedOk d = true) (hs0 : 0 ≤ s) (hs1 : s ≤ 31) :
    Calls Try.prog 91 #[v, .int .i64 s] w (RetK (.int .i64 (Sp.stepI d s.toNat)) w) := by
  obtain ⟨A, n, c, rfl, hI, _, _, _⟩ := h
  obtain ⟨s, rfl⟩ := Int.eq_ofNat_of_zero_le hs0
  rw [Int.toNat_natCast]
  have hk := (Kept.refl w).alloc (.cells #[.slice A n c, .int .i64 d.on, .int .i64 d.off, .int .i64 d.flip] 39)
  have B0 := Blk.new w 39 #[.slice A n c, .int .i64 d.on, .int .i64 d.off, .int .i64 d.flip]
  obtain ⟨o0, o1⟩ := deedOk_on hd
  obtain ⟨f0, f1⟩ := deedOk_off hd
  obtain ⟨x0, x1⟩ := deedOk_flip hd
  obtain ⟨on, hon⟩ := Int.eq_ofNat_of_zero_le o0
  obtain ⟨off, hoff⟩ := Int.eq_ofNat_of_zero_le f0
  obtain ⟨flip, hflip⟩ := Int.eq_ofNat_of_zero_le x0
  have HB : Hid (Sp.behind d s = ((s ||| on) &&& (31 ^^^ off)) ^^^ flip) := by
    show _ = _
    unfold Sp.behind
    rw [hon, hoff, hflip, Int.toNat_natCast, Int.toNat_natCast, Int.toNat_natCast]
  rw [hon] at B0 hk o0 o1
  rw [hoff] at B0 hk f0 f1
  rw [hflip] at B0 hk x0 x1
  rw [hon, hoff, hflip]
  have HN := Lib.hid (deedOk_need hd)
  have hol := or32 s on (by omega) (by omega)
  have e1 := i64_or_nat s on (by omega) (by omega)
  have e2 := andNot_fin ⟨s ||| on, hol⟩ ⟨off, by omega⟩
  simp only at e2
  have hal : (s ||| on) &&& (31 ^^^ off) < 32 := Nat.lt_of_le_of_lt Nat.and_le_left hol
  have e3 := i64_xor_nat ((s ||| on) &&& (31 ^^^ off)) flip (by omega) (by omega)
  clear hd hon hoff hflip
  cases hr : Sp.run d.need s
  · have HR := Lib.hid hr
    clear hr
    go_enter Try.func91, Try.ntmps91
    go_wp2_with fail
    refine (c_runCode _ _ _ _ _ _ (hI.keep hk) HN.out (by omega) (by omega)).mono ?_; rintro e w2 ⟨rfl, hk2⟩
    rw [Int.toNat_natCast, HR.out]
    go_wp2_with fail
    go_ret
    exact ⟨ret_int (by unfold Sp.stepI; rw [HR.out]; rfl), hk.trans hk2⟩
  · have HR := Lib.hid hr
    clear hr
    go_enter Try.func91, Try.ntmps91
    go_wp2_with fail
    refine (c_runCode _ _ _ _ _ _ (hI.keep hk) HN.out (by omega) (by omega)).mono ?_; rintro e w2 ⟨rfl, hk2⟩
    rw [Int.toNat_natCast, HR.out]
    replace B0 := B0.kept hk2
    have c0 := B0.cell
    go_wp2_with fail
    go_ret
    exact ⟨ret_int (by unfold Sp.stepI; rw [HR.out, HB.out]; rfl), hk.trans hk2⟩

set_option maxRecDepth 100000 in
theorem c_l6Do (v : Value) (d : Sp.Deed) (s : Int) (w : World) (h : DeedV w v d) (hd : Sp.deedOk d = true) (hs0 : 0 ≤ s) (hs1 : s ≤ 31) :
    Calls Try.prog 93 #[v, .int .i64 s] w (RetK (.int .i64 (Sp.stepI d s.toNat)) w) := by
  obtain ⟨A, n, c, rfl, hI, _, _, _⟩ := h
  obtain ⟨s, rfl⟩ := Int.eq_ofNat_of_zero_le hs0
  rw [Int.toNat_natCast]
  have hk := (Kept.refl w).alloc (.cells #[.slice A n c, .int .i64 d.on, .int .i64 d.off, .int .i64 d.flip] 39)
  have B0 := Blk.new w 39 #[.slice A n c, .int .i64 d.on, .int .i64 d.off, .int .i64 d.flip]
  obtain ⟨o0, o1⟩ := deedOk_on hd
  obtain ⟨f0, f1⟩ := deedOk_off hd
  obtain ⟨x0, x1⟩ := deedOk_flip hd
  have hap := deedOk_apart hd
  obtain ⟨on, hon⟩ := Int.eq_ofNat_of_zero_le o0
  obtain ⟨off, hoff⟩ := Int.eq_ofNat_of_zero_le f0
  obtain ⟨flip, hflip⟩ := Int.eq_ofNat_of_zero_le x0
  have HB : Hid (Sp.behind d s = ((s ||| on) &&& (31 ^^^ off)) ^^^ flip) := by
    show _ = _
    unfold Sp.behind
    rw [hon, hoff, hflip, Int.toNat_natCast, Int.toNat_natCast, Int.toNat_natCast]
  rw [hon, hoff, Int.toNat_natCast, Int.toNat_natCast] at hap
  rw [hon] at B0 hk o0 o1
  rw [hoff] at B0 hk f0 f1
  rw [hflip] at B0 hk x0 x1
  rw [hon, hoff, hflip]
  have HN := Lib.hid (deedOk_need hd)
  have hol := or32 s on (by omega) (by omega)
  have hb1 : s < 32 := by omega
  have hb2 : on < 32 := by omega
  have hb3 : off < 32 := by omega
  have HM : Hid ((s ||| on) - (s &&& off) = (s ||| on) &&& (31 ^^^ off)) := minus_fin ⟨s, hb1⟩ ⟨on, hb2⟩ ⟨off, hb3⟩ hap
  have hal : (s ||| on) &&& (31 ^^^ off) < 32 := Nat.lt_of_le_of_lt Nat.and_le_left hol
  have hsub : s &&& off ≤ s ||| on := Nat.le_trans Nat.and_le_left Nat.left_le_or
  have hsubI : ((s ||| on : Nat) : Int) - ((s &&& off : Nat) : Int) = (((s ||| on) &&& (31 ^^^ off) : Nat) : Int) := by
    have := HM.out
    omega
  have hw : IntKind.i64.wrap (((s ||| on : Nat) : Int) - ((s &&& off : Nat) : Int)) = (((s ||| on) &&& (31 ^^^ off) : Nat) : Int) := by rw [hsubI]; exact IntWalk.i64_in _ (by omega)
  clear hd hon hoff hflip hap
  cases hr : Sp.run d.need s
  · have HR := Lib.hid hr
    clear hr hw hsubI
    go_enter Try.func93, Try.ntmps93
    go_wp2_with fail
    refine (c_l5Run _ _ _ _ _ _ (hI.keep hk) HN.out (by omega) (by omega)).mono ?_; rintro e w2 ⟨rfl, hk2⟩
    rw [Int.toNat_natCast, HR.out]
    go_wp2_with fail
    go_ret
    exact ⟨ret_int (by unfold Sp.stepI; rw [HR.out]; rfl), hk.trans hk2⟩
  · have HR := Lib.hid hr
    clear hr
    go_enter Try.func93, Try.ntmps93
    go_wp2_with fail
    refine (c_l5Run _ _ _ _ _ _ (hI.keep hk) HN.out (by omega) (by omega)).mono ?_; rintro e w2 ⟨rfl, hk2⟩
    rw [Int.toNat_natCast, HR.out]
    replace B0 := B0.kept hk2
    have c0 := B0.cell
    go_wp2_with fail
    go_quiet (first | (go_at_call 78; exact quiet_ret (c_l1Either _ _ _ (by omega) (by omega) (by omega) (by omega))) | (go_at_call 103; exact quiet_ret (c_l1Both _ _ _ (by omega) (by omega) (by omega) (by omega))) | (go_at_call 119; exact quiet_ret (c_l1Other _ _ _ (by omega) (by omega) (by omega) (by omega))))
    go_wp2_with fail
    go_ret
    exact ⟨ret_int (by unfold Sp.stepI; rw [HR.out, HB.out]; rfl), hk.trans (hk2.drewN _)⟩

end Go.Proofs.Ythkcdjnnacdeoaa
