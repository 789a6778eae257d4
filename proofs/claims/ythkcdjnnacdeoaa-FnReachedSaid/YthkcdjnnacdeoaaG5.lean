/- Walks: the reference's states behind a set. No condition. -/
import Derived.Test.YthkcdjnnacdeoaaG4
namespace Go.Proofs.Ythkcdjnnacdeoaa
open Go.RowKit

/-- what is behind a state by some deed of a task -/
def Sp.rel (t : Sp.Task) : Nat → Nat → Bool := Sp.edge t.deeds.length (Sp.flat t.deeds)
theorem rel_iff (t : Sp.Task) (s u : Nat) (hs : s < 32) : Sp.rel t s u = true ↔ ∃ k, k < t.deeds.length ∧ Sp.stepI (t.deeds.getD k default) s = (u : Int) := by
  unfold Sp.rel
  rw [edge_iff]
  simp only [flat_at _ _ _ hs]

/-- a set that holds a set and what the first m places give -/
def Sp.ToB (b : Nat) (q : Nat → Nat → Prop) (m T : Nat) : Prop := T < 4294967296 ∧ ∀ u, T.testBit u = true ↔ b.testBit u = true ∨ ∃ p, p < m ∧ q p u
theorem ToB_zero {b : Nat} (hb : b < 4294967296) (q : Nat → Nat → Prop) : Sp.ToB b q 0 b := ⟨hb, fun u => by simp⟩
theorem ToB_skip {b : Nat} {q : Nat → Nat → Prop} {m T : Nat} (h : Sp.ToB b q m T) (hn : ∀ u, ¬ q m u) : Sp.ToB b q (m + 1) T := by
  refine ⟨h.1, fun u => (h.2 u).trans (or_congr_right ⟨fun ⟨p, hp, hq⟩ => ⟨p, by omega, hq⟩, fun ⟨p, hp, hq⟩ => ⟨p, ?_, hq⟩⟩)⟩
  by_cases e : p = m
  · subst e; exact absurd hq (hn u)
  · omega
theorem ToB_add {b : Nat} {q : Nat → Nat → Prop} {m T v : Nat} (h : Sp.ToB b q m T) (hv : v < 32) (hq : ∀ u, q m u ↔ u = v) : Sp.ToB b q (m + 1) (T ||| 2 ^ v) := by
  refine ⟨Nat.or_lt_two_pow (n := 32) h.1 (Nat.pow_lt_pow_right (by decide) hv), fun u => ?_⟩
  rw [Nat.testBit_or, Nat.testBit_two_pow, Bool.or_eq_true, h.2 u, decide_eq_true_eq, or_assoc]
  refine or_congr_right ⟨?_, ?_⟩
  · rintro (⟨p, hp, h1⟩ | rfl)
    · exact ⟨p, by omega, h1⟩
    · exact ⟨m, by omega, (hq _).2 rfl⟩
  · rintro ⟨p, hp, h1⟩
    by_cases e : p = m
    · subst e; exact .inr ((hq _).1 h1).symm
    · exact .inl ⟨p, by omega, h1⟩

def Sp.qRow (t : Sp.Task) (s k u : Nat) : Prop := Sp.stepI (t.deeds.getD k default) s = (u : Int)
def Sp.qFrom (t : Sp.Task) (S s u : Nat) : Prop := S.testBit s = true ∧ Sp.rel t s u = true
theorem from_row {t : Sp.Task} {S s b T : Nat} (hs : s < 32) (h : Sp.To (Sp.qFrom t S) s b) (hb : S.testBit s = true) (hr : Sp.ToB b (Sp.qRow t s) t.deeds.length T) : Sp.To (Sp.qFrom t S) (s + 1) T := by
  refine ⟨hr.1, fun u => ?_⟩
  rw [hr.2 u, h.2 u]
  constructor
  · rintro (⟨p, hp, h1⟩ | ⟨k, hk, h1⟩)
    · exact ⟨p, by omega, h1⟩
    · exact ⟨s, by omega, hb, (rel_iff t s u hs).2 ⟨k, hk, h1⟩⟩
  · rintro ⟨p, hp, h1⟩
    by_cases e : p = s
    · subst e; exact .inr ((rel_iff t p u hs).1 h1.2)
    · exact .inl ⟨p, by omega, h1⟩
theorem from_all {t : Sp.Task} {S T : Nat} (h : Sp.To (Sp.qFrom t S) 32 T) : T = Sp.img (Sp.rel t) S := by
  refine Sp.set_ext h.1 (Sp.img_lt _ _) fun u hu => ?_
  rw [h.2 u, Sp.img_bit]
  exact ⟨fun ⟨p, hp, h1⟩ => ⟨hu, p, hp, h1⟩, fun ⟨_, p, hp, h1⟩ => ⟨p, hp, h1⟩⟩

theorem c_bitN (S k : Nat) (w : World) (hS : S < 4294967296) (hk : k < 32) : Calls Try.prog 90 #[.int .i64 (S : Int), .int .i64 (k : Int)] w (Ret (.int .i64 ((S.testBit k).toNat : Nat)) w) := by
  have := c_l1Bit (S : Int) (k : Int) w (by omega) (by omega) (by omega) (by omega)
  rwa [Int.toNat_natCast, Int.toNat_natCast] at this
theorem c_eitherP (T v : Nat) (w : World) (hT : T < 4294967296) (hv : v < 32) : Calls Try.prog 78 #[.int .i64 (T : Int), .int .i64 (p2 v)] w (Ret (.int .i64 ((T ||| 2 ^ v : Nat) : Int)) w) := by
  obtain ⟨h1, h2⟩ := p2_bd32 v (by omega)
  have := c_l1Either (T : Int) (p2 v) w (by omega) (by omega) (by omega) (by omega)
  rw [Int.toNat_natCast] at this
  rw [p2_nat, Int.toNat_natCast] at this
  rwa [p2_nat]

def Sp.setOk (S : Int) : Bool := decide (0 ≤ S ∧ S ≤ 4294967295)
def Sp.statesNext (t : Sp.Task) (S : Int) : Int := if Sp.taskOk t = true ∧ Sp.setOk S = true then (Sp.img (Sp.rel t) S.toNat : Nat) else -1

set_option maxHeartbeats 1000000 in
theorem c_sStatesNext (v : Value) (t : Sp.Task) (S : Int) (w : World) (h : TaskV w v t) :
    Calls Try.prog 86 #[v, .int .i64 S] w (RetK (.int .i64 (Sp.statesNext t S)) w) := by
  obtain ⟨A, n, c, A', n', c', rfl⟩ := h.form
  have hk0 := (Kept.refl w).alloc (.cells #[.int .i64 t.start, .slice A n c, .slice A' n' c'] 26)
  have B0 := Blk.new w 26 #[.int .i64 t.start, .slice A n c, .slice A' n' c']
  have hn := h.deeds.le
  have HL := Lib.hid h.deeds.len
  have hT := h.keep hk0
  go_enter Try.func86, Try.ntmps86
  go_wp2_with fail
  refine (c_sTaskValid _ t _ hT).mono ?_; rintro e w2 ⟨rfl, hk2⟩
  replace hk0 := hk0.trans hk2
  replace B0 := B0.kept hk2
  replace hT := hT.keep hk2
  clear hk2
  have c0 := B0.cell
  cases ht : Sp.taskOk t
  · have HE : Hid (Sp.statesNext t S = -1) := by show _ = _; unfold Sp.statesNext; rw [ht]; simp
    clear ht
    go_wp2_with fail
    go_ret
    exact ⟨ret_int HE.out.symm, hk0⟩
  have HK := Lib.hid ht
  cases hs : Sp.setOk S
  · have HE : Hid (Sp.statesNext t S = -1) := by show _ = _; unfold Sp.statesNext; rw [hs]; simp
    have hno : ¬ (0 ≤ S ∧ S ≤ 4294967295) := by unfold Sp.setOk at hs; simpa using hs
    clear ht hs
    go_wp2_with (first | (go_at_call 95; refine (c_l1In_no _ _ _ _ hno).mono ?_; rintro e w' ⟨rfl, rfl⟩))
    go_ret
    exact ⟨ret_int HE.out.symm, hk0⟩
  have hyes : 0 ≤ S ∧ S ≤ 4294967295 := by unfold Sp.setOk at hs; simpa using hs
  have HS := Lib.hid hs
  obtain ⟨S, rfl⟩ := Int.eq_ofNat_of_zero_le hyes.1
  have hS : S < 4294967296 := by omega
  clear ht hs
  go_wp2_with (first | (go_at_call 95; refine (c_l1In_yes _ _ _ _ hyes).mono ?_; rintro e w' ⟨rfl, rfl⟩))
  have hyes' := hyes
  clear hyes c0
  go_loopw [6, 5] (fun i o wr => ∃ s T : Nat, s ≤ 32 ∧ i = .int .i64 s ∧ o = .int .i64 T ∧ Kept w wr ∧ Blk wr w.heap.size 26 #[.int .i64 t.start, .slice A n c, .slice A' n' c'] ∧ Sp.To (Sp.qFrom t S) s T) (fun i _ _ => 32 - (intOf i).toNat)
  case atStart => exact ⟨0, 0, by omega, rfl, rfl, hk0, B0, To_zero _⟩
  case round =>
    obtain ⟨s, T, hs, rfl, rfl, hkp, hB, hTo⟩ := hrel
    by_cases hlt : s < 32
    · go_wp2_with fail
      rw [show decide ((s : Int) < 32) = true from decide_eq_true (by omega)]
      have HT0 := Lib.hid hTo
      have hTlt := hTo.1
      cases hbit : S.testBit s
      · have HBit := Lib.hid hbit
        have HX : Hid (Sp.To (Sp.qFrom t S) (s + 1) T) := To_skip hTo fun u hu => by have := hu.1; rw [hbit] at this; cases this
        clear hbit hTo
        go_loopw [7, 5] (fun i o wr => i = .int .i64 0 ∧ o = .int .i64 T ∧ Kept w wr ∧ Blk wr w.heap.size 26 #[.int .i64 t.start, .slice A n c, .slice A' n' c']) (fun _ _ _ => 0)
        case atStart => exact ⟨rfl, rfl, hkp, hB⟩
        case round =>
          obtain ⟨rfl, rfl, hkp, hB⟩ := hrel
          have c0 := hB.cell
          by_cases h0 : n' = 0
          · subst h0
            go_wp2_with fail
            exact ⟨⟨s + 1, T, by omega, by go_num, rfl, hkp, hB, HX.out⟩, by simp [intOf]; omega⟩
          · go_wp2_with (first | (go_at_call 90; refine (c_bitN S s _ hS hlt).mono ?_; rintro e w3 ⟨rfl, rfl⟩; rw [HBit.out]))
            exact ⟨⟨s + 1, T, by omega, by go_num, rfl, hkp, hB, HX.out⟩, by simp [intOf]; omega⟩
      · have HBit := Lib.hid hbit
        clear hbit hTo
        go_loopw [7, 5] (fun i o wr => ∃ k T1 : Nat, k ≤ n' ∧ i = .int .i64 k ∧ o = .int .i64 T1 ∧ Kept w wr ∧ Blk wr w.heap.size 26 #[.int .i64 t.start, .slice A n c, .slice A' n' c'] ∧ Sp.ToB T (Sp.qRow t s) k T1) (fun i _ _ => n' - (intOf i).toNat)
        case atStart => exact ⟨0, T, by omega, rfl, rfl, hkp, hB, ToB_zero hTlt _⟩
        case round =>
          obtain ⟨k, T1, hk, rfl, rfl, hkp, hB, hTB⟩ := hrel
          have c0 := hB.cell
          by_cases hlt2 : k < n'
          · have hkl : k < t.deeds.length := by rw [HL.out]; exact hlt2
            have h' := h.keep hkp
            obtain ⟨b, off, rfl, hb, hc⟩ := h'.deeds.at hlt2
            have HY := Lib.hid (show ∀ u, Sp.qRow t s k u ↔ Sp.stepI (t.deeds.getD k default) s = (u : Int) from fun u => Iff.rfl)
            have hdo := Lib.hid (Sp.taskOk_deed HK.out hkl)
            generalize t.deeds.getD k default = d at *
            obtain ⟨A2, n2, c2, hc0, hc1, hc2, hc3, hdv⟩ := hc.v
            have HD := Lib.hid hdv
            clear hdv
            have hTl := hTB.1
            have hbd := stepI_bd (d := d) hlt hdo.out
            go_wp2_with (first | (go_at_call 90; refine (c_bitN S s _ hS hlt).mono ?_; rintro e w3 ⟨rfl, rfl⟩; rw [HBit.out]))
            refine (c_l6Do _ d _ _ HD.out hdo.out (by omega) (by omega)).mono ?_; rintro e w4 ⟨rfl, hk4⟩
            rw [Int.toNat_natCast]
            replace hkp := hkp.trans hk4
            replace hB := hB.kept hk4
            clear c0 hc0 hc1 hc2 hc3 hk4 hb HD
            obtain ⟨x, HX⟩ : ∃ x, Hid (Sp.stepI d s = x) := ⟨_, rfl⟩
            rw [HX.out] at hbd ⊢
            by_cases hx : 0 ≤ x
            · obtain ⟨x, rfl⟩ := Int.eq_ofNat_of_zero_le hx
              have hsh := bin_shl_one x (by omega)
              go_wp2_with (first | (go_at_call 78; refine (c_eitherP T1 x _ hTl (by omega)).mono ?_; rintro e w3 ⟨rfl, rfl⟩))
              exact ⟨⟨k + 1, _, by omega, by go_num, rfl, hkp, hB, ToB_add hTB (by omega) fun u => (HY.out u).trans (by rw [HX.out]; omega)⟩, by simp [intOf]; omega⟩
            · go_wp2_with fail
              exact ⟨⟨k + 1, T1, by omega, by go_num, rfl, hkp, hB, ToB_skip hTB fun u hu => by have := (HY.out u).1 hu; rw [HX.out] at this; omega⟩, by simp [intOf]; omega⟩
          · have HX : Hid (Sp.To (Sp.qFrom t S) (s + 1) T1) := from_row hlt HT0.out HBit.out (by rw [HL.out]; rw [show k = n' by omega] at hTB; exact hTB)
            go_wp2_with fail
            exact ⟨⟨s + 1, T1, by omega, by go_num, rfl, hkp, hB, HX.out⟩, by simp [intOf]; omega⟩
    · go_wp2_with fail
      go_ret
      obtain rfl : s = 32 := by omega
      exact ⟨ret_int (by unfold Sp.statesNext; rw [if_pos ⟨HK.out, HS.out⟩, Int.toNat_natCast, from_all hTo]), hkp⟩

end Go.Proofs.Ythkcdjnnacdeoaa
