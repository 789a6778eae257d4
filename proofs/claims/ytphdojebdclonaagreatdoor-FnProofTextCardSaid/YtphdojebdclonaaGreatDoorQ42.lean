/- Joined texts. No condition. -/
import Derived.Test.YtphdojebdclonaaGreatDoorQ41
/- Numbers read: plain; the reference's l1Digits, l7Great. No condition. -/
namespace Go.Proofs.YtphdojebdclonaaGreatDoor
set_option linter.unusedSimpArgs false
set_option linter.unusedVariables false
open Go.RowKit

/-- the first k bytes are digits -/
def Sp.digs (s : List UInt8) (k : Nat) : Prop := ∀ j, j < k → Sp.digB (s.getD j 0) = true
theorem digB_no {c : UInt8} (h : ¬ (48 ≤ c.toNat ∧ c.toNat ≤ 57)) : Sp.digB c = false := decide_eq_false h
theorem digB_yes {c : UInt8} (h : 48 ≤ c.toNat ∧ c.toNat ≤ 57) : Sp.digB c = true := decide_eq_true h
theorem digs_succ {s : List UInt8} {k : Nat} (h : Sp.digs s k) (h2 : Sp.digB (s.getD k 0) = true) : Sp.digs s (k + 1) := fun j hj => by
  by_cases e : j = k
  · subst e; exact h2
  · exact h j (by omega)
theorem digs_all {s : List UInt8} {k : Nat} (h : Sp.digs s k) : (s.take k).all Sp.digB = true := List.all_eq_true.2 (fun x hx => by
  obtain ⟨j, hj, rfl⟩ := List.getElem_of_mem hx
  have hj' : j < k ∧ j < s.length := by rw [List.length_take] at hj; omega
  have := h j hj'.1
  rw [List.getD_eq_getElem?_getD, List.getElem?_eq_getElem hj'.2] at this
  rw [List.getElem_take]; exact this)
theorem digs_lt {s : List UInt8} {k : Nat} (h : Sp.digs s k) (hk : k ≤ 10) : Sp.numN (s.take k) < 10000000000 := by
  have h1 := numN_lt (digs_all h)
  have h2 : 10 ^ (s.take k).length ≤ 10 ^ 10 := Nat.pow_le_pow_right (by omega) (by rw [List.length_take]; omega)
  omega
theorem numN_take {s : List UInt8} {k : Nat} (h : k < s.length) : Sp.numN (s.take (k + 1)) = 10 * Sp.numN (s.take k) + ((s.getD k 0).toNat - 48) := by
  rw [List.take_succ_eq_append_getElem h, numN_snoc, List.getD_eq_getElem?_getD, List.getElem?_eq_getElem h]; rfl
theorem numB_len {m : Nat} {s : List UInt8} (h : ¬ (1 ≤ s.length ∧ s.length ≤ m)) : Sp.numB m s = false := by
  cases hb : Sp.numB m s with
  | false => rfl
  | true => have := numB_parts hb; exact absurd ⟨this.1, this.2.1⟩ h
theorem numB_zero {m : Nat} {s : List UInt8} (h1 : 1 < s.length) (h2 : s.headD 0 = 48) : Sp.numB m s = false := by
  cases hb : Sp.numB m s with
  | false => rfl
  | true => exact absurd h2 ((numB_parts hb).2.2.1 h1)
theorem numB_dig {m k : Nat} {s : List UInt8} (hk : k < s.length) (h : Sp.digB (s.getD k 0) = false) : Sp.numB m s = false := by
  cases hb : Sp.numB m s with
  | false => rfl
  | true =>
    have := List.all_eq_true.1 (numB_parts hb).2.2.2 _ (List.getElem_mem hk)
    rw [List.getD_eq_getElem?_getD, List.getElem?_eq_getElem hk] at h
    simp only [Option.getD_some] at h
    rw [h] at this; cases this
theorem numB_ok {m : Nat} {s : List UInt8} (h1 : 1 ≤ s.length) (h2 : s.length ≤ m) (h3 : 1 < s.length → s.headD 0 ≠ 48) (h4 : Sp.digs s s.length) : Sp.numB m s = true :=
  numB_of h1 h2 h3 (by have := digs_all h4; rw [List.take_length] at this; exact this)
theorem numI_len {m : Nat} {s : List UInt8} (h : ¬ (1 ≤ s.length ∧ s.length ≤ m)) : Sp.numI m s = -1 := by unfold Sp.numI; rw [numB_len h]; rfl
theorem numI_zero {m : Nat} {s : List UInt8} (h1 : 1 < s.length) (h2 : s.headD 0 = 48) : Sp.numI m s = -1 := by unfold Sp.numI; rw [numB_zero h1 h2]; rfl
theorem numI_dig {m k : Nat} {s : List UInt8} (hk : k < s.length) (h : Sp.digB (s.getD k 0) = false) : Sp.numI m s = -1 := by unfold Sp.numI; rw [numB_dig hk h]; rfl
theorem numI_ok {m : Nat} {s : List UInt8} (h1 : 1 ≤ s.length) (h2 : s.length ≤ m) (h3 : 1 < s.length → s.headD 0 ≠ 48) (h4 : Sp.digs s s.length) : Sp.numI m s = (Sp.numN s : Int) := by
  unfold Sp.numI; rw [numB_ok h1 h2 h3 h4, if_pos rfl]

set_option maxHeartbeats 4000000 in
set_option maxRecDepth 100000 in
theorem c_l1Digits (s : List UInt8) (w : World) (hs : s.length ≤ 1048576) : Calls Tryz.prog 52 #[.string ⟨s.toArray⟩] w (RetK (.int .i64 (Sp.numI 4 s)) w) := by
  by_cases hl : 1 ≤ s.length ∧ s.length ≤ 4
  · obtain ⟨hl1, hl2⟩ := hl
    have hin : decide ((1 : Int) ≤ (s.length : Int) ∧ (s.length : Int) ≤ 4) = true := decide_eq_true (by omega)
    obtain ⟨q0, hq0⟩ : ∃ q : Nat, ((⟨s.toArray⟩ : ByteArray)[0]'(by simpa [ByteArray.size] using Nat.lt_of_lt_of_le Nat.zero_lt_one hl1)).toNat = q := ⟨_, rfl⟩
    have HQ0 : Hid ((s.headD 0).toNat = q0) := by
      show _ = _
      rw [← hq0]
      cases s with
      | nil => simp at hl1
      | cons a r => rfl
    by_cases hz : 1 < s.length ∧ q0 = 48
    · have HR := Lib.hid (numI_zero (m := 4) hz.1 (UInt8.toNat_inj.1 (by rw [HQ0.out, hz.2]; rfl)))
      obtain ⟨hz1, rfl⟩ := hz
      have h1i : (1 : Int) < (s.length : Int) := by omega
      go_enter Tryz.func52, Tryz.ntmps52
      go_wp2_with fail
      refine (c_l1In _ 1 4 _).mono ?_; rintro e w2 ⟨rfl, rfl⟩
      rw [hin]
      go_wp2_with fail
      go_ret
      exact ⟨by rw [HR.out]; rfl, Kept.refl _⟩
    · have HZ : Hid (1 < s.length → s.headD 0 ≠ 48) := fun h e => hz ⟨h, by rw [← HQ0.out, e]; rfl⟩
      go_enter Tryz.func52, Tryz.ntmps52
      go_wp2_with fail
      refine (c_l1In _ 1 4 _).mono ?_; rintro e w2 ⟨rfl, rfl⟩
      rw [hin]
      by_cases h1 : (1 : Int) < (s.length : Int)
      · have hq : ¬ (q0 : Int) = 48 := fun e => hz ⟨by omega, by omega⟩
        have hqf : ((q0 : Int) == 48) = false := beq_eq_false_iff_ne.2 hq
        clear hz
        go_wp2_with fail
        go_loopw [3, 4] (fun a b wr => ∃ k : Nat, k ≤ s.length ∧ a = .int .i64 ((Sp.numN (s.take k) : Nat) : Int) ∧ b = .int .i64 (k : Int) ∧ Hid (Sp.digs s k) ∧ Kept w wr) (fun _ b _ => s.length - (intOf b).toNat)
        case atStart => exact ⟨0, Nat.zero_le _, rfl, rfl, (fun j hj => absurd hj (by omega)), Kept.refl _⟩
        case round =>
          obtain ⟨k, hk, rfl, rfl, HD, hkp⟩ := hrel
          by_cases hlt : k < s.length
          · obtain ⟨q, hq⟩ : ∃ q : Nat, ((⟨s.toArray⟩ : ByteArray)[k]'(by simpa [ByteArray.size] using hlt)).toNat = q := ⟨_, rfl⟩
            have hgt : s.getD k 0 = s[k] := by rw [List.getD_eq_getElem?_getD, List.getElem?_eq_getElem hlt]; rfl
            have HQ : Hid ((s.getD k 0).toNat = q) := by show _ = _; rw [hgt]; exact hq
            clear hgt
            obtain ⟨X, HX⟩ : ∃ X, Hid (Sp.numN (s.take k) = X) := ⟨_, rfl⟩
            have hXl : X < 10000000000 := by rw [← HX.out]; exact digs_lt HD.out (by omega)
            rw [HX.out]
            have hki : (k : Int) < (s.length : Int) := by omega
            by_cases ha : q < 48
            · have HR := Lib.hid (numI_dig (m := 4) hlt (digB_no (by rw [HQ.out]; omega)))
              have hai : (q : Int) < 48 := by omega
              clear ha
              go_wp2_with fail
              go_ret
              exact ⟨by rw [HR.out]; rfl, hkp⟩
            · by_cases hb : 57 < q
              · have HR := Lib.hid (numI_dig (m := 4) hlt (digB_no (by rw [HQ.out]; omega)))
                have hai : ¬ (q : Int) < 48 := by omega
                have hbi : (57 : Int) < (q : Int) := by omega
                clear ha hb
                go_wp2_with fail
                go_ret
                exact ⟨by rw [HR.out]; rfl, hkp⟩
              · have HD2 : Hid (Sp.digs s (k + 1)) := digs_succ HD.out (digB_yes (by rw [HQ.out]; omega))
                obtain ⟨r, HRr⟩ : ∃ r : Nat, Hid (q - 48 = r) := ⟨_, rfl⟩
                have HS : Hid (Sp.numN (s.take (k + 1)) = 10 * X + r) := by show _ = _; rw [numN_take hlt, HX.out, HQ.out, HRr.out]
                have hai : ¬ (q : Int) < 48 := by omega
                have hbi : ¬ (57 : Int) < (q : Int) := by omega
                have hr10 : r < 10 := by rw [← HRr.out]; omega
                have hw8 : IntKind.u8.wrap ((q : Int) - 48) = (r : Int) := by rw [← HRr.out]; simp [IntKind.wrap, IntKind.bits, IntKind.signed]; omega
                clear ha hb
                go_wp2_with fail
                exact ⟨⟨k + 1, by omega, by rw [HS.out]; go_num, by go_num, HD2, hkp⟩, by simp [intOf]; omega⟩
          · obtain rfl : k = s.length := by omega
            have HT : Hid (s.take s.length = s) := List.take_length
            have HR := Lib.hid (numI_ok (m := 4) hl1 hl2 HZ.out HD.out)
            rw [HT.out]
            clear hlt
            go_wp2_with fail
            go_ret
            exact ⟨by rw [HR.out]; rfl, hkp⟩
      · skip
        clear hz hq0
        go_wp2_with fail
        go_loopw [3, 4] (fun a b wr => ∃ k : Nat, k ≤ s.length ∧ a = .int .i64 ((Sp.numN (s.take k) : Nat) : Int) ∧ b = .int .i64 (k : Int) ∧ Hid (Sp.digs s k) ∧ Kept w wr) (fun _ b _ => s.length - (intOf b).toNat)
        case atStart => exact ⟨0, Nat.zero_le _, rfl, rfl, (fun j hj => absurd hj (by omega)), Kept.refl _⟩
        case round =>
          obtain ⟨k, hk, rfl, rfl, HD, hkp⟩ := hrel
          by_cases hlt : k < s.length
          · obtain ⟨q, hq⟩ : ∃ q : Nat, ((⟨s.toArray⟩ : ByteArray)[k]'(by simpa [ByteArray.size] using hlt)).toNat = q := ⟨_, rfl⟩
            have hgt : s.getD k 0 = s[k] := by rw [List.getD_eq_getElem?_getD, List.getElem?_eq_getElem hlt]; rfl
            have HQ : Hid ((s.getD k 0).toNat = q) := by show _ = _; rw [hgt]; exact hq
            clear hgt
            obtain ⟨X, HX⟩ : ∃ X, Hid (Sp.numN (s.take k) = X) := ⟨_, rfl⟩
            have hXl : X < 10000000000 := by rw [← HX.out]; exact digs_lt HD.out (by omega)
            rw [HX.out]
            have hki : (k : Int) < (s.length : Int) := by omega
            by_cases ha : q < 48
            · have HR := Lib.hid (numI_dig (m := 4) hlt (digB_no (by rw [HQ.out]; omega)))
              have hai : (q : Int) < 48 := by omega
              clear ha
              go_wp2_with fail
              go_ret
              exact ⟨by rw [HR.out]; rfl, hkp⟩
            · by_cases hb : 57 < q
              · have HR := Lib.hid (numI_dig (m := 4) hlt (digB_no (by rw [HQ.out]; omega)))
                have hai : ¬ (q : Int) < 48 := by omega
                have hbi : (57 : Int) < (q : Int) := by omega
                clear ha hb
                go_wp2_with fail
                go_ret
                exact ⟨by rw [HR.out]; rfl, hkp⟩
              · have HD2 : Hid (Sp.digs s (k + 1)) := digs_succ HD.out (digB_yes (by rw [HQ.out]; omega))
                obtain ⟨r, HRr⟩ : ∃ r : Nat, Hid (q - 48 = r) := ⟨_, rfl⟩
                have HS : Hid (Sp.numN (s.take (k + 1)) = 10 * X + r) := by show _ = _; rw [numN_take hlt, HX.out, HQ.out, HRr.out]
                have hai : ¬ (q : Int) < 48 := by omega
                have hbi : ¬ (57 : Int) < (q : Int) := by omega
                have hr10 : r < 10 := by rw [← HRr.out]; omega
                have hw8 : IntKind.u8.wrap ((q : Int) - 48) = (r : Int) := by rw [← HRr.out]; simp [IntKind.wrap, IntKind.bits, IntKind.signed]; omega
                clear ha hb
                go_wp2_with fail
                exact ⟨⟨k + 1, by omega, by rw [HS.out]; go_num, by go_num, HD2, hkp⟩, by simp [intOf]; omega⟩
          · obtain rfl : k = s.length := by omega
            have HT : Hid (s.take s.length = s) := List.take_length
            have HR := Lib.hid (numI_ok (m := 4) hl1 hl2 HZ.out HD.out)
            rw [HT.out]
            clear hlt
            go_wp2_with fail
            go_ret
            exact ⟨by rw [HR.out]; rfl, hkp⟩
  · have HR := Lib.hid (numI_len hl)
    have hin : decide ((1 : Int) ≤ (s.length : Int) ∧ (s.length : Int) ≤ 4) = false := decide_eq_false (by omega)
    clear hl
    go_enter Tryz.func52, Tryz.ntmps52
    go_wp2_with fail
    refine (c_l1In _ 1 4 _).mono ?_; rintro e w2 ⟨rfl, rfl⟩
    rw [hin]
    go_wp2_with fail
    go_ret
    exact ⟨by rw [HR.out]; rfl, Kept.refl _⟩

set_option maxHeartbeats 4000000 in
set_option maxRecDepth 100000 in
theorem c_l7Great (s : List UInt8) (w : World) (hs : s.length ≤ 1048576) : Calls Tryz.prog 55 #[.string ⟨s.toArray⟩] w (RetK (.int .i64 (Sp.numI 10 s)) w) := by
  by_cases hl : 1 ≤ s.length ∧ s.length ≤ 10
  · obtain ⟨hl1, hl2⟩ := hl
    have hin : decide ((1 : Int) ≤ (s.length : Int) ∧ (s.length : Int) ≤ 10) = true := decide_eq_true (by omega)
    obtain ⟨q0, hq0⟩ : ∃ q : Nat, ((⟨s.toArray⟩ : ByteArray)[0]'(by simpa [ByteArray.size] using Nat.lt_of_lt_of_le Nat.zero_lt_one hl1)).toNat = q := ⟨_, rfl⟩
    have HQ0 : Hid ((s.headD 0).toNat = q0) := by
      show _ = _
      rw [← hq0]
      cases s with
      | nil => simp at hl1
      | cons a r => rfl
    by_cases hz : 1 < s.length ∧ q0 = 48
    · have HR := Lib.hid (numI_zero (m := 10) hz.1 (UInt8.toNat_inj.1 (by rw [HQ0.out, hz.2]; rfl)))
      obtain ⟨hz1, rfl⟩ := hz
      have h1i : (1 : Int) < (s.length : Int) := by omega
      go_enter Tryz.func55, Tryz.ntmps55
      go_wp2_with fail
      refine (c_l1In _ 1 10 _).mono ?_; rintro e w2 ⟨rfl, rfl⟩
      rw [hin]
      go_wp2_with fail
      go_ret
      exact ⟨by rw [HR.out]; rfl, Kept.refl _⟩
    · have HZ : Hid (1 < s.length → s.headD 0 ≠ 48) := fun h e => hz ⟨h, by rw [← HQ0.out, e]; rfl⟩
      go_enter Tryz.func55, Tryz.ntmps55
      go_wp2_with fail
      refine (c_l1In _ 1 10 _).mono ?_; rintro e w2 ⟨rfl, rfl⟩
      rw [hin]
      by_cases h1 : (1 : Int) < (s.length : Int)
      · have hq : ¬ (q0 : Int) = 48 := fun e => hz ⟨by omega, by omega⟩
        have hqf : ((q0 : Int) == 48) = false := beq_eq_false_iff_ne.2 hq
        clear hz
        go_wp2_with fail
        go_loopw [3, 4] (fun a b wr => ∃ k : Nat, k ≤ s.length ∧ a = .int .i64 ((Sp.numN (s.take k) : Nat) : Int) ∧ b = .int .i64 (k : Int) ∧ Hid (Sp.digs s k) ∧ Kept w wr) (fun _ b _ => s.length - (intOf b).toNat)
        case atStart => exact ⟨0, Nat.zero_le _, rfl, rfl, (fun j hj => absurd hj (by omega)), Kept.refl _⟩
        case round =>
          obtain ⟨k, hk, rfl, rfl, HD, hkp⟩ := hrel
          by_cases hlt : k < s.length
          · obtain ⟨q, hq⟩ : ∃ q : Nat, ((⟨s.toArray⟩ : ByteArray)[k]'(by simpa [ByteArray.size] using hlt)).toNat = q := ⟨_, rfl⟩
            have hgt : s.getD k 0 = s[k] := by rw [List.getD_eq_getElem?_getD, List.getElem?_eq_getElem hlt]; rfl
            have HQ : Hid ((s.getD k 0).toNat = q) := by show _ = _; rw [hgt]; exact hq
            clear hgt
            obtain ⟨X, HX⟩ : ∃ X, Hid (Sp.numN (s.take k) = X) := ⟨_, rfl⟩
            have hXl : X < 10000000000 := by rw [← HX.out]; exact digs_lt HD.out (by omega)
            rw [HX.out]
            have hki : (k : Int) < (s.length : Int) := by omega
            by_cases ha : q < 48
            · have HR := Lib.hid (numI_dig (m := 10) hlt (digB_no (by rw [HQ.out]; omega)))
              have hai : (q : Int) < 48 := by omega
              clear ha
              go_wp2_with fail
              go_ret
              exact ⟨by rw [HR.out]; rfl, hkp⟩
            · by_cases hb : 57 < q
              · have HR := Lib.hid (numI_dig (m := 10) hlt (digB_no (by rw [HQ.out]; omega)))
                have hai : ¬ (q : Int) < 48 := by omega
                have hbi : (57 : Int) < (q : Int) := by omega
                clear ha hb
                go_wp2_with fail
                go_ret
                exact ⟨by rw [HR.out]; rfl, hkp⟩
              · have HD2 : Hid (Sp.digs s (k + 1)) := digs_succ HD.out (digB_yes (by rw [HQ.out]; omega))
                obtain ⟨r, HRr⟩ : ∃ r : Nat, Hid (q - 48 = r) := ⟨_, rfl⟩
                have HS : Hid (Sp.numN (s.take (k + 1)) = 10 * X + r) := by show _ = _; rw [numN_take hlt, HX.out, HQ.out, HRr.out]
                have hai : ¬ (q : Int) < 48 := by omega
                have hbi : ¬ (57 : Int) < (q : Int) := by omega
                have hr10 : r < 10 := by rw [← HRr.out]; omega
                have hw8 : IntKind.u8.wrap ((q : Int) - 48) = (r : Int) := by rw [← HRr.out]; simp [IntKind.wrap, IntKind.bits, IntKind.signed]; omega
                clear ha hb
                go_wp2_with fail
                exact ⟨⟨k + 1, by omega, by rw [HS.out]; go_num, by go_num, HD2, hkp⟩, by simp [intOf]; omega⟩
          · obtain rfl : k = s.length := by omega
            have HT : Hid (s.take s.length = s) := List.take_length
            have HR := Lib.hid (numI_ok (m := 10) hl1 hl2 HZ.out HD.out)
            rw [HT.out]
            clear hlt
            go_wp2_with fail
            go_ret
            exact ⟨by rw [HR.out]; rfl, hkp⟩
      · skip
        clear hz hq0
        go_wp2_with fail
        go_loopw [3, 4] (fun a b wr => ∃ k : Nat, k ≤ s.length ∧ a = .int .i64 ((Sp.numN (s.take k) : Nat) : Int) ∧ b = .int .i64 (k : Int) ∧ Hid (Sp.digs s k) ∧ Kept w wr) (fun _ b _ => s.length - (intOf b).toNat)
        case atStart => exact ⟨0, Nat.zero_le _, rfl, rfl, (fun j hj => absurd hj (by omega)), Kept.refl _⟩
        case round =>
          obtain ⟨k, hk, rfl, rfl, HD, hkp⟩ := hrel
          by_cases hlt : k < s.length
          · obtain ⟨q, hq⟩ : ∃ q : Nat, ((⟨s.toArray⟩ : ByteArray)[k]'(by simpa [ByteArray.size] using hlt)).toNat = q := ⟨_, rfl⟩
            have hgt : s.getD k 0 = s[k] := by rw [List.getD_eq_getElem?_getD, List.getElem?_eq_getElem hlt]; rfl
            have HQ : Hid ((s.getD k 0).toNat = q) := by show _ = _; rw [hgt]; exact hq
            clear hgt
            obtain ⟨X, HX⟩ : ∃ X, Hid (Sp.numN (s.take k) = X) := ⟨_, rfl⟩
            have hXl : X < 10000000000 := by rw [← HX.out]; exact digs_lt HD.out (by omega)
            rw [HX.out]
            have hki : (k : Int) < (s.length : Int) := by omega
            by_cases ha : q < 48
            · have HR := Lib.hid (numI_dig (m := 10) hlt (digB_no (by rw [HQ.out]; omega)))
              have hai : (q : Int) < 48 := by omega
              clear ha
              go_wp2_with fail
              go_ret
              exact ⟨by rw [HR.out]; rfl, hkp⟩
            · by_cases hb : 57 < q
              · have HR := Lib.hid (numI_dig (m := 10) hlt (digB_no (by rw [HQ.out]; omega)))
                have hai : ¬ (q : Int) < 48 := by omega
                have hbi : (57 : Int) < (q : Int) := by omega
                clear ha hb
                go_wp2_with fail
                go_ret
                exact ⟨by rw [HR.out]; rfl, hkp⟩
              · have HD2 : Hid (Sp.digs s (k + 1)) := digs_succ HD.out (digB_yes (by rw [HQ.out]; omega))
                obtain ⟨r, HRr⟩ : ∃ r : Nat, Hid (q - 48 = r) := ⟨_, rfl⟩
                have HS : Hid (Sp.numN (s.take (k + 1)) = 10 * X + r) := by show _ = _; rw [numN_take hlt, HX.out, HQ.out, HRr.out]
                have hai : ¬ (q : Int) < 48 := by omega
                have hbi : ¬ (57 : Int) < (q : Int) := by omega
                have hr10 : r < 10 := by rw [← HRr.out]; omega
                have hw8 : IntKind.u8.wrap ((q : Int) - 48) = (r : Int) := by rw [← HRr.out]; simp [IntKind.wrap, IntKind.bits, IntKind.signed]; omega
                clear ha hb
                go_wp2_with fail
                exact ⟨⟨k + 1, by omega, by rw [HS.out]; go_num, by go_num, HD2, hkp⟩, by simp [intOf]; omega⟩
          · obtain rfl : k = s.length := by omega
            have HT : Hid (s.take s.length = s) := List.take_length
            have HR := Lib.hid (numI_ok (m := 10) hl1 hl2 HZ.out HD.out)
            rw [HT.out]
            clear hlt
            go_wp2_with fail
            go_ret
            exact ⟨by rw [HR.out]; rfl, hkp⟩
  · have HR := Lib.hid (numI_len hl)
    have hin : decide ((1 : Int) ≤ (s.length : Int) ∧ (s.length : Int) ≤ 10) = false := decide_eq_false (by omega)
    clear hl
    go_enter Tryz.func55, Tryz.ntmps55
    go_wp2_with fail
    refine (c_l1In _ 1 10 _).mono ?_; rintro e w2 ⟨rfl, rfl⟩
    rw [hin]
    go_wp2_with fail
    go_ret
    exact ⟨by rw [HR.out]; rfl, Kept.refl _⟩

end Go.Proofs.YtphdojebdclonaaGreatDoor
