/- Walks: the law's own hasInt and ascend. No condition. -/
import Derived.Test.YtphdojebdclonaaA5
namespace Go.Proofs.Ytphdojebdclonaa
open Go.RowKit

theorem mem_at {l : List Int} {x : Int} (h : x ∈ l) : ∃ k, k < l.length ∧ l.getD k default = x := by
  obtain ⟨k, hk, he⟩ := List.getElem_of_mem h
  exact ⟨k, hk, by rw [List.getD_eq_getElem?_getD, List.getElem?_eq_getElem hk, he]; rfl⟩
theorem at_mem {l : List Int} {k : Nat} (h : k < l.length) : l.getD k default ∈ l := by
  rw [List.getD_eq_getElem?_getD, List.getElem?_eq_getElem h]
  exact List.getElem_mem _

set_option maxHeartbeats 1000000 in
theorem c_lhasInt (A : Option Addr) (n c : Nat) (l : List Int) (x : Int) (w : World) (h : Ints w A n l) :
    Calls Try.prog 21 #[.slice A n c, .int .i64 x] w (Ret (.bool (decide (x ∈ l))) w) := by
  have hn := h.le
  have HL := Lib.hid h.len
  go_enter Try.func21, Try.ntmps21
  go_wp2_with fail
  go_loop [5] (fun i => ∃ k : Nat, k ≤ n ∧ i = .int .i64 k ∧ Hid (∀ j, j < k → l.getD j default ≠ x)) (fun i => n - (intOf i).toNat)
  case atStart => exact ⟨0, Nat.zero_le _, rfl, fun j hj => by omega⟩
  case round =>
    obtain ⟨k, hk, rfl, HN⟩ := hrel
    by_cases hlt : k < n
    · obtain ⟨b, off, rfl, hb, hc, _⟩ := h.at hlt
      have HM : Hid (l.getD k default ∈ l) := at_mem (by rw [HL.out]; exact hlt)
      obtain ⟨y, HY⟩ : ∃ y, Hid (l.getD k default = y) := ⟨_, rfl⟩
      rw [HY.out] at hc HM
      by_cases he : y = x
      · subst he
        have HD : Hid (decide (y ∈ l) = true) := decide_eq_true HM.out
        go_wp2_with fail
        go_ret
        exact ⟨ret_bool HD.out.symm, rfl⟩
      · have hf : (y == x) = false := beq_eq_false_iff_ne.2 he
        have HN2 : Hid (∀ j, j < k + 1 → l.getD j default ≠ x) := fun j hj => by
          by_cases e : j = k
          · subst e; rw [HY.out]; exact he
          · exact HN.out j (by omega)
        clear he
        go_wp2_with fail
        exact ⟨⟨k + 1, by omega, by go_num, HN2⟩, by simp [intOf]; omega⟩
    · have HD : Hid (decide (x ∈ l) = false) := decide_eq_false fun hm => by
        obtain ⟨j, hj, he⟩ := mem_at hm
        exact HN.out j (by rw [HL.out] at hj; omega) he
      go_wp2_with fail
      go_ret
      exact ⟨ret_bool HD.out.symm, rfl⟩

set_option maxHeartbeats 1000000 in
theorem c_lascend (A : Option Addr) (n c : Nat) (l : List Int) (w : World) (h : Ints w A n l) (ha : l.Pairwise (· < ·)) :
    Calls Try.prog 22 #[.slice A n c] w (RetK (.bool true) w) := by
  have hn := h.le
  have HL := Lib.hid h.len
  have HA := Lib.hid ha
  clear ha
  go_enter Try.func22, Try.ntmps22
  go_wp2_with fail
  go_loopw [3] (fun i wr => ∃ k : Nat, k ≤ n ∧ i = .int .i64 ((k : Int) + 1) ∧ Kept w wr) (fun i _ => n + 1 - (intOf i).toNat)
  case atStart => exact ⟨0, Nat.zero_le _, rfl, Kept.refl _⟩
  case round =>
    obtain ⟨k, hk, rfl, hkp⟩ := hrel
    by_cases hlt : k + 1 < n
    · obtain ⟨b, off, rfl, hb, hc, _⟩ := (h.keep hkp).at (k := k) (by omega)
      obtain ⟨b', off', e', hb', hc', _⟩ := (h.keep hkp).at hlt
      injection e' with e'
      injection e' with e1 e2 _
      subst e1 e2
      have hxy : l.getD k default < l.getD (k + 1) default := by
        have h1 : k < l.length := by rw [HL.out]; omega
        have h2 : k + 1 < l.length := by rw [HL.out]; omega
        have := List.pairwise_iff_getElem.1 HA.out k (k + 1) h1 h2 (by omega)
        rw [List.getD_eq_getElem?_getD, List.getD_eq_getElem?_getD, List.getElem?_eq_getElem h1, List.getElem?_eq_getElem h2]
        exact this
      generalize l.getD k default = x at *
      generalize l.getD (k + 1) default = y at *
      have hge : ¬ y ≤ x := by omega
      have hw1 : IntKind.i64.wrap ((k : Int) + 1 - 1) = (k : Int) := by rw [IntKind.wrap_i64]; omega
      have hk1 : ¬ (n : Int) ≤ (k : Int) := by omega
      have hk2 : ((k + 1 : Nat) : Int) = (k : Int) + 1 := by omega
      have hlt3 : (k : Int) + 1 < (n : Int) := by omega
      have q1 : (0 : Int) ≤ (k : Int) + 1 - 1 := by omega
      have q2 : (k : Int) + 1 - 1 < (n : Int) := by omega
      have q3 : ((k : Int) + 1 - 1).toNat = k := by omega
      have q4 : (0 : Int) ≤ (k : Int) + 1 := by omega
      have q5 : ((k : Int) + 1).toNat = k + 1 := by omega
      go_wp2_with fail
      go_quiet (fail)
      rw [show decide (y ≤ x) = false from decide_eq_false (by omega)]
      go_wp2_with fail
      exact ⟨⟨k + 1, by omega, by go_num, hkp.drewN _⟩, by simp [intOf]; omega⟩
    · go_wp2_with fail
      go_ret
      exact ⟨rfl, hkp⟩

end Go.Proofs.Ytphdojebdclonaa
