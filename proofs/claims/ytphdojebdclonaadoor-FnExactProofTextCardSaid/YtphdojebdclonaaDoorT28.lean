/- Numbers in decimal; the texts of proofs, plain; the reference's ProofText. No condition. -/
import Derived.Test.YtphdojebdclonaaDoorT22
import Derived.Test.YtphdojebdclonaaDoorG25
import Derived.Test.YtphdojebdclonaaDoorG40
import Derived.Test.YtphdojebdclonaaDoorR7
import Derived.Lib.ItoaNum
namespace Go.Proofs.YtphdojebdclonaaDoor
set_option linter.unusedSimpArgs false
set_option linter.unusedVariables false
open Go.RowKit

theorem dec_small {n : Nat} (h : n < 10) : Lib.decDigits n = [UInt8.ofNat (48 + n)] := by rw [Lib.decDigits]; simp [h]
theorem dec_big {n : Nat} (h : ¬ n < 10) : Lib.decDigits n = Lib.decDigits (n / 10) ++ [UInt8.ofNat (48 + n % 10)] := by rw [Lib.decDigits]; simp [h]
theorem dec_len (k : Nat) : ∀ n, n < 10 ^ k → 1 ≤ k → (Lib.decDigits n).length ≤ k := by
  induction k with
  | zero => intro n _ h; omega
  | succ k ih =>
    intro n hn _
    by_cases h : n < 10
    · rw [dec_small h]; simp
    · rw [dec_big h, List.length_append]
      have h1 : 1 ≤ k := by
        rcases Nat.eq_zero_or_pos k with e | e
        · subst e; simp at hn; omega
        · exact e
      have := ih (n / 10) (by rw [Nat.pow_succ] at hn; omega) h1
      simp; omega
theorem conv_byte (c : Nat) (hc : c < 256) (G : Nat) (w : World) (h : w.cell? ⟨G, 0, none⟩ = some (.int .u8 (c : Int))) : (convert 22 9 (.slice (some ⟨G, 0, none⟩) 1 1)).run Tryd.prog w = .ok (.string ⟨#[UInt8.ofNat c]⟩) w := by
  have h1 := run_convert_bytes_back (P := Tryd.prog) w 22 9 5 ⟨G, 0, none⟩ 1 [UInt8.ofNat c] Tryd.underlying22 Tryd.underlying5 Tryd.underlying9 (by
    intro j hj
    have : j = 0 := by simpa using hj
    subst this
    rw [show (⟨G, 0, none⟩ : Addr).add 0 = ⟨G, 0, none⟩ from rfl, h]
    simp
    omega)
  exact h1

set_option maxHeartbeats 4000000 in
set_option maxRecDepth 100000 in
theorem c_l1Number (n : Nat) : ∀ (w : World), n ≤ 99999999999 → Calls Tryd.prog 94 #[.int .i64 (n : Int)] w (RetK (.string ⟨(Lib.decDigits n).toArray⟩) w) := by
  induction n using Nat.strongRecOn with
  | ind n ih =>
  intro w hn
  have hge : ¬ (n : Int) < 0 := by omega
  by_cases h10 : n < 10
  · have h10i : (n : Int) < 10 := by omega
    have HD := Lib.hid (dec_small h10)
    obtain ⟨c, HC⟩ : ∃ c : Nat, Hid (48 + n = c) := ⟨_, rfl⟩
    have hw : IntKind.i64.wrap (48 + (n : Int)) = (c : Int) := by rw [← HC.out, IntKind.wrap_i64]; omega
    have hw8 : IntKind.u8.wrap (c : Int) = (c : Int) := by rw [← HC.out]; simp [IntKind.wrap, IntKind.bits, IntKind.signed]; omega
    have hcv := run_byte_string w c (by rw [← HC.out]; omega)
    go_enter Tryd.func94, Tryd.ntmps94
    go_wp2_with fail
    go_ret
    exact ⟨by rw [HD.out, HC.out]; rfl, (Kept.refl _).alloc _⟩
  · have h10i : ¬ (n : Int) < 10 := by omega
    have HD := Lib.hid (dec_big h10)
    obtain ⟨q, HQ⟩ : ∃ q : Nat, Hid (n / 10 = q) := ⟨_, rfl⟩
    obtain ⟨c, HC⟩ : ∃ c : Nat, Hid (48 + n % 10 = c) := ⟨_, rfl⟩
    have HIH : Hid (∀ w, Calls Tryd.prog 94 #[.int .i64 (q : Int)] w (RetK (.string ⟨(Lib.decDigits q).toArray⟩) w)) := fun w => ih q (by rw [← HQ.out]; omega) w (by rw [← HQ.out]; omega)
    have hqd : (n : Int).tdiv 10 = (q : Int) := by rw [← HQ.out]; exact Int.ofNat_tdiv n 10
    have hrm : (n : Int).tmod 10 = ((n % 10 : Nat) : Int) := (Int.ofNat_tmod n 10)
    obtain ⟨r, HR⟩ : ∃ r : Nat, Hid (n % 10 = r) := ⟨_, rfl⟩
    rw [HR.out] at hrm
    have hrl : r < 10 := by rw [← HR.out]; omega
    have hwq : IntKind.i64.wrap (q : Int) = (q : Int) := by rw [← HQ.out, IntKind.wrap_i64]; omega
    have hwr : IntKind.i64.wrap (r : Int) = (r : Int) := by rw [IntKind.wrap_i64]; omega
    have hw : IntKind.i64.wrap (48 + (r : Int)) = (c : Int) := by rw [← HC.out, HR.out, IntKind.wrap_i64]; omega
    have hw8 : IntKind.u8.wrap (c : Int) = (c : Int) := by rw [← HC.out, HR.out]; simp [IntKind.wrap, IntKind.bits, IntKind.signed]; omega
    have hc256 : c < 256 := by rw [← HC.out, HR.out]; omega
    have HCV := Lib.hid (conv_byte c hc256)
    have hql : (Lib.decDigits q).length ≤ 11 := dec_len 11 q (by rw [← HQ.out]; omega) (by omega)
    obtain ⟨dq, HDQ⟩ : ∃ d, Hid (Lib.decDigits q = d) := ⟨_, rfl⟩
    obtain ⟨u, HU⟩ : ∃ u, Hid (UInt8.ofNat c = u) := ⟨_, rfl⟩
    rw [HDQ.out] at hql
    have hadd : (⟨dq.toArray⟩ : ByteArray) ++ ⟨#[u]⟩ = ⟨(dq ++ [u]).toArray⟩ := str_add1 dq u
    have HE : Hid (Lib.decDigits n = dq ++ [u]) := by show _ = _; rw [HD.out, HQ.out, HDQ.out, HC.out, HU.out]
    clear ih hn
    go_enter Tryd.func94, Tryd.ntmps94
    go_wp2_with fail
    refine wp_region_held_drew (S := fun _ => True) (by kernel_rfl) trivial (fun hHeld => ?_)
    obtain ⟨W0, HW0⟩ : ∃ x, Hid (w.drew = x) := ⟨_, rfl⟩
    have hk0 : Kept w W0 := by rw [← HW0.out]; exact (Kept.refl w).drew
    rw [HW0.out]
    clear hHeld
    (refine take_val (i := 0) (v := .int .i64 (n : Int)) rfl rfl (by kernel_rfl) (by kernel_rfl) (by kernel_rfl) (fun _ _ _ h => h) rfl (by intro wq hq; (try go_split_ands); go_simp; try with_reducible rfl) (trivial) ?_; try simp only [List.setIfInBounds_toArray, List.set_cons_zero, List.set_cons_succ])
    (refine take_val (i := 1) (v := .int .i64 (q : Int)) rfl rfl (by kernel_rfl) (by kernel_rfl) (by kernel_rfl) (fun _ _ _ h => h) rfl (by intro wq hq; (try go_split_ands); go_simp; try with_reducible rfl) (trivial) ?_; try simp only [List.setIfInBounds_toArray, List.set_cons_zero, List.set_cons_succ])
    (refine take_val (i := 3) (v := .int .i64 (n : Int)) rfl rfl (by kernel_rfl) (by kernel_rfl) (by kernel_rfl) (fun _ _ _ h => h) rfl (by intro wq hq; (try go_split_ands); go_simp; try with_reducible rfl) (trivial) ?_; try simp only [List.setIfInBounds_toArray, List.set_cons_zero, List.set_cons_succ])
    (refine take_val (i := 4) (v := .int .i64 (r : Int)) rfl rfl (by kernel_rfl) (by kernel_rfl) (by kernel_rfl) (fun _ _ _ h => h) rfl (by intro wq hq; (try go_split_ands); go_simp; try with_reducible rfl) (trivial) ?_; try simp only [List.setIfInBounds_toArray, List.set_cons_zero, List.set_cons_succ])
    (refine take_val (i := 5) (v := .int .i64 (c : Int)) rfl rfl (by kernel_rfl) (by kernel_rfl) (by kernel_rfl) (fun _ _ _ h => h) rfl (by intro wq hq; (try go_split_ands); go_simp; try with_reducible rfl) (trivial) ?_; try simp only [List.setIfInBounds_toArray, List.set_cons_zero, List.set_cons_succ])
    (refine take_val (i := 6) (v := .int .u8 (c : Int)) rfl rfl (by kernel_rfl) (by kernel_rfl) (by kernel_rfl) (fun _ _ _ h => h) rfl (by intro wq hq; (try go_split_ands); go_simp; try with_reducible rfl) (trivial) ?_; try simp only [List.setIfInBounds_toArray, List.set_cons_zero, List.set_cons_succ])
    refine wpAnyH_ready (rs := [2, 7]) (by kernel_rfl) (by simp) ?_
    refine AllReadyH.cons rfl (fun K hK => ?_) (AllReadyH.cons rfl (fun K hK => ?_) AllReadyH.nil)
    · skip
      go_simp
      refine (HIH.out _).mono ?_; rintro e W1 ⟨rfl, hk1⟩
      rw [HDQ.out]
      (refine hK.out _ _ (trivial) (fun _ => ?_); clear hK K; try simp only [Act.put, List.setIfInBounds_toArray, List.set_cons_zero, List.set_cons_succ])
      (refine wpAnyH_ready (rs := [7]) (by kernel_rfl) (by simp) ?_; refine AllReadyH.cons rfl (fun K hK => ?_) AllReadyH.nil; go_simp)
      have B := Blk.new W1 5 #[.int .u8 (c : Int)]
      have hk2 := (hk0.trans hk1).alloc (.cells #[.int .u8 (c : Int)] 5)
      (refine hK.out _ _ (trivial) (fun _ => ?_); clear hK K; try simp only [Act.put, List.setIfInBounds_toArray, List.set_cons_zero, List.set_cons_succ])
      obtain ⟨G, HG⟩ : ∃ x, Hid (W1.heap.size = x) := ⟨_, rfl⟩
      obtain ⟨W2, HW2⟩ : ∃ x, Hid (W1.alloc (.cells #[.int .u8 (c : Int)] 5) = x) := ⟨_, rfl⟩
      rw [HW2.out] at B hk2
      rw [HG.out] at B
      rw [HG.out, HW2.out]
      refine held_more (S' := fun w' => w'.cell? ⟨G, 0, none⟩ = some (.int .u8 (c : Int))) (fun _ _ => trivial) _ _ _ _ ?_
      have hS : W2.cell? ⟨G, 0, none⟩ = some (.int .u8 (c : Int)) := B.cell 0
      refine take_val (i := 8) (v := .string ⟨#[u]⟩) rfl rfl (by kernel_rfl) (by kernel_rfl) (by kernel_rfl) (fun _ _ _ h => h) rfl (by intro wq hq; have hx := HCV.out G wq hq; rw [HU.out] at hx; go_simp; try with_reducible rfl) hS ?_; try simp only [List.setIfInBounds_toArray, List.set_cons_zero, List.set_cons_succ]
      (refine take_val (i := 9) (v := .string ⟨(dq ++ [u]).toArray⟩) rfl rfl (by kernel_rfl) (by kernel_rfl) (by kernel_rfl) (fun _ _ _ h => h) rfl (by intro wq hq; (try go_split_ands); go_simp; (try with_reducible rfl); (try omega)) (hS) ?_; try simp only [List.setIfInBounds_toArray, List.set_cons_zero, List.set_cons_succ])
      (refine take_val (i := 10) (v := .string ⟨(dq ++ [u]).toArray⟩) rfl rfl (by kernel_rfl) (by kernel_rfl) (by kernel_rfl) (fun _ _ _ h => h) rfl (by intro wq hq; (try go_split_ands); go_simp; (try with_reducible rfl); (try omega)) (hS) ?_; try simp only [List.setIfInBounds_toArray, List.set_cons_zero, List.set_cons_succ])
      refine wpAnyH_done (by kernel_rfl) ?_ _
      clear hS
      go_wp2_with fail
      go_ret
      exact ⟨by rw [HE.out]; rfl, hk2⟩
    · skip
      go_simp
      have B0 := Blk.new W0 5 #[.int .u8 (c : Int)]
      have hk2 := hk0.alloc (.cells #[.int .u8 (c : Int)] 5)
      (refine hK.out _ _ (trivial) (fun _ => ?_); clear hK K; try simp only [Act.put, List.setIfInBounds_toArray, List.set_cons_zero, List.set_cons_succ])
      obtain ⟨G, HG⟩ : ∃ x, Hid (W0.heap.size = x) := ⟨_, rfl⟩
      obtain ⟨W2, HW2⟩ : ∃ x, Hid (W0.alloc (.cells #[.int .u8 (c : Int)] 5) = x) := ⟨_, rfl⟩
      rw [HW2.out] at B0 hk2
      rw [HG.out] at B0
      rw [HG.out, HW2.out]
      refine held_more (S' := fun w' => w'.cell? ⟨G, 0, none⟩ = some (.int .u8 (c : Int))) (fun _ _ => trivial) _ _ _ _ ?_
      have hS : W2.cell? ⟨G, 0, none⟩ = some (.int .u8 (c : Int)) := B0.cell 0
      refine take_val (i := 8) (v := .string ⟨#[u]⟩) rfl rfl (by kernel_rfl) (by kernel_rfl) (by kernel_rfl) (fun _ _ _ h => h) rfl (by intro wq hq; have hx := HCV.out G wq hq; rw [HU.out] at hx; go_simp; try with_reducible rfl) hS ?_; try simp only [List.setIfInBounds_toArray, List.set_cons_zero, List.set_cons_succ]
      (refine wpAnyH_ready (rs := [2]) (by kernel_rfl) (by simp) ?_; refine AllReadyH.cons rfl (fun K hK => ?_) AllReadyH.nil; go_simp)
      refine (HIH.out _).mono ?_; rintro e W1 ⟨rfl, hk1⟩
      rw [HDQ.out]
      have hk3 := hk2.trans hk1
      have hS2 : W1.cell? ⟨G, 0, none⟩ = some (.int .u8 (c : Int)) := (B0.kept hk1).cell 0
      (refine hK.out _ _ (hS2) (fun _ => ?_); clear hK K; try simp only [Act.put, List.setIfInBounds_toArray, List.set_cons_zero, List.set_cons_succ])
      (refine take_val (i := 9) (v := .string ⟨(dq ++ [u]).toArray⟩) rfl rfl (by kernel_rfl) (by kernel_rfl) (by kernel_rfl) (fun _ _ _ h => h) rfl (by intro wq hq; (try go_split_ands); go_simp; (try with_reducible rfl); (try omega)) (hS2) ?_; try simp only [List.setIfInBounds_toArray, List.set_cons_zero, List.set_cons_succ])
      (refine take_val (i := 10) (v := .string ⟨(dq ++ [u]).toArray⟩) rfl rfl (by kernel_rfl) (by kernel_rfl) (by kernel_rfl) (fun _ _ _ h => h) rfl (by intro wq hq; (try go_split_ands); go_simp; (try with_reducible rfl); (try omega)) (hS2) ?_; try simp only [List.setIfInBounds_toArray, List.set_cons_zero, List.set_cons_succ])
      refine wpAnyH_done (by kernel_rfl) ?_ _
      clear hS hS2
      go_wp2_with fail
      go_ret
      exact ⟨by rw [HE.out]; rfl, hk3⟩

end Go.Proofs.YtphdojebdclonaaDoor
