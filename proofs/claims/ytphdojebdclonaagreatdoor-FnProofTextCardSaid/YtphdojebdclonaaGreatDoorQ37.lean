/- Joined texts. No condition. -/
import Derived.Lib.ItoaNum
import Derived.Test.YtphdojebdclonaaGreatDoorQ35
import Derived.Test.YtphdojebdclonaaGreatDoorQ36
import Derived.Test.YtphdojebdclonaaGreatDoorQ28
import Derived.Test.YtphdojebdclonaaGreatDoorQ16
/- Numbers in decimal; the texts of proofs, plain; the reference's ProofText. No condition. -/
namespace Go.Proofs.YtphdojebdclonaaGreatDoor
set_option linter.unusedSimpArgs false
set_option linter.unusedVariables false
open Go.RowKit

theorem dec_small {n : Nat} (h : n < 10) : Lib.decDigits n = [UInt8.ofNat (48 + n)] := by rw [Lib.decDigits]; simp [h]
theorem dec_big {n : Nat} (h : ¬ n < 10) : Lib.decDigits n = Lib.decDigits (n / 10) ++ [UInt8.ofNat (48 + n % 10)] := by rw [Lib.decDigits]; simp [h]
theorem dec_len (k : Nat) : ∀ n, n < 10 ^ k → 1 ≤ k → (Lib.decDigits n).length ≤ k := by
  induction k with
  | zero => intro n _ h; omega
  | succ k ih =>
    intro n hn _
    by_cases h : n < 10
    · rw [dec_small h]; simp
    · rw [dec_big h, List.length_append]
      have h1 : 1 ≤ k := by
        rcases Nat.eq_zero_or_pos k with e | e
        · subst e; simp at hn; omega
        · exact e
      have := ih (n / 10) (by rw [Nat.pow_succ] at hn; omega) h1
      simp; omega
theorem conv_byte (c : Nat) (hc : c < 256) (G : Nat) (w : World) (h : w.cell? ⟨G, 0, none⟩ = some (.int .u8 (c : Int))) : (convert 22 9 (.slice (some ⟨G, 0, none⟩) 1 1)).run Tryz.prog w = .ok (.string ⟨#[UInt8.ofNat c]⟩) w := by
  have h1 := run_convert_bytes_back (P := Tryz.prog) w 22 9 5 ⟨G, 0, none⟩ 1 [UInt8.ofNat c] Tryz.underlying22 Tryz.underlying5 Tryz.underlying9 (by
    intro j hj
    have : j = 0 := by simpa using hj
    subst this
    rw [show (⟨G, 0, none⟩ : Addr).add 0 = ⟨G, 0, none⟩ from rfl, h]
    simp
    omega)
  exact h1

set_option maxHeartbeats 4000000 in
set_option maxRecDepth 100000 in
theorem c_l1Number (n : Nat) : ∀ (w : World), n ≤ 99999999999 → Calls Tryz.prog 30 #[.int .i64 (n : Int)] w (RetK (.string ⟨(Lib.decDigits n).toArray⟩) w) := by
  induction n using Nat.strongRecOn with
  | ind n ih =>
  intro w hn
  have hge : ¬ (n : Int) < 0 := by omega
  by_cases h10 : n < 10
  · have h10i : (n : Int) < 10 := by omega
    have HD := Lib.hid (dec_small h10)
    obtain ⟨c, HC⟩ : ∃ c : Nat, Hid (48 + n = c) := ⟨_, rfl⟩
    have hw : IntKind.i64.wrap (48 + (n : Int)) = (c : Int) := by rw [← HC.out, IntKind.wrap_i64]; omega
    have hw8 : IntKind.u8.wrap (c : Int) = (c : Int) := by rw [← HC.out]; simp [IntKind.wrap, IntKind.bits, IntKind.signed]; omega
    have hcv := run_byte_string w c (by rw [← HC.out]; omega)
    go_enter Tryz.func30, Tryz.ntmps30
    go_wp2_with fail
    go_ret
    exact ⟨by rw [HD.out, HC.out]; rfl, (Kept.refl _).alloc _⟩
  · have h10i : ¬ (n : Int) < 10 := by omega
    have HD := Lib.hid (dec_big h10)
    obtain ⟨q, HQ⟩ : ∃ q : Nat, Hid (n / 10 = q) := ⟨_, rfl⟩
    obtain ⟨c, HC⟩ : ∃ c : Nat, Hid (48 + n % 10 = c) := ⟨_, rfl⟩
    have HIH : Hid (∀ w, Calls Tryz.prog 30 #[.int .i64 (q : Int)] w (RetK (.string ⟨(Lib.decDigits q).toArray⟩) w)) := fun w => ih q (by rw [← HQ.out]; omega) w (by rw [← HQ.out]; omega)
    have hqd : (n : Int).tdiv 10 = (q : Int) := by rw [← HQ.out]; exact Int.ofNat_tdiv n 10
    have hrm : (n : Int).tmod 10 = ((n % 10 : Nat) : Int) := (Int.ofNat_tmod n 10)
    obtain ⟨r, HR⟩ : ∃ r : Nat, Hid (n % 10 = r) := ⟨_, rfl⟩
    rw [HR.out] at hrm
    have hrl : r < 10 := by rw [← HR.out]; omega
    have hwq : IntKind.i64.wrap (q : Int) = (q : Int) := by rw [← HQ.out, IntKind.wrap_i64]; omega
    have hwr : IntKind.i64.wrap (r : Int) = (r : Int) := by rw [IntKind.wrap_i64]; omega
    have hw : IntKind.i64.wrap (48 + (r : Int)) = (c : Int) := by rw [← HC.out, HR.out, IntKind.wrap_i64]; omega
    have hw8 : IntKind.u8.wrap (c : Int) = (c : Int) := by rw [← HC.out, HR.out]; simp [IntKind.wrap, IntKind.bits, IntKind.signed]; omega
    have hc256 : c < 256 := by rw [← HC.out, HR.out]; omega
    have HCV := Lib.hid (conv_byte c hc256)
    have hql : (Lib.decDigits q).length ≤ 11 := dec_len 11 q (by rw [← HQ.out]; omega) (by omega)
    obtain ⟨dq, HDQ⟩ : ∃ d, Hid (Lib.decDigits q = d) := ⟨_, rfl⟩
    obtain ⟨u, HU⟩ : ∃ u, Hid (UInt8.ofNat c = u) := ⟨_, rfl⟩
    rw [HDQ.out] at hql
    have hadd : (⟨dq.toArray⟩ : ByteArray) ++ ⟨#[u]⟩ = ⟨(dq ++ [u]).toArray⟩ := str_add1 dq u
    have HE : Hid (Lib.decDigits n = dq ++ [u]) := by show _ = _; rw [HD.out, HQ.out, HDQ.out, HC.out, HU.out]
    clear ih hn
    go_enter Tryz.func30, Tryz.ntmps30
    go_wp2_with fail
    refine wp_region_held_drew (S := fun _ => True) (by kernel_rfl) trivial (fun hHeld => ?_)
    obtain ⟨W0, HW0⟩ : ∃ x, Hid (w.drew = x) := ⟨_, rfl⟩
    have hk0 : Kept w W0 := by rw [← HW0.out]; exact (Kept.refl w).drew
    rw [HW0.out]
    clear hHeld
    (refine take_val (i := 0) (v := .int .i64 (n : Int)) rfl rfl (by kernel_rfl) (by kernel_rfl) (by kernel_rfl) (fun _ _ _ h => h) rfl (by intro wq hq; (try go_split_ands); go_simp; try with_reducible rfl) (trivial) ?_; try simp only [List.setIfInBounds_toArray, List.set_cons_zero, List.set_cons_succ])
    (refine take_val (i := 1) (v := .int .i64 (q : Int)) rfl rfl (by kernel_rfl) (by kernel_rfl) (by kernel_rfl) (fun _ _ _ h => h) rfl (by intro wq hq; (try go_split_ands); go_simp; try with_reducible rfl) (trivial) ?_; try simp only [List.setIfInBounds_toArray, List.set_cons_zero, List.set_cons_succ])
    (refine take_val (i := 3) (v := .int .i64 (n : Int)) rfl rfl (by kernel_rfl) (by kernel_rfl) (by kernel_rfl) (fun _ _ _ h => h) rfl (by intro wq hq; (try go_split_ands); go_simp; try with_reducible rfl) (trivial) ?_; try simp only [List.setIfInBounds_toArray, List.set_cons_zero, List.set_cons_succ])
    (refine take_val (i := 4) (v := .int .i64 (r : Int)) rfl rfl (by kernel_rfl) (by kernel_rfl) (by kernel_rfl) (fun _ _ _ h => h) rfl (by intro wq hq; (try go_split_ands); go_simp; try with_reducible rfl) (trivial) ?_; try simp only [List.setIfInBounds_toArray, List.set_cons_zero, List.set_cons_succ])
    (refine take_val (i := 5) (v := .int .i64 (c : Int)) rfl rfl (by kernel_rfl) (by kernel_rfl) (by kernel_rfl) (fun _ _ _ h => h) rfl (by intro wq hq; (try go_split_ands); go_simp; try with_reducible rfl) (trivial) ?_; try simp only [List.setIfInBounds_toArray, List.set_cons_zero, List.set_cons_succ])
    (refine take_val (i := 6) (v := .int .u8 (c : Int)) rfl rfl (by kernel_rfl) (by kernel_rfl) (by kernel_rfl) (fun _ _ _ h => h) rfl (by intro wq hq; (try go_split_ands); go_simp; try with_reducible rfl) (trivial) ?_; try simp only [List.setIfInBounds_toArray, List.set_cons_zero, List.set_cons_succ])
    refine wpAnyH_ready (rs := [2, 7]) (by kernel_rfl) (by simp) ?_
    refine AllReadyH.cons rfl (fun K hK => ?_) (AllReadyH.cons rfl (fun K hK => ?_) AllReadyH.nil)
    · skip
      go_simp
      refine (HIH.out _).mono ?_; rintro e W1 ⟨rfl, hk1⟩
      rw [HDQ.out]
      (refine hK.out _ _ (trivial) (fun _ => ?_); clear hK K; try simp only [Act.put, List.setIfInBounds_toArray, List.set_cons_zero, List.set_cons_succ])
      (refine wpAnyH_ready (rs := [7]) (by kernel_rfl) (by simp) ?_; refine AllReadyH.cons rfl (fun K hK => ?_) AllReadyH.nil; go_simp)
      have B := Blk.new W1 5 #[.int .u8 (c : Int)]
      have hk2 := (hk0.trans hk1).alloc (.cells #[.int .u8 (c : Int)] 5)
      (refine hK.out _ _ (trivial) (fun _ => ?_); clear hK K; try simp only [Act.put, List.setIfInBounds_toArray, List.set_cons_zero, List.set_cons_succ])
      obtain ⟨G, HG⟩ : ∃ x, Hid (W1.heap.size = x) := ⟨_, rfl⟩
      obtain ⟨W2, HW2⟩ : ∃ x, Hid (W1.alloc (.cells #[.int .u8 (c : Int)] 5) = x) := ⟨_, rfl⟩
      rw [HW2.out] at B hk2
      rw [HG.out] at B
      rw [HG.out, HW2.out]
      refine held_more (S' := fun w' => w'.cell? ⟨G, 0, none⟩ = some (.int .u8 (c : Int))) (fun _ _ => trivial) _ _ _ _ ?_
      have hS : W2.cell? ⟨G, 0, none⟩ = some (.int .u8 (c : Int)) := B.cell 0
      refine take_val (i := 8) (v := .string ⟨#[u]⟩) rfl rfl (by kernel_rfl) (by kernel_rfl) (by kernel_rfl) (fun _ _ _ h => h) rfl (by intro wq hq; have hx := HCV.out G wq hq; rw [HU.out] at hx; go_simp; try with_reducible rfl) hS ?_; try simp only [List.setIfInBounds_toArray, List.set_cons_zero, List.set_cons_succ]
      (refine take_val (i := 9) (v := .string ⟨(dq ++ [u]).toArray⟩) rfl rfl (by kernel_rfl) (by kernel_rfl) (by kernel_rfl) (fun _ _ _ h => h) rfl (by intro wq hq; (try go_split_ands); go_simp; (try with_reducible rfl); (try omega)) (hS) ?_; try simp only [List.setIfInBounds_toArray, List.set_cons_zero, List.set_cons_succ])
      (refine take_val (i := 10) (v := .string ⟨(dq ++ [u]).toArray⟩) rfl rfl (by kernel_rfl) (by kernel_rfl) (by kernel_rfl) (fun _ _ _ h => h) rfl (by intro wq hq; (try go_split_ands); go_simp; (try with_reducible rfl); (try omega)) (hS) ?_; try simp only [List.setIfInBounds_toArray, List.set_cons_zero, List.set_cons_succ])
      refine wpAnyH_done (by kernel_rfl) ?_ _
      clear hS
      go_wp2_with fail
      go_ret
      exact ⟨by rw [HE.out]; rfl, hk2⟩
    · skip
      go_simp
      have B0 := Blk.new W0 5 #[.int .u8 (c : Int)]
      have hk2 := hk0.alloc (.cells #[.int .u8 (c : Int)] 5)
      (refine hK.out _ _ (trivial) (fun _ => ?_); clear hK K; try simp only [Act.put, List.setIfInBounds_toArray, List.set_cons_zero, List.set_cons_succ])
      obtain ⟨G, HG⟩ : ∃ x, Hid (W0.heap.size = x) := ⟨_, rfl⟩
      obtain ⟨W2, HW2⟩ : ∃ x, Hid (W0.alloc (.cells #[.int .u8 (c : Int)] 5) = x) := ⟨_, rfl⟩
      rw [HW2.out] at B0 hk2
      rw [HG.out] at B0
      rw [HG.out, HW2.out]
      refine held_more (S' := fun w' => w'.cell? ⟨G, 0, none⟩ = some (.int .u8 (c : Int))) (fun _ _ => trivial) _ _ _ _ ?_
      have hS : W2.cell? ⟨G, 0, none⟩ = some (.int .u8 (c : Int)) := B0.cell 0
      refine take_val (i := 8) (v := .string ⟨#[u]⟩) rfl rfl (by kernel_rfl) (by kernel_rfl) (by kernel_rfl) (fun _ _ _ h => h) rfl (by intro wq hq; have hx := HCV.out G wq hq; rw [HU.out] at hx; go_simp; try with_reducible rfl) hS ?_; try simp only [List.setIfInBounds_toArray, List.set_cons_zero, List.set_cons_succ]
      (refine wpAnyH_ready (rs := [2]) (by kernel_rfl) (by simp) ?_; refine AllReadyH.cons rfl (fun K hK => ?_) AllReadyH.nil; go_simp)
      refine (HIH.out _).mono ?_; rintro e W1 ⟨rfl, hk1⟩
      rw [HDQ.out]
      have hk3 := hk2.trans hk1
      have hS2 : W1.cell? ⟨G, 0, none⟩ = some (.int .u8 (c : Int)) := (B0.kept hk1).cell 0
      (refine hK.out _ _ (hS2) (fun _ => ?_); clear hK K; try simp only [Act.put, List.setIfInBounds_toArray, List.set_cons_zero, List.set_cons_succ])
      (refine take_val (i := 9) (v := .string ⟨(dq ++ [u]).toArray⟩) rfl rfl (by kernel_rfl) (by kernel_rfl) (by kernel_rfl) (fun _ _ _ h => h) rfl (by intro wq hq; (try go_split_ands); go_simp; (try with_reducible rfl); (try omega)) (hS2) ?_; try simp only [List.setIfInBounds_toArray, List.set_cons_zero, List.set_cons_succ])
      (refine take_val (i := 10) (v := .string ⟨(dq ++ [u]).toArray⟩) rfl rfl (by kernel_rfl) (by kernel_rfl) (by kernel_rfl) (fun _ _ _ h => h) rfl (by intro wq hq; (try go_split_ands); go_simp; (try with_reducible rfl); (try omega)) (hS2) ?_; try simp only [List.setIfInBounds_toArray, List.set_cons_zero, List.set_cons_succ])
      refine wpAnyH_done (by kernel_rfl) ?_ _
      clear hS hS2
      go_wp2_with fail
      go_ret
      exact ⟨by rw [HE.out]; rfl, hk3⟩

end Go.Proofs.YtphdojebdclonaaGreatDoor
/- The texts of proofs, plain; the reference's ProofText. No condition. -/
namespace Go.Proofs.YtphdojebdclonaaGreatDoor
set_option linter.unusedSimpArgs false
set_option linter.unusedVariables false
open Go.RowKit

/-- the text of a plan -/
def Sp.planText (l : List Int) : List UInt8 := [112, 108, 97, 110] ++ l.flatMap (fun k => 32 :: Lib.decDigits k.toNat)
/-- the text of a proof -/
def Sp.proofText (t : Sp.Task) : List UInt8 :=
  if Sp.taskOk t = true then
    if Sp.planThere t = true then Sp.planText (Sp.planFor t)
    else if Sp.sumForB t = true then [115, 117, 109, 32] ++ Sp.letters (Sp.sumForN t)
    else [99, 108, 111, 115, 101, 100, 32] ++ Lib.decDigits (Sp.reachedN t)
  else []
theorem planText_snoc (l : List Int) (k : Nat) (h : k < l.length) : Sp.planText (l.take (k + 1)) = Sp.planText (l.take k) ++ [32] ++ Lib.decDigits (l.getD k default).toNat := by
  unfold Sp.planText
  rw [List.take_succ_eq_append_getElem h, List.flatMap_append]
  simp [List.getD, List.getElem?_eq_getElem h]
theorem planText_len {l : List Int} (h : ∀ x ∈ l, 0 ≤ x ∧ x < 100) : (Sp.planText l).length ≤ 4 + 3 * l.length := by
  unfold Sp.planText
  have : ∀ m : List Int, (∀ x ∈ m, 0 ≤ x ∧ x < 100) → (m.flatMap (fun k => 32 :: Lib.decDigits k.toNat)).length ≤ 3 * m.length := by
    intro m hm
    induction m with
    | nil => simp
    | cons a m ih =>
      have h1 := ih (fun x hx => hm x (by simp [hx]))
      have h2 := hm a (by simp)
      have h3 := dec_len 2 a.toNat (by omega) (by omega)
      rw [List.flatMap_cons, List.length_append, List.length_cons, List.length_cons]
      omega
  have := this l h
  rw [List.length_append, show ([112, 108, 97, 110] : List UInt8).length = 4 from rfl]
  omega
theorem sumFor_bd (t : Sp.Task) : Sp.sumForB t = true → 0 ≤ Sp.sumForN t ∧ Sp.sumForN t ≤ 31 := by
  unfold Sp.sumForB Sp.sumForN
  intro h
  cases hs : Sp.sumFor t with
  | none => rw [hs] at h; cases h
  | some f =>
    have hf : f < 32 := by
      unfold Sp.sumFor at hs
      exact List.mem_range.1 (List.mem_of_find?_eq_some hs)
    simp only
    omega

theorem plan_els {t : Sp.Task} (h : Sp.planThere t = true) {k : Nat} (hk : k < (Sp.planFor t).length) : 0 ≤ (Sp.planFor t).getD k default ∧ (Sp.planFor t).getD k default < 6 := by
  obtain ⟨hok, _, _, hpk⟩ := planFor_on h
  have hrun : 0 ≤ Sp.planRun t t.start (Sp.planFor t) := by
    unfold Sp.planOk at hpk
    rw [Bool.and_eq_true, decide_eq_true_eq] at hpk
    exact hpk.1
  obtain ⟨_, _, _, hst⟩ := planRun_parts hrun
  obtain ⟨h1, h2, _⟩ := stAt_next hk (hst k) (hst (k + 1))
  have := taskOk_len hok
  omega
theorem plan_in {t : Sp.Task} (h : Sp.planThere t = true) : ∀ x ∈ Sp.planFor t, 0 ≤ x ∧ x < 100 := by
  intro x hx
  obtain ⟨k, hk, rfl⟩ := List.getElem_of_mem hx
  have := plan_els h hk
  rw [List.getD_eq_getElem?_getD, List.getElem?_eq_getElem hk] at this
  simp only [Option.getD_some] at this
  omega
theorem take_in {l : List Int} (h : ∀ x ∈ l, 0 ≤ x ∧ x < 100) (k : Nat) : ∀ x ∈ l.take k, 0 ≤ x ∧ x < 100 := fun x hx => h x (List.mem_of_mem_take hx)

set_option maxHeartbeats 4000000 in
set_option maxRecDepth 100000 in
theorem c_sProofText (v : Value) (t : Sp.Task) (w : World) (h : TaskV w v t) : Calls Tryz.prog 8 #[v] w (RetK (.string ⟨(Sp.proofText t).toArray⟩) w) := by
  obtain ⟨A, n, c, A', n', c', rfl⟩ := h.form
  have hk0 := (Kept.refl w).alloc (.cells #[.int .i64 t.start, .slice A n c, .slice A' n' c'] 26)
  have B0 := Blk.new w 26 #[.int .i64 t.start, .slice A n c, .slice A' n' c']
  have hT := h.keep hk0
  go_enter Tryz.func8, Tryz.ntmps8
  go_wp2_with fail
  refine (c_sTaskValid _ t _ hT).mono ?_; rintro e w2 ⟨rfl, hk2⟩
  replace hk0 := hk0.trans hk2
  replace B0 := B0.kept hk2
  replace hT := hT.keep hk2
  clear hk2 h
  have c0 := B0.cell
  cases ht : Sp.taskOk t
  · have HE : Hid (Sp.proofText t = []) := by show _ = _; unfold Sp.proofText; rw [if_neg (by rw [ht]; decide)]
    clear ht
    go_wp2_with fail
    go_ret
    exact ⟨by rw [HE.out]; rfl, hk0⟩
  have HOK := Lib.hid ht
  clear ht
  go_wp2_with fail
  refine (c_sPlanFor _ t _ hT).mono ?_; rintro e w3 ⟨v, rfl, ⟨A3, c3, rfl, hOI⟩, hk3⟩
  have hI := hOI.1
  have B3 := B0.kept hk3
  have hT3 := hT.keep hk3
  have hkw := hk0.trans hk3
  clear hOI hT B0 hk0 hk3 c0
  cases hp : Sp.planThere t
  · have c0 := B3.cell
    have HP := Lib.hid hp
    clear hp
    go_wp2_with fail
    refine (c_sSumFor _ t _ hT3).mono ?_; rintro e w4 ⟨rfl, hk4⟩
    have B4 := B3.kept hk4
    have hT4 := hT3.keep hk4
    have hkw4 := hkw.trans hk4
    clear c0
    cases hs : Sp.sumForB t
    · have hR : Sp.reached t = ((Sp.reachedN t : Nat) : Int) := by unfold Sp.reached; rw [if_pos HOK.out]
      have hRl := reachedN_lt HOK.out
      have HE : Hid (Sp.proofText t = [99, 108, 111, 115, 101, 100, 32] ++ Lib.decDigits (Sp.reachedN t)) := by
        show _ = _
        unfold Sp.proofText
        rw [if_pos HOK.out, if_neg (by rw [HP.out]; decide), if_neg (by rw [hs]; decide)]
      obtain ⟨S, HS⟩ : ∃ S : Nat, Hid (Sp.reachedN t = S) := ⟨_, rfl⟩
      rw [HS.out] at hR hRl HE
      have HRr := Lib.hid hR
      have c0 := B4.cell
      clear hs hR
      go_wp2_with fail
      refine (c_sReached _ t _ hT4).mono ?_; rintro e w5 ⟨rfl, hk5⟩
      rw [HRr.out]
      have hdl := dec_len 10 S (by omega) (by omega)
      go_wp2_with fail
      refine (c_l1Number S _ (by omega)).mono ?_; rintro e w6 ⟨rfl, hk6⟩
      obtain ⟨d, HD⟩ : ∃ d, Hid (Lib.decDigits S = d) := ⟨_, rfl⟩
      rw [HD.out] at hdl HE
      rw [HD.out]
      have hadd : (⟨#[99, 108, 111, 115, 101, 100, 32]⟩ : ByteArray) ++ ⟨d.toArray⟩ = ⟨([99, 108, 111, 115, 101, 100, 32] ++ d).toArray⟩ := str_add [99, 108, 111, 115, 101, 100, 32] d
      go_wp2_with fail
      go_ret
      exact ⟨by rw [HE.out]; rfl, (hkw4.trans hk5).trans hk6⟩
    · have hsb := sumFor_bd t hs
      have HE : Hid (Sp.proofText t = [115, 117, 109, 32] ++ Sp.letters (Sp.sumForN t)) := by
        show _ = _
        unfold Sp.proofText
        rw [if_pos HOK.out, if_neg (by rw [HP.out]; decide), if_pos hs]
      clear hs
      go_wp2_with fail
      refine (c_sLetters (Sp.sumForN t) _ hsb.1 hsb.2).mono ?_; rintro e w5 ⟨rfl, hk5⟩
      have hll := letters_len (Sp.sumForN t)
      obtain ⟨d, HD⟩ : ∃ d, Hid (Sp.letters (Sp.sumForN t) = d) := ⟨_, rfl⟩
      rw [HD.out] at hll HE
      rw [HD.out]
      have hadd : (⟨#[115, 117, 109, 32]⟩ : ByteArray) ++ ⟨d.toArray⟩ = ⟨([115, 117, 109, 32] ++ d).toArray⟩ := str_add [115, 117, 109, 32] d
      go_wp2_with fail
      go_ret
      exact ⟨by rw [HE.out]; rfl, hkw4.trans hk5⟩
  · have HP := Lib.hid hp
    have HPI := Lib.hid (plan_in hp)
    have hpl := (planFor_form t).1
    have HE : Hid (Sp.proofText t = Sp.planText (Sp.planFor t)) := by
      show _ = _
      unfold Sp.proofText
      rw [if_pos HOK.out, if_pos hp]
    have HEl : Hid (∀ k, k < (Sp.planFor t).length → 0 ≤ (Sp.planFor t).getD k default ∧ (Sp.planFor t).getD k default < 6) := fun k hk => plan_els HP.out hk
    obtain ⟨l, HLl⟩ : ∃ l, Hid (Sp.planFor t = l) := ⟨_, rfl⟩
    rw [HLl.out] at hI hpl HE HEl HPI
    rw [HLl.out]
    obtain ⟨m, HM⟩ : ∃ m, Hid (l.length = m) := ⟨_, rfl⟩
    rw [HM.out] at hI hpl
    rw [HM.out]
    have HI3 := Lib.hid hI
    clear hp hI
    go_wp2_with fail
    go_loopw [5, 6] (fun x i wr => ∃ k : Nat, k ≤ m ∧ i = .int .i64 (k : Int) ∧ x = .string ⟨(Sp.planText (l.take k)).toArray⟩ ∧ Kept w3 wr) (fun _ i _ => m - (intOf i).toNat)
    case atStart => exact ⟨0, Nat.zero_le _, rfl, rfl, Kept.refl _⟩
    case round =>
      obtain ⟨k, hk, rfl, rfl, hkr⟩ := hrel
      by_cases hlt : k < m
      · obtain ⟨b, o, e, hb, hc, _⟩ := (HI3.out.keep hkr).at hlt
        obtain ⟨y0, y6⟩ := HEl.out k (by rw [HM.out]; exact hlt)
        have HSn := Lib.hid (planText_snoc l k (by rw [HM.out]; exact hlt))
        have hxl : (Sp.planText (l.take k)).length ≤ 100 := by
          have h1 := planText_len (take_in HPI.out k)
          rw [List.length_take] at h1
          omega
        obtain ⟨y, hy⟩ := Int.eq_ofNat_of_zero_le y0
        rw [hy] at hc y6 HSn
        rw [Int.toNat_natCast] at HSn
        have hdl := dec_len 2 y (by omega) (by omega)
        obtain ⟨X, HX⟩ : ∃ X, Hid (Sp.planText (l.take k) = X) := ⟨_, rfl⟩
        rw [HX.out] at hxl HSn
        rw [HX.out]
        obtain ⟨d, HD⟩ : ∃ d, Hid (Lib.decDigits y = d) := ⟨_, rfl⟩
        rw [HD.out] at hdl HSn
        have hadd1 : (⟨X.toArray⟩ : ByteArray) ++ ⟨#[32]⟩ = ⟨(X ++ [32]).toArray⟩ := str_add1 X 32
        have hadd2 : (⟨(X ++ [32]).toArray⟩ : ByteArray) ++ ⟨d.toArray⟩ = ⟨(X ++ [32] ++ d).toArray⟩ := str_add (X ++ [32]) d
        have hlti : (k : Int) < (m : Int) := by omega
        subst e
        clear hy y0
        go_wp2_with fail
        refine (c_l1Number y _ (by omega)).mono ?_; rintro e w6 ⟨rfl, hk6⟩
        rw [HD.out]
        have hkN := hkr.trans hk6
        go_wp2_with fail
        exact ⟨⟨k + 1, by omega, by go_num, by rw [HSn.out]; simp, hkN⟩, by simp [intOf]; omega⟩
      · obtain rfl : k = m := by omega
        have HT : Hid (l.take k = l) := by show _ = _; rw [← HM.out]; exact List.take_length
        go_wp2_with fail
        go_ret
        exact ⟨by rw [HE.out, HT.out]; rfl, hkw.trans hkr⟩

end Go.Proofs.YtphdojebdclonaaGreatDoor
