/- The law FnNeeded, walked. No condition. -/
import Derived.Test.YtphdojebdclonaaD19
import Derived.Test.YtphdojebdclonaaG50
import Derived.Test.YtphdojebdclonaaA1
import Derived.Test.YtphdojebdclonaaA5
import Derived.Test.YtphdojebdclonaaA6
import Derived.Test.YtphdojebdclonaaRowB
namespace Go.Proofs.Ytphdojebdclonaa
open Go.RowKit

theorem blk_news {W : World} {S : Nat} {T : TypeId} {xs : List Value} (h : Blk W S T xs.toArray) : ∀ (j : Nat) (u : Value), xs[j]? = some u → W.cell? ((⟨S, 0, none⟩ : Addr).add j) = some u := by
  intro j u hj
  rw [addr_add, Nat.zero_add, h.cell, List.getElem?_toArray]
  exact hj
/-- the deeds, and one of them a second time -/
theorem twice_deeds {w w2 : World} {X b off n j : Nat} {A : Option Addr} {c : Nat} {l : List Sp.Deed} (hl : l.length = n) (hj : j < n) (hm : n + 1 ≤ maxLen) (h : ∀ k, k < n → DeedCells w b (off + k * 4) (l.getD k default)) (hk : Kept w w2)
    (hown : w2.ownsRow X 43 4 (.slice A (n + 1) c) (n + 1) (deedVals w b (off + 0 * 4) n ++ deedVals w b (off + j * 4) 1)) : Deeds w2 A (n + 1) (l ++ [l.getD j default]) := by
  refine ⟨by rw [List.length_append, hl]; rfl, hm, fun h0 => ?_⟩
  obtain ⟨_, g, rfl, _, hgl, _⟩ := own_some hown h0
  have hc := hown.cells (g := g) rfl
  refine ⟨g, 0, rfl, hgl, fun q hq => ?_⟩
  rw [Nat.zero_add]
  obtain ⟨q', hq', hv, hd⟩ : ∃ q', q' < n ∧ (∀ i, i < 4 → (deedVals w b (off + 0 * 4) n ++ deedVals w b (off + j * 4) 1)[q * 4 + i]? = some (cellAt w b (off + q' * 4 + i))) ∧ (l ++ [l.getD j default]).getD q default = l.getD q' default := by
    by_cases hqn : q < n
    · refine ⟨q, hqn, fun i hi => ?_, ?_⟩
      · rw [List.getElem?_append_left (by rw [deedVals_len]; omega), deedVals_at _ _ _ _ _ (by omega)]
        congr 2; omega
      · rw [List.getD_eq_getElem?_getD, List.getElem?_append_left (by omega), List.getD_eq_getElem?_getD]
    · refine ⟨j, hj, fun i hi => ?_, ?_⟩
      · rw [List.getElem?_append_right (by rw [deedVals_len]; omega), deedVals_len, deedVals_at _ _ _ _ _ (by omega)]
        congr 2; omega
      · rw [List.getD_eq_getElem?_getD, List.getElem?_append_right (by omega), hl, show q - n = 0 by omega]; rfl
  rw [hd]
  have hD := h q' hq'
  have hcell : ∀ i, i < 4 → w2.cell? ⟨g, q * 4 + i, none⟩ = w.cell? ⟨b, off + q' * 4 + i, none⟩ := by
    intro i hi
    have h1 := hc (q * 4 + i) _ (hv i hi)
    rw [(deed_cell hD hi).1]
    rw [addr_add, Nat.zero_add] at h1
    exact h1
  obtain ⟨A5, n5, c5, h0, h1, h2, h3, h4, h5⟩ := hD
  exact ⟨A5, n5, c5, by have := hcell 0 (by omega); simp only [Nat.add_zero] at this; rw [this]; exact h0, h1.keep hk, by rw [hcell 1 (by omega)]; exact h2, by rw [hcell 2 (by omega)]; exact h3, by rw [hcell 3 (by omega)]; exact h4, h5⟩
theorem lawS {w0 w' : World} {E lb lo b o : Nat} {T : TypeId} {x y z u v0 v1 v2 v3 : Value} (B : Blk w' E T #[x, y, z]) (hl : lb < w0.heap.size ∧ w0.cell? ⟨lb, lo, none⟩ = some u) (hk : Kept w0 w') (hd : w0.cell? ⟨b, o, none⟩ = some v0 ∧ w0.cell? ⟨b, o + 1, none⟩ = some v1 ∧ w0.cell? ⟨b, o + 2, none⟩ = some v2 ∧ w0.cell? ⟨b, o + 3, none⟩ = some v3) (_hb : b < w0.heap.size) :
    w'.cell? ⟨E, 0, none⟩ = some x ∧ w'.cell? ⟨E, 1, none⟩ = some y ∧ w'.cell? ⟨E, 2, none⟩ = some z ∧ w'.cell? ⟨lb, lo, none⟩ = some u ∧ w'.cell? ⟨b, o, none⟩ = some v0 ∧ w'.cell? ⟨b, o + 1, none⟩ = some v1 ∧ w'.cell? ⟨b, o + 2, none⟩ = some v2 ∧ w'.cell? ⟨b, o + 3, none⟩ = some v3 :=
  ⟨B.cell 0, B.cell 1, B.cell 2, hk.at_ hl.2, hk.at_ hd.1, hk.at_ hd.2.1, hk.at_ hd.2.2.1, hk.at_ hd.2.2.2⟩
/-- the task with one deed a second time, in memory of its own -/
def TwiceTQ (wo : World) (t : Sp.Task) (j : Nat) (v1 : Value) (v : Value) (wx : World) : Prop :=
  ∃ (D : Nat) (A : Option Addr) (c n6 : Nat), v = .pointer (some ⟨D, 0, none⟩) ∧ Blk wx D 30 #[.int .i64 t.start, v1, .slice A n6 c] ∧ Deeds wx A n6 (t.deeds ++ [t.deeds.getD j default]) ∧ Kept wo wx
theorem twice_task {w : World} {t : Sp.Task} {k n n' n6 : Nat} {c c' c6 : Nat} {A A' A6 : Option Addr} (h : TaskV w (.agg #[.int .i64 t.start, .slice A n c, .slice A' n' c']) t) (hd : Deeds w A6 n6 (t.deeds ++ [t.deeds.getD k default])) :
    TaskV w (.agg #[.int .i64 t.start, .slice A n c, .slice A6 n6 c6]) (Sp.twice t k) := by
  obtain ⟨A1, n1, c1, A2, n2, c2, e, h1, h2, h3⟩ := h
  injection e with e
  simp only [Array.mk.injEq, List.cons.injEq, Value.slice.injEq, and_true] at e
  obtain ⟨_, ⟨rfl, rfl, rfl⟩, _⟩ := e
  exact ⟨A, n, c, A6, n6, c6, rfl, h1, hd, h3⟩

set_option maxHeartbeats 8000000 in
set_option maxRecDepth 100000 in
theorem l_NeededFn (A0 : Option Addr) (n0 c0 : Nat) (w : World) (h : BytesV w A0 n0 ∧ n0 ≤ c0 ∧ c0 ≤ maxLen) : Calls Try.prog 4 #[.slice A0 n0 c0] w (RetK (.bool true) w) := by
  by_cases hn : 1048576 < n0
  · have hn1 : (1048576 : Int) < (n0 : Int) := by omega
    go_enter Try.func4, Try.ntmps4
    go_wp2_with fail
    go_ret
    exact ⟨rfl, Kept.refl _⟩
  have hn1 : ¬ (1048576 : Int) < (n0 : Int) := by omega
  obtain ⟨i1, hi1, hy0, hy1, hy2⟩ := info_parts info_deed
  have HID := Lib.hid (And.intro hi1 (And.intro hy0 (And.intro hy1 hy2)))
  clear hi1 hy0 hy1 hy2
  go_enter Try.func4, Try.ntmps4
  go_wp2_with fail
  refine (c_drawNeeded A0 n0 c0 w h).mono ?_; rintro e w2 ⟨v, rfl, ⟨t, hTV, hcap, hd8⟩, hk2⟩
  obtain ⟨A, n, c, A', n', c', rfl⟩ := hTV.form
  have hk0 := hk2.alloc (.cells #[.int .i64 t.start, .slice A n c, .slice A' n' c'] 30)
  have hT := hTV.keep ((Kept.refl w2).alloc (.cells #[.int .i64 t.start, .slice A n c, .slice A' n' c'] 30))
  have B0 := Blk.new w2 30 #[.int .i64 t.start, .slice A n c, .slice A' n' c']
  have HLd := Lib.hid hT.deeds.len
  have hn8 : n' ≤ 8 := by rw [← HLd.out]; exact hd8
  have HCap := Lib.hid hcap
  clear hk2 hTV hcap
  obtain ⟨l, HLs⟩ : ∃ l, Hid (Sp.needed t = l) := ⟨_, rfl⟩
  go_wp2_with fail
  refine (c_iNeeded _ t _ hT).mono ?_; rintro e w3 ⟨v, rfl, ⟨A3, c3, rfl, hL⟩, hk3⟩
  rw [HLs.out] at hL ⊢
  replace hk0 := hk0.trans hk3
  replace B0 := B0.kept hk3
  replace hT := hT.keep hk3
  replace hL := hL.1
  clear hk3
  have c0 := B0.cell
  go_wp2_with fail
  refine (c_sNeeded _ t _ hT HCap.out).mono ?_; rintro e w4 ⟨v, rfl, ⟨A4, c4, rfl, hL4⟩, hk4⟩
  rw [HLs.out] at hL4 ⊢
  replace hk0 := hk0.trans hk4
  replace B0 := B0.kept hk4
  replace hT := hT.keep hk4
  replace hL := hL.keep hk4
  clear hk4 c0
  go_wp2_with fail
  refine (c_lsameInts _ _ _ _ _ _ _ _ _ hL hL4.1 rfl).mono ?_; rintro e w5 ⟨rfl, hk5⟩
  replace hk0 := hk0.trans hk5
  replace B0 := B0.kept hk5
  replace hT := hT.keep hk5
  replace hL := hL.keep hk5
  clear hk5 hL4
  have c0 := B0.cell
  go_wp2_with fail
  refine (c_iPlanFor _ t _ hT).mono ?_; rintro e w6 ⟨v, rfl, ⟨A5, c5, rfl, hP⟩, hk6⟩
  replace hk0 := hk0.trans hk6
  replace B0 := B0.kept hk6
  replace hT := hT.keep hk6
  replace hL := hL.keep hk6
  replace hP := hP.1
  clear hk6 c0
  obtain ⟨bp, HBp⟩ : ∃ bp, Hid (Sp.planThere t = bp) := ⟨_, rfl⟩
  obtain ⟨m, Hm⟩ : ∃ m, Hid (l.length = m) := ⟨_, rfl⟩
  obtain ⟨q, Hq⟩ : ∃ q, Hid ((Sp.planFor t).length = q) := ⟨_, rfl⟩
  rw [HBp.out, Hm.out, Hq.out]
  rw [Hm.out] at hL
  rw [Hq.out] at hP
  have HAsc : Hid (l.Pairwise (· < ·)) := by show List.Pairwise _ _; rw [← HLs.out]; exact needed_asc t
  have HIn : Hid (∀ x ∈ l, Sp.planThere t = true ∧ x ∈ Sp.planFor t ∧ ∃ k : Nat, x = (k : Int) ∧ k < t.deeds.length) := fun x hx => needed_in (by rw [HLs.out]; exact hx)
  have HTw : Hid (∀ x ∈ l, t.deeds.length < 6 → x ∉ Sp.needed (Sp.twice t x.toNat)) := fun x hx hl => twice_not (by rw [HLs.out]; exact hx) hl
  have HIm := Lib.hid (fun (j : Nat) (hj : j < m) => (show l.getD j default ∈ l from at_mem (by rw [Hm.out]; exact hj)))
  have hmb : m ≤ 1073741824 := by rw [← Hm.out, ← HLs.out]; exact needed_len t
  go_wp2_with fail
  go_loopw [7] (fun i wr => ∃ k : Nat, k ≤ m ∧ i = .int .i64 (k : Int) ∧ Kept w6 wr) (fun i _ => m - (intOf i).toNat)
  case atStart => exact ⟨0, Nat.zero_le _, rfl, Kept.refl _⟩
  case round =>
    obtain ⟨k, hk, rfl, hkp⟩ := hrel
    by_cases hlt : k < m
    · have hkm : (k : Int) < (m : Int) := by omega
      have B1 := B0.kept hkp
      have hL1 := hL.keep hkp
      have hT1 := hT.keep hkp
      have hP1 := hP.keep hkp
      obtain ⟨lb, lo, rfl, hlb, hlc, _⟩ := hL1.at hlt
      have hmem := HIm.out k hlt
      obtain ⟨hpt, hpl, j, hxj, hjl⟩ := HIn.out _ hmem
      have htw := HTw.out _ hmem
      have hxk := hxj
      rw [hxj] at hpl htw hlc
      rw [HLd.out] at hjl htw
      rw [Int.toNat_natCast] at htw
      obtain rfl : bp = true := by rw [← HBp.out]; exact hpt
      have HPl : Hid (decide ((j : Int) ∈ Sp.planFor t) = true) := decide_eq_true hpl
      have HTw2 := Lib.hid htw
      have HOk : Hid (Sp.taskOk t = true) := (planFor_on hpt).1
      have hltk := hlt
      have HXk := Lib.hid hxk
      clear hmem hpt hpl htw hxj hlt hxk
      have hj0 : (0 : Int) ≤ (j : Int) := by omega
      have hjn : (j : Int) < (n' : Int) := by omega
      go_wp2_with fail
      refine (c_lhasInt _ _ _ _ (j : Int) _ hP1).mono ?_; rintro e w7 ⟨rfl, rfl⟩
      rw [HPl.out]
      generalize wr = wo at *
      have c0 := B1.cell
      go_wp2_with fail
      by_cases h6 : n' < 6
      · have h61 : (n' : Int) < 6 := by omega
        clear c0
        have hkq := (Kept.refl wo).drew
        have B2 := B1.kept hkq
        have hlcd : wo.drew.cell? ⟨lb, lo + k, none⟩ = some (.int .i64 (j : Int)) := hkq.at_ hlc
        refine wp_region_held_drew (S := fun w' => w'.cell? ⟨w2.heap.size, 0, none⟩ = some (.int .i64 t.start) ∧ w'.cell? ⟨w2.heap.size, 1, none⟩ = some (.slice A n c) ∧ w'.cell? ⟨w2.heap.size, 2, none⟩ = some (.slice A' n' c') ∧ w'.cell? ⟨lb, lo + k, none⟩ = some (.int .i64 (j : Int))) (by kernel_rfl) ⟨B2.cell 0, B2.cell 1, B2.cell 2, hlcd⟩ (fun hHeld => ?_)
        (refine take_val (i := 0) (v := .pointer (some ⟨w2.heap.size, 2, none⟩)) rfl rfl (by kernel_rfl) (by kernel_rfl) (by kernel_rfl) (fun _ _ _ h => h) rfl (by intro wq hq; (try go_split_ands); go_simp; try with_reducible rfl) (hHeld) ?_; try simp only [List.setIfInBounds_toArray, List.set_cons_zero, List.set_cons_succ])
        (refine take_val (i := 1) (v := .slice A' n' c') rfl rfl (by kernel_rfl) (by kernel_rfl) (by kernel_rfl) (fun _ _ _ h => h) rfl (by intro wq hq; (try go_split_ands); go_simp; try with_reducible rfl) (hHeld) ?_; try simp only [List.setIfInBounds_toArray, List.set_cons_zero, List.set_cons_succ])
        (refine take_val (i := 2) (v := .int .i64 (n' : Int)) rfl rfl (by kernel_rfl) (by kernel_rfl) (by kernel_rfl) (fun _ _ _ h => h) rfl (by intro wq hq; (try go_split_ands); go_simp; try with_reducible rfl) (hHeld) ?_; try simp only [List.setIfInBounds_toArray, List.set_cons_zero, List.set_cons_succ])
        (refine take_val (i := 3) (v := .bool true) rfl rfl (by kernel_rfl) (by kernel_rfl) (by kernel_rfl) (fun _ _ _ h => h) rfl (by intro wq hq; (try go_split_ands); go_simp; try with_reducible rfl) (hHeld) ?_; try simp only [List.setIfInBounds_toArray, List.set_cons_zero, List.set_cons_succ])
        (refine take_val (i := 4) (v := .bool true) rfl rfl (by kernel_rfl) (by kernel_rfl) (by kernel_rfl) (fun _ _ _ h => h) rfl (by intro wq hq; (try go_split_ands); go_simp; try with_reducible rfl) (hHeld) ?_; try simp only [List.setIfInBounds_toArray, List.set_cons_zero, List.set_cons_succ])
        (refine take_val (i := 5) (v := .slice (some ⟨lb, lo, none⟩) m c3) rfl rfl (by kernel_rfl) (by kernel_rfl) (by kernel_rfl) (fun _ _ _ h => h) rfl (by intro wq hq; (try go_split_ands); go_simp; try with_reducible rfl) (hHeld) ?_; try simp only [List.setIfInBounds_toArray, List.set_cons_zero, List.set_cons_succ])
        (refine take_val (i := 6) (v := .int .i64 (k : Int)) rfl rfl (by kernel_rfl) (by kernel_rfl) (by kernel_rfl) (fun _ _ _ h => h) rfl (by intro wq hq; (try go_split_ands); go_simp; try with_reducible rfl) (hHeld) ?_; try simp only [List.setIfInBounds_toArray, List.set_cons_zero, List.set_cons_succ])
        (refine take_val (i := 7) (v := .pointer (some ⟨lb, lo + k, none⟩)) rfl rfl (by kernel_rfl) (by kernel_rfl) (by kernel_rfl) (fun _ _ _ h => h) rfl (by intro wq hq; (try go_split_ands); go_simp; try with_reducible rfl) (hHeld) ?_; try simp only [List.setIfInBounds_toArray, List.set_cons_zero, List.set_cons_succ])
        (refine take_val (i := 8) (v := .int .i64 (j : Int)) rfl rfl (by kernel_rfl) (by kernel_rfl) (by kernel_rfl) (fun _ _ _ h => h) rfl (by intro wq hq; (try go_split_ands); go_simp; try with_reducible rfl) (hHeld) ?_; try simp only [List.setIfInBounds_toArray, List.set_cons_zero, List.set_cons_succ])
        (refine take_val (i := 9) (v := .bool true) rfl rfl (by kernel_rfl) (by kernel_rfl) (by kernel_rfl) (fun _ _ _ h => h) rfl (by intro wq hq; (try go_split_ands); go_simp; try with_reducible rfl) (hHeld) ?_; try simp only [List.setIfInBounds_toArray, List.set_cons_zero, List.set_cons_succ])
        (refine take_val (i := 10) (v := .bool true) rfl rfl (by kernel_rfl) (by kernel_rfl) (by kernel_rfl) (fun _ _ _ h => h) rfl (by intro wq hq; (try go_split_ands); go_simp; try with_reducible rfl) (hHeld) ?_; try simp only [List.setIfInBounds_toArray, List.set_cons_zero, List.set_cons_succ])
        (refine take_val (i := 11) (v := .bool true) rfl rfl (by kernel_rfl) (by kernel_rfl) (by kernel_rfl) (fun _ _ _ h => h) rfl (by intro wq hq; (try go_split_ands); go_simp; try with_reducible rfl) (hHeld) ?_; try simp only [List.setIfInBounds_toArray, List.set_cons_zero, List.set_cons_succ])
        (refine take_val (i := 12) (v := .slice (some ⟨lb, lo, none⟩) m c3) rfl rfl (by kernel_rfl) (by kernel_rfl) (by kernel_rfl) (fun _ _ _ h => h) rfl (by intro wq hq; (try go_split_ands); go_simp; try with_reducible rfl) (hHeld) ?_; try simp only [List.setIfInBounds_toArray, List.set_cons_zero, List.set_cons_succ])
        (refine take_val (i := 13) (v := .int .i64 (k : Int)) rfl rfl (by kernel_rfl) (by kernel_rfl) (by kernel_rfl) (fun _ _ _ h => h) rfl (by intro wq hq; (try go_split_ands); go_simp; try with_reducible rfl) (hHeld) ?_; try simp only [List.setIfInBounds_toArray, List.set_cons_zero, List.set_cons_succ])
        (refine take_val (i := 14) (v := .pointer (some ⟨lb, lo + k, none⟩)) rfl rfl (by kernel_rfl) (by kernel_rfl) (by kernel_rfl) (fun _ _ _ h => h) rfl (by intro wq hq; (try go_split_ands); go_simp; try with_reducible rfl) (hHeld) ?_; try simp only [List.setIfInBounds_toArray, List.set_cons_zero, List.set_cons_succ])
        (refine take_val (i := 15) (v := .int .i64 (j : Int)) rfl rfl (by kernel_rfl) (by kernel_rfl) (by kernel_rfl) (fun _ _ _ h => h) rfl (by intro wq hq; (try go_split_ands); go_simp; try with_reducible rfl) (hHeld) ?_; try simp only [List.setIfInBounds_toArray, List.set_cons_zero, List.set_cons_succ])
        (refine take_val (i := 16) (v := .pointer (some ⟨w2.heap.size, 2, none⟩)) rfl rfl (by kernel_rfl) (by kernel_rfl) (by kernel_rfl) (fun _ _ _ h => h) rfl (by intro wq hq; (try go_split_ands); go_simp; try with_reducible rfl) (hHeld) ?_; try simp only [List.setIfInBounds_toArray, List.set_cons_zero, List.set_cons_succ])
        (refine take_val (i := 17) (v := .slice A' n' c') rfl rfl (by kernel_rfl) (by kernel_rfl) (by kernel_rfl) (fun _ _ _ h => h) rfl (by intro wq hq; (try go_split_ands); go_simp; try with_reducible rfl) (hHeld) ?_; try simp only [List.setIfInBounds_toArray, List.set_cons_zero, List.set_cons_succ])
        (refine take_val (i := 18) (v := .int .i64 (n' : Int)) rfl rfl (by kernel_rfl) (by kernel_rfl) (by kernel_rfl) (fun _ _ _ h => h) rfl (by intro wq hq; (try go_split_ands); go_simp; try with_reducible rfl) (hHeld) ?_; try simp only [List.setIfInBounds_toArray, List.set_cons_zero, List.set_cons_succ])
        (refine take_val (i := 19) (v := .bool true) rfl rfl (by kernel_rfl) (by kernel_rfl) (by kernel_rfl) (fun _ _ _ h => h) rfl (by intro wq hq; (try go_split_ands); go_simp; try with_reducible rfl) (hHeld) ?_; try simp only [List.setIfInBounds_toArray, List.set_cons_zero, List.set_cons_succ])
        (refine take_val (i := 20) (v := .bool true) rfl rfl (by kernel_rfl) (by kernel_rfl) (by kernel_rfl) (fun _ _ _ h => h) rfl (by intro wq hq; (try go_split_ands); go_simp; try with_reducible rfl) (hHeld) ?_; try simp only [List.setIfInBounds_toArray, List.set_cons_zero, List.set_cons_succ])
        refine wpAnyH_done (by kernel_rfl) ?_ _
        clear hHeld hlcd B2
        go_upto_region 14 with fail
        obtain ⟨wq, HWq⟩ : ∃ x, Hid (wo.drew = x) := ⟨_, rfl⟩
        rw [HWq.out] at hkq ⊢
        replace B1 := B1.kept hkq
        replace hT1 := hT1.keep hkq
        replace hkp := hkp.trans hkq
        have hl5' : lb < wq.heap.size ∧ wq.cell? ⟨lb, lo + k, none⟩ = some (.int .i64 (j : Int)) := ⟨Nat.lt_of_lt_of_le hlb hkq.size, hkq.at_ hlc⟩
        clear hkq HWq hlb hlc hL1 hP1

        generalize wq = wo at *
        have hl5 := hl5'
        clear hl5'
        go_cut [8] from 26 to 89 (fun v wx => TwiceTQ wo t j (.slice A n c) v wx)
        case first =>
          obtain ⟨b, off, rfl, hb0, hDC⟩ : ∃ b off, A' = some ⟨b, off, none⟩ ∧ b < wo.heap.size ∧ ∀ q, q < n' → DeedCells wo b (off + q * 4) (t.deeds.getD q default) := by
            obtain ⟨b, off, h1, h2, h3⟩ := hT1.deeds.2.2 (by omega)
            exact ⟨b, off, h1, h2, h3⟩
          have HDC := Lib.hid hDC
          have hDj := hDC j hjl
          have hj := hjl
          have hkL := Kept.refl wo
          have HEl : Hid (w2.heap.size < wo.heap.size) := B1.lt
          have HMx : Hid (n' + 1 ≤ maxLen) := by show _ ≤ _; unfold maxLen; omega
          have hk0w := (Kept.refl wo).drew
          have B0w := B1.kept hk0w
          generalize hdd0 : t.deeds.getD j default = d at hDj
          obtain ⟨A7, n7, c7, hc0, _, hc1, hc2, hc3, _⟩ := hDj
          have HDC5 : Hid (wo.cell? ⟨b, off + j * 4, none⟩ = some (.slice A7 n7 c7) ∧ wo.cell? ⟨b, off + j * 4 + 1, none⟩ = some (.int .i64 d.on) ∧ wo.cell? ⟨b, off + j * 4 + 2, none⟩ = some (.int .i64 d.off) ∧ wo.cell? ⟨b, off + j * 4 + 3, none⟩ = some (.int .i64 d.flip)) := ⟨hc0, hc1, hc2, hc3⟩
          have HV : Hid (deedVals wo b (off + j * 4) 1 = [.slice A7 n7 c7, .int .i64 d.on, .int .i64 d.off, .int .i64 d.flip]) := by
            show [cellAt wo b (off + j * 4 + 0), cellAt wo b (off + j * 4 + 1), cellAt wo b (off + j * 4 + 2), cellAt wo b (off + j * 4 + 3)] = _
            unfold cellAt
            rw [Nat.add_zero, hc0, hc1, hc2, hc3]; rfl
          clear hdd0 hc0 hc1 hc2 hc3 hDC
          obtain ⟨W0, HW0'⟩ : ∃ x, Hid (wo.drew = x) := ⟨_, rfl⟩
          refine wp_region_held_drew (S := fun w' => w'.cell? ⟨w2.heap.size, 0, none⟩ = some (.int .i64 t.start) ∧ w'.cell? ⟨w2.heap.size, 1, none⟩ = some (.slice A n c) ∧ w'.cell? ⟨w2.heap.size, 2, none⟩ = some (.slice (some ⟨b, off, none⟩) n' c') ∧ w'.cell? ⟨lb, lo + k, none⟩ = some (.int .i64 (j : Int)) ∧ w'.cell? ⟨b, off + j * 4, none⟩ = some (.slice A7 n7 c7) ∧ w'.cell? ⟨b, off + j * 4 + 1, none⟩ = some (.int .i64 d.on) ∧ w'.cell? ⟨b, off + j * 4 + 2, none⟩ = some (.int .i64 d.off) ∧ w'.cell? ⟨b, off + j * 4 + 3, none⟩ = some (.int .i64 d.flip)) (by kernel_rfl) (lawS B0w hl5 (hkL.trans hk0w) HDC5.out hb0) (fun hHeld => ?_)
          (refine take_val (i := 0) (v := .pointer (some ⟨w2.heap.size, 0, none⟩)) rfl rfl (by kernel_rfl) (by kernel_rfl) (by kernel_rfl) (fun _ _ _ h => h) rfl (by intro wq hq; (try go_split_ands); go_simp; try with_reducible rfl) (hHeld) ?_; try simp only [List.setIfInBounds_toArray, List.set_cons_zero, List.set_cons_succ])
          (refine take_val (i := 1) (v := .int .i64 t.start) rfl rfl (by kernel_rfl) (by kernel_rfl) (by kernel_rfl) (fun _ _ _ h => h) rfl (by intro wq hq; (try go_split_ands); go_simp; try with_reducible rfl) (hHeld) ?_; try simp only [List.setIfInBounds_toArray, List.set_cons_zero, List.set_cons_succ])
          (refine take_val (i := 2) (v := .pointer (some ⟨w2.heap.size, 1, none⟩)) rfl rfl (by kernel_rfl) (by kernel_rfl) (by kernel_rfl) (fun _ _ _ h => h) rfl (by intro wq hq; (try go_split_ands); go_simp; try with_reducible rfl) (hHeld) ?_; try simp only [List.setIfInBounds_toArray, List.set_cons_zero, List.set_cons_succ])
          (refine take_val (i := 3) (v := .slice A n c) rfl rfl (by kernel_rfl) (by kernel_rfl) (by kernel_rfl) (fun _ _ _ h => h) rfl (by intro wq hq; (try go_split_ands); go_simp; try with_reducible rfl) (hHeld) ?_; try simp only [List.setIfInBounds_toArray, List.set_cons_zero, List.set_cons_succ])
          (refine take_val (i := 5) (v := .pointer (some ⟨w2.heap.size, 2, none⟩)) rfl rfl (by kernel_rfl) (by kernel_rfl) (by kernel_rfl) (fun _ _ _ h => h) rfl (by intro wq hq; (try go_split_ands); go_simp; try with_reducible rfl) (hHeld) ?_; try simp only [List.setIfInBounds_toArray, List.set_cons_zero, List.set_cons_succ])
          (refine take_val (i := 6) (v := .slice (some ⟨b, off, none⟩) n' c') rfl rfl (by kernel_rfl) (by kernel_rfl) (by kernel_rfl) (fun _ _ _ h => h) rfl (by intro wq hq; (try go_split_ands); go_simp; try with_reducible rfl) (hHeld) ?_; try simp only [List.setIfInBounds_toArray, List.set_cons_zero, List.set_cons_succ])
          (refine take_val (i := 8) (v := .pointer (some ⟨w2.heap.size, 2, none⟩)) rfl rfl (by kernel_rfl) (by kernel_rfl) (by kernel_rfl) (fun _ _ _ h => h) rfl (by intro wq hq; (try go_split_ands); go_simp; try with_reducible rfl) (hHeld) ?_; try simp only [List.setIfInBounds_toArray, List.set_cons_zero, List.set_cons_succ])
          (refine take_val (i := 9) (v := .slice (some ⟨b, off, none⟩) n' c') rfl rfl (by kernel_rfl) (by kernel_rfl) (by kernel_rfl) (fun _ _ _ h => h) rfl (by intro wq hq; (try go_split_ands); go_simp; try with_reducible rfl) (hHeld) ?_; try simp only [List.setIfInBounds_toArray, List.set_cons_zero, List.set_cons_succ])
          (refine take_val (i := 10) (v := .slice (some ⟨lb, lo, none⟩) m c3) rfl rfl (by kernel_rfl) (by kernel_rfl) (by kernel_rfl) (fun _ _ _ h => h) rfl (by intro wq hq; (try go_split_ands); go_simp; try with_reducible rfl) (hHeld) ?_; try simp only [List.setIfInBounds_toArray, List.set_cons_zero, List.set_cons_succ])
          (refine take_val (i := 11) (v := .int .i64 (k : Int)) rfl rfl (by kernel_rfl) (by kernel_rfl) (by kernel_rfl) (fun _ _ _ h => h) rfl (by intro wq hq; (try go_split_ands); go_simp; try with_reducible rfl) (hHeld) ?_; try simp only [List.setIfInBounds_toArray, List.set_cons_zero, List.set_cons_succ])
          (refine take_val (i := 12) (v := .pointer (some ⟨lb, lo + k, none⟩)) rfl rfl (by kernel_rfl) (by kernel_rfl) (by kernel_rfl) (fun _ _ _ h => h) rfl (by intro wq hq; (try go_split_ands); go_simp; try with_reducible rfl) (hHeld) ?_; try simp only [List.setIfInBounds_toArray, List.set_cons_zero, List.set_cons_succ])
          (refine take_val (i := 13) (v := .int .i64 (j : Int)) rfl rfl (by kernel_rfl) (by kernel_rfl) (by kernel_rfl) (fun _ _ _ h => h) rfl (by intro wq hq; (try go_split_ands); go_simp; try with_reducible rfl) (hHeld) ?_; try simp only [List.setIfInBounds_toArray, List.set_cons_zero, List.set_cons_succ])
          (refine take_val (i := 14) (v := .pointer (some ⟨b, off + j * 4, none⟩)) rfl rfl (by kernel_rfl) (by kernel_rfl) (by kernel_rfl) (fun _ _ _ h => h) rfl (by intro wq hq; (try go_split_ands); go_simp; try with_reducible rfl) (hHeld) ?_; try simp only [List.setIfInBounds_toArray, List.set_cons_zero, List.set_cons_succ])
          (refine take_val (i := 15) (v := .agg #[.slice A7 n7 c7, .int .i64 d.on, .int .i64 d.off, .int .i64 d.flip]) rfl rfl (by kernel_rfl) (by kernel_rfl) (by kernel_rfl) (fun _ _ _ h => h) rfl (by intro wq hq; (try go_split_ands); go_simp; try with_reducible rfl) (hHeld) ?_; try simp only [List.setIfInBounds_toArray, List.set_cons_zero, List.set_cons_succ])
          rw [HW0'.out] at hk0w B0w hHeld ⊢
          clear hHeld
          refine wpAnyH_ready (rs := [4, 16, 19]) (by kernel_rfl) (by simp) ?_
          refine AllReadyH.cons rfl (fun K hK => ?_) (AllReadyH.cons rfl (fun K hK => ?_) (AllReadyH.cons rfl (fun K hK => ?_) (AllReadyH.nil)))
          · skip
            go_simp
            have hon21 := World.ownsRow_made (base := wo.heap.size) (e := 43) (size := 4) W0 #[] 0 hk0w.size (by unfold maxLen; omega) rfl
            have hl21 := (Kept.refl W0).alloc (.cells #[] 43)
            have hk21 := hk0w.trans hl21
            have B21 := B0w.kept hl21
            (refine hK.out _ _ (lawS B21 hl5 (hkL.trans hk21) HDC5.out hb0) (fun _ => ?_); clear hK K; try simp only [Act.put, List.setIfInBounds_toArray, List.set_cons_zero, List.set_cons_succ])
            obtain ⟨gq, HN21⟩ : ∃ x, Hid (W0.heap.size = x) := ⟨_, rfl⟩
            obtain ⟨W21, HW21⟩ : ∃ x, Hid (W0.alloc (.cells #[] 43) = x) := ⟨_, rfl⟩
            rw [HN21.out, HW21.out] at hon21
            rw [HW21.out] at hk21 B21
            rw [HN21.out, HW21.out]
            refine wpAnyH_ready (rs := [7, 16, 19]) (by kernel_rfl) (by simp) ?_
            refine AllReadyH.cons rfl (fun K hK => ?_) (AllReadyH.cons rfl (fun K hK => ?_) (AllReadyH.cons rfl (fun K hK => ?_) (AllReadyH.nil)))
            · skip
              have hs22 := deedVals_cell (a := 0) (m := n') (o := off) HDC.out (hkL.trans hk21) hb0 (by omega) (fun _ => by omega)
              have hz22 := hk21.size
              refine wp_append_own _ (.tmp 68) (.tmp 70) 28 rfl wo.heap.size 43 i1 (.agg #[.slice none 0 0, .int .i64 0, .int .i64 0, .int .i64 0]) 4 48 Try.underlying28 HID.out.1 HID.out.2.1 HID.out.2.2.1 HID.out.2.2.2 rfl (by decide) (.slice (some ⟨gq, 0, none⟩) 0 0) 0 _ rfl hon21 ⟨b, off, none⟩ n' c' (deedVals wo b (off + 0 * 4) n') rfl (deedVals_len _ _ _ _) hs22.1 hs22.2 (by unfold maxLen; omega) (by omega) hz22 (fun v22 W22 ho22 hg22 _ => ?_)
              obtain ⟨Az22, cz22, rfl⟩ := own_form ho22
              have hk22 := hk21.grown hg22 (fun k e => (hon21.lt k e).1)
              have B22 := B21.grown hg22 (fun e => by have h1 := (hon21.lt _ e.symm).1; have h2 := HEl.out; omega)
              refine hK.out _ _ (lawS B22 hl5 (hkL.trans hk22) HDC5.out hb0) (fun _ => ?_); clear hK K; try simp only [Act.put, List.setIfInBounds_toArray, List.set_cons_zero, List.set_cons_succ]
              rw [Nat.zero_add, List.nil_append] at ho22
              try rw [Nat.zero_add]
              refine wpAnyH_ready (rs := [16, 19]) (by kernel_rfl) (by simp) ?_
              refine AllReadyH.cons rfl (fun K hK => ?_) (AllReadyH.cons rfl (fun K hK => ?_) (AllReadyH.nil))
              · skip
                go_simp
                have BN23 := Blk.new W22 43 #[.slice A7 n7 c7, .int .i64 d.on, .int .i64 d.off, .int .i64 d.flip]
                have hl23 := (Kept.refl W22).alloc (.cells #[.slice A7 n7 c7, .int .i64 d.on, .int .i64 d.off, .int .i64 d.flip] 43)
                have hk23 := hk22.trans hl23
                have B23 := B22.kept hl23
                have ho23 := own_keep ho22 hl23
                (refine hK.out _ _ (lawS B23 hl5 (hkL.trans hk23) HDC5.out hb0) (fun _ => ?_); clear hK K; try simp only [Act.put, List.setIfInBounds_toArray, List.set_cons_zero, List.set_cons_succ])
                obtain ⟨S, HN23⟩ : ∃ x, Hid (W22.heap.size = x) := ⟨_, rfl⟩
                obtain ⟨W23, HW23⟩ : ∃ x, Hid (W22.alloc (.cells #[.slice A7 n7 c7, .int .i64 d.on, .int .i64 d.off, .int .i64 d.flip] 43) = x) := ⟨_, rfl⟩
                rw [HN23.out, HW23.out] at BN23
                rw [HW23.out] at hk23 B23 ho23
                rw [HN23.out, HW23.out]
                refine wpAnyH_ready (rs := [17, 19]) (by kernel_rfl) (by simp) ?_
                refine AllReadyH.cons rfl (fun K hK => ?_) (AllReadyH.cons rfl (fun K hK => ?_) (AllReadyH.nil))
                · skip
                  have hz24 := hk23.size
                  refine wp_append_own _ (.tmp 71) (.tmp 80) 28 rfl wo.heap.size 43 i1 (.agg #[.slice none 0 0, .int .i64 0, .int .i64 0, .int .i64 0]) 4 48 Try.underlying28 HID.out.1 HID.out.2.1 HID.out.2.2.1 HID.out.2.2.2 rfl (by decide) (.slice Az22 n' cz22) n' _ rfl ho23 ⟨S, 0, none⟩ 1 1 (deedVals wo b (off + j * 4) 1) rfl (deedVals_len _ _ _ _) (by rw [HV.out]; exact blk_news BN23) (by rw [HV.out]; simp [Value.oneCell']) (by unfold maxLen; omega) (by omega) hz24 (fun v24 W24 ho24 hg24 _ => ?_)
                  obtain ⟨Az24, cz24, rfl⟩ := own_form ho24
                  have hk24 := hk23.grown hg24 (fun k e => (ho23.lt k e).1)
                  have B24 := B23.grown hg24 (fun e => by have h1 := (ho23.lt _ e.symm).1; have h2 := HEl.out; omega)
                  refine hK.out _ _ (lawS B24 hl5 (hkL.trans hk24) HDC5.out hb0) (fun _ => ?_); clear hK K; try simp only [Act.put, List.setIfInBounds_toArray, List.set_cons_zero, List.set_cons_succ]
                  (refine take_val (i := 18) (v := .agg #[.int .i64 t.start, .slice A n c, .slice Az24 (n' + 1) cz24]) rfl rfl (by kernel_rfl) (by kernel_rfl) (by kernel_rfl) (fun _ _ _ h => h) rfl (by intro wq hq; (try go_split_ands); go_simp; try with_reducible rfl) (lawS B24 hl5 (hkL.trans hk24) HDC5.out hb0) ?_; try simp only [List.setIfInBounds_toArray, List.set_cons_zero, List.set_cons_succ])
                  refine wpAnyH_ready (rs := [19]) (by kernel_rfl) (by simp) ?_
                  refine AllReadyH.cons rfl (fun K hK => ?_) (AllReadyH.nil)
                  go_simp
                  have hl25 := (Kept.refl W24).alloc (.cells #[.int .i64 0, .slice none 0 0, .slice none 0 0] 30)
                  have hk25 := hk24.trans hl25
                  have B25 := B24.kept hl25
                  have ho25 := own_keep ho24 hl25
                  have BN25 := Blk.new W24 30 #[.int .i64 0, .slice none 0 0, .slice none 0 0]
                  (refine hK.out _ _ (lawS B25 hl5 (hkL.trans hk25) HDC5.out hb0) (fun _ => ?_); clear hK K; try simp only [Act.put, List.setIfInBounds_toArray, List.set_cons_zero, List.set_cons_succ])
                  obtain ⟨D, HN25⟩ : ∃ x, Hid (W24.heap.size = x) := ⟨_, rfl⟩
                  obtain ⟨W25, HW25⟩ : ∃ x, Hid (W24.alloc (.cells #[.int .i64 0, .slice none 0 0, .slice none 0 0] 30) = x) := ⟨_, rfl⟩
                  rw [HN25.out, HW25.out] at BN25
                  have hd25 : wo.heap.size ≤ D := by rw [← HN25.out]; exact hk24.size
                  rw [HW25.out] at hk25 B25 ho25
                  rw [HN25.out, HW25.out]
                  have d0 := BN25.cell 0
                  have d1 := BN25.cell 1
                  have d2 := BN25.cell 2
                  have f0 := BN25.frozen 0
                  have f1 := BN25.frozen 1
                  have f2 := BN25.frozen 2
                  (refine wpAnyH_ready (rs := [20]) (by kernel_rfl) (by simp) ?_; refine AllReadyH.cons rfl (fun K hK => ?_) AllReadyH.nil; go_simp)
                  obtain ⟨lk, lB, lo, lE⟩ := less_kept hk25 hd25 BN25 ho25 B25 HEl.out (.int .i64 t.start) (.slice A n c) (.slice Az24 (n' + 1) cz24)
                  have hdd := twice_deeds HLd.out hj HMx.out HDC.out (hkL.trans lk) lo
                  refine hK.out _ _ (lawS lE hl5 (hkL.trans lk) HDC5.out hb0) (fun _ => ?_); clear hK K; try simp only [Act.put, List.setIfInBounds_toArray, List.set_cons_zero, List.set_cons_succ]
                  refine wpAnyH_done (by kernel_rfl) ?_ _
                  clear d0 d1 d2 f0 f1 f2
                  go_wp2_with fail
                  go_meet
                  case rel => exact ⟨D, Az24, cz24, _, rfl, lB, hdd, lk⟩
                · skip
                  go_simp
                  have hl27 := (Kept.refl W23).alloc (.cells #[.int .i64 0, .slice none 0 0, .slice none 0 0] 30)
                  have hk27 := hk23.trans hl27
                  have B27 := B23.kept hl27
                  have ho27 := own_keep ho23 hl27
                  have BS27 := BN23.kept hl27
                  have BN27 := Blk.new W23 30 #[.int .i64 0, .slice none 0 0, .slice none 0 0]
                  (refine hK.out _ _ (lawS B27 hl5 (hkL.trans hk27) HDC5.out hb0) (fun _ => ?_); clear hK K; try simp only [Act.put, List.setIfInBounds_toArray, List.set_cons_zero, List.set_cons_succ])
                  obtain ⟨D, HN27⟩ : ∃ x, Hid (W23.heap.size = x) := ⟨_, rfl⟩
                  obtain ⟨W27, HW27⟩ : ∃ x, Hid (W23.alloc (.cells #[.int .i64 0, .slice none 0 0, .slice none 0 0] 30) = x) := ⟨_, rfl⟩
                  rw [HN27.out, HW27.out] at BN27
                  have hd27 : wo.heap.size ≤ D := by rw [← HN27.out]; exact hk23.size
                  rw [HW27.out] at hk27 B27 ho27 BS27
                  rw [HN27.out, HW27.out]
                  refine wpAnyH_ready (rs := [17]) (by kernel_rfl) (by simp) ?_
                  refine AllReadyH.cons rfl (fun K hK => ?_) (AllReadyH.nil)
                  have hz28 := hk27.size
                  refine wp_append_own _ (.tmp 71) (.tmp 80) 28 rfl wo.heap.size 43 i1 (.agg #[.slice none 0 0, .int .i64 0, .int .i64 0, .int .i64 0]) 4 48 Try.underlying28 HID.out.1 HID.out.2.1 HID.out.2.2.1 HID.out.2.2.2 rfl (by decide) (.slice Az22 n' cz22) n' _ rfl ho27 ⟨S, 0, none⟩ 1 1 (deedVals wo b (off + j * 4) 1) rfl (deedVals_len _ _ _ _) (by rw [HV.out]; exact blk_news BS27) (by rw [HV.out]; simp [Value.oneCell']) (by unfold maxLen; omega) (by omega) hz28 (fun v28 W28 ho28 hg28 _ => ?_)
                  obtain ⟨Az28, cz28, rfl⟩ := own_form ho28
                  have hk28 := hk27.grown hg28 (fun k e => (ho27.lt k e).1)
                  have B28 := B27.grown hg28 (fun e => by have h1 := (ho27.lt _ e.symm).1; have h2 := HEl.out; omega)
                  have BD28 := BN27.grown hg28 (own_ne_blk ho27 BN27 (by decide))
                  refine hK.out _ _ (lawS B28 hl5 (hkL.trans hk28) HDC5.out hb0) (fun _ => ?_); clear hK K; try simp only [Act.put, List.setIfInBounds_toArray, List.set_cons_zero, List.set_cons_succ]
                  (refine take_val (i := 18) (v := .agg #[.int .i64 t.start, .slice A n c, .slice Az28 (n' + 1) cz28]) rfl rfl (by kernel_rfl) (by kernel_rfl) (by kernel_rfl) (fun _ _ _ h => h) rfl (by intro wq hq; (try go_split_ands); go_simp; try with_reducible rfl) (lawS B28 hl5 (hkL.trans hk28) HDC5.out hb0) ?_; try simp only [List.setIfInBounds_toArray, List.set_cons_zero, List.set_cons_succ])
                  have d0 := BD28.cell 0
                  have d1 := BD28.cell 1
                  have d2 := BD28.cell 2
                  have f0 := BD28.frozen 0
                  have f1 := BD28.frozen 1
                  have f2 := BD28.frozen 2
                  (refine wpAnyH_ready (rs := [20]) (by kernel_rfl) (by simp) ?_; refine AllReadyH.cons rfl (fun K hK => ?_) AllReadyH.nil; go_simp)
                  obtain ⟨lk, lB, lo, lE⟩ := less_kept hk28 hd27 BD28 ho28 B28 HEl.out (.int .i64 t.start) (.slice A n c) (.slice Az28 (n' + 1) cz28)
                  have hdd := twice_deeds HLd.out hj HMx.out HDC.out (hkL.trans lk) lo
                  refine hK.out _ _ (lawS lE hl5 (hkL.trans lk) HDC5.out hb0) (fun _ => ?_); clear hK K; try simp only [Act.put, List.setIfInBounds_toArray, List.set_cons_zero, List.set_cons_succ]
                  refine wpAnyH_done (by kernel_rfl) ?_ _
                  clear d0 d1 d2 f0 f1 f2
                  go_wp2_with fail
                  go_meet
                  case rel => exact ⟨D, Az28, cz28, _, rfl, lB, hdd, lk⟩
              · skip
                go_simp
                have hl30 := (Kept.refl W22).alloc (.cells #[.int .i64 0, .slice none 0 0, .slice none 0 0] 30)
                have hk30 := hk22.trans hl30
                have B30 := B22.kept hl30
                have ho30 := own_keep ho22 hl30
                have BN30 := Blk.new W22 30 #[.int .i64 0, .slice none 0 0, .slice none 0 0]
                (refine hK.out _ _ (lawS B30 hl5 (hkL.trans hk30) HDC5.out hb0) (fun _ => ?_); clear hK K; try simp only [Act.put, List.setIfInBounds_toArray, List.set_cons_zero, List.set_cons_succ])
                obtain ⟨D, HN30⟩ : ∃ x, Hid (W22.heap.size = x) := ⟨_, rfl⟩
                obtain ⟨W30, HW30⟩ : ∃ x, Hid (W22.alloc (.cells #[.int .i64 0, .slice none 0 0, .slice none 0 0] 30) = x) := ⟨_, rfl⟩
                rw [HN30.out, HW30.out] at BN30
                have hd30 : wo.heap.size ≤ D := by rw [← HN30.out]; exact hk22.size
                rw [HW30.out] at hk30 B30 ho30
                rw [HN30.out, HW30.out]
                refine wpAnyH_ready (rs := [16]) (by kernel_rfl) (by simp) ?_
                refine AllReadyH.cons rfl (fun K hK => ?_) (AllReadyH.nil)
                go_simp
                have BN31 := Blk.new W30 43 #[.slice A7 n7 c7, .int .i64 d.on, .int .i64 d.off, .int .i64 d.flip]
                have hl31 := (Kept.refl W30).alloc (.cells #[.slice A7 n7 c7, .int .i64 d.on, .int .i64 d.off, .int .i64 d.flip] 43)
                have hk31 := hk30.trans hl31
                have B31 := B30.kept hl31
                have ho31 := own_keep ho30 hl31
                have BD31 := BN30.kept hl31
                (refine hK.out _ _ (lawS B31 hl5 (hkL.trans hk31) HDC5.out hb0) (fun _ => ?_); clear hK K; try simp only [Act.put, List.setIfInBounds_toArray, List.set_cons_zero, List.set_cons_succ])
                obtain ⟨S, HN31⟩ : ∃ x, Hid (W30.heap.size = x) := ⟨_, rfl⟩
                obtain ⟨W31, HW31⟩ : ∃ x, Hid (W30.alloc (.cells #[.slice A7 n7 c7, .int .i64 d.on, .int .i64 d.off, .int .i64 d.flip] 43) = x) := ⟨_, rfl⟩
                rw [HN31.out, HW31.out] at BN31
                rw [HW31.out] at hk31 B31 ho31 BD31
                rw [HN31.out, HW31.out]
                refine wpAnyH_ready (rs := [17]) (by kernel_rfl) (by simp) ?_
                refine AllReadyH.cons rfl (fun K hK => ?_) (AllReadyH.nil)
                have hz32 := hk31.size
                refine wp_append_own _ (.tmp 71) (.tmp 80) 28 rfl wo.heap.size 43 i1 (.agg #[.slice none 0 0, .int .i64 0, .int .i64 0, .int .i64 0]) 4 48 Try.underlying28 HID.out.1 HID.out.2.1 HID.out.2.2.1 HID.out.2.2.2 rfl (by decide) (.slice Az22 n' cz22) n' _ rfl ho31 ⟨S, 0, none⟩ 1 1 (deedVals wo b (off + j * 4) 1) rfl (deedVals_len _ _ _ _) (by rw [HV.out]; exact blk_news BN31) (by rw [HV.out]; simp [Value.oneCell']) (by unfold maxLen; omega) (by omega) hz32 (fun v32 W32 ho32 hg32 _ => ?_)
                obtain ⟨Az32, cz32, rfl⟩ := own_form ho32
                have hk32 := hk31.grown hg32 (fun k e => (ho31.lt k e).1)
                have B32 := B31.grown hg32 (fun e => by have h1 := (ho31.lt _ e.symm).1; have h2 := HEl.out; omega)
                have BD32 := BD31.grown hg32 (own_ne_blk ho31 BD31 (by decide))
                refine hK.out _ _ (lawS B32 hl5 (hkL.trans hk32) HDC5.out hb0) (fun _ => ?_); clear hK K; try simp only [Act.put, List.setIfInBounds_toArray, List.set_cons_zero, List.set_cons_succ]
                (refine take_val (i := 18) (v := .agg #[.int .i64 t.start, .slice A n c, .slice Az32 (n' + 1) cz32]) rfl rfl (by kernel_rfl) (by kernel_rfl) (by kernel_rfl) (fun _ _ _ h => h) rfl (by intro wq hq; (try go_split_ands); go_simp; try with_reducible rfl) (lawS B32 hl5 (hkL.trans hk32) HDC5.out hb0) ?_; try simp only [List.setIfInBounds_toArray, List.set_cons_zero, List.set_cons_succ])
                have d0 := BD32.cell 0
                have d1 := BD32.cell 1
                have d2 := BD32.cell 2
                have f0 := BD32.frozen 0
                have f1 := BD32.frozen 1
                have f2 := BD32.frozen 2
                (refine wpAnyH_ready (rs := [20]) (by kernel_rfl) (by simp) ?_; refine AllReadyH.cons rfl (fun K hK => ?_) AllReadyH.nil; go_simp)
                obtain ⟨lk, lB, lo, lE⟩ := less_kept hk32 hd30 BD32 ho32 B32 HEl.out (.int .i64 t.start) (.slice A n c) (.slice Az32 (n' + 1) cz32)
                have hdd := twice_deeds HLd.out hj HMx.out HDC.out (hkL.trans lk) lo
                refine hK.out _ _ (lawS lE hl5 (hkL.trans lk) HDC5.out hb0) (fun _ => ?_); clear hK K; try simp only [Act.put, List.setIfInBounds_toArray, List.set_cons_zero, List.set_cons_succ]
                refine wpAnyH_done (by kernel_rfl) ?_ _
                clear d0 d1 d2 f0 f1 f2
                go_wp2_with fail
                go_meet
                case rel => exact ⟨D, Az32, cz32, _, rfl, lB, hdd, lk⟩
            · skip
              go_simp
              have BN34 := Blk.new W21 43 #[.slice A7 n7 c7, .int .i64 d.on, .int .i64 d.off, .int .i64 d.flip]
              have hl34 := (Kept.refl W21).alloc (.cells #[.slice A7 n7 c7, .int .i64 d.on, .int .i64 d.off, .int .i64 d.flip] 43)
              have hk34 := hk21.trans hl34
              have B34 := B21.kept hl34
              have ho34 := own_keep hon21 hl34
              (refine hK.out _ _ (lawS B34 hl5 (hkL.trans hk34) HDC5.out hb0) (fun _ => ?_); clear hK K; try simp only [Act.put, List.setIfInBounds_toArray, List.set_cons_zero, List.set_cons_succ])
              obtain ⟨S, HN34⟩ : ∃ x, Hid (W21.heap.size = x) := ⟨_, rfl⟩
              obtain ⟨W34, HW34⟩ : ∃ x, Hid (W21.alloc (.cells #[.slice A7 n7 c7, .int .i64 d.on, .int .i64 d.off, .int .i64 d.flip] 43) = x) := ⟨_, rfl⟩
              rw [HN34.out, HW34.out] at BN34
              have hSg : S ≠ gq := by have h1 := (hon21.lt gq rfl).2; have h2 := HN34.out; omega
              rw [HW34.out] at hk34 B34 ho34
              rw [HN34.out, HW34.out]
              refine wpAnyH_ready (rs := [7, 19]) (by kernel_rfl) (by simp) ?_
              refine AllReadyH.cons rfl (fun K hK => ?_) (AllReadyH.cons rfl (fun K hK => ?_) (AllReadyH.nil))
              · skip
                have hs35 := deedVals_cell (a := 0) (m := n') (o := off) HDC.out (hkL.trans hk34) hb0 (by omega) (fun _ => by omega)
                have hz35 := hk34.size
                refine wp_append_own _ (.tmp 68) (.tmp 70) 28 rfl wo.heap.size 43 i1 (.agg #[.slice none 0 0, .int .i64 0, .int .i64 0, .int .i64 0]) 4 48 Try.underlying28 HID.out.1 HID.out.2.1 HID.out.2.2.1 HID.out.2.2.2 rfl (by decide) (.slice (some ⟨gq, 0, none⟩) 0 0) 0 _ rfl ho34 ⟨b, off, none⟩ n' c' (deedVals wo b (off + 0 * 4) n') rfl (deedVals_len _ _ _ _) hs35.1 hs35.2 (by unfold maxLen; omega) (by omega) hz35 (fun v35 W35 ho35 hg35 _ => ?_)
                obtain ⟨Az35, cz35, rfl⟩ := own_form ho35
                have hk35 := hk34.grown hg35 (fun k e => (ho34.lt k e).1)
                have B35 := B34.grown hg35 (fun e => by have h1 := (ho34.lt _ e.symm).1; have h2 := HEl.out; omega)
                have BS35 := BN34.grown hg35 (fun e => hSg (by simpa [Value.ownBlock] using e))
                refine hK.out _ _ (lawS B35 hl5 (hkL.trans hk35) HDC5.out hb0) (fun _ => ?_); clear hK K; try simp only [Act.put, List.setIfInBounds_toArray, List.set_cons_zero, List.set_cons_succ]
                rw [Nat.zero_add, List.nil_append] at ho35
                try rw [Nat.zero_add]
                refine wpAnyH_ready (rs := [17, 19]) (by kernel_rfl) (by simp) ?_
                refine AllReadyH.cons rfl (fun K hK => ?_) (AllReadyH.cons rfl (fun K hK => ?_) (AllReadyH.nil))
                · skip
                  have hz36 := hk35.size
                  refine wp_append_own _ (.tmp 71) (.tmp 80) 28 rfl wo.heap.size 43 i1 (.agg #[.slice none 0 0, .int .i64 0, .int .i64 0, .int .i64 0]) 4 48 Try.underlying28 HID.out.1 HID.out.2.1 HID.out.2.2.1 HID.out.2.2.2 rfl (by decide) (.slice Az35 n' cz35) n' _ rfl ho35 ⟨S, 0, none⟩ 1 1 (deedVals wo b (off + j * 4) 1) rfl (deedVals_len _ _ _ _) (by rw [HV.out]; exact blk_news BS35) (by rw [HV.out]; simp [Value.oneCell']) (by unfold maxLen; omega) (by omega) hz36 (fun v36 W36 ho36 hg36 _ => ?_)
                  obtain ⟨Az36, cz36, rfl⟩ := own_form ho36
                  have hk36 := hk35.grown hg36 (fun k e => (ho35.lt k e).1)
                  have B36 := B35.grown hg36 (fun e => by have h1 := (ho35.lt _ e.symm).1; have h2 := HEl.out; omega)
                  refine hK.out _ _ (lawS B36 hl5 (hkL.trans hk36) HDC5.out hb0) (fun _ => ?_); clear hK K; try simp only [Act.put, List.setIfInBounds_toArray, List.set_cons_zero, List.set_cons_succ]
                  (refine take_val (i := 18) (v := .agg #[.int .i64 t.start, .slice A n c, .slice Az36 (n' + 1) cz36]) rfl rfl (by kernel_rfl) (by kernel_rfl) (by kernel_rfl) (fun _ _ _ h => h) rfl (by intro wq hq; (try go_split_ands); go_simp; try with_reducible rfl) (lawS B36 hl5 (hkL.trans hk36) HDC5.out hb0) ?_; try simp only [List.setIfInBounds_toArray, List.set_cons_zero, List.set_cons_succ])
                  refine wpAnyH_ready (rs := [19]) (by kernel_rfl) (by simp) ?_
                  refine AllReadyH.cons rfl (fun K hK => ?_) (AllReadyH.nil)
                  go_simp
                  have hl37 := (Kept.refl W36).alloc (.cells #[.int .i64 0, .slice none 0 0, .slice none 0 0] 30)
                  have hk37 := hk36.trans hl37
                  have B37 := B36.kept hl37
                  have ho37 := own_keep ho36 hl37
                  have BN37 := Blk.new W36 30 #[.int .i64 0, .slice none 0 0, .slice none 0 0]
                  (refine hK.out _ _ (lawS B37 hl5 (hkL.trans hk37) HDC5.out hb0) (fun _ => ?_); clear hK K; try simp only [Act.put, List.setIfInBounds_toArray, List.set_cons_zero, List.set_cons_succ])
                  obtain ⟨D, HN37⟩ : ∃ x, Hid (W36.heap.size = x) := ⟨_, rfl⟩
                  obtain ⟨W37, HW37⟩ : ∃ x, Hid (W36.alloc (.cells #[.int .i64 0, .slice none 0 0, .slice none 0 0] 30) = x) := ⟨_, rfl⟩
                  rw [HN37.out, HW37.out] at BN37
                  have hd37 : wo.heap.size ≤ D := by rw [← HN37.out]; exact hk36.size
                  rw [HW37.out] at hk37 B37 ho37
                  rw [HN37.out, HW37.out]
                  have d0 := BN37.cell 0
                  have d1 := BN37.cell 1
                  have d2 := BN37.cell 2
                  have f0 := BN37.frozen 0
                  have f1 := BN37.frozen 1
                  have f2 := BN37.frozen 2
                  (refine wpAnyH_ready (rs := [20]) (by kernel_rfl) (by simp) ?_; refine AllReadyH.cons rfl (fun K hK => ?_) AllReadyH.nil; go_simp)
                  obtain ⟨lk, lB, lo, lE⟩ := less_kept hk37 hd37 BN37 ho37 B37 HEl.out (.int .i64 t.start) (.slice A n c) (.slice Az36 (n' + 1) cz36)
                  have hdd := twice_deeds HLd.out hj HMx.out HDC.out (hkL.trans lk) lo
                  refine hK.out _ _ (lawS lE hl5 (hkL.trans lk) HDC5.out hb0) (fun _ => ?_); clear hK K; try simp only [Act.put, List.setIfInBounds_toArray, List.set_cons_zero, List.set_cons_succ]
                  refine wpAnyH_done (by kernel_rfl) ?_ _
                  clear d0 d1 d2 f0 f1 f2
                  go_wp2_with fail
                  go_meet
                  case rel => exact ⟨D, Az36, cz36, _, rfl, lB, hdd, lk⟩
                · skip
                  go_simp
                  have hl39 := (Kept.refl W35).alloc (.cells #[.int .i64 0, .slice none 0 0, .slice none 0 0] 30)
                  have hk39 := hk35.trans hl39
                  have B39 := B35.kept hl39
                  have ho39 := own_keep ho35 hl39
                  have BS39 := BS35.kept hl39
                  have BN39 := Blk.new W35 30 #[.int .i64 0, .slice none 0 0, .slice none 0 0]
                  (refine hK.out _ _ (lawS B39 hl5 (hkL.trans hk39) HDC5.out hb0) (fun _ => ?_); clear hK K; try simp only [Act.put, List.setIfInBounds_toArray, List.set_cons_zero, List.set_cons_succ])
                  obtain ⟨D, HN39⟩ : ∃ x, Hid (W35.heap.size = x) := ⟨_, rfl⟩
                  obtain ⟨W39, HW39⟩ : ∃ x, Hid (W35.alloc (.cells #[.int .i64 0, .slice none 0 0, .slice none 0 0] 30) = x) := ⟨_, rfl⟩
                  rw [HN39.out, HW39.out] at BN39
                  have hd39 : wo.heap.size ≤ D := by rw [← HN39.out]; exact hk35.size
                  rw [HW39.out] at hk39 B39 ho39 BS39
                  rw [HN39.out, HW39.out]
                  refine wpAnyH_ready (rs := [17]) (by kernel_rfl) (by simp) ?_
                  refine AllReadyH.cons rfl (fun K hK => ?_) (AllReadyH.nil)
                  have hz40 := hk39.size
                  refine wp_append_own _ (.tmp 71) (.tmp 80) 28 rfl wo.heap.size 43 i1 (.agg #[.slice none 0 0, .int .i64 0, .int .i64 0, .int .i64 0]) 4 48 Try.underlying28 HID.out.1 HID.out.2.1 HID.out.2.2.1 HID.out.2.2.2 rfl (by decide) (.slice Az35 n' cz35) n' _ rfl ho39 ⟨S, 0, none⟩ 1 1 (deedVals wo b (off + j * 4) 1) rfl (deedVals_len _ _ _ _) (by rw [HV.out]; exact blk_news BS39) (by rw [HV.out]; simp [Value.oneCell']) (by unfold maxLen; omega) (by omega) hz40 (fun v40 W40 ho40 hg40 _ => ?_)
                  obtain ⟨Az40, cz40, rfl⟩ := own_form ho40
                  have hk40 := hk39.grown hg40 (fun k e => (ho39.lt k e).1)
                  have B40 := B39.grown hg40 (fun e => by have h1 := (ho39.lt _ e.symm).1; have h2 := HEl.out; omega)
                  have BD40 := BN39.grown hg40 (own_ne_blk ho39 BN39 (by decide))
                  refine hK.out _ _ (lawS B40 hl5 (hkL.trans hk40) HDC5.out hb0) (fun _ => ?_); clear hK K; try simp only [Act.put, List.setIfInBounds_toArray, List.set_cons_zero, List.set_cons_succ]
                  (refine take_val (i := 18) (v := .agg #[.int .i64 t.start, .slice A n c, .slice Az40 (n' + 1) cz40]) rfl rfl (by kernel_rfl) (by kernel_rfl) (by kernel_rfl) (fun _ _ _ h => h) rfl (by intro wq hq; (try go_split_ands); go_simp; try with_reducible rfl) (lawS B40 hl5 (hkL.trans hk40) HDC5.out hb0) ?_; try simp only [List.setIfInBounds_toArray, List.set_cons_zero, List.set_cons_succ])
                  have d0 := BD40.cell 0
                  have d1 := BD40.cell 1
                  have d2 := BD40.cell 2
                  have f0 := BD40.frozen 0
                  have f1 := BD40.frozen 1
                  have f2 := BD40.frozen 2
                  (refine wpAnyH_ready (rs := [20]) (by kernel_rfl) (by simp) ?_; refine AllReadyH.cons rfl (fun K hK => ?_) AllReadyH.nil; go_simp)
                  obtain ⟨lk, lB, lo, lE⟩ := less_kept hk40 hd39 BD40 ho40 B40 HEl.out (.int .i64 t.start) (.slice A n c) (.slice Az40 (n' + 1) cz40)
                  have hdd := twice_deeds HLd.out hj HMx.out HDC.out (hkL.trans lk) lo
                  refine hK.out _ _ (lawS lE hl5 (hkL.trans lk) HDC5.out hb0) (fun _ => ?_); clear hK K; try simp only [Act.put, List.setIfInBounds_toArray, List.set_cons_zero, List.set_cons_succ]
                  refine wpAnyH_done (by kernel_rfl) ?_ _
                  clear d0 d1 d2 f0 f1 f2
                  go_wp2_with fail
                  go_meet
                  case rel => exact ⟨D, Az40, cz40, _, rfl, lB, hdd, lk⟩
              · skip
                go_simp
                have hl42 := (Kept.refl W34).alloc (.cells #[.int .i64 0, .slice none 0 0, .slice none 0 0] 30)
                have hk42 := hk34.trans hl42
                have B42 := B34.kept hl42
                have ho42 := own_keep ho34 hl42
                have BS42 := BN34.kept hl42
                have BN42 := Blk.new W34 30 #[.int .i64 0, .slice none 0 0, .slice none 0 0]
                (refine hK.out _ _ (lawS B42 hl5 (hkL.trans hk42) HDC5.out hb0) (fun _ => ?_); clear hK K; try simp only [Act.put, List.setIfInBounds_toArray, List.set_cons_zero, List.set_cons_succ])
                obtain ⟨D, HN42⟩ : ∃ x, Hid (W34.heap.size = x) := ⟨_, rfl⟩
                obtain ⟨W42, HW42⟩ : ∃ x, Hid (W34.alloc (.cells #[.int .i64 0, .slice none 0 0, .slice none 0 0] 30) = x) := ⟨_, rfl⟩
                rw [HN42.out, HW42.out] at BN42
                have hd42 : wo.heap.size ≤ D := by rw [← HN42.out]; exact hk34.size
                rw [HW42.out] at hk42 B42 ho42 BS42
                rw [HN42.out, HW42.out]
                refine wpAnyH_ready (rs := [7]) (by kernel_rfl) (by simp) ?_
                refine AllReadyH.cons rfl (fun K hK => ?_) (AllReadyH.nil)
                have hs43 := deedVals_cell (a := 0) (m := n') (o := off) HDC.out (hkL.trans hk42) hb0 (by omega) (fun _ => by omega)
                have hz43 := hk42.size
                refine wp_append_own _ (.tmp 68) (.tmp 70) 28 rfl wo.heap.size 43 i1 (.agg #[.slice none 0 0, .int .i64 0, .int .i64 0, .int .i64 0]) 4 48 Try.underlying28 HID.out.1 HID.out.2.1 HID.out.2.2.1 HID.out.2.2.2 rfl (by decide) (.slice (some ⟨gq, 0, none⟩) 0 0) 0 _ rfl ho42 ⟨b, off, none⟩ n' c' (deedVals wo b (off + 0 * 4) n') rfl (deedVals_len _ _ _ _) hs43.1 hs43.2 (by unfold maxLen; omega) (by omega) hz43 (fun v43 W43 ho43 hg43 _ => ?_)
                obtain ⟨Az43, cz43, rfl⟩ := own_form ho43
                have hk43 := hk42.grown hg43 (fun k e => (ho42.lt k e).1)
                have B43 := B42.grown hg43 (fun e => by have h1 := (ho42.lt _ e.symm).1; have h2 := HEl.out; omega)
                have BD43 := BN42.grown hg43 (own_ne_blk ho42 BN42 (by decide))
                have BS43 := BS42.grown hg43 (fun e => hSg (by simpa [Value.ownBlock] using e))
                refine hK.out _ _ (lawS B43 hl5 (hkL.trans hk43) HDC5.out hb0) (fun _ => ?_); clear hK K; try simp only [Act.put, List.setIfInBounds_toArray, List.set_cons_zero, List.set_cons_succ]
                rw [Nat.zero_add, List.nil_append] at ho43
                try rw [Nat.zero_add]
                refine wpAnyH_ready (rs := [17]) (by kernel_rfl) (by simp) ?_
                refine AllReadyH.cons rfl (fun K hK => ?_) (AllReadyH.nil)
                have hz44 := hk43.size
                refine wp_append_own _ (.tmp 71) (.tmp 80) 28 rfl wo.heap.size 43 i1 (.agg #[.slice none 0 0, .int .i64 0, .int .i64 0, .int .i64 0]) 4 48 Try.underlying28 HID.out.1 HID.out.2.1 HID.out.2.2.1 HID.out.2.2.2 rfl (by decide) (.slice Az43 n' cz43) n' _ rfl ho43 ⟨S, 0, none⟩ 1 1 (deedVals wo b (off + j * 4) 1) rfl (deedVals_len _ _ _ _) (by rw [HV.out]; exact blk_news BS43) (by rw [HV.out]; simp [Value.oneCell']) (by unfold maxLen; omega) (by omega) hz44 (fun v44 W44 ho44 hg44 _ => ?_)
                obtain ⟨Az44, cz44, rfl⟩ := own_form ho44
                have hk44 := hk43.grown hg44 (fun k e => (ho43.lt k e).1)
                have B44 := B43.grown hg44 (fun e => by have h1 := (ho43.lt _ e.symm).1; have h2 := HEl.out; omega)
                have BD44 := BD43.grown hg44 (own_ne_blk ho43 BD43 (by decide))
                refine hK.out _ _ (lawS B44 hl5 (hkL.trans hk44) HDC5.out hb0) (fun _ => ?_); clear hK K; try simp only [Act.put, List.setIfInBounds_toArray, List.set_cons_zero, List.set_cons_succ]
                (refine take_val (i := 18) (v := .agg #[.int .i64 t.start, .slice A n c, .slice Az44 (n' + 1) cz44]) rfl rfl (by kernel_rfl) (by kernel_rfl) (by kernel_rfl) (fun _ _ _ h => h) rfl (by intro wq hq; (try go_split_ands); go_simp; try with_reducible rfl) (lawS B44 hl5 (hkL.trans hk44) HDC5.out hb0) ?_; try simp only [List.setIfInBounds_toArray, List.set_cons_zero, List.set_cons_succ])
                have d0 := BD44.cell 0
                have d1 := BD44.cell 1
                have d2 := BD44.cell 2
                have f0 := BD44.frozen 0
                have f1 := BD44.frozen 1
                have f2 := BD44.frozen 2
                (refine wpAnyH_ready (rs := [20]) (by kernel_rfl) (by simp) ?_; refine AllReadyH.cons rfl (fun K hK => ?_) AllReadyH.nil; go_simp)
                obtain ⟨lk, lB, lo, lE⟩ := less_kept hk44 hd42 BD44 ho44 B44 HEl.out (.int .i64 t.start) (.slice A n c) (.slice Az44 (n' + 1) cz44)
                have hdd := twice_deeds HLd.out hj HMx.out HDC.out (hkL.trans lk) lo
                refine hK.out _ _ (lawS lE hl5 (hkL.trans lk) HDC5.out hb0) (fun _ => ?_); clear hK K; try simp only [Act.put, List.setIfInBounds_toArray, List.set_cons_zero, List.set_cons_succ]
                refine wpAnyH_done (by kernel_rfl) ?_ _
                clear d0 d1 d2 f0 f1 f2
                go_wp2_with fail
                go_meet
                case rel => exact ⟨D, Az44, cz44, _, rfl, lB, hdd, lk⟩
            · skip
              go_simp
              have hl46 := (Kept.refl W21).alloc (.cells #[.int .i64 0, .slice none 0 0, .slice none 0 0] 30)
              have hk46 := hk21.trans hl46
              have B46 := B21.kept hl46
              have ho46 := own_keep hon21 hl46
              have BN46 := Blk.new W21 30 #[.int .i64 0, .slice none 0 0, .slice none 0 0]
              (refine hK.out _ _ (lawS B46 hl5 (hkL.trans hk46) HDC5.out hb0) (fun _ => ?_); clear hK K; try simp only [Act.put, List.setIfInBounds_toArray, List.set_cons_zero, List.set_cons_succ])
              obtain ⟨D, HN46⟩ : ∃ x, Hid (W21.heap.size = x) := ⟨_, rfl⟩
              obtain ⟨W46, HW46⟩ : ∃ x, Hid (W21.alloc (.cells #[.int .i64 0, .slice none 0 0, .slice none 0 0] 30) = x) := ⟨_, rfl⟩
              rw [HN46.out, HW46.out] at BN46
              have hd46 : wo.heap.size ≤ D := by rw [← HN46.out]; exact hk21.size
              rw [HW46.out] at hk46 B46 ho46
              rw [HN46.out, HW46.out]
              refine wpAnyH_ready (rs := [7, 16]) (by kernel_rfl) (by simp) ?_
              refine AllReadyH.cons rfl (fun K hK => ?_) (AllReadyH.cons rfl (fun K hK => ?_) (AllReadyH.nil))
              · skip
                have hs47 := deedVals_cell (a := 0) (m := n') (o := off) HDC.out (hkL.trans hk46) hb0 (by omega) (fun _ => by omega)
                have hz47 := hk46.size
                refine wp_append_own _ (.tmp 68) (.tmp 70) 28 rfl wo.heap.size 43 i1 (.agg #[.slice none 0 0, .int .i64 0, .int .i64 0, .int .i64 0]) 4 48 Try.underlying28 HID.out.1 HID.out.2.1 HID.out.2.2.1 HID.out.2.2.2 rfl (by decide) (.slice (some ⟨gq, 0, none⟩) 0 0) 0 _ rfl ho46 ⟨b, off, none⟩ n' c' (deedVals wo b (off + 0 * 4) n') rfl (deedVals_len _ _ _ _) hs47.1 hs47.2 (by unfold maxLen; omega) (by omega) hz47 (fun v47 W47 ho47 hg47 _ => ?_)
                obtain ⟨Az47, cz47, rfl⟩ := own_form ho47
                have hk47 := hk46.grown hg47 (fun k e => (ho46.lt k e).1)
                have B47 := B46.grown hg47 (fun e => by have h1 := (ho46.lt _ e.symm).1; have h2 := HEl.out; omega)
                have BD47 := BN46.grown hg47 (own_ne_blk ho46 BN46 (by decide))
                refine hK.out _ _ (lawS B47 hl5 (hkL.trans hk47) HDC5.out hb0) (fun _ => ?_); clear hK K; try simp only [Act.put, List.setIfInBounds_toArray, List.set_cons_zero, List.set_cons_succ]
                rw [Nat.zero_add, List.nil_append] at ho47
                try rw [Nat.zero_add]
                refine wpAnyH_ready (rs := [16]) (by kernel_rfl) (by simp) ?_
                refine AllReadyH.cons rfl (fun K hK => ?_) (AllReadyH.nil)
                go_simp
                have BN48 := Blk.new W47 43 #[.slice A7 n7 c7, .int .i64 d.on, .int .i64 d.off, .int .i64 d.flip]
                have hl48 := (Kept.refl W47).alloc (.cells #[.slice A7 n7 c7, .int .i64 d.on, .int .i64 d.off, .int .i64 d.flip] 43)
                have hk48 := hk47.trans hl48
                have B48 := B47.kept hl48
                have ho48 := own_keep ho47 hl48
                have BD48 := BD47.kept hl48
                (refine hK.out _ _ (lawS B48 hl5 (hkL.trans hk48) HDC5.out hb0) (fun _ => ?_); clear hK K; try simp only [Act.put, List.setIfInBounds_toArray, List.set_cons_zero, List.set_cons_succ])
                obtain ⟨S, HN48⟩ : ∃ x, Hid (W47.heap.size = x) := ⟨_, rfl⟩
                obtain ⟨W48, HW48⟩ : ∃ x, Hid (W47.alloc (.cells #[.slice A7 n7 c7, .int .i64 d.on, .int .i64 d.off, .int .i64 d.flip] 43) = x) := ⟨_, rfl⟩
                rw [HN48.out, HW48.out] at BN48
                rw [HW48.out] at hk48 B48 ho48 BD48
                rw [HN48.out, HW48.out]
                refine wpAnyH_ready (rs := [17]) (by kernel_rfl) (by simp) ?_
                refine AllReadyH.cons rfl (fun K hK => ?_) (AllReadyH.nil)
                have hz49 := hk48.size
                refine wp_append_own _ (.tmp 71) (.tmp 80) 28 rfl wo.heap.size 43 i1 (.agg #[.slice none 0 0, .int .i64 0, .int .i64 0, .int .i64 0]) 4 48 Try.underlying28 HID.out.1 HID.out.2.1 HID.out.2.2.1 HID.out.2.2.2 rfl (by decide) (.slice Az47 n' cz47) n' _ rfl ho48 ⟨S, 0, none⟩ 1 1 (deedVals wo b (off + j * 4) 1) rfl (deedVals_len _ _ _ _) (by rw [HV.out]; exact blk_news BN48) (by rw [HV.out]; simp [Value.oneCell']) (by unfold maxLen; omega) (by omega) hz49 (fun v49 W49 ho49 hg49 _ => ?_)
                obtain ⟨Az49, cz49, rfl⟩ := own_form ho49
                have hk49 := hk48.grown hg49 (fun k e => (ho48.lt k e).1)
                have B49 := B48.grown hg49 (fun e => by have h1 := (ho48.lt _ e.symm).1; have h2 := HEl.out; omega)
                have BD49 := BD48.grown hg49 (own_ne_blk ho48 BD48 (by decide))
                refine hK.out _ _ (lawS B49 hl5 (hkL.trans hk49) HDC5.out hb0) (fun _ => ?_); clear hK K; try simp only [Act.put, List.setIfInBounds_toArray, List.set_cons_zero, List.set_cons_succ]
                (refine take_val (i := 18) (v := .agg #[.int .i64 t.start, .slice A n c, .slice Az49 (n' + 1) cz49]) rfl rfl (by kernel_rfl) (by kernel_rfl) (by kernel_rfl) (fun _ _ _ h => h) rfl (by intro wq hq; (try go_split_ands); go_simp; try with_reducible rfl) (lawS B49 hl5 (hkL.trans hk49) HDC5.out hb0) ?_; try simp only [List.setIfInBounds_toArray, List.set_cons_zero, List.set_cons_succ])
                have d0 := BD49.cell 0
                have d1 := BD49.cell 1
                have d2 := BD49.cell 2
                have f0 := BD49.frozen 0
                have f1 := BD49.frozen 1
                have f2 := BD49.frozen 2
                (refine wpAnyH_ready (rs := [20]) (by kernel_rfl) (by simp) ?_; refine AllReadyH.cons rfl (fun K hK => ?_) AllReadyH.nil; go_simp)
                obtain ⟨lk, lB, lo, lE⟩ := less_kept hk49 hd46 BD49 ho49 B49 HEl.out (.int .i64 t.start) (.slice A n c) (.slice Az49 (n' + 1) cz49)
                have hdd := twice_deeds HLd.out hj HMx.out HDC.out (hkL.trans lk) lo
                refine hK.out _ _ (lawS lE hl5 (hkL.trans lk) HDC5.out hb0) (fun _ => ?_); clear hK K; try simp only [Act.put, List.setIfInBounds_toArray, List.set_cons_zero, List.set_cons_succ]
                refine wpAnyH_done (by kernel_rfl) ?_ _
                clear d0 d1 d2 f0 f1 f2
                go_wp2_with fail
                go_meet
                case rel => exact ⟨D, Az49, cz49, _, rfl, lB, hdd, lk⟩
              · skip
                go_simp
                have BN51 := Blk.new W46 43 #[.slice A7 n7 c7, .int .i64 d.on, .int .i64 d.off, .int .i64 d.flip]
                have hl51 := (Kept.refl W46).alloc (.cells #[.slice A7 n7 c7, .int .i64 d.on, .int .i64 d.off, .int .i64 d.flip] 43)
                have hk51 := hk46.trans hl51
                have B51 := B46.kept hl51
                have ho51 := own_keep ho46 hl51
                have BD51 := BN46.kept hl51
                (refine hK.out _ _ (lawS B51 hl5 (hkL.trans hk51) HDC5.out hb0) (fun _ => ?_); clear hK K; try simp only [Act.put, List.setIfInBounds_toArray, List.set_cons_zero, List.set_cons_succ])
                obtain ⟨S, HN51⟩ : ∃ x, Hid (W46.heap.size = x) := ⟨_, rfl⟩
                obtain ⟨W51, HW51⟩ : ∃ x, Hid (W46.alloc (.cells #[.slice A7 n7 c7, .int .i64 d.on, .int .i64 d.off, .int .i64 d.flip] 43) = x) := ⟨_, rfl⟩
                rw [HN51.out, HW51.out] at BN51
                have hSg : S ≠ gq := by have h1 := (ho46.lt gq rfl).2; have h2 := HN51.out; omega
                rw [HW51.out] at hk51 B51 ho51 BD51
                rw [HN51.out, HW51.out]
                refine wpAnyH_ready (rs := [7]) (by kernel_rfl) (by simp) ?_
                refine AllReadyH.cons rfl (fun K hK => ?_) (AllReadyH.nil)
                have hs52 := deedVals_cell (a := 0) (m := n') (o := off) HDC.out (hkL.trans hk51) hb0 (by omega) (fun _ => by omega)
                have hz52 := hk51.size
                refine wp_append_own _ (.tmp 68) (.tmp 70) 28 rfl wo.heap.size 43 i1 (.agg #[.slice none 0 0, .int .i64 0, .int .i64 0, .int .i64 0]) 4 48 Try.underlying28 HID.out.1 HID.out.2.1 HID.out.2.2.1 HID.out.2.2.2 rfl (by decide) (.slice (some ⟨gq, 0, none⟩) 0 0) 0 _ rfl ho51 ⟨b, off, none⟩ n' c' (deedVals wo b (off + 0 * 4) n') rfl (deedVals_len _ _ _ _) hs52.1 hs52.2 (by unfold maxLen; omega) (by omega) hz52 (fun v52 W52 ho52 hg52 _ => ?_)
                obtain ⟨Az52, cz52, rfl⟩ := own_form ho52
                have hk52 := hk51.grown hg52 (fun k e => (ho51.lt k e).1)
                have B52 := B51.grown hg52 (fun e => by have h1 := (ho51.lt _ e.symm).1; have h2 := HEl.out; omega)
                have BD52 := BD51.grown hg52 (own_ne_blk ho51 BD51 (by decide))
                have BS52 := BN51.grown hg52 (fun e => hSg (by simpa [Value.ownBlock] using e))
                refine hK.out _ _ (lawS B52 hl5 (hkL.trans hk52) HDC5.out hb0) (fun _ => ?_); clear hK K; try simp only [Act.put, List.setIfInBounds_toArray, List.set_cons_zero, List.set_cons_succ]
                rw [Nat.zero_add, List.nil_append] at ho52
                try rw [Nat.zero_add]
                refine wpAnyH_ready (rs := [17]) (by kernel_rfl) (by simp) ?_
                refine AllReadyH.cons rfl (fun K hK => ?_) (AllReadyH.nil)
                have hz53 := hk52.size
                refine wp_append_own _ (.tmp 71) (.tmp 80) 28 rfl wo.heap.size 43 i1 (.agg #[.slice none 0 0, .int .i64 0, .int .i64 0, .int .i64 0]) 4 48 Try.underlying28 HID.out.1 HID.out.2.1 HID.out.2.2.1 HID.out.2.2.2 rfl (by decide) (.slice Az52 n' cz52) n' _ rfl ho52 ⟨S, 0, none⟩ 1 1 (deedVals wo b (off + j * 4) 1) rfl (deedVals_len _ _ _ _) (by rw [HV.out]; exact blk_news BS52) (by rw [HV.out]; simp [Value.oneCell']) (by unfold maxLen; omega) (by omega) hz53 (fun v53 W53 ho53 hg53 _ => ?_)
                obtain ⟨Az53, cz53, rfl⟩ := own_form ho53
                have hk53 := hk52.grown hg53 (fun k e => (ho52.lt k e).1)
                have B53 := B52.grown hg53 (fun e => by have h1 := (ho52.lt _ e.symm).1; have h2 := HEl.out; omega)
                have BD53 := BD52.grown hg53 (own_ne_blk ho52 BD52 (by decide))
                refine hK.out _ _ (lawS B53 hl5 (hkL.trans hk53) HDC5.out hb0) (fun _ => ?_); clear hK K; try simp only [Act.put, List.setIfInBounds_toArray, List.set_cons_zero, List.set_cons_succ]
                (refine take_val (i := 18) (v := .agg #[.int .i64 t.start, .slice A n c, .slice Az53 (n' + 1) cz53]) rfl rfl (by kernel_rfl) (by kernel_rfl) (by kernel_rfl) (fun _ _ _ h => h) rfl (by intro wq hq; (try go_split_ands); go_simp; try with_reducible rfl) (lawS B53 hl5 (hkL.trans hk53) HDC5.out hb0) ?_; try simp only [List.setIfInBounds_toArray, List.set_cons_zero, List.set_cons_succ])
                have d0 := BD53.cell 0
                have d1 := BD53.cell 1
                have d2 := BD53.cell 2
                have f0 := BD53.frozen 0
                have f1 := BD53.frozen 1
                have f2 := BD53.frozen 2
                (refine wpAnyH_ready (rs := [20]) (by kernel_rfl) (by simp) ?_; refine AllReadyH.cons rfl (fun K hK => ?_) AllReadyH.nil; go_simp)
                obtain ⟨lk, lB, lo, lE⟩ := less_kept hk53 hd46 BD53 ho53 B53 HEl.out (.int .i64 t.start) (.slice A n c) (.slice Az53 (n' + 1) cz53)
                have hdd := twice_deeds HLd.out hj HMx.out HDC.out (hkL.trans lk) lo
                refine hK.out _ _ (lawS lE hl5 (hkL.trans lk) HDC5.out hb0) (fun _ => ?_); clear hK K; try simp only [Act.put, List.setIfInBounds_toArray, List.set_cons_zero, List.set_cons_succ]
                refine wpAnyH_done (by kernel_rfl) ?_ _
                clear d0 d1 d2 f0 f1 f2
                go_wp2_with fail
                go_meet
                case rel => exact ⟨D, Az53, cz53, _, rfl, lB, hdd, lk⟩
          · skip
            go_simp
            have BN55 := Blk.new W0 43 #[.slice A7 n7 c7, .int .i64 d.on, .int .i64 d.off, .int .i64 d.flip]
            have hl55 := (Kept.refl W0).alloc (.cells #[.slice A7 n7 c7, .int .i64 d.on, .int .i64 d.off, .int .i64 d.flip] 43)
            have hk55 := hk0w.trans hl55
            have B55 := B0w.kept hl55
            (refine hK.out _ _ (lawS B55 hl5 (hkL.trans hk55) HDC5.out hb0) (fun _ => ?_); clear hK K; try simp only [Act.put, List.setIfInBounds_toArray, List.set_cons_zero, List.set_cons_succ])
            obtain ⟨S, HN55⟩ : ∃ x, Hid (W0.heap.size = x) := ⟨_, rfl⟩
            obtain ⟨W55, HW55⟩ : ∃ x, Hid (W0.alloc (.cells #[.slice A7 n7 c7, .int .i64 d.on, .int .i64 d.off, .int .i64 d.flip] 43) = x) := ⟨_, rfl⟩
            rw [HN55.out, HW55.out] at BN55
            rw [HW55.out] at hk55 B55
            rw [HN55.out, HW55.out]
            refine wpAnyH_ready (rs := [4, 19]) (by kernel_rfl) (by simp) ?_
            refine AllReadyH.cons rfl (fun K hK => ?_) (AllReadyH.cons rfl (fun K hK => ?_) (AllReadyH.nil))
            · skip
              go_simp
              have hon56 := World.ownsRow_made (base := wo.heap.size) (e := 43) (size := 4) W55 #[] 0 hk55.size (by unfold maxLen; omega) rfl
              have hl56 := (Kept.refl W55).alloc (.cells #[] 43)
              have hk56 := hk55.trans hl56
              have B56 := B55.kept hl56
              have BS56 := BN55.kept hl56
              (refine hK.out _ _ (lawS B56 hl5 (hkL.trans hk56) HDC5.out hb0) (fun _ => ?_); clear hK K; try simp only [Act.put, List.setIfInBounds_toArray, List.set_cons_zero, List.set_cons_succ])
              obtain ⟨gq, HN56⟩ : ∃ x, Hid (W55.heap.size = x) := ⟨_, rfl⟩
              obtain ⟨W56, HW56⟩ : ∃ x, Hid (W55.alloc (.cells #[] 43) = x) := ⟨_, rfl⟩
              rw [HN56.out, HW56.out] at hon56
              have hSg : S ≠ gq := by have h1 := BN55.lt; have h2 := HN56.out; omega
              rw [HW56.out] at hk56 B56 BS56
              rw [HN56.out, HW56.out]
              refine wpAnyH_ready (rs := [7, 19]) (by kernel_rfl) (by simp) ?_
              refine AllReadyH.cons rfl (fun K hK => ?_) (AllReadyH.cons rfl (fun K hK => ?_) (AllReadyH.nil))
              · skip
                have hs57 := deedVals_cell (a := 0) (m := n') (o := off) HDC.out (hkL.trans hk56) hb0 (by omega) (fun _ => by omega)
                have hz57 := hk56.size
                refine wp_append_own _ (.tmp 68) (.tmp 70) 28 rfl wo.heap.size 43 i1 (.agg #[.slice none 0 0, .int .i64 0, .int .i64 0, .int .i64 0]) 4 48 Try.underlying28 HID.out.1 HID.out.2.1 HID.out.2.2.1 HID.out.2.2.2 rfl (by decide) (.slice (some ⟨gq, 0, none⟩) 0 0) 0 _ rfl hon56 ⟨b, off, none⟩ n' c' (deedVals wo b (off + 0 * 4) n') rfl (deedVals_len _ _ _ _) hs57.1 hs57.2 (by unfold maxLen; omega) (by omega) hz57 (fun v57 W57 ho57 hg57 _ => ?_)
                obtain ⟨Az57, cz57, rfl⟩ := own_form ho57
                have hk57 := hk56.grown hg57 (fun k e => (hon56.lt k e).1)
                have B57 := B56.grown hg57 (fun e => by have h1 := (hon56.lt _ e.symm).1; have h2 := HEl.out; omega)
                have BS57 := BS56.grown hg57 (fun e => hSg (by simpa [Value.ownBlock] using e))
                refine hK.out _ _ (lawS B57 hl5 (hkL.trans hk57) HDC5.out hb0) (fun _ => ?_); clear hK K; try simp only [Act.put, List.setIfInBounds_toArray, List.set_cons_zero, List.set_cons_succ]
                rw [Nat.zero_add, List.nil_append] at ho57
                try rw [Nat.zero_add]
                refine wpAnyH_ready (rs := [17, 19]) (by kernel_rfl) (by simp) ?_
                refine AllReadyH.cons rfl (fun K hK => ?_) (AllReadyH.cons rfl (fun K hK => ?_) (AllReadyH.nil))
                · skip
                  have hz58 := hk57.size
                  refine wp_append_own _ (.tmp 71) (.tmp 80) 28 rfl wo.heap.size 43 i1 (.agg #[.slice none 0 0, .int .i64 0, .int .i64 0, .int .i64 0]) 4 48 Try.underlying28 HID.out.1 HID.out.2.1 HID.out.2.2.1 HID.out.2.2.2 rfl (by decide) (.slice Az57 n' cz57) n' _ rfl ho57 ⟨S, 0, none⟩ 1 1 (deedVals wo b (off + j * 4) 1) rfl (deedVals_len _ _ _ _) (by rw [HV.out]; exact blk_news BS57) (by rw [HV.out]; simp [Value.oneCell']) (by unfold maxLen; omega) (by omega) hz58 (fun v58 W58 ho58 hg58 _ => ?_)
                  obtain ⟨Az58, cz58, rfl⟩ := own_form ho58
                  have hk58 := hk57.grown hg58 (fun k e => (ho57.lt k e).1)
                  have B58 := B57.grown hg58 (fun e => by have h1 := (ho57.lt _ e.symm).1; have h2 := HEl.out; omega)
                  refine hK.out _ _ (lawS B58 hl5 (hkL.trans hk58) HDC5.out hb0) (fun _ => ?_); clear hK K; try simp only [Act.put, List.setIfInBounds_toArray, List.set_cons_zero, List.set_cons_succ]
                  (refine take_val (i := 18) (v := .agg #[.int .i64 t.start, .slice A n c, .slice Az58 (n' + 1) cz58]) rfl rfl (by kernel_rfl) (by kernel_rfl) (by kernel_rfl) (fun _ _ _ h => h) rfl (by intro wq hq; (try go_split_ands); go_simp; try with_reducible rfl) (lawS B58 hl5 (hkL.trans hk58) HDC5.out hb0) ?_; try simp only [List.setIfInBounds_toArray, List.set_cons_zero, List.set_cons_succ])
                  refine wpAnyH_ready (rs := [19]) (by kernel_rfl) (by simp) ?_
                  refine AllReadyH.cons rfl (fun K hK => ?_) (AllReadyH.nil)
                  go_simp
                  have hl59 := (Kept.refl W58).alloc (.cells #[.int .i64 0, .slice none 0 0, .slice none 0 0] 30)
                  have hk59 := hk58.trans hl59
                  have B59 := B58.kept hl59
                  have ho59 := own_keep ho58 hl59
                  have BN59 := Blk.new W58 30 #[.int .i64 0, .slice none 0 0, .slice none 0 0]
                  (refine hK.out _ _ (lawS B59 hl5 (hkL.trans hk59) HDC5.out hb0) (fun _ => ?_); clear hK K; try simp only [Act.put, List.setIfInBounds_toArray, List.set_cons_zero, List.set_cons_succ])
                  obtain ⟨D, HN59⟩ : ∃ x, Hid (W58.heap.size = x) := ⟨_, rfl⟩
                  obtain ⟨W59, HW59⟩ : ∃ x, Hid (W58.alloc (.cells #[.int .i64 0, .slice none 0 0, .slice none 0 0] 30) = x) := ⟨_, rfl⟩
                  rw [HN59.out, HW59.out] at BN59
                  have hd59 : wo.heap.size ≤ D := by rw [← HN59.out]; exact hk58.size
                  rw [HW59.out] at hk59 B59 ho59
                  rw [HN59.out, HW59.out]
                  have d0 := BN59.cell 0
                  have d1 := BN59.cell 1
                  have d2 := BN59.cell 2
                  have f0 := BN59.frozen 0
                  have f1 := BN59.frozen 1
                  have f2 := BN59.frozen 2
                  (refine wpAnyH_ready (rs := [20]) (by kernel_rfl) (by simp) ?_; refine AllReadyH.cons rfl (fun K hK => ?_) AllReadyH.nil; go_simp)
                  obtain ⟨lk, lB, lo, lE⟩ := less_kept hk59 hd59 BN59 ho59 B59 HEl.out (.int .i64 t.start) (.slice A n c) (.slice Az58 (n' + 1) cz58)
                  have hdd := twice_deeds HLd.out hj HMx.out HDC.out (hkL.trans lk) lo
                  refine hK.out _ _ (lawS lE hl5 (hkL.trans lk) HDC5.out hb0) (fun _ => ?_); clear hK K; try simp only [Act.put, List.setIfInBounds_toArray, List.set_cons_zero, List.set_cons_succ]
                  refine wpAnyH_done (by kernel_rfl) ?_ _
                  clear d0 d1 d2 f0 f1 f2
                  go_wp2_with fail
                  go_meet
                  case rel => exact ⟨D, Az58, cz58, _, rfl, lB, hdd, lk⟩
                · skip
                  go_simp
                  have hl61 := (Kept.refl W57).alloc (.cells #[.int .i64 0, .slice none 0 0, .slice none 0 0] 30)
                  have hk61 := hk57.trans hl61
                  have B61 := B57.kept hl61
                  have ho61 := own_keep ho57 hl61
                  have BS61 := BS57.kept hl61
                  have BN61 := Blk.new W57 30 #[.int .i64 0, .slice none 0 0, .slice none 0 0]
                  (refine hK.out _ _ (lawS B61 hl5 (hkL.trans hk61) HDC5.out hb0) (fun _ => ?_); clear hK K; try simp only [Act.put, List.setIfInBounds_toArray, List.set_cons_zero, List.set_cons_succ])
                  obtain ⟨D, HN61⟩ : ∃ x, Hid (W57.heap.size = x) := ⟨_, rfl⟩
                  obtain ⟨W61, HW61⟩ : ∃ x, Hid (W57.alloc (.cells #[.int .i64 0, .slice none 0 0, .slice none 0 0] 30) = x) := ⟨_, rfl⟩
                  rw [HN61.out, HW61.out] at BN61
                  have hd61 : wo.heap.size ≤ D := by rw [← HN61.out]; exact hk57.size
                  rw [HW61.out] at hk61 B61 ho61 BS61
                  rw [HN61.out, HW61.out]
                  refine wpAnyH_ready (rs := [17]) (by kernel_rfl) (by simp) ?_
                  refine AllReadyH.cons rfl (fun K hK => ?_) (AllReadyH.nil)
                  have hz62 := hk61.size
                  refine wp_append_own _ (.tmp 71) (.tmp 80) 28 rfl wo.heap.size 43 i1 (.agg #[.slice none 0 0, .int .i64 0, .int .i64 0, .int .i64 0]) 4 48 Try.underlying28 HID.out.1 HID.out.2.1 HID.out.2.2.1 HID.out.2.2.2 rfl (by decide) (.slice Az57 n' cz57) n' _ rfl ho61 ⟨S, 0, none⟩ 1 1 (deedVals wo b (off + j * 4) 1) rfl (deedVals_len _ _ _ _) (by rw [HV.out]; exact blk_news BS61) (by rw [HV.out]; simp [Value.oneCell']) (by unfold maxLen; omega) (by omega) hz62 (fun v62 W62 ho62 hg62 _ => ?_)
                  obtain ⟨Az62, cz62, rfl⟩ := own_form ho62
                  have hk62 := hk61.grown hg62 (fun k e => (ho61.lt k e).1)
                  have B62 := B61.grown hg62 (fun e => by have h1 := (ho61.lt _ e.symm).1; have h2 := HEl.out; omega)
                  have BD62 := BN61.grown hg62 (own_ne_blk ho61 BN61 (by decide))
                  refine hK.out _ _ (lawS B62 hl5 (hkL.trans hk62) HDC5.out hb0) (fun _ => ?_); clear hK K; try simp only [Act.put, List.setIfInBounds_toArray, List.set_cons_zero, List.set_cons_succ]
                  (refine take_val (i := 18) (v := .agg #[.int .i64 t.start, .slice A n c, .slice Az62 (n' + 1) cz62]) rfl rfl (by kernel_rfl) (by kernel_rfl) (by kernel_rfl) (fun _ _ _ h => h) rfl (by intro wq hq; (try go_split_ands); go_simp; try with_reducible rfl) (lawS B62 hl5 (hkL.trans hk62) HDC5.out hb0) ?_; try simp only [List.setIfInBounds_toArray, List.set_cons_zero, List.set_cons_succ])
                  have d0 := BD62.cell 0
                  have d1 := BD62.cell 1
                  have d2 := BD62.cell 2
                  have f0 := BD62.frozen 0
                  have f1 := BD62.frozen 1
                  have f2 := BD62.frozen 2
                  (refine wpAnyH_ready (rs := [20]) (by kernel_rfl) (by simp) ?_; refine AllReadyH.cons rfl (fun K hK => ?_) AllReadyH.nil; go_simp)
                  obtain ⟨lk, lB, lo, lE⟩ := less_kept hk62 hd61 BD62 ho62 B62 HEl.out (.int .i64 t.start) (.slice A n c) (.slice Az62 (n' + 1) cz62)
                  have hdd := twice_deeds HLd.out hj HMx.out HDC.out (hkL.trans lk) lo
                  refine hK.out _ _ (lawS lE hl5 (hkL.trans lk) HDC5.out hb0) (fun _ => ?_); clear hK K; try simp only [Act.put, List.setIfInBounds_toArray, List.set_cons_zero, List.set_cons_succ]
                  refine wpAnyH_done (by kernel_rfl) ?_ _
                  clear d0 d1 d2 f0 f1 f2
                  go_wp2_with fail
                  go_meet
                  case rel => exact ⟨D, Az62, cz62, _, rfl, lB, hdd, lk⟩
              · skip
                go_simp
                have hl64 := (Kept.refl W56).alloc (.cells #[.int .i64 0, .slice none 0 0, .slice none 0 0] 30)
                have hk64 := hk56.trans hl64
                have B64 := B56.kept hl64
                have ho64 := own_keep hon56 hl64
                have BS64 := BS56.kept hl64
                have BN64 := Blk.new W56 30 #[.int .i64 0, .slice none 0 0, .slice none 0 0]
                (refine hK.out _ _ (lawS B64 hl5 (hkL.trans hk64) HDC5.out hb0) (fun _ => ?_); clear hK K; try simp only [Act.put, List.setIfInBounds_toArray, List.set_cons_zero, List.set_cons_succ])
                obtain ⟨D, HN64⟩ : ∃ x, Hid (W56.heap.size = x) := ⟨_, rfl⟩
                obtain ⟨W64, HW64⟩ : ∃ x, Hid (W56.alloc (.cells #[.int .i64 0, .slice none 0 0, .slice none 0 0] 30) = x) := ⟨_, rfl⟩
                rw [HN64.out, HW64.out] at BN64
                have hd64 : wo.heap.size ≤ D := by rw [← HN64.out]; exact hk56.size
                rw [HW64.out] at hk64 B64 ho64 BS64
                rw [HN64.out, HW64.out]
                refine wpAnyH_ready (rs := [7]) (by kernel_rfl) (by simp) ?_
                refine AllReadyH.cons rfl (fun K hK => ?_) (AllReadyH.nil)
                have hs65 := deedVals_cell (a := 0) (m := n') (o := off) HDC.out (hkL.trans hk64) hb0 (by omega) (fun _ => by omega)
                have hz65 := hk64.size
                refine wp_append_own _ (.tmp 68) (.tmp 70) 28 rfl wo.heap.size 43 i1 (.agg #[.slice none 0 0, .int .i64 0, .int .i64 0, .int .i64 0]) 4 48 Try.underlying28 HID.out.1 HID.out.2.1 HID.out.2.2.1 HID.out.2.2.2 rfl (by decide) (.slice (some ⟨gq, 0, none⟩) 0 0) 0 _ rfl ho64 ⟨b, off, none⟩ n' c' (deedVals wo b (off + 0 * 4) n') rfl (deedVals_len _ _ _ _) hs65.1 hs65.2 (by unfold maxLen; omega) (by omega) hz65 (fun v65 W65 ho65 hg65 _ => ?_)
                obtain ⟨Az65, cz65, rfl⟩ := own_form ho65
                have hk65 := hk64.grown hg65 (fun k e => (ho64.lt k e).1)
                have B65 := B64.grown hg65 (fun e => by have h1 := (ho64.lt _ e.symm).1; have h2 := HEl.out; omega)
                have BD65 := BN64.grown hg65 (own_ne_blk ho64 BN64 (by decide))
                have BS65 := BS64.grown hg65 (fun e => hSg (by simpa [Value.ownBlock] using e))
                refine hK.out _ _ (lawS B65 hl5 (hkL.trans hk65) HDC5.out hb0) (fun _ => ?_); clear hK K; try simp only [Act.put, List.setIfInBounds_toArray, List.set_cons_zero, List.set_cons_succ]
                rw [Nat.zero_add, List.nil_append] at ho65
                try rw [Nat.zero_add]
                refine wpAnyH_ready (rs := [17]) (by kernel_rfl) (by simp) ?_
                refine AllReadyH.cons rfl (fun K hK => ?_) (AllReadyH.nil)
                have hz66 := hk65.size
                refine wp_append_own _ (.tmp 71) (.tmp 80) 28 rfl wo.heap.size 43 i1 (.agg #[.slice none 0 0, .int .i64 0, .int .i64 0, .int .i64 0]) 4 48 Try.underlying28 HID.out.1 HID.out.2.1 HID.out.2.2.1 HID.out.2.2.2 rfl (by decide) (.slice Az65 n' cz65) n' _ rfl ho65 ⟨S, 0, none⟩ 1 1 (deedVals wo b (off + j * 4) 1) rfl (deedVals_len _ _ _ _) (by rw [HV.out]; exact blk_news BS65) (by rw [HV.out]; simp [Value.oneCell']) (by unfold maxLen; omega) (by omega) hz66 (fun v66 W66 ho66 hg66 _ => ?_)
                obtain ⟨Az66, cz66, rfl⟩ := own_form ho66
                have hk66 := hk65.grown hg66 (fun k e => (ho65.lt k e).1)
                have B66 := B65.grown hg66 (fun e => by have h1 := (ho65.lt _ e.symm).1; have h2 := HEl.out; omega)
                have BD66 := BD65.grown hg66 (own_ne_blk ho65 BD65 (by decide))
                refine hK.out _ _ (lawS B66 hl5 (hkL.trans hk66) HDC5.out hb0) (fun _ => ?_); clear hK K; try simp only [Act.put, List.setIfInBounds_toArray, List.set_cons_zero, List.set_cons_succ]
                (refine take_val (i := 18) (v := .agg #[.int .i64 t.start, .slice A n c, .slice Az66 (n' + 1) cz66]) rfl rfl (by kernel_rfl) (by kernel_rfl) (by kernel_rfl) (fun _ _ _ h => h) rfl (by intro wq hq; (try go_split_ands); go_simp; try with_reducible rfl) (lawS B66 hl5 (hkL.trans hk66) HDC5.out hb0) ?_; try simp only [List.setIfInBounds_toArray, List.set_cons_zero, List.set_cons_succ])
                have d0 := BD66.cell 0
                have d1 := BD66.cell 1
                have d2 := BD66.cell 2
                have f0 := BD66.frozen 0
                have f1 := BD66.frozen 1
                have f2 := BD66.frozen 2
                (refine wpAnyH_ready (rs := [20]) (by kernel_rfl) (by simp) ?_; refine AllReadyH.cons rfl (fun K hK => ?_) AllReadyH.nil; go_simp)
                obtain ⟨lk, lB, lo, lE⟩ := less_kept hk66 hd64 BD66 ho66 B66 HEl.out (.int .i64 t.start) (.slice A n c) (.slice Az66 (n' + 1) cz66)
                have hdd := twice_deeds HLd.out hj HMx.out HDC.out (hkL.trans lk) lo
                refine hK.out _ _ (lawS lE hl5 (hkL.trans lk) HDC5.out hb0) (fun _ => ?_); clear hK K; try simp only [Act.put, List.setIfInBounds_toArray, List.set_cons_zero, List.set_cons_succ]
                refine wpAnyH_done (by kernel_rfl) ?_ _
                clear d0 d1 d2 f0 f1 f2
                go_wp2_with fail
                go_meet
                case rel => exact ⟨D, Az66, cz66, _, rfl, lB, hdd, lk⟩
            · skip
              go_simp
              have hl68 := (Kept.refl W55).alloc (.cells #[.int .i64 0, .slice none 0 0, .slice none 0 0] 30)
              have hk68 := hk55.trans hl68
              have B68 := B55.kept hl68
              have BS68 := BN55.kept hl68
              have BN68 := Blk.new W55 30 #[.int .i64 0, .slice none 0 0, .slice none 0 0]
              (refine hK.out _ _ (lawS B68 hl5 (hkL.trans hk68) HDC5.out hb0) (fun _ => ?_); clear hK K; try simp only [Act.put, List.setIfInBounds_toArray, List.set_cons_zero, List.set_cons_succ])
              obtain ⟨D, HN68⟩ : ∃ x, Hid (W55.heap.size = x) := ⟨_, rfl⟩
              obtain ⟨W68, HW68⟩ : ∃ x, Hid (W55.alloc (.cells #[.int .i64 0, .slice none 0 0, .slice none 0 0] 30) = x) := ⟨_, rfl⟩
              rw [HN68.out, HW68.out] at BN68
              have hd68 : wo.heap.size ≤ D := by rw [← HN68.out]; exact hk55.size
              rw [HW68.out] at hk68 B68 BS68
              rw [HN68.out, HW68.out]
              refine wpAnyH_ready (rs := [4]) (by kernel_rfl) (by simp) ?_
              refine AllReadyH.cons rfl (fun K hK => ?_) (AllReadyH.nil)
              go_simp
              have hon69 := World.ownsRow_made (base := wo.heap.size) (e := 43) (size := 4) W68 #[] 0 hk68.size (by unfold maxLen; omega) rfl
              have hl69 := (Kept.refl W68).alloc (.cells #[] 43)
              have hk69 := hk68.trans hl69
              have B69 := B68.kept hl69
              have BS69 := BS68.kept hl69
              have BD69 := BN68.kept hl69
              (refine hK.out _ _ (lawS B69 hl5 (hkL.trans hk69) HDC5.out hb0) (fun _ => ?_); clear hK K; try simp only [Act.put, List.setIfInBounds_toArray, List.set_cons_zero, List.set_cons_succ])
              obtain ⟨gq, HN69⟩ : ∃ x, Hid (W68.heap.size = x) := ⟨_, rfl⟩
              obtain ⟨W69, HW69⟩ : ∃ x, Hid (W68.alloc (.cells #[] 43) = x) := ⟨_, rfl⟩
              rw [HN69.out, HW69.out] at hon69
              have hSg : S ≠ gq := by have h1 := BS68.lt; have h2 := HN69.out; omega
              rw [HW69.out] at hk69 B69 BS69 BD69
              rw [HN69.out, HW69.out]
              refine wpAnyH_ready (rs := [7]) (by kernel_rfl) (by simp) ?_
              refine AllReadyH.cons rfl (fun K hK => ?_) (AllReadyH.nil)
              have hs70 := deedVals_cell (a := 0) (m := n') (o := off) HDC.out (hkL.trans hk69) hb0 (by omega) (fun _ => by omega)
              have hz70 := hk69.size
              refine wp_append_own _ (.tmp 68) (.tmp 70) 28 rfl wo.heap.size 43 i1 (.agg #[.slice none 0 0, .int .i64 0, .int .i64 0, .int .i64 0]) 4 48 Try.underlying28 HID.out.1 HID.out.2.1 HID.out.2.2.1 HID.out.2.2.2 rfl (by decide) (.slice (some ⟨gq, 0, none⟩) 0 0) 0 _ rfl hon69 ⟨b, off, none⟩ n' c' (deedVals wo b (off + 0 * 4) n') rfl (deedVals_len _ _ _ _) hs70.1 hs70.2 (by unfold maxLen; omega) (by omega) hz70 (fun v70 W70 ho70 hg70 _ => ?_)
              obtain ⟨Az70, cz70, rfl⟩ := own_form ho70
              have hk70 := hk69.grown hg70 (fun k e => (hon69.lt k e).1)
              have B70 := B69.grown hg70 (fun e => by have h1 := (hon69.lt _ e.symm).1; have h2 := HEl.out; omega)
              have BD70 := BD69.grown hg70 (own_ne_blk hon69 BD69 (by decide))
              have BS70 := BS69.grown hg70 (fun e => hSg (by simpa [Value.ownBlock] using e))
              refine hK.out _ _ (lawS B70 hl5 (hkL.trans hk70) HDC5.out hb0) (fun _ => ?_); clear hK K; try simp only [Act.put, List.setIfInBounds_toArray, List.set_cons_zero, List.set_cons_succ]
              rw [Nat.zero_add, List.nil_append] at ho70
              try rw [Nat.zero_add]
              refine wpAnyH_ready (rs := [17]) (by kernel_rfl) (by simp) ?_
              refine AllReadyH.cons rfl (fun K hK => ?_) (AllReadyH.nil)
              have hz71 := hk70.size
              refine wp_append_own _ (.tmp 71) (.tmp 80) 28 rfl wo.heap.size 43 i1 (.agg #[.slice none 0 0, .int .i64 0, .int .i64 0, .int .i64 0]) 4 48 Try.underlying28 HID.out.1 HID.out.2.1 HID.out.2.2.1 HID.out.2.2.2 rfl (by decide) (.slice Az70 n' cz70) n' _ rfl ho70 ⟨S, 0, none⟩ 1 1 (deedVals wo b (off + j * 4) 1) rfl (deedVals_len _ _ _ _) (by rw [HV.out]; exact blk_news BS70) (by rw [HV.out]; simp [Value.oneCell']) (by unfold maxLen; omega) (by omega) hz71 (fun v71 W71 ho71 hg71 _ => ?_)
              obtain ⟨Az71, cz71, rfl⟩ := own_form ho71
              have hk71 := hk70.grown hg71 (fun k e => (ho70.lt k e).1)
              have B71 := B70.grown hg71 (fun e => by have h1 := (ho70.lt _ e.symm).1; have h2 := HEl.out; omega)
              have BD71 := BD70.grown hg71 (own_ne_blk ho70 BD70 (by decide))
              refine hK.out _ _ (lawS B71 hl5 (hkL.trans hk71) HDC5.out hb0) (fun _ => ?_); clear hK K; try simp only [Act.put, List.setIfInBounds_toArray, List.set_cons_zero, List.set_cons_succ]
              (refine take_val (i := 18) (v := .agg #[.int .i64 t.start, .slice A n c, .slice Az71 (n' + 1) cz71]) rfl rfl (by kernel_rfl) (by kernel_rfl) (by kernel_rfl) (fun _ _ _ h => h) rfl (by intro wq hq; (try go_split_ands); go_simp; try with_reducible rfl) (lawS B71 hl5 (hkL.trans hk71) HDC5.out hb0) ?_; try simp only [List.setIfInBounds_toArray, List.set_cons_zero, List.set_cons_succ])
              have d0 := BD71.cell 0
              have d1 := BD71.cell 1
              have d2 := BD71.cell 2
              have f0 := BD71.frozen 0
              have f1 := BD71.frozen 1
              have f2 := BD71.frozen 2
              (refine wpAnyH_ready (rs := [20]) (by kernel_rfl) (by simp) ?_; refine AllReadyH.cons rfl (fun K hK => ?_) AllReadyH.nil; go_simp)
              obtain ⟨lk, lB, lo, lE⟩ := less_kept hk71 hd68 BD71 ho71 B71 HEl.out (.int .i64 t.start) (.slice A n c) (.slice Az71 (n' + 1) cz71)
              have hdd := twice_deeds HLd.out hj HMx.out HDC.out (hkL.trans lk) lo
              refine hK.out _ _ (lawS lE hl5 (hkL.trans lk) HDC5.out hb0) (fun _ => ?_); clear hK K; try simp only [Act.put, List.setIfInBounds_toArray, List.set_cons_zero, List.set_cons_succ]
              refine wpAnyH_done (by kernel_rfl) ?_ _
              clear d0 d1 d2 f0 f1 f2
              go_wp2_with fail
              go_meet
              case rel => exact ⟨D, Az71, cz71, _, rfl, lB, hdd, lk⟩
          · skip
            go_simp
            have hl73 := (Kept.refl W0).alloc (.cells #[.int .i64 0, .slice none 0 0, .slice none 0 0] 30)
            have hk73 := hk0w.trans hl73
            have B73 := B0w.kept hl73
            have BN73 := Blk.new W0 30 #[.int .i64 0, .slice none 0 0, .slice none 0 0]
            (refine hK.out _ _ (lawS B73 hl5 (hkL.trans hk73) HDC5.out hb0) (fun _ => ?_); clear hK K; try simp only [Act.put, List.setIfInBounds_toArray, List.set_cons_zero, List.set_cons_succ])
            obtain ⟨D, HN73⟩ : ∃ x, Hid (W0.heap.size = x) := ⟨_, rfl⟩
            obtain ⟨W73, HW73⟩ : ∃ x, Hid (W0.alloc (.cells #[.int .i64 0, .slice none 0 0, .slice none 0 0] 30) = x) := ⟨_, rfl⟩
            rw [HN73.out, HW73.out] at BN73
            have hd73 : wo.heap.size ≤ D := by rw [← HN73.out]; exact hk0w.size
            rw [HW73.out] at hk73 B73
            rw [HN73.out, HW73.out]
            refine wpAnyH_ready (rs := [4, 16]) (by kernel_rfl) (by simp) ?_
            refine AllReadyH.cons rfl (fun K hK => ?_) (AllReadyH.cons rfl (fun K hK => ?_) (AllReadyH.nil))
            · skip
              go_simp
              have hon74 := World.ownsRow_made (base := wo.heap.size) (e := 43) (size := 4) W73 #[] 0 hk73.size (by unfold maxLen; omega) rfl
              have hl74 := (Kept.refl W73).alloc (.cells #[] 43)
              have hk74 := hk73.trans hl74
              have B74 := B73.kept hl74
              have BD74 := BN73.kept hl74
              (refine hK.out _ _ (lawS B74 hl5 (hkL.trans hk74) HDC5.out hb0) (fun _ => ?_); clear hK K; try simp only [Act.put, List.setIfInBounds_toArray, List.set_cons_zero, List.set_cons_succ])
              obtain ⟨gq, HN74⟩ : ∃ x, Hid (W73.heap.size = x) := ⟨_, rfl⟩
              obtain ⟨W74, HW74⟩ : ∃ x, Hid (W73.alloc (.cells #[] 43) = x) := ⟨_, rfl⟩
              rw [HN74.out, HW74.out] at hon74
              rw [HW74.out] at hk74 B74 BD74
              rw [HN74.out, HW74.out]
              refine wpAnyH_ready (rs := [7, 16]) (by kernel_rfl) (by simp) ?_
              refine AllReadyH.cons rfl (fun K hK => ?_) (AllReadyH.cons rfl (fun K hK => ?_) (AllReadyH.nil))
              · skip
                have hs75 := deedVals_cell (a := 0) (m := n') (o := off) HDC.out (hkL.trans hk74) hb0 (by omega) (fun _ => by omega)
                have hz75 := hk74.size
                refine wp_append_own _ (.tmp 68) (.tmp 70) 28 rfl wo.heap.size 43 i1 (.agg #[.slice none 0 0, .int .i64 0, .int .i64 0, .int .i64 0]) 4 48 Try.underlying28 HID.out.1 HID.out.2.1 HID.out.2.2.1 HID.out.2.2.2 rfl (by decide) (.slice (some ⟨gq, 0, none⟩) 0 0) 0 _ rfl hon74 ⟨b, off, none⟩ n' c' (deedVals wo b (off + 0 * 4) n') rfl (deedVals_len _ _ _ _) hs75.1 hs75.2 (by unfold maxLen; omega) (by omega) hz75 (fun v75 W75 ho75 hg75 _ => ?_)
                obtain ⟨Az75, cz75, rfl⟩ := own_form ho75
                have hk75 := hk74.grown hg75 (fun k e => (hon74.lt k e).1)
                have B75 := B74.grown hg75 (fun e => by have h1 := (hon74.lt _ e.symm).1; have h2 := HEl.out; omega)
                have BD75 := BD74.grown hg75 (own_ne_blk hon74 BD74 (by decide))
                refine hK.out _ _ (lawS B75 hl5 (hkL.trans hk75) HDC5.out hb0) (fun _ => ?_); clear hK K; try simp only [Act.put, List.setIfInBounds_toArray, List.set_cons_zero, List.set_cons_succ]
                rw [Nat.zero_add, List.nil_append] at ho75
                try rw [Nat.zero_add]
                refine wpAnyH_ready (rs := [16]) (by kernel_rfl) (by simp) ?_
                refine AllReadyH.cons rfl (fun K hK => ?_) (AllReadyH.nil)
                go_simp
                have BN76 := Blk.new W75 43 #[.slice A7 n7 c7, .int .i64 d.on, .int .i64 d.off, .int .i64 d.flip]
                have hl76 := (Kept.refl W75).alloc (.cells #[.slice A7 n7 c7, .int .i64 d.on, .int .i64 d.off, .int .i64 d.flip] 43)
                have hk76 := hk75.trans hl76
                have B76 := B75.kept hl76
                have ho76 := own_keep ho75 hl76
                have BD76 := BD75.kept hl76
                (refine hK.out _ _ (lawS B76 hl5 (hkL.trans hk76) HDC5.out hb0) (fun _ => ?_); clear hK K; try simp only [Act.put, List.setIfInBounds_toArray, List.set_cons_zero, List.set_cons_succ])
                obtain ⟨S, HN76⟩ : ∃ x, Hid (W75.heap.size = x) := ⟨_, rfl⟩
                obtain ⟨W76, HW76⟩ : ∃ x, Hid (W75.alloc (.cells #[.slice A7 n7 c7, .int .i64 d.on, .int .i64 d.off, .int .i64 d.flip] 43) = x) := ⟨_, rfl⟩
                rw [HN76.out, HW76.out] at BN76
                rw [HW76.out] at hk76 B76 ho76 BD76
                rw [HN76.out, HW76.out]
                refine wpAnyH_ready (rs := [17]) (by kernel_rfl) (by simp) ?_
                refine AllReadyH.cons rfl (fun K hK => ?_) (AllReadyH.nil)
                have hz77 := hk76.size
                refine wp_append_own _ (.tmp 71) (.tmp 80) 28 rfl wo.heap.size 43 i1 (.agg #[.slice none 0 0, .int .i64 0, .int .i64 0, .int .i64 0]) 4 48 Try.underlying28 HID.out.1 HID.out.2.1 HID.out.2.2.1 HID.out.2.2.2 rfl (by decide) (.slice Az75 n' cz75) n' _ rfl ho76 ⟨S, 0, none⟩ 1 1 (deedVals wo b (off + j * 4) 1) rfl (deedVals_len _ _ _ _) (by rw [HV.out]; exact blk_news BN76) (by rw [HV.out]; simp [Value.oneCell']) (by unfold maxLen; omega) (by omega) hz77 (fun v77 W77 ho77 hg77 _ => ?_)
                obtain ⟨Az77, cz77, rfl⟩ := own_form ho77
                have hk77 := hk76.grown hg77 (fun k e => (ho76.lt k e).1)
                have B77 := B76.grown hg77 (fun e => by have h1 := (ho76.lt _ e.symm).1; have h2 := HEl.out; omega)
                have BD77 := BD76.grown hg77 (own_ne_blk ho76 BD76 (by decide))
                refine hK.out _ _ (lawS B77 hl5 (hkL.trans hk77) HDC5.out hb0) (fun _ => ?_); clear hK K; try simp only [Act.put, List.setIfInBounds_toArray, List.set_cons_zero, List.set_cons_succ]
                (refine take_val (i := 18) (v := .agg #[.int .i64 t.start, .slice A n c, .slice Az77 (n' + 1) cz77]) rfl rfl (by kernel_rfl) (by kernel_rfl) (by kernel_rfl) (fun _ _ _ h => h) rfl (by intro wq hq; (try go_split_ands); go_simp; try with_reducible rfl) (lawS B77 hl5 (hkL.trans hk77) HDC5.out hb0) ?_; try simp only [List.setIfInBounds_toArray, List.set_cons_zero, List.set_cons_succ])
                have d0 := BD77.cell 0
                have d1 := BD77.cell 1
                have d2 := BD77.cell 2
                have f0 := BD77.frozen 0
                have f1 := BD77.frozen 1
                have f2 := BD77.frozen 2
                (refine wpAnyH_ready (rs := [20]) (by kernel_rfl) (by simp) ?_; refine AllReadyH.cons rfl (fun K hK => ?_) AllReadyH.nil; go_simp)
                obtain ⟨lk, lB, lo, lE⟩ := less_kept hk77 hd73 BD77 ho77 B77 HEl.out (.int .i64 t.start) (.slice A n c) (.slice Az77 (n' + 1) cz77)
                have hdd := twice_deeds HLd.out hj HMx.out HDC.out (hkL.trans lk) lo
                refine hK.out _ _ (lawS lE hl5 (hkL.trans lk) HDC5.out hb0) (fun _ => ?_); clear hK K; try simp only [Act.put, List.setIfInBounds_toArray, List.set_cons_zero, List.set_cons_succ]
                refine wpAnyH_done (by kernel_rfl) ?_ _
                clear d0 d1 d2 f0 f1 f2
                go_wp2_with fail
                go_meet
                case rel => exact ⟨D, Az77, cz77, _, rfl, lB, hdd, lk⟩
              · skip
                go_simp
                have BN79 := Blk.new W74 43 #[.slice A7 n7 c7, .int .i64 d.on, .int .i64 d.off, .int .i64 d.flip]
                have hl79 := (Kept.refl W74).alloc (.cells #[.slice A7 n7 c7, .int .i64 d.on, .int .i64 d.off, .int .i64 d.flip] 43)
                have hk79 := hk74.trans hl79
                have B79 := B74.kept hl79
                have ho79 := own_keep hon74 hl79
                have BD79 := BD74.kept hl79
                (refine hK.out _ _ (lawS B79 hl5 (hkL.trans hk79) HDC5.out hb0) (fun _ => ?_); clear hK K; try simp only [Act.put, List.setIfInBounds_toArray, List.set_cons_zero, List.set_cons_succ])
                obtain ⟨S, HN79⟩ : ∃ x, Hid (W74.heap.size = x) := ⟨_, rfl⟩
                obtain ⟨W79, HW79⟩ : ∃ x, Hid (W74.alloc (.cells #[.slice A7 n7 c7, .int .i64 d.on, .int .i64 d.off, .int .i64 d.flip] 43) = x) := ⟨_, rfl⟩
                rw [HN79.out, HW79.out] at BN79
                have hSg : S ≠ gq := by have h1 := (hon74.lt gq rfl).2; have h2 := HN79.out; omega
                rw [HW79.out] at hk79 B79 ho79 BD79
                rw [HN79.out, HW79.out]
                refine wpAnyH_ready (rs := [7]) (by kernel_rfl) (by simp) ?_
                refine AllReadyH.cons rfl (fun K hK => ?_) (AllReadyH.nil)
                have hs80 := deedVals_cell (a := 0) (m := n') (o := off) HDC.out (hkL.trans hk79) hb0 (by omega) (fun _ => by omega)
                have hz80 := hk79.size
                refine wp_append_own _ (.tmp 68) (.tmp 70) 28 rfl wo.heap.size 43 i1 (.agg #[.slice none 0 0, .int .i64 0, .int .i64 0, .int .i64 0]) 4 48 Try.underlying28 HID.out.1 HID.out.2.1 HID.out.2.2.1 HID.out.2.2.2 rfl (by decide) (.slice (some ⟨gq, 0, none⟩) 0 0) 0 _ rfl ho79 ⟨b, off, none⟩ n' c' (deedVals wo b (off + 0 * 4) n') rfl (deedVals_len _ _ _ _) hs80.1 hs80.2 (by unfold maxLen; omega) (by omega) hz80 (fun v80 W80 ho80 hg80 _ => ?_)
                obtain ⟨Az80, cz80, rfl⟩ := own_form ho80
                have hk80 := hk79.grown hg80 (fun k e => (ho79.lt k e).1)
                have B80 := B79.grown hg80 (fun e => by have h1 := (ho79.lt _ e.symm).1; have h2 := HEl.out; omega)
                have BD80 := BD79.grown hg80 (own_ne_blk ho79 BD79 (by decide))
                have BS80 := BN79.grown hg80 (fun e => hSg (by simpa [Value.ownBlock] using e))
                refine hK.out _ _ (lawS B80 hl5 (hkL.trans hk80) HDC5.out hb0) (fun _ => ?_); clear hK K; try simp only [Act.put, List.setIfInBounds_toArray, List.set_cons_zero, List.set_cons_succ]
                rw [Nat.zero_add, List.nil_append] at ho80
                try rw [Nat.zero_add]
                refine wpAnyH_ready (rs := [17]) (by kernel_rfl) (by simp) ?_
                refine AllReadyH.cons rfl (fun K hK => ?_) (AllReadyH.nil)
                have hz81 := hk80.size
                refine wp_append_own _ (.tmp 71) (.tmp 80) 28 rfl wo.heap.size 43 i1 (.agg #[.slice none 0 0, .int .i64 0, .int .i64 0, .int .i64 0]) 4 48 Try.underlying28 HID.out.1 HID.out.2.1 HID.out.2.2.1 HID.out.2.2.2 rfl (by decide) (.slice Az80 n' cz80) n' _ rfl ho80 ⟨S, 0, none⟩ 1 1 (deedVals wo b (off + j * 4) 1) rfl (deedVals_len _ _ _ _) (by rw [HV.out]; exact blk_news BS80) (by rw [HV.out]; simp [Value.oneCell']) (by unfold maxLen; omega) (by omega) hz81 (fun v81 W81 ho81 hg81 _ => ?_)
                obtain ⟨Az81, cz81, rfl⟩ := own_form ho81
                have hk81 := hk80.grown hg81 (fun k e => (ho80.lt k e).1)
                have B81 := B80.grown hg81 (fun e => by have h1 := (ho80.lt _ e.symm).1; have h2 := HEl.out; omega)
                have BD81 := BD80.grown hg81 (own_ne_blk ho80 BD80 (by decide))
                refine hK.out _ _ (lawS B81 hl5 (hkL.trans hk81) HDC5.out hb0) (fun _ => ?_); clear hK K; try simp only [Act.put, List.setIfInBounds_toArray, List.set_cons_zero, List.set_cons_succ]
                (refine take_val (i := 18) (v := .agg #[.int .i64 t.start, .slice A n c, .slice Az81 (n' + 1) cz81]) rfl rfl (by kernel_rfl) (by kernel_rfl) (by kernel_rfl) (fun _ _ _ h => h) rfl (by intro wq hq; (try go_split_ands); go_simp; try with_reducible rfl) (lawS B81 hl5 (hkL.trans hk81) HDC5.out hb0) ?_; try simp only [List.setIfInBounds_toArray, List.set_cons_zero, List.set_cons_succ])
                have d0 := BD81.cell 0
                have d1 := BD81.cell 1
                have d2 := BD81.cell 2
                have f0 := BD81.frozen 0
                have f1 := BD81.frozen 1
                have f2 := BD81.frozen 2
                (refine wpAnyH_ready (rs := [20]) (by kernel_rfl) (by simp) ?_; refine AllReadyH.cons rfl (fun K hK => ?_) AllReadyH.nil; go_simp)
                obtain ⟨lk, lB, lo, lE⟩ := less_kept hk81 hd73 BD81 ho81 B81 HEl.out (.int .i64 t.start) (.slice A n c) (.slice Az81 (n' + 1) cz81)
                have hdd := twice_deeds HLd.out hj HMx.out HDC.out (hkL.trans lk) lo
                refine hK.out _ _ (lawS lE hl5 (hkL.trans lk) HDC5.out hb0) (fun _ => ?_); clear hK K; try simp only [Act.put, List.setIfInBounds_toArray, List.set_cons_zero, List.set_cons_succ]
                refine wpAnyH_done (by kernel_rfl) ?_ _
                clear d0 d1 d2 f0 f1 f2
                go_wp2_with fail
                go_meet
                case rel => exact ⟨D, Az81, cz81, _, rfl, lB, hdd, lk⟩
            · skip
              go_simp
              have BN83 := Blk.new W73 43 #[.slice A7 n7 c7, .int .i64 d.on, .int .i64 d.off, .int .i64 d.flip]
              have hl83 := (Kept.refl W73).alloc (.cells #[.slice A7 n7 c7, .int .i64 d.on, .int .i64 d.off, .int .i64 d.flip] 43)
              have hk83 := hk73.trans hl83
              have B83 := B73.kept hl83
              have BD83 := BN73.kept hl83
              (refine hK.out _ _ (lawS B83 hl5 (hkL.trans hk83) HDC5.out hb0) (fun _ => ?_); clear hK K; try simp only [Act.put, List.setIfInBounds_toArray, List.set_cons_zero, List.set_cons_succ])
              obtain ⟨S, HN83⟩ : ∃ x, Hid (W73.heap.size = x) := ⟨_, rfl⟩
              obtain ⟨W83, HW83⟩ : ∃ x, Hid (W73.alloc (.cells #[.slice A7 n7 c7, .int .i64 d.on, .int .i64 d.off, .int .i64 d.flip] 43) = x) := ⟨_, rfl⟩
              rw [HN83.out, HW83.out] at BN83
              rw [HW83.out] at hk83 B83 BD83
              rw [HN83.out, HW83.out]
              refine wpAnyH_ready (rs := [4]) (by kernel_rfl) (by simp) ?_
              refine AllReadyH.cons rfl (fun K hK => ?_) (AllReadyH.nil)
              go_simp
              have hon84 := World.ownsRow_made (base := wo.heap.size) (e := 43) (size := 4) W83 #[] 0 hk83.size (by unfold maxLen; omega) rfl
              have hl84 := (Kept.refl W83).alloc (.cells #[] 43)
              have hk84 := hk83.trans hl84
              have B84 := B83.kept hl84
              have BS84 := BN83.kept hl84
              have BD84 := BD83.kept hl84
              (refine hK.out _ _ (lawS B84 hl5 (hkL.trans hk84) HDC5.out hb0) (fun _ => ?_); clear hK K; try simp only [Act.put, List.setIfInBounds_toArray, List.set_cons_zero, List.set_cons_succ])
              obtain ⟨gq, HN84⟩ : ∃ x, Hid (W83.heap.size = x) := ⟨_, rfl⟩
              obtain ⟨W84, HW84⟩ : ∃ x, Hid (W83.alloc (.cells #[] 43) = x) := ⟨_, rfl⟩
              rw [HN84.out, HW84.out] at hon84
              have hSg : S ≠ gq := by have h1 := BN83.lt; have h2 := HN84.out; omega
              rw [HW84.out] at hk84 B84 BS84 BD84
              rw [HN84.out, HW84.out]
              refine wpAnyH_ready (rs := [7]) (by kernel_rfl) (by simp) ?_
              refine AllReadyH.cons rfl (fun K hK => ?_) (AllReadyH.nil)
              have hs85 := deedVals_cell (a := 0) (m := n') (o := off) HDC.out (hkL.trans hk84) hb0 (by omega) (fun _ => by omega)
              have hz85 := hk84.size
              refine wp_append_own _ (.tmp 68) (.tmp 70) 28 rfl wo.heap.size 43 i1 (.agg #[.slice none 0 0, .int .i64 0, .int .i64 0, .int .i64 0]) 4 48 Try.underlying28 HID.out.1 HID.out.2.1 HID.out.2.2.1 HID.out.2.2.2 rfl (by decide) (.slice (some ⟨gq, 0, none⟩) 0 0) 0 _ rfl hon84 ⟨b, off, none⟩ n' c' (deedVals wo b (off + 0 * 4) n') rfl (deedVals_len _ _ _ _) hs85.1 hs85.2 (by unfold maxLen; omega) (by omega) hz85 (fun v85 W85 ho85 hg85 _ => ?_)
              obtain ⟨Az85, cz85, rfl⟩ := own_form ho85
              have hk85 := hk84.grown hg85 (fun k e => (hon84.lt k e).1)
              have B85 := B84.grown hg85 (fun e => by have h1 := (hon84.lt _ e.symm).1; have h2 := HEl.out; omega)
              have BD85 := BD84.grown hg85 (own_ne_blk hon84 BD84 (by decide))
              have BS85 := BS84.grown hg85 (fun e => hSg (by simpa [Value.ownBlock] using e))
              refine hK.out _ _ (lawS B85 hl5 (hkL.trans hk85) HDC5.out hb0) (fun _ => ?_); clear hK K; try simp only [Act.put, List.setIfInBounds_toArray, List.set_cons_zero, List.set_cons_succ]
              rw [Nat.zero_add, List.nil_append] at ho85
              try rw [Nat.zero_add]
              refine wpAnyH_ready (rs := [17]) (by kernel_rfl) (by simp) ?_
              refine AllReadyH.cons rfl (fun K hK => ?_) (AllReadyH.nil)
              have hz86 := hk85.size
              refine wp_append_own _ (.tmp 71) (.tmp 80) 28 rfl wo.heap.size 43 i1 (.agg #[.slice none 0 0, .int .i64 0, .int .i64 0, .int .i64 0]) 4 48 Try.underlying28 HID.out.1 HID.out.2.1 HID.out.2.2.1 HID.out.2.2.2 rfl (by decide) (.slice Az85 n' cz85) n' _ rfl ho85 ⟨S, 0, none⟩ 1 1 (deedVals wo b (off + j * 4) 1) rfl (deedVals_len _ _ _ _) (by rw [HV.out]; exact blk_news BS85) (by rw [HV.out]; simp [Value.oneCell']) (by unfold maxLen; omega) (by omega) hz86 (fun v86 W86 ho86 hg86 _ => ?_)
              obtain ⟨Az86, cz86, rfl⟩ := own_form ho86
              have hk86 := hk85.grown hg86 (fun k e => (ho85.lt k e).1)
              have B86 := B85.grown hg86 (fun e => by have h1 := (ho85.lt _ e.symm).1; have h2 := HEl.out; omega)
              have BD86 := BD85.grown hg86 (own_ne_blk ho85 BD85 (by decide))
              refine hK.out _ _ (lawS B86 hl5 (hkL.trans hk86) HDC5.out hb0) (fun _ => ?_); clear hK K; try simp only [Act.put, List.setIfInBounds_toArray, List.set_cons_zero, List.set_cons_succ]
              (refine take_val (i := 18) (v := .agg #[.int .i64 t.start, .slice A n c, .slice Az86 (n' + 1) cz86]) rfl rfl (by kernel_rfl) (by kernel_rfl) (by kernel_rfl) (fun _ _ _ h => h) rfl (by intro wq hq; (try go_split_ands); go_simp; try with_reducible rfl) (lawS B86 hl5 (hkL.trans hk86) HDC5.out hb0) ?_; try simp only [List.setIfInBounds_toArray, List.set_cons_zero, List.set_cons_succ])
              have d0 := BD86.cell 0
              have d1 := BD86.cell 1
              have d2 := BD86.cell 2
              have f0 := BD86.frozen 0
              have f1 := BD86.frozen 1
              have f2 := BD86.frozen 2
              (refine wpAnyH_ready (rs := [20]) (by kernel_rfl) (by simp) ?_; refine AllReadyH.cons rfl (fun K hK => ?_) AllReadyH.nil; go_simp)
              obtain ⟨lk, lB, lo, lE⟩ := less_kept hk86 hd73 BD86 ho86 B86 HEl.out (.int .i64 t.start) (.slice A n c) (.slice Az86 (n' + 1) cz86)
              have hdd := twice_deeds HLd.out hj HMx.out HDC.out (hkL.trans lk) lo
              refine hK.out _ _ (lawS lE hl5 (hkL.trans lk) HDC5.out hb0) (fun _ => ?_); clear hK K; try simp only [Act.put, List.setIfInBounds_toArray, List.set_cons_zero, List.set_cons_succ]
              refine wpAnyH_done (by kernel_rfl) ?_ _
              clear d0 d1 d2 f0 f1 f2
              go_wp2_with fail
              go_meet
              case rel => exact ⟨D, Az86, cz86, _, rfl, lB, hdd, lk⟩

        case rest =>
          clear hl5
          obtain ⟨D, A6, c6, n6, rfl, BD, hDd, hkx⟩ := hcut
          have hk2 := hkp.trans hkx
          have hTL : TaskV wc (.agg #[.int .i64 t.start, .slice A n c, .slice A6 n6 c6]) (Sp.twice t j) := twice_task (hT1.keep hkx) hDd
          have hLc := (hL.keep hk2)
          obtain ⟨lb2, lo2, eL, hlb2, hlc2, _⟩ := hLc.at hltk
          injection eL with eL
          injection eL with e1 e2 _
          subst e1 e2
          rw [HXk.out] at hlc2
          have d0 := BD.cell
          clear hkp hkx hDd hT1
          go_wp2_with fail
          have hdz := (Kept.refl wc).drew
          have BDd := BD.kept hdz
          have hkd := hk2.trans hdz
          have hTd := hTL.keep hdz
          have hld := hdz.at_ hlc2
          clear d0 hlc2 hLc
          refine wp_region_held_drew (S := fun w' => w'.cell? ⟨D, 0, none⟩ = some (.int .i64 t.start) ∧ w'.cell? ⟨D, 1, none⟩ = some (.slice A n c) ∧ w'.cell? ⟨D, 2, none⟩ = some (.slice A6 n6 c6) ∧ w'.cell? ⟨lb, lo + k, none⟩ = some (.int .i64 (j : Int))) (by kernel_rfl) ⟨BDd.cell 0, BDd.cell 1, BDd.cell 2, hld⟩ (fun hHeld => ?_)
          (refine take_val (i := 0) (v := .agg #[.int .i64 t.start, .slice A n c, .slice A6 n6 c6]) rfl rfl (by kernel_rfl) (by kernel_rfl) (by kernel_rfl) (fun _ _ _ h => h) rfl (by intro wq hq; (try go_split_ands); go_simp; try with_reducible rfl) (hHeld) ?_; try simp only [List.setIfInBounds_toArray, List.set_cons_zero, List.set_cons_succ])
          (refine take_val (i := 2) (v := .slice (some ⟨lb, lo, none⟩) m c3) rfl rfl (by kernel_rfl) (by kernel_rfl) (by kernel_rfl) (fun _ _ _ h => h) rfl (by intro wq hq; (try go_split_ands); go_simp; try with_reducible rfl) (hHeld) ?_; try simp only [List.setIfInBounds_toArray, List.set_cons_zero, List.set_cons_succ])
          (refine take_val (i := 3) (v := .int .i64 (k : Int)) rfl rfl (by kernel_rfl) (by kernel_rfl) (by kernel_rfl) (fun _ _ _ h => h) rfl (by intro wq hq; (try go_split_ands); go_simp; try with_reducible rfl) (hHeld) ?_; try simp only [List.setIfInBounds_toArray, List.set_cons_zero, List.set_cons_succ])
          (refine take_val (i := 4) (v := .pointer (some ⟨lb, lo + k, none⟩)) rfl rfl (by kernel_rfl) (by kernel_rfl) (by kernel_rfl) (fun _ _ _ h => h) rfl (by intro wq hq; (try go_split_ands); go_simp; try with_reducible rfl) (hHeld) ?_; try simp only [List.setIfInBounds_toArray, List.set_cons_zero, List.set_cons_succ])
          (refine take_val (i := 5) (v := .int .i64 (j : Int)) rfl rfl (by kernel_rfl) (by kernel_rfl) (by kernel_rfl) (fun _ _ _ h => h) rfl (by intro wq hq; (try go_split_ands); go_simp; try with_reducible rfl) (hHeld) ?_; try simp only [List.setIfInBounds_toArray, List.set_cons_zero, List.set_cons_succ])
          (refine wpAnyH_ready (rs := [1]) (by kernel_rfl) (by simp) ?_; refine AllReadyH.cons rfl (fun K hK => ?_) AllReadyH.nil; go_simp)
          refine (c_iNeeded _ _ _ hTd).mono ?_; rintro e w8 ⟨v, rfl, ⟨A8, c8, rfl, hL8⟩, hk8⟩
          have BDe := BDd.kept hk8
          have hkE := hkd.trans hk8
          have hS8 : w8.cell? ⟨D, 0, none⟩ = some (.int .i64 t.start) ∧ w8.cell? ⟨D, 1, none⟩ = some (.slice A n c) ∧ w8.cell? ⟨D, 2, none⟩ = some (.slice A6 n6 c6) ∧ w8.cell? ⟨lb, lo + k, none⟩ = some (.int .i64 (j : Int)) := ⟨BDe.cell 0, BDe.cell 1, BDe.cell 2, hk8.at_ hld⟩
          have HNo : Hid (decide ((j : Int) ∈ Sp.needed (Sp.twice t j)) = false) := decide_eq_false (HTw2.out h6)
          clear hk8 hHeld
          (refine hK.out _ _ (hS8) (fun _ => ?_); clear hK K; try simp only [Act.put, List.setIfInBounds_toArray, List.set_cons_zero, List.set_cons_succ])
          (refine wpAnyH_ready (rs := [6]) (by kernel_rfl) (by simp) ?_; refine AllReadyH.cons rfl (fun K hK => ?_) AllReadyH.nil; go_simp)
          refine (c_lhasInt _ _ _ _ (j : Int) _ hL8.1).mono ?_; rintro e w9 ⟨rfl, rfl⟩
          rw [HNo.out]
          (refine hK.out _ _ (hS8) (fun _ => ?_); clear hK K; try simp only [Act.put, List.setIfInBounds_toArray, List.set_cons_zero, List.set_cons_succ])
          refine wpAnyH_done (by kernel_rfl) ?_ _
          clear hS8 hld
          go_wp2_with fail
          exact ⟨⟨k + 1, by omega, by go_num, hkE⟩, by simp [intOf]; omega⟩
      · have h61 : ¬ (n' : Int) < 6 := by omega
        clear c0
        have hkq := (Kept.refl wo).drew
        have B2 := B1.kept hkq
        have hlcd : wo.drew.cell? ⟨lb, lo + k, none⟩ = some (.int .i64 (j : Int)) := hkq.at_ hlc
        refine wp_region_held_drew (S := fun w' => w'.cell? ⟨w2.heap.size, 0, none⟩ = some (.int .i64 t.start) ∧ w'.cell? ⟨w2.heap.size, 1, none⟩ = some (.slice A n c) ∧ w'.cell? ⟨w2.heap.size, 2, none⟩ = some (.slice A' n' c') ∧ w'.cell? ⟨lb, lo + k, none⟩ = some (.int .i64 (j : Int))) (by kernel_rfl) ⟨B2.cell 0, B2.cell 1, B2.cell 2, hlcd⟩ (fun hHeld => ?_)
        (refine take_val (i := 0) (v := .pointer (some ⟨w2.heap.size, 2, none⟩)) rfl rfl (by kernel_rfl) (by kernel_rfl) (by kernel_rfl) (fun _ _ _ h => h) rfl (by intro wq hq; (try go_split_ands); go_simp; try with_reducible rfl) (hHeld) ?_; try simp only [List.setIfInBounds_toArray, List.set_cons_zero, List.set_cons_succ])
        (refine take_val (i := 1) (v := .slice A' n' c') rfl rfl (by kernel_rfl) (by kernel_rfl) (by kernel_rfl) (fun _ _ _ h => h) rfl (by intro wq hq; (try go_split_ands); go_simp; try with_reducible rfl) (hHeld) ?_; try simp only [List.setIfInBounds_toArray, List.set_cons_zero, List.set_cons_succ])
        (refine take_val (i := 2) (v := .int .i64 (n' : Int)) rfl rfl (by kernel_rfl) (by kernel_rfl) (by kernel_rfl) (fun _ _ _ h => h) rfl (by intro wq hq; (try go_split_ands); go_simp; try with_reducible rfl) (hHeld) ?_; try simp only [List.setIfInBounds_toArray, List.set_cons_zero, List.set_cons_succ])
        (refine take_val (i := 3) (v := .bool false) rfl rfl (by kernel_rfl) (by kernel_rfl) (by kernel_rfl) (fun _ _ _ h => h) rfl (by intro wq hq; (try go_split_ands); go_simp; try with_reducible rfl) (hHeld) ?_; try simp only [List.setIfInBounds_toArray, List.set_cons_zero, List.set_cons_succ])
        (refine take_val (i := 4) (v := .bool false) rfl rfl (by kernel_rfl) (by kernel_rfl) (by kernel_rfl) (fun _ _ _ h => h) rfl (by intro wq hq; (try go_split_ands); go_simp; try with_reducible rfl) (hHeld) ?_; try simp only [List.setIfInBounds_toArray, List.set_cons_zero, List.set_cons_succ])
        (refine take_skip (i := 5) rfl rfl (by kernel_rfl) (by kernel_rfl) (by kernel_rfl) (fun _ _ _ h => h) rfl (hHeld) ?_; try simp only [List.setIfInBounds_toArray, List.set_cons_zero, List.set_cons_succ])
        (refine take_skip (i := 6) rfl rfl (by kernel_rfl) (by kernel_rfl) (by kernel_rfl) (fun _ _ _ h => h) rfl (hHeld) ?_; try simp only [List.setIfInBounds_toArray, List.set_cons_zero, List.set_cons_succ])
        (refine take_skip (i := 7) rfl rfl (by kernel_rfl) (by kernel_rfl) (by kernel_rfl) (fun _ _ _ h => h) rfl (hHeld) ?_; try simp only [List.setIfInBounds_toArray, List.set_cons_zero, List.set_cons_succ])
        (refine take_skip (i := 8) rfl rfl (by kernel_rfl) (by kernel_rfl) (by kernel_rfl) (fun _ _ _ h => h) rfl (hHeld) ?_; try simp only [List.setIfInBounds_toArray, List.set_cons_zero, List.set_cons_succ])
        (refine take_skip (i := 9) rfl rfl (by kernel_rfl) (by kernel_rfl) (by kernel_rfl) (fun _ _ _ h => h) rfl (hHeld) ?_; try simp only [List.setIfInBounds_toArray, List.set_cons_zero, List.set_cons_succ])
        (refine take_val (i := 10) (v := .bool false) rfl rfl (by kernel_rfl) (by kernel_rfl) (by kernel_rfl) (fun _ _ _ h => h) rfl (by intro wq hq; (try go_split_ands); go_simp; try with_reducible rfl) (hHeld) ?_; try simp only [List.setIfInBounds_toArray, List.set_cons_zero, List.set_cons_succ])
        (refine take_val (i := 11) (v := .bool false) rfl rfl (by kernel_rfl) (by kernel_rfl) (by kernel_rfl) (fun _ _ _ h => h) rfl (by intro wq hq; (try go_split_ands); go_simp; try with_reducible rfl) (hHeld) ?_; try simp only [List.setIfInBounds_toArray, List.set_cons_zero, List.set_cons_succ])
        (refine take_skip (i := 12) rfl rfl (by kernel_rfl) (by kernel_rfl) (by kernel_rfl) (fun _ _ _ h => h) rfl (hHeld) ?_; try simp only [List.setIfInBounds_toArray, List.set_cons_zero, List.set_cons_succ])
        (refine take_skip (i := 13) rfl rfl (by kernel_rfl) (by kernel_rfl) (by kernel_rfl) (fun _ _ _ h => h) rfl (hHeld) ?_; try simp only [List.setIfInBounds_toArray, List.set_cons_zero, List.set_cons_succ])
        (refine take_skip (i := 14) rfl rfl (by kernel_rfl) (by kernel_rfl) (by kernel_rfl) (fun _ _ _ h => h) rfl (hHeld) ?_; try simp only [List.setIfInBounds_toArray, List.set_cons_zero, List.set_cons_succ])
        (refine take_skip (i := 15) rfl rfl (by kernel_rfl) (by kernel_rfl) (by kernel_rfl) (fun _ _ _ h => h) rfl (hHeld) ?_; try simp only [List.setIfInBounds_toArray, List.set_cons_zero, List.set_cons_succ])
        (refine take_skip (i := 16) rfl rfl (by kernel_rfl) (by kernel_rfl) (by kernel_rfl) (fun _ _ _ h => h) rfl (hHeld) ?_; try simp only [List.setIfInBounds_toArray, List.set_cons_zero, List.set_cons_succ])
        (refine take_skip (i := 17) rfl rfl (by kernel_rfl) (by kernel_rfl) (by kernel_rfl) (fun _ _ _ h => h) rfl (hHeld) ?_; try simp only [List.setIfInBounds_toArray, List.set_cons_zero, List.set_cons_succ])
        (refine take_skip (i := 18) rfl rfl (by kernel_rfl) (by kernel_rfl) (by kernel_rfl) (fun _ _ _ h => h) rfl (hHeld) ?_; try simp only [List.setIfInBounds_toArray, List.set_cons_zero, List.set_cons_succ])
        (refine take_skip (i := 19) rfl rfl (by kernel_rfl) (by kernel_rfl) (by kernel_rfl) (fun _ _ _ h => h) rfl (hHeld) ?_; try simp only [List.setIfInBounds_toArray, List.set_cons_zero, List.set_cons_succ])
        (refine take_val (i := 20) (v := .bool false) rfl rfl (by kernel_rfl) (by kernel_rfl) (by kernel_rfl) (fun _ _ _ h => h) rfl (by intro wq hq; (try go_split_ands); go_simp; try with_reducible rfl) (hHeld) ?_; try simp only [List.setIfInBounds_toArray, List.set_cons_zero, List.set_cons_succ])
        refine wpAnyH_done (by kernel_rfl) ?_ _
        clear hHeld hlcd B2
        have hkn := hkp.trans hkq
        go_wp2_with fail
        exact ⟨⟨k + 1, by omega, by go_num, hkn⟩, by simp [intOf]; omega⟩
    · obtain rfl : k = m := by omega
      have hLk := hL.keep hkp
      go_wp2_with fail
      refine (c_lascend _ _ _ _ _ hLk HAsc.out).mono ?_; rintro e w7 ⟨rfl, hk7⟩
      go_wp2_with fail
      refine (c_alive _).mono ?_; rintro e w8 ⟨rfl, hk8⟩
      go_wp2_with fail
      go_ret
      exact ⟨rfl, ((hk0.trans hkp).trans hk7).trans hk8⟩

end Go.Proofs.Ytphdojebdclonaa
