/- Walks: the reference's Needed. No condition. -/
import Derived.Test.YtphdojebdclonaaG45
import Derived.Test.YtphdojebdclonaaD4
import Derived.Test.YtphdojebdclonaaG40
import Derived.Deep.CutRange
import Derived.Deep.RegionHeld3
import Derived.Test.YtphdojebdclonaaTake
namespace Go.Proofs.Ytphdojebdclonaa
open Go.RowKit

/-- a task's deeds have room -/
def CapOk (v : Value) : Prop := ∀ a b A n c, v = .agg #[a, b, .slice A n c] → n ≤ c

/-- the cells of a row, read out -/
def cellAt (w : World) (b i : Nat) : Value := (w.cell? ⟨b, i, none⟩).getD (.int .i64 0)
def deedVals (w : World) (b o m : Nat) : List Value := (List.range (m * 4)).map fun p => cellAt w b (o + p)
theorem deedVals_len (w : World) (b o m : Nat) : (deedVals w b o m).length = m * 4 := by unfold deedVals; simp
theorem deedVals_at (w : World) (b o m p : Nat) (h : p < m * 4) : (deedVals w b o m)[p]? = some (cellAt w b (o + p)) := by unfold deedVals; simp [h]
theorem deed_cell {w : World} {b o : Nat} {d : Sp.Deed} (h : DeedCells w b o d) {i : Nat} (hi : i < 4) : w.cell? ⟨b, o + i, none⟩ = some (cellAt w b (o + i)) ∧ (cellAt w b (o + i)).oneCell' = true := by
  obtain ⟨A, n, c, h0, _, h1, h2, h3, _⟩ := h
  have : ∃ u, w.cell? ⟨b, o + i, none⟩ = some u ∧ u.oneCell' = true := by
    match i, hi with
    | 0, _ => exact ⟨_, h0, rfl⟩
    | 1, _ => exact ⟨_, h1, rfl⟩
    | 2, _ => exact ⟨_, h2, rfl⟩
    | 3, _ => exact ⟨_, h3, rfl⟩
  obtain ⟨u, h4, h5⟩ := this
  unfold cellAt
  rw [h4]
  exact ⟨rfl, h5⟩
theorem deedVals_cell {w wr : World} {b off n a m o : Nat} {l : List Sp.Deed} (h : ∀ k, k < n → DeedCells w b (off + k * 4) (l.getD k default)) (hk : Kept w wr) (hb : b < w.heap.size) (ha : a + m ≤ n) (ho : 0 < m → o = off + a * 4) :
    (∀ j u, (deedVals w b (off + a * 4) m)[j]? = some u → wr.cell? ((⟨b, o, none⟩ : Addr).add j) = some u) ∧ ∀ u ∈ deedVals w b (off + a * 4) m, u.oneCell' = true := by
  have hc : ∀ p, p < m * 4 → w.cell? ⟨b, off + a * 4 + p, none⟩ = some (cellAt w b (off + a * 4 + p)) ∧ (cellAt w b (off + a * 4 + p)).oneCell' = true := by
    intro p hp
    have := deed_cell (h (a + p / 4) (by omega)) (i := p % 4) (by omega)
    rw [show off + (a + p / 4) * 4 + p % 4 = off + a * 4 + p by omega] at this
    exact this
  constructor
  · intro j u hj
    have hl : j < m * 4 := by have := (List.getElem?_eq_some_iff.1 hj).1; rw [deedVals_len] at this; exact this
    rw [deedVals_at _ _ _ _ _ hl] at hj
    injection hj with hj
    subst hj
    rw [ho (by omega)]
    rw [addr_add]
    rw [hk.cell hb]
    exact (hc j hl).1
  · intro u hu
    unfold deedVals at hu
    rw [List.mem_map] at hu
    obtain ⟨p, hp, rfl⟩ := hu
    exact (hc p (List.mem_range.1 hp)).2
/-- the deeds that were left -/
theorem drop_deeds {w w2 : World} {X b off n k r : Nat} {A : Option Addr} {c : Nat} {l : List Sp.Deed} (hl : l.length = n) (hn : n = k + r + 1) (hm : n ≤ maxLen) (h : ∀ k, k < n → DeedCells w b (off + k * 4) (l.getD k default)) (hk : Kept w w2)
    (hown : w2.ownsRow X 43 4 (.slice A (k + r) c) (k + r) (deedVals w b (off + 0 * 4) k ++ deedVals w b (off + (k + 1) * 4) r)) : Deeds w2 A (k + r) (l.take k ++ l.drop (k + 1)) := by
  refine ⟨by rw [List.length_append, List.length_take, List.length_drop]; omega, by omega, fun h0 => ?_⟩
  obtain ⟨_, g, rfl, _, hgl, _⟩ := own_some hown h0
  have hc := hown.cells (g := g) rfl
  refine ⟨g, 0, rfl, hgl, fun q hq => ?_⟩
  rw [Nat.zero_add]
  obtain ⟨q', hq', hv, hd⟩ : ∃ q', q' < n ∧ (∀ i, i < 4 → (deedVals w b (off + 0 * 4) k ++ deedVals w b (off + (k + 1) * 4) r)[q * 4 + i]? = some (cellAt w b (off + q' * 4 + i))) ∧ (l.take k ++ l.drop (k + 1)).getD q default = l.getD q' default := by
    by_cases hqk : q < k
    · refine ⟨q, by omega, fun i hi => ?_, ?_⟩
      · rw [List.getElem?_append_left (by rw [deedVals_len]; omega), deedVals_at _ _ _ _ _ (by omega)]
        congr 2; omega
      · rw [List.getD_eq_getElem?_getD, List.getD_eq_getElem?_getD, List.getElem?_append_left (by rw [List.length_take]; omega), List.getElem?_take, if_pos hqk]
    · refine ⟨q + 1, by omega, fun i hi => ?_, ?_⟩
      · rw [List.getElem?_append_right (by rw [deedVals_len]; omega), deedVals_len, deedVals_at _ _ _ _ _ (by omega)]
        congr 2; omega
      · rw [List.getD_eq_getElem?_getD, List.getD_eq_getElem?_getD, List.getElem?_append_right (by rw [List.length_take]; omega), List.getElem?_drop, List.length_take, Nat.min_eq_left (by omega)]
        congr 2; omega
  rw [hd]
  have hD := h q' hq'
  have hcell : ∀ i, i < 4 → w2.cell? ⟨g, q * 4 + i, none⟩ = w.cell? ⟨b, off + q' * 4 + i, none⟩ := by
    intro i hi
    have h1 := hc (q * 4 + i) _ (hv i hi)
    rw [(deed_cell hD hi).1]
    rw [addr_add, Nat.zero_add] at h1
    exact h1
  obtain ⟨A5, n5, c5, h0, h1, h2, h3, h4, h5⟩ := hD
  exact ⟨A5, n5, c5, by have := hcell 0 (by omega); simp only [Nat.add_zero] at this; rw [this]; exact h0, h1.keep hk, by rw [hcell 1 (by omega)]; exact h2, by rw [hcell 2 (by omega)]; exact h3, by rw [hcell 3 (by omega)]; exact h4, h5⟩

theorem capOk_same (a b : Value) (A : Option Addr) (n : Nat) : CapOk (.agg #[a, b, .slice A n n]) := by
  intro a' b' A' n' c' e
  injection e with e
  simp only [Array.mk.injEq, List.cons.injEq, Value.slice.injEq, and_true] at e
  omega
theorem needed_len (t : Sp.Task) : (Sp.needed t).length ≤ 1073741824 := by
  unfold Sp.needed Sp.planThere
  cases h : Sp.taskOk t
  · simp
  · have h1 := neededUp_len t t.deeds.length
    have h2 := Sp.taskOk_len h
    split
    · omega
    · simp
theorem Blk.cell3 {w : World} {E : Nat} {T : TypeId} {x y z : Value} (h : Blk w E T #[x, y, z]) : w.cell? ⟨E, 0, none⟩ = some x ∧ w.cell? ⟨E, 1, none⟩ = some y ∧ w.cell? ⟨E, 2, none⟩ = some z := ⟨h.cell 0, h.cell 1, h.cell 2⟩
theorem less_kept {wo W : World} {D E X n : Nat} {T3 : TypeId} {v : Value} {xs : List Value} {y0 y1 y2 z0 z1 z2 : Value} (hk : Kept wo W) (hD : wo.heap.size ≤ D) (BD : Blk W D 30 #[y0, y1, y2]) (ho : W.ownsRow X 43 4 v n xs) (B : Blk W E T3 #[z0, z1, z2]) (hE : E < wo.heap.size) (x0 x1 x2 : Value) :
    Kept wo (((W.setCell ⟨D, 0, none⟩ x0).setCell ⟨D, 1, none⟩ x1).setCell ⟨D, 2, none⟩ x2) ∧ Blk (((W.setCell ⟨D, 0, none⟩ x0).setCell ⟨D, 1, none⟩ x1).setCell ⟨D, 2, none⟩ x2) D 30 #[x0, x1, x2] ∧
      (((W.setCell ⟨D, 0, none⟩ x0).setCell ⟨D, 1, none⟩ x1).setCell ⟨D, 2, none⟩ x2).ownsRow X 43 4 v n xs ∧ Blk (((W.setCell ⟨D, 0, none⟩ x0).setCell ⟨D, 1, none⟩ x1).setCell ⟨D, 2, none⟩ x2) E T3 #[z0, z1, z2] := by
  have hne : E ≠ D := by omega
  have B0 := BD.set_ 0 x0
  have B1 := B0.set_ 1 x1
  have B2 := B1.set_ 2 x2
  have o0 := own_farT (by decide) BD ho 0 x0
  have o1 := own_farT (by decide) B0 o0 1 x1
  have o2 := own_farT (by decide) B1 o1 2 x2
  exact ⟨((hk.setCell (p := ⟨D, 0, none⟩) hD x0).setCell (p := ⟨D, 1, none⟩) hD x1).setCell (p := ⟨D, 2, none⟩) hD x2, B2, o2, ((B.far (p := ⟨D, 0, none⟩) hne x0).far (p := ⟨D, 1, none⟩) hne x1).far (p := ⟨D, 2, none⟩) hne x2⟩
/-- the task without one of its deeds, in memory of its own -/
def LessQ (wo : World) (t : Sp.Task) (k : Nat) (v1 : Value) (v : Value) (wx : World) : Prop :=
  ∃ (D : Nat) (A : Option Addr) (c n6 : Nat), v = .pointer (some ⟨D, 0, none⟩) ∧ Blk wx D 30 #[.int .i64 t.start, v1, .slice A n6 c] ∧ Deeds wx A n6 (t.deeds.take k ++ t.deeds.drop (k + 1)) ∧ Kept wo wx

theorem less_task {w : World} {t : Sp.Task} {k n n' n6 : Nat} {c c' c6 : Nat} {A A' A6 : Option Addr} (h : TaskV w (.agg #[.int .i64 t.start, .slice A n c, .slice A' n' c']) t) (hd : Deeds w A6 n6 (t.deeds.take k ++ t.deeds.drop (k + 1))) :
    TaskV w (.agg #[.int .i64 t.start, .slice A n c, .slice A6 n6 c6]) (Sp.drop t k) := by
  obtain ⟨A1, n1, c1, A2, n2, c2, e, h1, h2, h3⟩ := h
  injection e with e
  simp only [Array.mk.injEq, List.cons.injEq, Value.slice.injEq, and_true] at e
  obtain ⟨_, ⟨rfl, rfl, rfl⟩, _⟩ := e
  exact ⟨A, n, c, A6, n6, c6, rfl, h1, hd, h3⟩

set_option maxHeartbeats 4000000 in
set_option maxRecDepth 100000 in
theorem c_sNeeded (v : Value) (t : Sp.Task) (w : World) (h : TaskV w v t) (hcap : CapOk v) : Calls Try.prog 10 #[v] w (RetS (OutInts w (Sp.needed t)) w) := by
  obtain ⟨i0, hi0, hz0, hz1, hz2⟩ := info_parts info_int
  have HI := Lib.hid (And.intro hi0 (And.intro hz0 (And.intro hz1 hz2)))
  obtain ⟨i1, hi1, hy0, hy1, hy2⟩ := info_parts info_deed
  have HID := Lib.hid (And.intro hi1 (And.intro hy0 (And.intro hy1 hy2)))
  clear hi0 hz0 hz1 hz2 hi1 hy0 hy1 hy2
  obtain ⟨A, n, c, A', n', c', rfl⟩ := h.form
  have hnc : n' ≤ c' := hcap _ _ _ _ _ rfl
  have hk0 := (Kept.refl w).alloc (.cells #[.int .i64 t.start, .slice A n c, .slice A' n' c'] 30)
  have B0 := Blk.new w 30 #[.int .i64 t.start, .slice A n c, .slice A' n' c']
  have hT := h.keep hk0
  clear hcap
  go_enter Try.func10, Try.ntmps10
  go_upto_region 1 with fail
  obtain ⟨w0, HW0⟩ : ∃ w0, Hid (w.alloc (.cells #[.int .i64 t.start, .slice A n c, .slice A' n' c'] 30) = w0) := ⟨_, rfl⟩
  rw [HW0.out] at hk0 B0 hT ⊢
  have hO0 := World.ownsRow_made (base := w.heap.size) (e := 3) (size := 1) w0 #[] 0 hk0.size (by unfold maxLen; omega) rfl
  have hkM := (Kept.refl w0).alloc (.cells #[] 3)
  have B1 := B0.kept hkM
  have hT1 := hT.keep hkM
  have hkA := hk0.trans hkM
  obtain ⟨gq0, HG0⟩ : ∃ x, Hid (w0.heap.size = x) := ⟨_, rfl⟩
  obtain ⟨w1, HW1⟩ : ∃ x, Hid (w0.alloc (.cells #[] 3) = x) := ⟨_, rfl⟩
  rw [HG0.out, HW1.out] at hO0
  rw [HW1.out] at B1 hT1 hkA
  go_upto_region 2 with fail
  rw [HG0.out, HW1.out]
  clear hkM hT B0 hk0
  have c0 := B1.cell
  go_wp2_with fail
  clear c0
  refine (c_sPlanForO _ t _ hT1).mono ?_; rintro e w2 ⟨v, rfl, ⟨A2, c2, rfl, _⟩, hk2⟩
  have hO2 := own_keep hO0 hk2
  have B2 := B1.kept hk2
  have hkB := hkA.trans hk2
  clear hO0 B1 hT1 hkA hk2
  cases hp : Sp.planThere t
  · have HN : Hid (Sp.needed t = []) := by show _ = _; unfold Sp.needed; rw [hp]; rfl
    clear hp
    go_wp2_with fail
    go_loopw [6, 3] (fun i o wr => i = .int .i64 0 ∧ o = .slice (some ⟨gq0, 0, none⟩) 0 0 ∧ Kept w wr ∧ Blk wr w.heap.size 30 #[.int .i64 t.start, .slice A n c, .slice A' n' c']) (fun _ _ _ => 0)
    case atStart => exact ⟨rfl, rfl, hkB, B2⟩
    case round =>
      clear hkB hO2 B2
      obtain ⟨rfl, rfl, hkB, B2⟩ := hrel
      have c0 := B2.cell
      by_cases hn0 : n' = 0
      · subst hn0
        go_wp2_with fail
        go_ret
        exact ⟨_, rfl, by rw [HN.out]; exact OutInts.none _ _ _ _, hkB⟩
      · have hn1 : (0 : Int) < (n' : Int) := by omega
        go_wp2_with fail
        go_ret
        exact ⟨_, rfl, by rw [HN.out]; exact OutInts.none _ _ _ _, hkB⟩
  have HY := Lib.hid hp
  have HOk : Hid (Sp.taskOk t = true) := by show _ = _; unfold Sp.planThere at hp; rw [Bool.and_eq_true] at hp; exact hp.1
  have HND : Hid (Sp.needed t = Sp.neededUp t t.deeds.length) := by show _ = _; unfold Sp.needed; rw [hp]; rfl
  have hn6 : n' ≤ 6 := by have := Sp.taskOk_len HOk.out; rw [h.deeds.len] at this; exact this
  have HLd := Lib.hid h.deeds.len
  have HT := Lib.hid h
  clear hp
  go_wp2_with fail
  go_loopw [6, 3] (fun i o wr => ∃ (k m : Nat) (A5 : Option Addr) (c5 : Nat), k ≤ n' ∧ i = .int .i64 (k : Int) ∧ o = .slice A5 m c5 ∧ Hid (m = (Sp.neededUp t k).length) ∧ wr.ownsRow w.heap.size 3 1 (.slice A5 m c5) m ((Sp.neededUp t k).map (Value.int .i64)) ∧ Kept w wr ∧ Blk wr w.heap.size 30 #[.int .i64 t.start, .slice A n c, .slice A' n' c']) (fun i _ _ => n' - (intOf i).toNat)
  case atStart => exact ⟨0, 0, _, _, Nat.zero_le _, rfl, rfl, rfl, hO2, hkB, B2⟩
  case round =>
    clear hkB hO2 B2
    obtain ⟨k, m, A5, c5, hk, rfl, rfl, HM, hown, hkw, B1⟩ := hrel
    have c0 := B1.cell
    by_cases hlt : k < n'
    · have hkn : (k : Int) < (n' : Int) := by omega
      obtain ⟨r, hr⟩ : ∃ r, n' = k + r + 1 := ⟨n' - k - 1, by omega⟩
      have HNk := Lib.hid hr
      have HRn : Hid (t.deeds.length = k + r + 1) := by show _ = _; rw [HLd.out, hr]
      have HLen := Lib.hid (neededUp_len t k)
      have HYes := Lib.hid (@neededUp_yes t k)
      have HNo := Lib.hid (@neededUp_no t k)
      have HMx : Hid (n' ≤ maxLen) := by show _ ≤ _; unfold maxLen; omega
      have hkr : k + r + 1 ≤ 6 := by omega
      have hmk : m ≤ k := by rw [HM.out]; exact HLen.out
      obtain ⟨b, off, rfl, hb0, hDC⟩ : ∃ b off, A' = some ⟨b, off, none⟩ ∧ b < w.heap.size ∧ ∀ q, q < n' → DeedCells w b (off + q * 4) (t.deeds.getD q default) := by
        have := HT.out.deeds.2.2 (by omega)
        obtain ⟨b, off, h1, h2, h3⟩ := this
        exact ⟨b, off, h1, h2, h3⟩
      have HDC := Lib.hid hDC
      clear hr hDC hlt
      go_upto_region 6 with fail
      clear c0
      generalize wr = wo at *
      go_cut [7] from 16 to 53 (fun v wx => LessQ wo t k (.slice A n c) v wx)
      case first =>
        have hkw1 := hkw.size
        have HEl : Hid (w.heap.size < wo.heap.size) := B1.lt
        have hk0w := (Kept.refl wo).drew
        have B0w := B1.kept hk0w
        obtain ⟨W0, HW0'⟩ : ∃ x, Hid (wo.drew = x) := ⟨_, rfl⟩
        have q1 : ¬ c' < k := by omega
        have q2 : (0 : Int) ≤ (k : Int) + 1 := by omega
        have q3 : (k : Int) + 1 ≤ (n' : Int) := by omega
        have q4 : n' - (k + 1) = r := by have := HNk.out; omega
        have hw1 : IntKind.i64.wrap ((k : Int) + 1) = (k : Int) + 1 := by rw [IntKind.wrap_i64]; omega
        obtain ⟨c2, q6⟩ : ∃ c2, c' - (k + 1) = c2 := ⟨_, rfl⟩
        obtain ⟨off2, hoff, q5⟩ : ∃ off2 : Nat, (0 < r → off2 = off + (k + 1) * 4) ∧ (if c' = k + 1 then (some ⟨b, off, none⟩ : Option Addr) else some ⟨b, off + (k + 1) * 4, none⟩) = some ⟨b, off2, none⟩ := by
          by_cases e : c' = k + 1
          · exact ⟨off, fun h => by have := HNk.out; omega, by rw [if_pos e]⟩
          · exact ⟨off + (k + 1) * 4, fun _ => rfl, by rw [if_neg e]⟩
        have HOff := Lib.hid hoff
        clear hoff
        refine wp_region_held_drew (S := fun w' => w'.cell? ⟨w.heap.size, 0, none⟩ = some (.int .i64 t.start) ∧ w'.cell? ⟨w.heap.size, 1, none⟩ = some (.slice A n c) ∧ w'.cell? ⟨w.heap.size, 2, none⟩ = some (.slice (some ⟨b, off, none⟩) n' c')) (by kernel_rfl) B0w.cell3 (fun hHeld => ?_)
        (refine take_val (i := 0) (v := .pointer (some ⟨w.heap.size, 0, none⟩)) rfl rfl (by kernel_rfl) (by kernel_rfl) (by kernel_rfl) (fun _ _ _ h => h) rfl (by intro wq hq; (try go_split_ands); go_simp; try with_reducible rfl) (hHeld) ?_; try simp only [List.setIfInBounds_toArray, List.set_cons_zero, List.set_cons_succ])
        (refine take_val (i := 1) (v := .int .i64 t.start) rfl rfl (by kernel_rfl) (by kernel_rfl) (by kernel_rfl) (fun _ _ _ h => h) rfl (by intro wq hq; (try go_split_ands); go_simp; try with_reducible rfl) (hHeld) ?_; try simp only [List.setIfInBounds_toArray, List.set_cons_zero, List.set_cons_succ])
        (refine take_val (i := 2) (v := .pointer (some ⟨w.heap.size, 1, none⟩)) rfl rfl (by kernel_rfl) (by kernel_rfl) (by kernel_rfl) (fun _ _ _ h => h) rfl (by intro wq hq; (try go_split_ands); go_simp; try with_reducible rfl) (hHeld) ?_; try simp only [List.setIfInBounds_toArray, List.set_cons_zero, List.set_cons_succ])
        (refine take_val (i := 3) (v := .slice A n c) rfl rfl (by kernel_rfl) (by kernel_rfl) (by kernel_rfl) (fun _ _ _ h => h) rfl (by intro wq hq; (try go_split_ands); go_simp; try with_reducible rfl) (hHeld) ?_; try simp only [List.setIfInBounds_toArray, List.set_cons_zero, List.set_cons_succ])
        (refine take_val (i := 5) (v := .pointer (some ⟨w.heap.size, 2, none⟩)) rfl rfl (by kernel_rfl) (by kernel_rfl) (by kernel_rfl) (fun _ _ _ h => h) rfl (by intro wq hq; (try go_split_ands); go_simp; try with_reducible rfl) (hHeld) ?_; try simp only [List.setIfInBounds_toArray, List.set_cons_zero, List.set_cons_succ])
        (refine take_val (i := 6) (v := .slice (some ⟨b, off, none⟩) n' c') rfl rfl (by kernel_rfl) (by kernel_rfl) (by kernel_rfl) (fun _ _ _ h => h) rfl (by intro wq hq; (try go_split_ands); go_simp; try with_reducible rfl) (hHeld) ?_; try simp only [List.setIfInBounds_toArray, List.set_cons_zero, List.set_cons_succ])
        (refine take_val (i := 7) (v := .int .i64 (k : Int)) rfl rfl (by kernel_rfl) (by kernel_rfl) (by kernel_rfl) (fun _ _ _ h => h) rfl (by intro wq hq; (try go_split_ands); go_simp; try with_reducible rfl) (hHeld) ?_; try simp only [List.setIfInBounds_toArray, List.set_cons_zero, List.set_cons_succ])
        (refine take_val (i := 8) (v := .slice (some ⟨b, off, none⟩) k c') rfl rfl (by kernel_rfl) (by kernel_rfl) (by kernel_rfl) (fun _ _ _ h => h) rfl (by intro wq hq; (try go_split_ands); go_simp; try with_reducible rfl) (hHeld) ?_; try simp only [List.setIfInBounds_toArray, List.set_cons_zero, List.set_cons_succ])
        (refine take_val (i := 10) (v := .pointer (some ⟨w.heap.size, 2, none⟩)) rfl rfl (by kernel_rfl) (by kernel_rfl) (by kernel_rfl) (fun _ _ _ h => h) rfl (by intro wq hq; (try go_split_ands); go_simp; try with_reducible rfl) (hHeld) ?_; try simp only [List.setIfInBounds_toArray, List.set_cons_zero, List.set_cons_succ])
        (refine take_val (i := 11) (v := .slice (some ⟨b, off, none⟩) n' c') rfl rfl (by kernel_rfl) (by kernel_rfl) (by kernel_rfl) (fun _ _ _ h => h) rfl (by intro wq hq; (try go_split_ands); go_simp; try with_reducible rfl) (hHeld) ?_; try simp only [List.setIfInBounds_toArray, List.set_cons_zero, List.set_cons_succ])
        (refine take_val (i := 12) (v := .int .i64 (k : Int)) rfl rfl (by kernel_rfl) (by kernel_rfl) (by kernel_rfl) (fun _ _ _ h => h) rfl (by intro wq hq; (try go_split_ands); go_simp; try with_reducible rfl) (hHeld) ?_; try simp only [List.setIfInBounds_toArray, List.set_cons_zero, List.set_cons_succ])
        (refine take_val (i := 13) (v := .int .i64 ((k : Int) + 1)) rfl rfl (by kernel_rfl) (by kernel_rfl) (by kernel_rfl) (fun _ _ _ h => h) rfl (by intro wq hq; (try go_split_ands); go_simp; try with_reducible rfl) (hHeld) ?_; try simp only [List.setIfInBounds_toArray, List.set_cons_zero, List.set_cons_succ])
        (refine take_val (i := 14) (v := .slice (some ⟨b, off2, none⟩) r c2) rfl rfl (by kernel_rfl) (by kernel_rfl) (by kernel_rfl) (fun _ _ _ h => h) rfl (by intro wq hq; (try go_split_ands); go_simp; try with_reducible rfl) (hHeld) ?_; try simp only [List.setIfInBounds_toArray, List.set_cons_zero, List.set_cons_succ])
        rw [HW0'.out] at hk0w B0w hHeld ⊢
        clear q1 q2 q3 q4 q5 q6 hw1 hHeld
        refine wpAnyH_ready (rs := [4, 17]) (by kernel_rfl) (by simp) ?_
        refine AllReadyH.cons rfl (fun K hK => ?_) (AllReadyH.cons rfl (fun K hK => ?_) AllReadyH.nil)
        · skip
          go_simp
          have hl1 := (Kept.refl W0).alloc (.cells #[] 43)
          have ho1 := World.ownsRow_made (base := wo.heap.size) (e := 43) (size := 4) W0 #[] 0 hk0w.size (by unfold maxLen; omega) rfl
          have hk1 := hk0w.trans hl1
          have B1 := B0w.kept hl1
          (refine hK.out _ _ (B1.cell3) (fun _ => ?_); clear hK K; try simp only [Act.put, List.setIfInBounds_toArray, List.set_cons_zero, List.set_cons_succ])
          obtain ⟨gq, HG1⟩ : ∃ x, Hid (W0.heap.size = x) := ⟨_, rfl⟩
          obtain ⟨W1, HW1⟩ : ∃ x, Hid (W0.alloc (.cells #[] 43) = x) := ⟨_, rfl⟩
          rw [HG1.out, HW1.out] at ho1
          rw [HW1.out] at hk1 B1 
          rw [HG1.out, HW1.out]
          refine wpAnyH_ready (rs := [9, 17]) (by kernel_rfl) (by simp) ?_
          refine AllReadyH.cons rfl (fun K hK => ?_) (AllReadyH.cons rfl (fun K hK => ?_) AllReadyH.nil)
          · skip
            have hs2 := deedVals_cell (a := 0) (m := k) (o := off) HDC.out (hkw.trans hk1) hb0 (by have := HNk.out; omega) (fun _ => by omega)
            have hz2 := hk1.size
            refine wp_append_own _ (.tmp 30) (.tmp 34) 28 rfl wo.heap.size 43 i1 (.agg #[.slice none 0 0, .int .i64 0, .int .i64 0, .int .i64 0]) 4 48 Try.underlying28 HID.out.1 HID.out.2.1 HID.out.2.2.1 HID.out.2.2.2 rfl (by decide) (.slice (some ⟨gq, 0, none⟩) 0 0) 0 _ rfl ho1 ⟨b, off, none⟩ k c' (deedVals w b (off + 0 * 4) k) rfl (deedVals_len _ _ _ _) hs2.1 hs2.2 (by unfold maxLen; omega) (by omega) hz2 (fun v2 W2 ho2 hg2 _ => ?_)
            obtain ⟨Az2, cz2, rfl⟩ := own_form ho2
            have hk2 := hk1.grown hg2 (fun k e => (ho1.lt k e).1)
            have B2 := B1.grown hg2 (fun e => by have h1 := (ho1.lt _ e.symm).1; have h2 := HEl.out; omega)
            refine hK.out _ _ (B2.cell3) (fun _ => ?_); clear hK K; try simp only [Act.put, List.setIfInBounds_toArray, List.set_cons_zero, List.set_cons_succ]
            rw [Nat.zero_add, List.nil_append] at ho2
            try rw [Nat.zero_add]
            refine wpAnyH_ready (rs := [15, 17]) (by kernel_rfl) (by simp) ?_
            refine AllReadyH.cons rfl (fun K hK => ?_) (AllReadyH.cons rfl (fun K hK => ?_) AllReadyH.nil)
            · skip
              have hs3 := deedVals_cell (a := k + 1) (m := r) (o := off2) HDC.out (hkw.trans hk2) hb0 (by have := HNk.out; omega) HOff.out
              have hz3 := hk2.size
              refine wp_append_own _ (.tmp 35) (.tmp 40) 28 rfl wo.heap.size 43 i1 (.agg #[.slice none 0 0, .int .i64 0, .int .i64 0, .int .i64 0]) 4 48 Try.underlying28 HID.out.1 HID.out.2.1 HID.out.2.2.1 HID.out.2.2.2 rfl (by decide) (.slice Az2 k cz2) k _ rfl ho2 ⟨b, off2, none⟩ r c2 (deedVals w b (off + (k + 1) * 4) r) rfl (deedVals_len _ _ _ _) hs3.1 hs3.2 (by unfold maxLen; omega) (by omega) hz3 (fun v3 W3 ho3 hg3 _ => ?_)
              obtain ⟨Az3, cz3, rfl⟩ := own_form ho3
              have hk3 := hk2.grown hg3 (fun k e => (ho2.lt k e).1)
              have B3 := B2.grown hg3 (fun e => by have h1 := (ho2.lt _ e.symm).1; have h2 := HEl.out; omega)
              refine hK.out _ _ (B3.cell3) (fun _ => ?_); clear hK K; try simp only [Act.put, List.setIfInBounds_toArray, List.set_cons_zero, List.set_cons_succ]
              (refine take_val (i := 16) (v := .agg #[.int .i64 t.start, .slice A n c, .slice Az3 (k + r) cz3]) rfl rfl (by kernel_rfl) (by kernel_rfl) (by kernel_rfl) (fun _ _ _ h => h) rfl (by intro wq hq; (try go_split_ands); go_simp; try with_reducible rfl) (B3.cell3) ?_; try simp only [List.setIfInBounds_toArray, List.set_cons_zero, List.set_cons_succ])
              refine wpAnyH_ready (rs := [17]) (by kernel_rfl) (by simp) ?_
              refine AllReadyH.cons rfl (fun K hK => ?_) AllReadyH.nil
              go_simp
              have hl4 := (Kept.refl W3).alloc (.cells #[.int .i64 0, .slice none 0 0, .slice none 0 0] 30)
              have BD4 := Blk.new W3 30 #[.int .i64 0, .slice none 0 0, .slice none 0 0]
              have hk4 := hk3.trans hl4
              have B4 := B3.kept hl4
              have ho4 := own_keep ho3 hl4
              (refine hK.out _ _ (B4.cell3) (fun _ => ?_); clear hK K; try simp only [Act.put, List.setIfInBounds_toArray, List.set_cons_zero, List.set_cons_succ])
              obtain ⟨D, HD4⟩ : ∃ D, Hid (W3.heap.size = D) := ⟨_, rfl⟩
              obtain ⟨W4, HW4⟩ : ∃ x, Hid (W3.alloc (.cells #[.int .i64 0, .slice none 0 0, .slice none 0 0] 30) = x) := ⟨_, rfl⟩
              have hdk4 : wo.heap.size ≤ D := by rw [← HD4.out]; exact hk3.size
              rw [HD4.out, HW4.out] at BD4
              rw [HW4.out] at hk4 B4 ho4
              rw [HD4.out, HW4.out]
              have d0 := BD4.cell 0
              have d1 := BD4.cell 1
              have d2 := BD4.cell 2
              have f0 := BD4.frozen 0
              have f1 := BD4.frozen 1
              have f2 := BD4.frozen 2
              (refine wpAnyH_ready (rs := [18]) (by kernel_rfl) (by simp) ?_; refine AllReadyH.cons rfl (fun K hK => ?_) AllReadyH.nil; go_simp)
              obtain ⟨lk, lB, lo, lE⟩ := less_kept hk4 hdk4 BD4 ho4 B4 HEl.out (.int .i64 t.start) (.slice A n c) (.slice Az3 (k + r) cz3)
              have hdd := drop_deeds HLd.out HNk.out HMx.out HDC.out (hkw.trans lk) lo
              refine hK.out _ _ lE.cell3 (fun _ => ?_); clear hK K; try simp only [Act.put, List.setIfInBounds_toArray, List.set_cons_zero, List.set_cons_succ]
              refine wpAnyH_done (by kernel_rfl) ?_ _
              clear d0 d1 d2 f0 f1 f2
              go_wp2_with fail
              go_meet
              case rel => exact ⟨D, Az3, cz3, _, rfl, lB, hdd, lk⟩
            · skip
              go_simp
              have hl5 := (Kept.refl W2).alloc (.cells #[.int .i64 0, .slice none 0 0, .slice none 0 0] 30)
              have BD5 := Blk.new W2 30 #[.int .i64 0, .slice none 0 0, .slice none 0 0]
              have hk5 := hk2.trans hl5
              have B5 := B2.kept hl5
              have ho5 := own_keep ho2 hl5
              (refine hK.out _ _ (B5.cell3) (fun _ => ?_); clear hK K; try simp only [Act.put, List.setIfInBounds_toArray, List.set_cons_zero, List.set_cons_succ])
              obtain ⟨D, HD5⟩ : ∃ D, Hid (W2.heap.size = D) := ⟨_, rfl⟩
              obtain ⟨W5, HW5⟩ : ∃ x, Hid (W2.alloc (.cells #[.int .i64 0, .slice none 0 0, .slice none 0 0] 30) = x) := ⟨_, rfl⟩
              have hdk5 : wo.heap.size ≤ D := by rw [← HD5.out]; exact hk2.size
              rw [HD5.out, HW5.out] at BD5
              rw [HW5.out] at hk5 B5 ho5
              rw [HD5.out, HW5.out]
              refine wpAnyH_ready (rs := [15]) (by kernel_rfl) (by simp) ?_
              refine AllReadyH.cons rfl (fun K hK => ?_) AllReadyH.nil
              have hs6 := deedVals_cell (a := k + 1) (m := r) (o := off2) HDC.out (hkw.trans hk5) hb0 (by have := HNk.out; omega) HOff.out
              have hz6 := hk5.size
              refine wp_append_own _ (.tmp 35) (.tmp 40) 28 rfl wo.heap.size 43 i1 (.agg #[.slice none 0 0, .int .i64 0, .int .i64 0, .int .i64 0]) 4 48 Try.underlying28 HID.out.1 HID.out.2.1 HID.out.2.2.1 HID.out.2.2.2 rfl (by decide) (.slice Az2 k cz2) k _ rfl ho5 ⟨b, off2, none⟩ r c2 (deedVals w b (off + (k + 1) * 4) r) rfl (deedVals_len _ _ _ _) hs6.1 hs6.2 (by unfold maxLen; omega) (by omega) hz6 (fun v6 W6 ho6 hg6 _ => ?_)
              obtain ⟨Az6, cz6, rfl⟩ := own_form ho6
              have hk6 := hk5.grown hg6 (fun k e => (ho5.lt k e).1)
              have B6 := B5.grown hg6 (fun e => by have h1 := (ho5.lt _ e.symm).1; have h2 := HEl.out; omega)
              have BD6 := BD5.grown hg6 (own_ne_blk ho5 BD5 (by decide))
              refine hK.out _ _ (B6.cell3) (fun _ => ?_); clear hK K; try simp only [Act.put, List.setIfInBounds_toArray, List.set_cons_zero, List.set_cons_succ]
              (refine take_val (i := 16) (v := .agg #[.int .i64 t.start, .slice A n c, .slice Az6 (k + r) cz6]) rfl rfl (by kernel_rfl) (by kernel_rfl) (by kernel_rfl) (fun _ _ _ h => h) rfl (by intro wq hq; (try go_split_ands); go_simp; try with_reducible rfl) (B6.cell3) ?_; try simp only [List.setIfInBounds_toArray, List.set_cons_zero, List.set_cons_succ])
              have d0 := BD6.cell 0
              have d1 := BD6.cell 1
              have d2 := BD6.cell 2
              have f0 := BD6.frozen 0
              have f1 := BD6.frozen 1
              have f2 := BD6.frozen 2
              (refine wpAnyH_ready (rs := [18]) (by kernel_rfl) (by simp) ?_; refine AllReadyH.cons rfl (fun K hK => ?_) AllReadyH.nil; go_simp)
              obtain ⟨lk, lB, lo, lE⟩ := less_kept hk6 hdk5 BD6 ho6 B6 HEl.out (.int .i64 t.start) (.slice A n c) (.slice Az6 (k + r) cz6)
              have hdd := drop_deeds HLd.out HNk.out HMx.out HDC.out (hkw.trans lk) lo
              refine hK.out _ _ lE.cell3 (fun _ => ?_); clear hK K; try simp only [Act.put, List.setIfInBounds_toArray, List.set_cons_zero, List.set_cons_succ]
              refine wpAnyH_done (by kernel_rfl) ?_ _
              clear d0 d1 d2 f0 f1 f2
              go_wp2_with fail
              go_meet
              case rel => exact ⟨D, Az6, cz6, _, rfl, lB, hdd, lk⟩
          · skip
            go_simp
            have hl7 := (Kept.refl W1).alloc (.cells #[.int .i64 0, .slice none 0 0, .slice none 0 0] 30)
            have BD7 := Blk.new W1 30 #[.int .i64 0, .slice none 0 0, .slice none 0 0]
            have hk7 := hk1.trans hl7
            have B7 := B1.kept hl7
            have ho7 := own_keep ho1 hl7
            (refine hK.out _ _ (B7.cell3) (fun _ => ?_); clear hK K; try simp only [Act.put, List.setIfInBounds_toArray, List.set_cons_zero, List.set_cons_succ])
            obtain ⟨D, HD7⟩ : ∃ D, Hid (W1.heap.size = D) := ⟨_, rfl⟩
            obtain ⟨W7, HW7⟩ : ∃ x, Hid (W1.alloc (.cells #[.int .i64 0, .slice none 0 0, .slice none 0 0] 30) = x) := ⟨_, rfl⟩
            have hdk7 : wo.heap.size ≤ D := by rw [← HD7.out]; exact hk1.size
            rw [HD7.out, HW7.out] at BD7
            rw [HW7.out] at hk7 B7 ho7
            rw [HD7.out, HW7.out]
            refine wpAnyH_ready (rs := [9]) (by kernel_rfl) (by simp) ?_
            refine AllReadyH.cons rfl (fun K hK => ?_) AllReadyH.nil
            have hs8 := deedVals_cell (a := 0) (m := k) (o := off) HDC.out (hkw.trans hk7) hb0 (by have := HNk.out; omega) (fun _ => by omega)
            have hz8 := hk7.size
            refine wp_append_own _ (.tmp 30) (.tmp 34) 28 rfl wo.heap.size 43 i1 (.agg #[.slice none 0 0, .int .i64 0, .int .i64 0, .int .i64 0]) 4 48 Try.underlying28 HID.out.1 HID.out.2.1 HID.out.2.2.1 HID.out.2.2.2 rfl (by decide) (.slice (some ⟨gq, 0, none⟩) 0 0) 0 _ rfl ho7 ⟨b, off, none⟩ k c' (deedVals w b (off + 0 * 4) k) rfl (deedVals_len _ _ _ _) hs8.1 hs8.2 (by unfold maxLen; omega) (by omega) hz8 (fun v8 W8 ho8 hg8 _ => ?_)
            obtain ⟨Az8, cz8, rfl⟩ := own_form ho8
            have hk8 := hk7.grown hg8 (fun k e => (ho7.lt k e).1)
            have B8 := B7.grown hg8 (fun e => by have h1 := (ho7.lt _ e.symm).1; have h2 := HEl.out; omega)
            have BD8 := BD7.grown hg8 (own_ne_blk ho7 BD7 (by decide))
            refine hK.out _ _ (B8.cell3) (fun _ => ?_); clear hK K; try simp only [Act.put, List.setIfInBounds_toArray, List.set_cons_zero, List.set_cons_succ]
            rw [Nat.zero_add, List.nil_append] at ho8
            try rw [Nat.zero_add]
            refine wpAnyH_ready (rs := [15]) (by kernel_rfl) (by simp) ?_
            refine AllReadyH.cons rfl (fun K hK => ?_) AllReadyH.nil
            have hs9 := deedVals_cell (a := k + 1) (m := r) (o := off2) HDC.out (hkw.trans hk8) hb0 (by have := HNk.out; omega) HOff.out
            have hz9 := hk8.size
            refine wp_append_own _ (.tmp 35) (.tmp 40) 28 rfl wo.heap.size 43 i1 (.agg #[.slice none 0 0, .int .i64 0, .int .i64 0, .int .i64 0]) 4 48 Try.underlying28 HID.out.1 HID.out.2.1 HID.out.2.2.1 HID.out.2.2.2 rfl (by decide) (.slice Az8 k cz8) k _ rfl ho8 ⟨b, off2, none⟩ r c2 (deedVals w b (off + (k + 1) * 4) r) rfl (deedVals_len _ _ _ _) hs9.1 hs9.2 (by unfold maxLen; omega) (by omega) hz9 (fun v9 W9 ho9 hg9 _ => ?_)
            obtain ⟨Az9, cz9, rfl⟩ := own_form ho9
            have hk9 := hk8.grown hg9 (fun k e => (ho8.lt k e).1)
            have B9 := B8.grown hg9 (fun e => by have h1 := (ho8.lt _ e.symm).1; have h2 := HEl.out; omega)
            have BD9 := BD8.grown hg9 (own_ne_blk ho8 BD8 (by decide))
            refine hK.out _ _ (B9.cell3) (fun _ => ?_); clear hK K; try simp only [Act.put, List.setIfInBounds_toArray, List.set_cons_zero, List.set_cons_succ]
            (refine take_val (i := 16) (v := .agg #[.int .i64 t.start, .slice A n c, .slice Az9 (k + r) cz9]) rfl rfl (by kernel_rfl) (by kernel_rfl) (by kernel_rfl) (fun _ _ _ h => h) rfl (by intro wq hq; (try go_split_ands); go_simp; try with_reducible rfl) (B9.cell3) ?_; try simp only [List.setIfInBounds_toArray, List.set_cons_zero, List.set_cons_succ])
            have d0 := BD9.cell 0
            have d1 := BD9.cell 1
            have d2 := BD9.cell 2
            have f0 := BD9.frozen 0
            have f1 := BD9.frozen 1
            have f2 := BD9.frozen 2
            (refine wpAnyH_ready (rs := [18]) (by kernel_rfl) (by simp) ?_; refine AllReadyH.cons rfl (fun K hK => ?_) AllReadyH.nil; go_simp)
            obtain ⟨lk, lB, lo, lE⟩ := less_kept hk9 hdk7 BD9 ho9 B9 HEl.out (.int .i64 t.start) (.slice A n c) (.slice Az9 (k + r) cz9)
            have hdd := drop_deeds HLd.out HNk.out HMx.out HDC.out (hkw.trans lk) lo
            refine hK.out _ _ lE.cell3 (fun _ => ?_); clear hK K; try simp only [Act.put, List.setIfInBounds_toArray, List.set_cons_zero, List.set_cons_succ]
            refine wpAnyH_done (by kernel_rfl) ?_ _
            clear d0 d1 d2 f0 f1 f2
            go_wp2_with fail
            go_meet
            case rel => exact ⟨D, Az9, cz9, _, rfl, lB, hdd, lk⟩
        · skip
          go_simp
          have hl10 := (Kept.refl W0).alloc (.cells #[.int .i64 0, .slice none 0 0, .slice none 0 0] 30)
          have BD10 := Blk.new W0 30 #[.int .i64 0, .slice none 0 0, .slice none 0 0]
          have hk10 := hk0w.trans hl10
          have B10 := B0w.kept hl10
          (refine hK.out _ _ (B10.cell3) (fun _ => ?_); clear hK K; try simp only [Act.put, List.setIfInBounds_toArray, List.set_cons_zero, List.set_cons_succ])
          obtain ⟨D, HD10⟩ : ∃ D, Hid (W0.heap.size = D) := ⟨_, rfl⟩
          obtain ⟨W10, HW10⟩ : ∃ x, Hid (W0.alloc (.cells #[.int .i64 0, .slice none 0 0, .slice none 0 0] 30) = x) := ⟨_, rfl⟩
          have hdk10 : wo.heap.size ≤ D := by rw [← HD10.out]; exact hk0w.size
          rw [HD10.out, HW10.out] at BD10
          rw [HW10.out] at hk10 B10 
          rw [HD10.out, HW10.out]
          refine wpAnyH_ready (rs := [4]) (by kernel_rfl) (by simp) ?_
          refine AllReadyH.cons rfl (fun K hK => ?_) AllReadyH.nil
          go_simp
          have hl11 := (Kept.refl W10).alloc (.cells #[] 43)
          have ho11 := World.ownsRow_made (base := wo.heap.size) (e := 43) (size := 4) W10 #[] 0 hk10.size (by unfold maxLen; omega) rfl
          have hk11 := hk10.trans hl11
          have B11 := B10.kept hl11
          have BD11 := BD10.kept hl11
          (refine hK.out _ _ (B11.cell3) (fun _ => ?_); clear hK K; try simp only [Act.put, List.setIfInBounds_toArray, List.set_cons_zero, List.set_cons_succ])
          obtain ⟨gq, HG11⟩ : ∃ x, Hid (W10.heap.size = x) := ⟨_, rfl⟩
          obtain ⟨W11, HW11⟩ : ∃ x, Hid (W10.alloc (.cells #[] 43) = x) := ⟨_, rfl⟩
          rw [HG11.out, HW11.out] at ho11
          rw [HW11.out] at hk11 B11 BD11
          rw [HG11.out, HW11.out]
          refine wpAnyH_ready (rs := [9]) (by kernel_rfl) (by simp) ?_
          refine AllReadyH.cons rfl (fun K hK => ?_) AllReadyH.nil
          have hs12 := deedVals_cell (a := 0) (m := k) (o := off) HDC.out (hkw.trans hk11) hb0 (by have := HNk.out; omega) (fun _ => by omega)
          have hz12 := hk11.size
          refine wp_append_own _ (.tmp 30) (.tmp 34) 28 rfl wo.heap.size 43 i1 (.agg #[.slice none 0 0, .int .i64 0, .int .i64 0, .int .i64 0]) 4 48 Try.underlying28 HID.out.1 HID.out.2.1 HID.out.2.2.1 HID.out.2.2.2 rfl (by decide) (.slice (some ⟨gq, 0, none⟩) 0 0) 0 _ rfl ho11 ⟨b, off, none⟩ k c' (deedVals w b (off + 0 * 4) k) rfl (deedVals_len _ _ _ _) hs12.1 hs12.2 (by unfold maxLen; omega) (by omega) hz12 (fun v12 W12 ho12 hg12 _ => ?_)
          obtain ⟨Az12, cz12, rfl⟩ := own_form ho12
          have hk12 := hk11.grown hg12 (fun k e => (ho11.lt k e).1)
          have B12 := B11.grown hg12 (fun e => by have h1 := (ho11.lt _ e.symm).1; have h2 := HEl.out; omega)
          have BD12 := BD11.grown hg12 (own_ne_blk ho11 BD11 (by decide))
          refine hK.out _ _ (B12.cell3) (fun _ => ?_); clear hK K; try simp only [Act.put, List.setIfInBounds_toArray, List.set_cons_zero, List.set_cons_succ]
          rw [Nat.zero_add, List.nil_append] at ho12
          try rw [Nat.zero_add]
          refine wpAnyH_ready (rs := [15]) (by kernel_rfl) (by simp) ?_
          refine AllReadyH.cons rfl (fun K hK => ?_) AllReadyH.nil
          have hs13 := deedVals_cell (a := k + 1) (m := r) (o := off2) HDC.out (hkw.trans hk12) hb0 (by have := HNk.out; omega) HOff.out
          have hz13 := hk12.size
          refine wp_append_own _ (.tmp 35) (.tmp 40) 28 rfl wo.heap.size 43 i1 (.agg #[.slice none 0 0, .int .i64 0, .int .i64 0, .int .i64 0]) 4 48 Try.underlying28 HID.out.1 HID.out.2.1 HID.out.2.2.1 HID.out.2.2.2 rfl (by decide) (.slice Az12 k cz12) k _ rfl ho12 ⟨b, off2, none⟩ r c2 (deedVals w b (off + (k + 1) * 4) r) rfl (deedVals_len _ _ _ _) hs13.1 hs13.2 (by unfold maxLen; omega) (by omega) hz13 (fun v13 W13 ho13 hg13 _ => ?_)
          obtain ⟨Az13, cz13, rfl⟩ := own_form ho13
          have hk13 := hk12.grown hg13 (fun k e => (ho12.lt k e).1)
          have B13 := B12.grown hg13 (fun e => by have h1 := (ho12.lt _ e.symm).1; have h2 := HEl.out; omega)
          have BD13 := BD12.grown hg13 (own_ne_blk ho12 BD12 (by decide))
          refine hK.out _ _ (B13.cell3) (fun _ => ?_); clear hK K; try simp only [Act.put, List.setIfInBounds_toArray, List.set_cons_zero, List.set_cons_succ]
          (refine take_val (i := 16) (v := .agg #[.int .i64 t.start, .slice A n c, .slice Az13 (k + r) cz13]) rfl rfl (by kernel_rfl) (by kernel_rfl) (by kernel_rfl) (fun _ _ _ h => h) rfl (by intro wq hq; (try go_split_ands); go_simp; try with_reducible rfl) (B13.cell3) ?_; try simp only [List.setIfInBounds_toArray, List.set_cons_zero, List.set_cons_succ])
          have d0 := BD13.cell 0
          have d1 := BD13.cell 1
          have d2 := BD13.cell 2
          have f0 := BD13.frozen 0
          have f1 := BD13.frozen 1
          have f2 := BD13.frozen 2
          (refine wpAnyH_ready (rs := [18]) (by kernel_rfl) (by simp) ?_; refine AllReadyH.cons rfl (fun K hK => ?_) AllReadyH.nil; go_simp)
          obtain ⟨lk, lB, lo, lE⟩ := less_kept hk13 hdk10 BD13 ho13 B13 HEl.out (.int .i64 t.start) (.slice A n c) (.slice Az13 (k + r) cz13)
          have hdd := drop_deeds HLd.out HNk.out HMx.out HDC.out (hkw.trans lk) lo
          refine hK.out _ _ lE.cell3 (fun _ => ?_); clear hK K; try simp only [Act.put, List.setIfInBounds_toArray, List.set_cons_zero, List.set_cons_succ]
          refine wpAnyH_done (by kernel_rfl) ?_ _
          clear d0 d1 d2 f0 f1 f2
          go_wp2_with fail
          go_meet
          case rel => exact ⟨D, Az13, cz13, _, rfl, lB, hdd, lk⟩
      case rest =>
        obtain ⟨D, A6, c6, n6, rfl, BD, hDd, hkx⟩ := hcut
        have hk2 := hkw.trans hkx
        have hown2 := own_keep hown hkx
        have B2 := B1.kept hkx
        have hTL : TaskV wc (.agg #[.int .i64 t.start, .slice A n c, .slice A6 n6 c6]) (Sp.drop t k) := less_task (HT.out.keep hk2) hDd
        have d0 := BD.cell
        clear hkw hkx hown B1 hDd
        go_wp2_with fail
        refine (c_sPlanForO _ _ _ hTL).mono ?_; rintro e w3 ⟨v, rfl, ⟨A7, c7, rfl, _⟩, hk3⟩
        replace hk2 := hk2.trans hk3
        replace hown2 := own_keep hown2 hk3
        replace B2 := B2.kept hk3
        have hsz := hk2.size
        clear d0 BD hTL hk3
        cases hp : Sp.planThere (Sp.drop t k)
        · have HE2 := Lib.hid (HNo.out hp)
          have HM2 : Hid (m + 1 = (Sp.neededUp t (k + 1)).length) := by show _ = _; rw [HE2.out, HM.out, List.length_append]; rfl
          have HMap : Hid ((Sp.neededUp t (k + 1)).map (Value.int .i64) = (Sp.neededUp t k).map (Value.int .i64) ++ [.int .i64 (k : Int)]) := by show _ = _; rw [HE2.out, List.map_append]; rfl
          generalize (Sp.neededUp t k).map (Value.int .i64) = ks at *
          clear hp
          have hown2' := hown2
          go_wp2_with (first | (at_builtin; refine wpList_append_own _ rfl (.tmp 50) (.tmp 52) 22 rfl (w.heap.size) 3 i0 (.int .i64 0) 1 8 Try.underlying22 HI.out.1 HI.out.2.1 HI.out.2.2.1 HI.out.2.2.2 rfl (by decide) (.slice A5 m c5) m _ rfl (hown2.alloc _) ⟨w3.heap.size, 0, none⟩ 1 1 [.int .i64 ((k : Int))] rfl rfl (one_new _ _ _) (by simp [Value.oneCell']) (by unfold maxLen; omega) (by omega) (by simp; omega) ?_; intro v' wapp hown2 hg2 _))
          obtain ⟨A8, c8, rfl⟩ := own_form hown2
          rw [← HMap.out] at hown2
          have hkp8 : Kept w wapp := (hk2.alloc _).grown hg2 (fun k e => (hown2'.lt k e).1)
          have B8 : Blk wapp w.heap.size 30 #[.int .i64 t.start, .slice A n c, .slice (some ⟨b, off, none⟩) n' c'] := (B2.kept ((Kept.refl _).alloc _)).grown hg2 (own_ne_blk hown2' B2 (by decide))
          exact ⟨⟨k + 1, m + 1, A8, c8, by omega, by go_num, rfl, HM2, hown2, hkp8, B8⟩, by simp [intOf]; omega⟩
        · have HE2 := Lib.hid (HYes.out hp)
          rw [← HE2.out] at hown2 HM
          clear hp
          go_wp2_with fail
          exact ⟨⟨k + 1, m, A5, c5, by omega, by go_num, rfl, HM, hown2, hk2, B2⟩, by simp [intOf]; omega⟩
    · obtain rfl : k = n' := by omega
      have HSZ := Lib.hid hkw.size
      have HO : Hid (OutInts w (Sp.needed t) (.slice A5 m c5) wr) := by
        show OutInts _ _ _ _
        have := outInts_own (w := w) (w1 := w) (l := Sp.neededUp t t.deeds.length) (n := m) (c := c5) (A := A5) (wr := wr) (by rw [HM.out, HLd.out]) (by rw [HM.out, HLd.out, List.take_length, ← HM.out]; exact hown) (by have := neededUp_len t k; rw [HM.out]; unfold maxLen; omega) (Nat.le_refl _) (fun x hx => by
          obtain ⟨j, rfl, hj, _⟩ := neededUp_mem t _ x (List.mem_of_mem_take hx)
          have := HLd.out
          unfold Sp.inI; omega)
        rw [HND.out]
        have e : (Sp.neededUp t t.deeds.length).take m = Sp.neededUp t t.deeds.length := by rw [HM.out, HLd.out, List.take_length]
        rw [e] at this
        exact this
      go_wp2_with fail
      go_ret
      exact ⟨_, rfl, HO.out, hkw⟩

end Go.Proofs.Ytphdojebdclonaa
