/- Joined texts. No condition. -/
import Derived.Test.YtphdojebdclonaaDoorQ41
/- Walks: NumbersOk of both. Walks: the reference's NumbersOk. No condition. -/
namespace Go.Proofs.YtphdojebdclonaaDoor
set_option linter.unusedSimpArgs false
set_option linter.unusedVariables false
open Go.RowKit

def Sp.numAt (l : List Int) (s : Nat) : Int := l.getD s default
/-- the number of a state fits -/
def Sp.numOk (t : Sp.Task) (l : List Int) (s : Nat) : Bool := decide (0 ≤ Sp.numAt l s ∧ Sp.numAt l s ≤ 40) && (!Sp.run t.goal s || decide (Sp.numAt l s = 0))
/-- behind a deed the number is less by more than 1 -/
def Sp.stepBrk (F : Nat → Int) (l : List Int) (p : Nat) : Bool := decide (0 ≤ F p) && decide (Sp.numAt l (F p).toNat < Sp.numAt l (p % 32) - 1)
/-- whether numbers prove how many deeds are needed -/
def Sp.numbersOk (t : Sp.Task) (l : List Int) : Bool := Sp.taskOk t && decide (l.length = 32) && Sp.upTo 32 (Sp.numOk t l) && Sp.upTo (t.deeds.length * 32) (fun p => !Sp.stepBrk (Sp.flat t.deeds) l p)
theorem numbersOk_no1 {t : Sp.Task} {l : List Int} (h : Sp.taskOk t = false) : Sp.numbersOk t l = false := by unfold Sp.numbersOk; rw [h]; rfl
theorem numbersOk_no2 {t : Sp.Task} {l : List Int} (h : l.length ≠ 32) : Sp.numbersOk t l = false := by unfold Sp.numbersOk; rw [decide_eq_false h, Bool.and_false]; rfl
theorem numbersOk_no3 {t : Sp.Task} {l : List Int} {s : Nat} (hs : s < 32) (h : Sp.numOk t l s = false) : Sp.numbersOk t l = false := by
  have : Sp.upTo 32 (Sp.numOk t l) = false := by
    cases hu : Sp.upTo 32 (Sp.numOk t l)
    · rfl
    · rw [(upTo_iff _ _).1 hu s hs] at h; cases h
  unfold Sp.numbersOk
  rw [this, Bool.and_false]; rfl
theorem numbersOk_no4 {t : Sp.Task} {l : List Int} {p : Nat} (hp : p < t.deeds.length * 32) (h : Sp.stepBrk (Sp.flat t.deeds) l p = true) : Sp.numbersOk t l = false := by
  have : Sp.upTo (t.deeds.length * 32) (fun p => !Sp.stepBrk (Sp.flat t.deeds) l p) = false := by
    cases hu : Sp.upTo (t.deeds.length * 32) (fun p => !Sp.stepBrk (Sp.flat t.deeds) l p)
    · rfl
    · have := (upTo_iff _ _).1 hu p hp; rw [h] at this; cases this
  unfold Sp.numbersOk
  rw [this, Bool.and_false]
theorem numbersOk_yes {t : Sp.Task} {l : List Int} (h0 : Sp.taskOk t = true) (h1 : l.length = 32) (h2 : ∀ s, s < 32 → Sp.numOk t l s = true) (h3 : ∀ p, p < t.deeds.length * 32 → Sp.stepBrk (Sp.flat t.deeds) l p = false) : Sp.numbersOk t l = true := by
  unfold Sp.numbersOk
  rw [h0, decide_eq_true h1, (upTo_iff _ _).2 h2, (upTo_iff _ _).2 fun p hp => by rw [h3 p hp]; rfl]; rfl
theorem numbersOk_parts {t : Sp.Task} {l : List Int} (h : Sp.numbersOk t l = true) : Sp.taskOk t = true ∧ l.length = 32 ∧ (∀ s, s < 32 → Sp.numOk t l s = true) ∧ ∀ p, p < t.deeds.length * 32 → Sp.stepBrk (Sp.flat t.deeds) l p = false := by
  unfold Sp.numbersOk at h
  simp only [Bool.and_eq_true, decide_eq_true_eq] at h
  refine ⟨h.1.1.1, h.1.1.2, (upTo_iff _ _).1 h.1.2, fun p hp => ?_⟩
  have := (upTo_iff _ _).1 h.2 p hp
  simpa using this
theorem numOk_range {t : Sp.Task} {l : List Int} {s : Nat} (h : Sp.numOk t l s = true) : 0 ≤ Sp.numAt l s ∧ Sp.numAt l s ≤ 40 := by
  unfold Sp.numOk at h
  rw [Bool.and_eq_true, decide_eq_true_eq] at h
  exact h.1
theorem brk_at {F : Nat → Int} {l : List Int} {k s : Nat} (hs : s < 32) : Sp.stepBrk F l (k * 32 + s) = (decide (0 ≤ F (k * 32 + s)) && decide (Sp.numAt l (F (k * 32 + s)).toNat < Sp.numAt l s - 1)) := by
  unfold Sp.stepBrk
  rw [show (k * 32 + s) % 32 = s by omega]
/-- the cells of 32 numbers -/
def NumRow (w : World) (b off : Nat) (l : List Int) : Prop := b < w.heap.size ∧ ∀ s, s < 32 → w.cell? ⟨b, off + s, none⟩ = some (.int .i64 (Sp.numAt l s))
theorem NumRow.keep {w w' : World} {b off : Nat} {l : List Int} (h : NumRow w b off l) (hk : Kept w w') : NumRow w' b off l :=
  ⟨Nat.lt_of_lt_of_le h.1 hk.size, fun s hs => by rw [hk.cell h.1]; exact h.2 s hs⟩
theorem numRow_of {w : World} {A : Option Addr} {l : List Int} (h : Ints w A 32 l) : ∃ b off, A = some ⟨b, off, none⟩ ∧ NumRow w b off l := by
  obtain ⟨b, off, e, hb, hc⟩ := h.2.2.2 (by omega)
  exact ⟨b, off, e, hb, hc⟩

set_option maxHeartbeats 1000000 in
set_option maxRecDepth 100000 in
theorem c_stepsUnder (v : Value) (t : Sp.Task) (b off c2 : Nat) (l : List Int) (w : World) (h : TaskV w v t) (hok : Sp.taskOk t = true) (hN : NumRow w b off l) (hin : ∀ s, s < 32 → 0 ≤ Sp.numAt l s ∧ Sp.numAt l s ≤ 40) :
    Calls Tryd.prog 46 #[v, .slice (some ⟨b, off, none⟩) 32 c2] w (RetS (ErrQ (fun p => Sp.stepBrk (Sp.flat t.deeds) l p = true) (t.deeds.length * 32)) w) := by
  obtain ⟨A, n, c, A', n', c', rfl⟩ := h.form
  have hk0 := (Kept.refl w).alloc (.cells #[.int .i64 t.start, .slice A n c, .slice A' n' c'] 26)
  have B0 := Blk.new w 26 #[.int .i64 t.start, .slice A n c, .slice A' n' c']
  have hT := h.keep hk0
  have c0 := B0.cell
  have hn6 := Sp.taskOk_len hok
  have HK := Lib.hid hok
  have HIn := Lib.hid hin
  clear hok hin
  go_enter Tryd.func46, Tryd.ntmps46
  go_wp2_with fail
  refine (c_behindAll _ t _ hT HK.out).mono ?_; rintro e w3 ⟨v, rfl, ⟨g, rfl, hg, hR⟩, hk3⟩
  have h := RowsF.of hR (fun k hk => Sp.taskOk_deed HK.out hk)
  replace hk0 := hk0.trans hk3
  have hL := hN.keep hk0
  clear hk3 hR c0 hT B0 HK hN
  obtain ⟨N, HN⟩ : ∃ N, Hid (t.deeds.length = N) := ⟨_, rfl⟩
  obtain ⟨F, HF⟩ : ∃ F, Hid (Sp.flat t.deeds = F) := ⟨_, rfl⟩
  rw [HN.out] at hn6 h ⊢
  rw [HF.out] at h
  go_wp2_with fail
  go_loopw [12] (fun i wr => ∃ k : Nat, k ≤ N ∧ i = .int .i64 k ∧ Kept w3 wr ∧ ∀ p, p < k * 32 → Sp.stepBrk F l p = false) (fun i _ => N - (intOf i).toNat)
  case atStart => exact ⟨0, Nat.zero_le _, rfl, Kept.refl _, fun p hp => by omega⟩
  case round =>
    obtain ⟨k, hk, rfl, hkp, hno⟩ := hrel
    by_cases hlt : k < N
    · have HR := h.keep hkp
      have hl4 := row_zero
      have hl5 := zeros_cells
      go_wp2_with (first | (refine row_load_at HR hlt rfl rfl rfl ?_) | (refine row_store_new rfl rfl rfl rfl ?_) | (refine row_load_new rfl rfl rfl ?_))
      obtain ⟨C, HC⟩ : ∃ C, Hid (C = (rowOf F k).toArray) := ⟨_, rfl⟩
      rw [← HC.out]
      have HCa : Hid (∀ s, s < 32 → C[s]? = some (.int .i64 (F (k * 32 + s)))) := fun s hs => by rw [HC.out, List.getElem?_toArray]; exact rowOf_at F k s hs
      have hkD := hkp.alloc (.cells C 81)
      have HNo := Lib.hid hno
      clear hl4 hl5 hno
      go_loopw [18] (fun i wi => ∃ s : Nat, s ≤ 32 ∧ i = .int .i64 s ∧ Kept w3 wi ∧ Hid (∀ p, p < k * 32 + s → Sp.stepBrk F l p = false)) (fun i _ => 32 - (intOf i).toNat)
      case atStart => exact ⟨0, by omega, rfl, hkD, HNo⟩
      case round =>
        obtain ⟨s, hs, rfl, hkp, HNo⟩ := hrel
        by_cases hlt2 : s < 32
        · have hix := run_index_row C s _ hlt2 (HCa.out s hlt2)
          obtain ⟨hF0, hF1⟩ := h.2.2 (k * 32 + s) (by omega)
          have HB := Lib.hid (brk_at (F := F) (l := l) (k := k) hlt2)
          have HNx : Hid (Sp.stepBrk F l (k * 32 + s) = false → ∀ p, p < k * 32 + (s + 1) → Sp.stepBrk F l p = false) := fun hb p hp => by
            by_cases e : p = k * 32 + s
            · subst e; exact hb
            · exact HNo.out p (by omega)
          obtain ⟨f, Hf⟩ : ∃ f, Hid (F (k * 32 + s) = f) := ⟨_, rfl⟩
          rw [Hf.out] at hix hF0 hF1 HB
          go_wp2_with fail
          by_cases hf : 0 ≤ f
          · obtain ⟨f, rfl⟩ := Int.eq_ofNat_of_zero_le hf
            have hf3 : f < 32 := by omega
            have hf4 : ¬ (32 : Int) ≤ (f : Int) := by omega
            have cx := (hL.keep hkp.drew).2 f hf3
            have cy := (hL.keep hkp.drew).2 s hlt2
            have hy := HIn.out s hlt2
            rw [Int.toNat_natCast, decide_eq_true hf, Bool.true_and] at HB
            obtain ⟨x, HX⟩ : ∃ x, Hid (Sp.numAt l f = x) := ⟨_, rfl⟩
            obtain ⟨y, HY⟩ : ∃ y, Hid (Sp.numAt l s = y) := ⟨_, rfl⟩
            rw [HX.out] at cx HB
            rw [HY.out] at cy hy HB
            have hw1 : IntKind.i64.wrap (y - 1) = y - 1 := by rw [IntKind.wrap_i64]; omega
            refine wp_region_held_drew (S := fun w' => w'.cell? ⟨b, off + f, none⟩ = some (.int .i64 x) ∧ w'.cell? ⟨b, off + s, none⟩ = some (.int .i64 y)) (by kernel_rfl) ⟨cx, cy⟩ (fun hHeld => ?_)
            by_cases hxy : x < y - 1
            · rw [decide_eq_true hxy] at HB
              (refine take_val (i := 0) (v := .int .i64 f) rfl rfl (by kernel_rfl) (by kernel_rfl) (by kernel_rfl) (fun _ _ _ h => h) rfl (by intro wq hq; (try go_split_ands); go_simp; try with_reducible rfl) (hHeld) ?_; try simp only [List.setIfInBounds_toArray, List.set_cons_zero, List.set_cons_succ])
              (refine take_val (i := 1) (v := .bool true) rfl rfl (by kernel_rfl) (by kernel_rfl) (by kernel_rfl) (fun _ _ _ h => h) rfl (by intro wq hq; (try go_split_ands); go_simp; try with_reducible rfl) (hHeld) ?_; try simp only [List.setIfInBounds_toArray, List.set_cons_zero, List.set_cons_succ])
              (refine take_val (i := 2) (v := .bool true) rfl rfl (by kernel_rfl) (by kernel_rfl) (by kernel_rfl) (fun _ _ _ h => h) rfl (by intro wq hq; (try go_split_ands); go_simp; try with_reducible rfl) (hHeld) ?_; try simp only [List.setIfInBounds_toArray, List.set_cons_zero, List.set_cons_succ])
              (refine take_val (i := 3) (v := .slice (some ⟨b, off, none⟩) 32 c2) rfl rfl (by kernel_rfl) (by kernel_rfl) (by kernel_rfl) (fun _ _ _ h => h) rfl (by intro wq hq; (try go_split_ands); go_simp; try with_reducible rfl) (hHeld) ?_; try simp only [List.setIfInBounds_toArray, List.set_cons_zero, List.set_cons_succ])
              (refine take_val (i := 4) (v := .int .i64 f) rfl rfl (by kernel_rfl) (by kernel_rfl) (by kernel_rfl) (fun _ _ _ h => h) rfl (by intro wq hq; (try go_split_ands); go_simp; try with_reducible rfl) (hHeld) ?_; try simp only [List.setIfInBounds_toArray, List.set_cons_zero, List.set_cons_succ])
              (refine take_val (i := 5) (v := .pointer (some ⟨b, off + f, none⟩)) rfl rfl (by kernel_rfl) (by kernel_rfl) (by kernel_rfl) (fun _ _ _ h => h) rfl (by intro wq hq; (try go_split_ands); go_simp; try with_reducible rfl) (hHeld) ?_; try simp only [List.setIfInBounds_toArray, List.set_cons_zero, List.set_cons_succ])
              (refine take_val (i := 6) (v := .int .i64 x) rfl rfl (by kernel_rfl) (by kernel_rfl) (by kernel_rfl) (fun _ _ _ h => h) rfl (by intro wq hq; (try go_split_ands); go_simp; try with_reducible rfl) (hHeld) ?_; try simp only [List.setIfInBounds_toArray, List.set_cons_zero, List.set_cons_succ])
              (refine take_val (i := 7) (v := .slice (some ⟨b, off, none⟩) 32 c2) rfl rfl (by kernel_rfl) (by kernel_rfl) (by kernel_rfl) (fun _ _ _ h => h) rfl (by intro wq hq; (try go_split_ands); go_simp; try with_reducible rfl) (hHeld) ?_; try simp only [List.setIfInBounds_toArray, List.set_cons_zero, List.set_cons_succ])
              (refine take_val (i := 8) (v := .int .i64 s) rfl rfl (by kernel_rfl) (by kernel_rfl) (by kernel_rfl) (fun _ _ _ h => h) rfl (by intro wq hq; (try go_split_ands); go_simp; try with_reducible rfl) (hHeld) ?_; try simp only [List.setIfInBounds_toArray, List.set_cons_zero, List.set_cons_succ])
              (refine take_val (i := 9) (v := .pointer (some ⟨b, off + s, none⟩)) rfl rfl (by kernel_rfl) (by kernel_rfl) (by kernel_rfl) (fun _ _ _ h => h) rfl (by intro wq hq; (try go_split_ands); go_simp; try with_reducible rfl) (hHeld) ?_; try simp only [List.setIfInBounds_toArray, List.set_cons_zero, List.set_cons_succ])
              (refine take_val (i := 10) (v := .int .i64 y) rfl rfl (by kernel_rfl) (by kernel_rfl) (by kernel_rfl) (fun _ _ _ h => h) rfl (by intro wq hq; (try go_split_ands); go_simp; try with_reducible rfl) (hHeld) ?_; try simp only [List.setIfInBounds_toArray, List.set_cons_zero, List.set_cons_succ])
              (refine take_val (i := 11) (v := .int .i64 (y - 1)) rfl rfl (by kernel_rfl) (by kernel_rfl) (by kernel_rfl) (fun _ _ _ h => h) rfl (by intro wq hq; (try go_split_ands); go_simp; try with_reducible rfl) (hHeld) ?_; try simp only [List.setIfInBounds_toArray, List.set_cons_zero, List.set_cons_succ])
              (refine take_val (i := 12) (v := .bool true) rfl rfl (by kernel_rfl) (by kernel_rfl) (by kernel_rfl) (fun _ _ _ h => h) rfl (by intro wq hq; (try go_split_ands); go_simp; try with_reducible rfl) (hHeld) ?_; try simp only [List.setIfInBounds_toArray, List.set_cons_zero, List.set_cons_succ])
              (refine take_val (i := 13) (v := .bool true) rfl rfl (by kernel_rfl) (by kernel_rfl) (by kernel_rfl) (fun _ _ _ h => h) rfl (by intro wq hq; (try go_split_ands); go_simp; try with_reducible rfl) (hHeld) ?_; try simp only [List.setIfInBounds_toArray, List.set_cons_zero, List.set_cons_succ])
              refine wpAnyH_done (by kernel_rfl) ?_ _
              clear cx cy hHeld
              go_wp2_with fail
              go_ret
              exact ⟨_, rfl, by rw [HN.out, HF.out]; exact .inr ⟨_, _, rfl, k * 32 + s, by omega, HB.out⟩, hk0.trans hkp.drew⟩
            · rw [decide_eq_false hxy] at HB
              have HX2 := Lib.hid (HNx.out HB.out)
              (refine take_val (i := 0) (v := .int .i64 f) rfl rfl (by kernel_rfl) (by kernel_rfl) (by kernel_rfl) (fun _ _ _ h => h) rfl (by intro wq hq; (try go_split_ands); go_simp; try with_reducible rfl) (hHeld) ?_; try simp only [List.setIfInBounds_toArray, List.set_cons_zero, List.set_cons_succ])
              (refine take_val (i := 1) (v := .bool true) rfl rfl (by kernel_rfl) (by kernel_rfl) (by kernel_rfl) (fun _ _ _ h => h) rfl (by intro wq hq; (try go_split_ands); go_simp; try with_reducible rfl) (hHeld) ?_; try simp only [List.setIfInBounds_toArray, List.set_cons_zero, List.set_cons_succ])
              (refine take_val (i := 2) (v := .bool true) rfl rfl (by kernel_rfl) (by kernel_rfl) (by kernel_rfl) (fun _ _ _ h => h) rfl (by intro wq hq; (try go_split_ands); go_simp; try with_reducible rfl) (hHeld) ?_; try simp only [List.setIfInBounds_toArray, List.set_cons_zero, List.set_cons_succ])
              (refine take_val (i := 3) (v := .slice (some ⟨b, off, none⟩) 32 c2) rfl rfl (by kernel_rfl) (by kernel_rfl) (by kernel_rfl) (fun _ _ _ h => h) rfl (by intro wq hq; (try go_split_ands); go_simp; try with_reducible rfl) (hHeld) ?_; try simp only [List.setIfInBounds_toArray, List.set_cons_zero, List.set_cons_succ])
              (refine take_val (i := 4) (v := .int .i64 f) rfl rfl (by kernel_rfl) (by kernel_rfl) (by kernel_rfl) (fun _ _ _ h => h) rfl (by intro wq hq; (try go_split_ands); go_simp; try with_reducible rfl) (hHeld) ?_; try simp only [List.setIfInBounds_toArray, List.set_cons_zero, List.set_cons_succ])
              (refine take_val (i := 5) (v := .pointer (some ⟨b, off + f, none⟩)) rfl rfl (by kernel_rfl) (by kernel_rfl) (by kernel_rfl) (fun _ _ _ h => h) rfl (by intro wq hq; (try go_split_ands); go_simp; try with_reducible rfl) (hHeld) ?_; try simp only [List.setIfInBounds_toArray, List.set_cons_zero, List.set_cons_succ])
              (refine take_val (i := 6) (v := .int .i64 x) rfl rfl (by kernel_rfl) (by kernel_rfl) (by kernel_rfl) (fun _ _ _ h => h) rfl (by intro wq hq; (try go_split_ands); go_simp; try with_reducible rfl) (hHeld) ?_; try simp only [List.setIfInBounds_toArray, List.set_cons_zero, List.set_cons_succ])
              (refine take_val (i := 7) (v := .slice (some ⟨b, off, none⟩) 32 c2) rfl rfl (by kernel_rfl) (by kernel_rfl) (by kernel_rfl) (fun _ _ _ h => h) rfl (by intro wq hq; (try go_split_ands); go_simp; try with_reducible rfl) (hHeld) ?_; try simp only [List.setIfInBounds_toArray, List.set_cons_zero, List.set_cons_succ])
              (refine take_val (i := 8) (v := .int .i64 s) rfl rfl (by kernel_rfl) (by kernel_rfl) (by kernel_rfl) (fun _ _ _ h => h) rfl (by intro wq hq; (try go_split_ands); go_simp; try with_reducible rfl) (hHeld) ?_; try simp only [List.setIfInBounds_toArray, List.set_cons_zero, List.set_cons_succ])
              (refine take_val (i := 9) (v := .pointer (some ⟨b, off + s, none⟩)) rfl rfl (by kernel_rfl) (by kernel_rfl) (by kernel_rfl) (fun _ _ _ h => h) rfl (by intro wq hq; (try go_split_ands); go_simp; try with_reducible rfl) (hHeld) ?_; try simp only [List.setIfInBounds_toArray, List.set_cons_zero, List.set_cons_succ])
              (refine take_val (i := 10) (v := .int .i64 y) rfl rfl (by kernel_rfl) (by kernel_rfl) (by kernel_rfl) (fun _ _ _ h => h) rfl (by intro wq hq; (try go_split_ands); go_simp; try with_reducible rfl) (hHeld) ?_; try simp only [List.setIfInBounds_toArray, List.set_cons_zero, List.set_cons_succ])
              (refine take_val (i := 11) (v := .int .i64 (y - 1)) rfl rfl (by kernel_rfl) (by kernel_rfl) (by kernel_rfl) (fun _ _ _ h => h) rfl (by intro wq hq; (try go_split_ands); go_simp; try with_reducible rfl) (hHeld) ?_; try simp only [List.setIfInBounds_toArray, List.set_cons_zero, List.set_cons_succ])
              (refine take_val (i := 12) (v := .bool false) rfl rfl (by kernel_rfl) (by kernel_rfl) (by kernel_rfl) (fun _ _ _ h => h) rfl (by intro wq hq; (try go_split_ands); go_simp; try with_reducible rfl) (hHeld) ?_; try simp only [List.setIfInBounds_toArray, List.set_cons_zero, List.set_cons_succ])
              (refine take_val (i := 13) (v := .bool false) rfl rfl (by kernel_rfl) (by kernel_rfl) (by kernel_rfl) (fun _ _ _ h => h) rfl (by intro wq hq; (try go_split_ands); go_simp; try with_reducible rfl) (hHeld) ?_; try simp only [List.setIfInBounds_toArray, List.set_cons_zero, List.set_cons_succ])
              refine wpAnyH_done (by kernel_rfl) ?_ _
              clear cx cy hHeld
              go_wp2_with fail
              exact ⟨⟨s + 1, by omega, by go_num, hkp.drew, HX2⟩, by simp [intOf]; omega⟩
          · rw [decide_eq_false hf, Bool.false_and] at HB
            have HX2 := Lib.hid (HNx.out HB.out)
            refine wp_region_held_drew (S := fun w' => True) (by kernel_rfl) trivial (fun hHeld => ?_)
            (refine take_val (i := 0) (v := .int .i64 f) rfl rfl (by kernel_rfl) (by kernel_rfl) (by kernel_rfl) (fun _ _ _ h => h) rfl (by intro wq hq; (try go_split_ands); go_simp; try with_reducible rfl) (hHeld) ?_; try simp only [List.setIfInBounds_toArray, List.set_cons_zero, List.set_cons_succ])
            (refine take_val (i := 1) (v := .bool false) rfl rfl (by kernel_rfl) (by kernel_rfl) (by kernel_rfl) (fun _ _ _ h => h) rfl (by intro wq hq; (try go_split_ands); go_simp; try with_reducible rfl) (hHeld) ?_; try simp only [List.setIfInBounds_toArray, List.set_cons_zero, List.set_cons_succ])
            (refine take_val (i := 2) (v := .bool false) rfl rfl (by kernel_rfl) (by kernel_rfl) (by kernel_rfl) (fun _ _ _ h => h) rfl (by intro wq hq; (try go_split_ands); go_simp; try with_reducible rfl) (hHeld) ?_; try simp only [List.setIfInBounds_toArray, List.set_cons_zero, List.set_cons_succ])
            (refine take_skip (i := 3) rfl rfl (by kernel_rfl) (by kernel_rfl) (by kernel_rfl) (fun _ _ _ h => h) rfl (hHeld) ?_; try simp only [List.setIfInBounds_toArray, List.set_cons_zero, List.set_cons_succ])
            (refine take_skip (i := 4) rfl rfl (by kernel_rfl) (by kernel_rfl) (by kernel_rfl) (fun _ _ _ h => h) rfl (hHeld) ?_; try simp only [List.setIfInBounds_toArray, List.set_cons_zero, List.set_cons_succ])
            (refine take_skip (i := 5) rfl rfl (by kernel_rfl) (by kernel_rfl) (by kernel_rfl) (fun _ _ _ h => h) rfl (hHeld) ?_; try simp only [List.setIfInBounds_toArray, List.set_cons_zero, List.set_cons_succ])
            (refine take_skip (i := 6) rfl rfl (by kernel_rfl) (by kernel_rfl) (by kernel_rfl) (fun _ _ _ h => h) rfl (hHeld) ?_; try simp only [List.setIfInBounds_toArray, List.set_cons_zero, List.set_cons_succ])
            (refine take_skip (i := 7) rfl rfl (by kernel_rfl) (by kernel_rfl) (by kernel_rfl) (fun _ _ _ h => h) rfl (hHeld) ?_; try simp only [List.setIfInBounds_toArray, List.set_cons_zero, List.set_cons_succ])
            (refine take_skip (i := 8) rfl rfl (by kernel_rfl) (by kernel_rfl) (by kernel_rfl) (fun _ _ _ h => h) rfl (hHeld) ?_; try simp only [List.setIfInBounds_toArray, List.set_cons_zero, List.set_cons_succ])
            (refine take_skip (i := 9) rfl rfl (by kernel_rfl) (by kernel_rfl) (by kernel_rfl) (fun _ _ _ h => h) rfl (hHeld) ?_; try simp only [List.setIfInBounds_toArray, List.set_cons_zero, List.set_cons_succ])
            (refine take_skip (i := 10) rfl rfl (by kernel_rfl) (by kernel_rfl) (by kernel_rfl) (fun _ _ _ h => h) rfl (hHeld) ?_; try simp only [List.setIfInBounds_toArray, List.set_cons_zero, List.set_cons_succ])
            (refine take_skip (i := 11) rfl rfl (by kernel_rfl) (by kernel_rfl) (by kernel_rfl) (fun _ _ _ h => h) rfl (hHeld) ?_; try simp only [List.setIfInBounds_toArray, List.set_cons_zero, List.set_cons_succ])
            (refine take_skip (i := 12) rfl rfl (by kernel_rfl) (by kernel_rfl) (by kernel_rfl) (fun _ _ _ h => h) rfl (hHeld) ?_; try simp only [List.setIfInBounds_toArray, List.set_cons_zero, List.set_cons_succ])
            (refine take_val (i := 13) (v := .bool false) rfl rfl (by kernel_rfl) (by kernel_rfl) (by kernel_rfl) (fun _ _ _ h => h) rfl (by intro wq hq; (try go_split_ands); go_simp; try with_reducible rfl) (hHeld) ?_; try simp only [List.setIfInBounds_toArray, List.set_cons_zero, List.set_cons_succ])
            refine wpAnyH_done (by kernel_rfl) ?_ _
            clear hHeld
            go_wp2_with fail
            exact ⟨⟨s + 1, by omega, by go_num, hkp.drew, HX2⟩, by simp [intOf]; omega⟩
        · obtain rfl : s = 32 := by omega
          have HX : Hid (∀ p, p < (k + 1) * 32 → Sp.stepBrk F l p = false) := fun p hp => HNo.out p (by omega)
          go_wp2_with fail
          exact ⟨⟨k + 1, by omega, by go_num, hkp, HX⟩, by simp [intOf]; omega⟩
    · obtain rfl : k = N := by omega
      go_wp2_with fail
      go_ret
      exact ⟨_, rfl, by rw [HN.out, HF.out]; exact .inl ⟨rfl, fun p hp hb => by have hb : Sp.stepBrk F l p = true := hb; rw [hno p hp] at hb; cases hb⟩, hk0.trans hkp⟩

theorem truth_run (l : List Int) {s : Nat} (hs : s < 32) : (Sp.truth l).testBit s = Sp.run l s := by
  unfold Sp.truth
  rw [Sp.testBit_setOf]
  simp [hs]
theorem numOk_neg {t : Sp.Task} {l : List Int} {s : Nat} (h : ¬ (0 ≤ Sp.numAt l s ∧ Sp.numAt l s ≤ 40)) : Sp.numOk t l s = false := by unfold Sp.numOk; rw [decide_eq_false h]; rfl
theorem numOk_goal {t : Sp.Task} {l : List Int} {s : Nat} (h : Sp.run t.goal s = true) (h2 : Sp.numAt l s ≠ 0) : Sp.numOk t l s = false := by unfold Sp.numOk; rw [h, decide_eq_false h2, Bool.and_comm]; rfl
theorem numOk_in {t : Sp.Task} {l : List Int} {s : Nat} (h : 0 ≤ Sp.numAt l s ∧ Sp.numAt l s ≤ 40) (h2 : Sp.run t.goal s = true → Sp.numAt l s = 0) : Sp.numOk t l s = true := by
  unfold Sp.numOk
  rw [decide_eq_true h, Bool.true_and]
  cases hr : Sp.run t.goal s
  · rfl
  · rw [decide_eq_true (h2 hr)]; rfl

set_option maxHeartbeats 1000000 in
set_option maxRecDepth 100000 in
theorem c_iNumbersOk (v : Value) (t : Sp.Task) (A2 : Option Addr) (n2 c2 : Nat) (l : List Int) (w : World) (h : TaskV w v t) (hI : Ints w A2 n2 l) (hg : ErrG w) : Calls Tryd.prog 11 #[v, .slice A2 n2 c2] w (RetK (.bool (Sp.numbersOk t l)) w) := by
  obtain ⟨A, n, c, A', n', c', rfl⟩ := h.form
  have hk0 := (Kept.refl w).alloc (.cells #[.int .i64 t.start, .slice A n c, .slice A' n' c'] 26)
  have B0 := Blk.new w 26 #[.int .i64 t.start, .slice A n c, .slice A' n' c']
  have hT := h.keep hk0
  have HG := Lib.hid hg
  clear hg
  go_enter Tryd.func11, Tryd.ntmps11
  go_wp2_with fail
  refine (c_iTaskValid _ t _ hT).mono ?_; rintro e w2 ⟨rfl, hk2⟩
  replace hk0 := hk0.trans hk2
  replace B0 := B0.kept hk2
  replace hT := hT.keep hk2
  clear hk2
  cases ht : Sp.taskOk t
  · have HE := Lib.hid (numbersOk_no1 (l := l) ht)
    clear ht
    go_wp2_with fail
    go_ret
    exact ⟨ret_bool HE.out.symm, hk0⟩
  by_cases h32 : ¬ n2 = 32
  · have HE := Lib.hid (numbersOk_no2 (t := t) (l := l) (by rw [hI.len]; exact h32))
    have h33 : ((n2 : Int) == 32) = false := beq_eq_false_iff_ne.2 (by omega)
    have h34 : ¬ (n2 : Int) = 32 := by omega
    clear ht
    go_wp2_with fail
    go_ret
    exact ⟨ret_bool HE.out.symm, hk0⟩
  replace h32 := Classical.not_not.1 h32
  have HK := Lib.hid ht
  subst h32
  obtain ⟨b, off, rfl, hN0⟩ := numRow_of hI
  have HLen := Lib.hid hI.len
  have hN := hN0.keep hk0
  obtain ⟨T, HTr⟩ : ∃ T, Hid (Sp.truth t.goal = T) := ⟨_, rfl⟩
  have hTl := truth_bd t.goal
  have HCT : Hid (Sp.codeTruth t.goal = (T : Int)) := by show _ = _; unfold Sp.codeTruth; rw [if_pos (Sp.taskOk_goal ht), HTr.out]
  have HRun := Lib.hid (fun s (hs : s < 32) => truth_run t.goal hs)
  rw [HTr.out] at hTl HRun
  have hG := hT.goal
  have c0 := B0.cell
  clear ht hI hN0
  go_wp2_with fail
  refine (c_iCodeTruth _ _ _ _ _ hG).mono ?_; rintro e w5 ⟨rfl, hk5⟩
  rw [HCT.out]
  replace hk0 := hk0.trans hk5
  replace B0 := B0.kept hk5
  replace hT := hT.keep hk5
  replace hN := hN.keep hk5
  clear hk5 c0 hG
  go_wp2_with fail
  go_loopw [22] (fun i wr => ∃ s : Nat, s ≤ 32 ∧ i = .int .i64 s ∧ w5 = wr ∧ Hid (∀ x, x < s → Sp.numOk t l x = true)) (fun i _ => 32 - (intOf i).toNat)
  case atStart => exact ⟨0, by omega, rfl, rfl, fun x hx => by omega⟩
  case round =>
    obtain ⟨s, hs, rfl, rfl, HAll⟩ := hrel
    by_cases hlt : s < 32
    · have cs := hN.2 s hlt
      have hrun := HRun.out s hlt
      have HNeg := Lib.hid (@numOk_neg t l s)
      have HGoal := Lib.hid (@numOk_goal t l s)
      have HIn := Lib.hid (@numOk_in t l s)
      have HBad := Lib.hid (@numbersOk_no3 t l s hlt)
      have HNext : Hid (Sp.numOk t l s = true → ∀ x, x < s + 1 → Sp.numOk t l x = true) := fun h1 x hx => by
        by_cases e : x = s
        · subst e; exact h1
        · exact HAll.out x (by omega)
      obtain ⟨y, HY⟩ : ∃ y, Hid (Sp.numAt l s = y) := ⟨_, rfl⟩
      rw [HY.out] at cs HNeg HGoal HIn
      have hab := and_bit T s (by omega)
      have hb1 := bit_one (T.testBit s)
      by_cases hy0 : y < 0
      · have HE := Lib.hid (HBad.out (HNeg.out (by omega)))
        clear hab hb1 hrun
        go_wp2_with fail
        go_ret
        exact ⟨ret_bool HE.out.symm, hk0⟩
      by_cases hy1 : 40 < y
      · have HE := Lib.hid (HBad.out (HNeg.out (by omega)))
        clear hab hb1 hrun
        go_wp2_with fail
        go_ret
        exact ⟨ret_bool HE.out.symm, hk0⟩
      cases hev : T.testBit s
      · rw [hev] at hab hb1 hrun
        have HX := Lib.hid (HNext.out (HIn.out ⟨by omega, by omega⟩ (fun h => by rw [← hrun] at h; cases h)))
        clear hev hrun
        go_wp2_with fail
        exact ⟨⟨s + 1, by omega, by go_num, by trivial, HX⟩, by simp [intOf]; omega⟩
      · rw [hev] at hab hb1 hrun
        by_cases hy2 : y = 0
        · subst hy2
          have HX := Lib.hid (HNext.out (HIn.out ⟨by omega, by omega⟩ (fun h => rfl)))
          clear hev hrun
          go_wp2_with fail
          exact ⟨⟨s + 1, by omega, by go_num, by trivial, HX⟩, by simp [intOf]; omega⟩
        · have HE := Lib.hid (HBad.out (HGoal.out hrun.symm hy2))
          have hy3 : (y == 0) = false := beq_eq_false_iff_ne.2 hy2
          clear hev hrun
          go_wp2_with fail
          go_ret
          exact ⟨ret_bool HE.out.symm, hk0⟩
    · obtain rfl : s = 32 := by omega
      have hin : ∀ s, s < 32 → 0 ≤ Sp.numAt l s ∧ Sp.numAt l s ≤ 40 := fun s hs => numOk_range (HAll.out s hs)
      have HIn := Lib.hid hin
      have c0 := (B0.kept ((Kept.refl w5).alloc (.cells #[.int .i64 0, .int .i64 0] 62))).cell
      have hkE := hk0.alloc (.cells #[.int .i64 0, .int .i64 0] 62)
      have BE := Blk.new w5 62 #[.int .i64 0, .int .i64 0]
      have hTE := hT.keep ((Kept.refl w5).alloc (.cells #[.int .i64 0, .int .i64 0] 62))
      have hNE := hN.keep ((Kept.refl w5).alloc (.cells #[.int .i64 0, .int .i64 0] 62))
      have hsz := hk0.size
      clear hin
      go_wp2_with fail
      refine (c_stepsUnder _ t b off c2 l _ hTE HK.out hNE HIn.out).mono ?_; rintro e w6 ⟨v, rfl, hQ, hk6⟩
      replace hkE := hkE.trans hk6
      replace BE := BE.kept hk6
      clear hk6 c0 hTE hNE
      rcases hQ with ⟨rfl, hno⟩ | ⟨x, y, rfl, p, hp, hbk⟩
      · have HE : Hid (Sp.numbersOk t l = true) := numbersOk_yes HK.out HLen.out HAll.out fun p hp => by
          have := hno p hp
          cases hb : Sp.stepBrk (Sp.flat t.deeds) l p
          · rfl
          · exact absurd hb this
        clear hno
        go_wp2_with fail
        refine (as_nil _ _).mono ?_; rintro e w7 ⟨rfl, rfl⟩
        go_wp2_with fail
        go_ret
        exact ⟨ret_bool HE.out.symm, hkE⟩
      · have HE : Hid (Sp.numbersOk t l = false) := numbersOk_no4 hp hbk
        have HG6 := Lib.hid (HG.out.keep hkE)
        clear hp hbk
        go_wp2_with fail
        refine (as_hit x y _ _ _ _ HG6.out (BE.cell 0) (BE.cell 1) (BE.frozen 0) (BE.frozen 1)).mono ?_; rintro e w7 ⟨rfl, rfl⟩
        go_wp2_with fail
        go_ret
        exact ⟨ret_bool HE.out.symm, asWorld_kept hkE (by omega) x y⟩

end Go.Proofs.YtphdojebdclonaaDoor

namespace Go.Proofs.YtphdojebdclonaaDoor
set_option linter.unusedSimpArgs false
set_option linter.unusedVariables false
open Go.RowKit

set_option maxHeartbeats 2000000 in
set_option maxRecDepth 100000 in
theorem c_sNumbersOk (v : Value) (t : Sp.Task) (A2 : Option Addr) (n2 c2 : Nat) (l : List Int) (w : World) (h : TaskV w v t) (hI : Ints w A2 n2 l) : Calls Tryd.prog 12 #[v, .slice A2 n2 c2] w (RetK (.bool (Sp.numbersOk t l)) w) := by
  obtain ⟨A, n, c, A', n', c', rfl⟩ := h.form
  have hk0 := (Kept.refl w).alloc (.cells #[.int .i64 t.start, .slice A n c, .slice A' n' c'] 26)
  have B0 := Blk.new w 26 #[.int .i64 t.start, .slice A n c, .slice A' n' c']
  have hT := h.keep hk0
  go_enter Tryd.func12, Tryd.ntmps12
  go_wp2_with fail
  refine (c_sTaskValid _ t _ hT).mono ?_; rintro e w2 ⟨rfl, hk2⟩
  replace hk0 := hk0.trans hk2
  replace B0 := B0.kept hk2
  replace hT := hT.keep hk2
  clear hk2
  cases ht : Sp.taskOk t
  · have HE := Lib.hid (numbersOk_no1 (l := l) ht)
    clear ht
    go_wp2_with fail
    go_ret
    exact ⟨ret_bool HE.out.symm, hk0⟩
  by_cases h32 : ¬ n2 = 32
  · have HE := Lib.hid (numbersOk_no2 (t := t) (l := l) (by rw [hI.len]; exact h32))
    have h33 : ((n2 : Int) == 32) = false := beq_eq_false_iff_ne.2 (by omega)
    have h34 : ¬ (n2 : Int) = 32 := by omega
    clear ht
    go_wp2_with fail
    go_ret
    exact ⟨ret_bool HE.out.symm, hk0⟩
  replace h32 := Classical.not_not.1 h32
  have HK := Lib.hid ht
  subst h32
  obtain ⟨b, off, rfl, hN0⟩ := numRow_of hI
  have HLen := Lib.hid hI.len
  have hN := hN0.keep hk0
  have hnl := hT.deeds.le
  have HLn := Lib.hid hT.deeds.len
  have HGo := Lib.hid (Sp.taskOk_goal ht)
  clear ht hI hN0
  go_wp2_with fail
  go_loopw [5] (fun i wr => ∃ j : Nat, j ≤ 32 ∧ i = .int .i64 j ∧ Kept w2 wr ∧ Hid (∀ x, x < j → Sp.numOk t l x = true) ∧ Hid (∀ k, k < n' → ∀ x, x < j → Sp.stepBrk (Sp.flat t.deeds) l (k * 32 + x) = false)) (fun i _ => 32 - (intOf i).toNat)
  case atStart => exact ⟨0, by omega, rfl, Kept.refl _, fun x hx => by omega, fun k hk x hx => by omega⟩
  case round =>
    obtain ⟨j, hj, rfl, hkp, HAll, HNb⟩ := hrel
    have c0 := (B0.kept hkp).cell
    by_cases hlt : j < 32
    · have cj := (hN.keep hkp).2 j hlt
      have HNeg := Lib.hid (@numOk_neg t l j)
      have HGoal := Lib.hid (@numOk_goal t l j)
      have HIn := Lib.hid (@numOk_in t l j)
      have HBad := Lib.hid (@numbersOk_no3 t l j hlt)
      have HNext : Hid (Sp.numOk t l j = true → ∀ x, x < j + 1 → Sp.numOk t l x = true) := fun h1 x hx => by
        by_cases e : x = j
        · subst e; exact h1
        · exact HAll.out x (by omega)
      have hG := (hT.keep hkp).goal
      obtain ⟨y, HY⟩ : ∃ y, Hid (Sp.numAt l j = y) := ⟨_, rfl⟩
      rw [HY.out] at cj HNeg HGoal HIn
      by_cases hy : ¬ (0 ≤ y ∧ y ≤ 40)
      · have HE := Lib.hid (HBad.out (HNeg.out hy))
        go_wp2_with (first | (go_at_call 48; refine (c_l1In_no _ _ _ _ hy).mono ?_; rintro e w' ⟨rfl, rfl⟩))
        go_ret
        exact ⟨ret_bool HE.out.symm, hk0.trans hkp⟩
      replace hy := Classical.not_not.1 hy
      have hy' := hy
      go_wp2_with (first | (go_at_call 48; refine (c_l1In_yes _ _ _ _ hy).mono ?_; rintro e w' ⟨rfl, rfl⟩))
      refine (c_l5Run _ _ _ _ _ _ hG HGo.out (by omega) (by omega)).mono ?_; rintro e w3 ⟨rfl, hk3⟩
      rw [Int.toNat_natCast]
      replace hkp := hkp.trans hk3
      have cj3 := (hN.keep hkp).2 j hlt
      rw [HY.out] at cj3
      clear hk3 c0 cj hG
      obtain ⟨r, HRn⟩ : ∃ r, Hid (Sp.run t.goal j = r) := ⟨_, rfl⟩
      rw [HRn.out] at HGoal HIn ⊢
      have key : Hid (∀ {Q : Prop}, (r = true → y ≠ 0 → Q) → (Sp.numOk t l j = true → Q) → Q) := fun {Q} q1 q2 => by
        by_cases h : r = true ∧ y ≠ 0
        · exact q1 h.1 h.2
        · exact q2 (HIn.out hy' fun h1 => Classical.byContradiction fun h2 => h ⟨h1, h2⟩)
      by_cases hbad : r = true ∧ y ≠ 0
      · obtain ⟨rfl, hy2⟩ := hbad
        have HE := Lib.hid (HBad.out (HGoal.out rfl hy2))
        have hy3 : (y == 0) = false := beq_eq_false_iff_ne.2 hy2
        clear key
        go_wp2_with fail
        go_ret
        exact ⟨ret_bool HE.out.symm, hk0.trans hkp⟩
      have HOk := Lib.hid (HIn.out hy' fun h1 => Classical.byContradiction fun h2 => hbad ⟨h1, h2⟩)
      have HX := Lib.hid (HNext.out HOk.out)
      have hw1 : IntKind.i64.wrap (y - 1) = y - 1 := by rw [IntKind.wrap_i64]; omega
      have hr : r = false ∨ (r = true ∧ y = 0 ∧ (y == 0) = true) := by
        cases r
        · exact .inl rfl
        · have : y = 0 := Classical.byContradiction fun h2 => hbad ⟨rfl, h2⟩
          exact .inr ⟨rfl, this, by rw [this]; rfl⟩
      clear key hbad HNext HIn HGoal HNeg HBad
      have HY0 := HY
      obtain ⟨y0, HY1⟩ : ∃ y0, Hid (y = y0) := ⟨_, rfl⟩
      rw [HY1.out] at HY hw1
      rcases hr with rfl | ⟨rfl, hyz, hyz2⟩
      all_goals
        go_wp2_with fail
        try rw [show decide ((j : Int) < 32) = true from decide_eq_true (by omega)]
        clear cj3
        try clear hyz hyz2
        go_loopw [6] (fun i wr => ∃ k : Nat, k ≤ n' ∧ i = .int .i64 k ∧ Kept w2 wr ∧ Hid (∀ x, x < k → Sp.stepBrk (Sp.flat t.deeds) l (x * 32 + j) = false)) (fun i _ => n' - (intOf i).toNat)
        case atStart => exact ⟨0, Nat.zero_le _, rfl, hkp, fun x hx => by omega⟩
        case round =>
          obtain ⟨k, hk, rfl, hkp, HNk⟩ := hrel
          have c0 := (B0.kept hkp).cell
          by_cases hlt2 : k < n'
          · have hkl : k < t.deeds.length := by rw [HLn.out]; exact hlt2
            obtain ⟨b5, off5, rfl, hb5, hc⟩ := (hT.keep hkp).deeds.at hlt2
            have HDo := Lib.hid (Sp.taskOk_deed HK.out hkl)
            have HF : Hid (Sp.flat t.deeds (k * 32 + j) = Sp.stepI (t.deeds.getD k default) j) := flat_at _ _ _ hlt
            have HB := Lib.hid (brk_at (F := Sp.flat t.deeds) (l := l) (k := k) hlt)
            have HBad := Lib.hid (@numbersOk_no4 t l (k * 32 + j) (by omega))
            have HNx : Hid (Sp.stepBrk (Sp.flat t.deeds) l (k * 32 + j) = false → ∀ x, x < k + 1 → Sp.stepBrk (Sp.flat t.deeds) l (x * 32 + j) = false) := fun hb x hx => by
              by_cases e : x = k
              · subst e; exact hb
              · exact HNk.out x (by omega)
            have hbd := stepI_bd (d := t.deeds.getD k default) hlt HDo.out
            generalize t.deeds.getD k default = d at *
            obtain ⟨A5, n5, c5, hc0, hc1, hc2, hc3, hdv⟩ := hc.v
            have HDv := Lib.hid hdv
            clear hdv hc
            go_wp2_with fail
            refine (c_l6Do _ d _ _ HDv.out HDo.out (by omega) (by omega)).mono ?_; rintro e w7 ⟨rfl, hk7⟩
            rw [Int.toNat_natCast]
            replace hkp := hkp.trans hk7
            clear hk7 c0 hc0 hc1 hc2 hc3 HDv hb5
            obtain ⟨f, HFx⟩ : ∃ f, Hid (Sp.stepI d j = f) := ⟨_, rfl⟩
            rw [HFx.out] at hbd HF ⊢
            rw [HF.out] at HB
            go_wp2_with fail
            by_cases hf : 0 ≤ f
            · obtain ⟨f, rfl⟩ := Int.eq_ofNat_of_zero_le hf
              have hf3 : f < 32 := by omega
              have hf4 : ¬ (32 : Int) ≤ (f : Int) := by omega
              have cx := (hN.keep hkp.drew).2 f hf3
              have cy := (hN.keep hkp.drew).2 j hlt
              rw [Int.toNat_natCast, decide_eq_true hf, Bool.true_and] at HB
              obtain ⟨x, HXf⟩ : ∃ x, Hid (Sp.numAt l f = x) := ⟨_, rfl⟩
              rw [HXf.out] at cx HB
              rw [HY.out] at cy HB
              refine wp_region_held_drew (S := fun w' => w'.cell? ⟨b, off + f, none⟩ = some (.int .i64 x) ∧ w'.cell? ⟨b, off + j, none⟩ = some (.int .i64 y0)) (by kernel_rfl) ⟨cx, cy⟩ (fun hHeld => ?_)
              by_cases hxy : x < y0 - 1
              · rw [decide_eq_true hxy] at HB
                (refine take_val (i := 0) (v := .int .i64 f) rfl rfl (by kernel_rfl) (by kernel_rfl) (by kernel_rfl) (fun _ _ _ h => h) rfl (by intro wq hq; (try go_split_ands); go_simp; try with_reducible rfl) (hHeld) ?_; try simp only [List.setIfInBounds_toArray, List.set_cons_zero, List.set_cons_succ])
                (refine take_val (i := 1) (v := .bool true) rfl rfl (by kernel_rfl) (by kernel_rfl) (by kernel_rfl) (fun _ _ _ h => h) rfl (by intro wq hq; (try go_split_ands); go_simp; try with_reducible rfl) (hHeld) ?_; try simp only [List.setIfInBounds_toArray, List.set_cons_zero, List.set_cons_succ])
                (refine take_val (i := 2) (v := .bool true) rfl rfl (by kernel_rfl) (by kernel_rfl) (by kernel_rfl) (fun _ _ _ h => h) rfl (by intro wq hq; (try go_split_ands); go_simp; try with_reducible rfl) (hHeld) ?_; try simp only [List.setIfInBounds_toArray, List.set_cons_zero, List.set_cons_succ])
                (refine take_val (i := 3) (v := .slice (some ⟨b, off, none⟩) 32 c2) rfl rfl (by kernel_rfl) (by kernel_rfl) (by kernel_rfl) (fun _ _ _ h => h) rfl (by intro wq hq; (try go_split_ands); go_simp; try with_reducible rfl) (hHeld) ?_; try simp only [List.setIfInBounds_toArray, List.set_cons_zero, List.set_cons_succ])
                (refine take_val (i := 4) (v := .int .i64 f) rfl rfl (by kernel_rfl) (by kernel_rfl) (by kernel_rfl) (fun _ _ _ h => h) rfl (by intro wq hq; (try go_split_ands); go_simp; try with_reducible rfl) (hHeld) ?_; try simp only [List.setIfInBounds_toArray, List.set_cons_zero, List.set_cons_succ])
                (refine take_val (i := 5) (v := .pointer (some ⟨b, off + f, none⟩)) rfl rfl (by kernel_rfl) (by kernel_rfl) (by kernel_rfl) (fun _ _ _ h => h) rfl (by intro wq hq; (try go_split_ands); go_simp; try with_reducible rfl) (hHeld) ?_; try simp only [List.setIfInBounds_toArray, List.set_cons_zero, List.set_cons_succ])
                (refine take_val (i := 6) (v := .int .i64 x) rfl rfl (by kernel_rfl) (by kernel_rfl) (by kernel_rfl) (fun _ _ _ h => h) rfl (by intro wq hq; (try go_split_ands); go_simp; try with_reducible rfl) (hHeld) ?_; try simp only [List.setIfInBounds_toArray, List.set_cons_zero, List.set_cons_succ])
                (refine take_val (i := 7) (v := .slice (some ⟨b, off, none⟩) 32 c2) rfl rfl (by kernel_rfl) (by kernel_rfl) (by kernel_rfl) (fun _ _ _ h => h) rfl (by intro wq hq; (try go_split_ands); go_simp; try with_reducible rfl) (hHeld) ?_; try simp only [List.setIfInBounds_toArray, List.set_cons_zero, List.set_cons_succ])
                (refine take_val (i := 8) (v := .int .i64 j) rfl rfl (by kernel_rfl) (by kernel_rfl) (by kernel_rfl) (fun _ _ _ h => h) rfl (by intro wq hq; (try go_split_ands); go_simp; try with_reducible rfl) (hHeld) ?_; try simp only [List.setIfInBounds_toArray, List.set_cons_zero, List.set_cons_succ])
                (refine take_val (i := 9) (v := .pointer (some ⟨b, off + j, none⟩)) rfl rfl (by kernel_rfl) (by kernel_rfl) (by kernel_rfl) (fun _ _ _ h => h) rfl (by intro wq hq; (try go_split_ands); go_simp; try with_reducible rfl) (hHeld) ?_; try simp only [List.setIfInBounds_toArray, List.set_cons_zero, List.set_cons_succ])
                (refine take_val (i := 10) (v := .int .i64 y0) rfl rfl (by kernel_rfl) (by kernel_rfl) (by kernel_rfl) (fun _ _ _ h => h) rfl (by intro wq hq; (try go_split_ands); go_simp; try with_reducible rfl) (hHeld) ?_; try simp only [List.setIfInBounds_toArray, List.set_cons_zero, List.set_cons_succ])
                (refine take_val (i := 11) (v := .int .i64 (y0 - 1)) rfl rfl (by kernel_rfl) (by kernel_rfl) (by kernel_rfl) (fun _ _ _ h => h) rfl (by intro wq hq; (try go_split_ands); go_simp; try with_reducible rfl) (hHeld) ?_; try simp only [List.setIfInBounds_toArray, List.set_cons_zero, List.set_cons_succ])
                (refine take_val (i := 12) (v := .bool true) rfl rfl (by kernel_rfl) (by kernel_rfl) (by kernel_rfl) (fun _ _ _ h => h) rfl (by intro wq hq; (try go_split_ands); go_simp; try with_reducible rfl) (hHeld) ?_; try simp only [List.setIfInBounds_toArray, List.set_cons_zero, List.set_cons_succ])
                (refine take_val (i := 13) (v := .bool true) rfl rfl (by kernel_rfl) (by kernel_rfl) (by kernel_rfl) (fun _ _ _ h => h) rfl (by intro wq hq; (try go_split_ands); go_simp; try with_reducible rfl) (hHeld) ?_; try simp only [List.setIfInBounds_toArray, List.set_cons_zero, List.set_cons_succ])
                refine wpAnyH_done (by kernel_rfl) ?_ _
                have HE := Lib.hid (HBad.out HB.out)
                clear cx cy hHeld
                go_wp2_with fail
                go_ret
                exact ⟨ret_bool HE.out.symm, hk0.trans hkp.drew⟩
              · rw [decide_eq_false hxy] at HB
                have HX2 := Lib.hid (HNx.out HB.out)
                (refine take_val (i := 0) (v := .int .i64 f) rfl rfl (by kernel_rfl) (by kernel_rfl) (by kernel_rfl) (fun _ _ _ h => h) rfl (by intro wq hq; (try go_split_ands); go_simp; try with_reducible rfl) (hHeld) ?_; try simp only [List.setIfInBounds_toArray, List.set_cons_zero, List.set_cons_succ])
                (refine take_val (i := 1) (v := .bool true) rfl rfl (by kernel_rfl) (by kernel_rfl) (by kernel_rfl) (fun _ _ _ h => h) rfl (by intro wq hq; (try go_split_ands); go_simp; try with_reducible rfl) (hHeld) ?_; try simp only [List.setIfInBounds_toArray, List.set_cons_zero, List.set_cons_succ])
                (refine take_val (i := 2) (v := .bool true) rfl rfl (by kernel_rfl) (by kernel_rfl) (by kernel_rfl) (fun _ _ _ h => h) rfl (by intro wq hq; (try go_split_ands); go_simp; try with_reducible rfl) (hHeld) ?_; try simp only [List.setIfInBounds_toArray, List.set_cons_zero, List.set_cons_succ])
                (refine take_val (i := 3) (v := .slice (some ⟨b, off, none⟩) 32 c2) rfl rfl (by kernel_rfl) (by kernel_rfl) (by kernel_rfl) (fun _ _ _ h => h) rfl (by intro wq hq; (try go_split_ands); go_simp; try with_reducible rfl) (hHeld) ?_; try simp only [List.setIfInBounds_toArray, List.set_cons_zero, List.set_cons_succ])
                (refine take_val (i := 4) (v := .int .i64 f) rfl rfl (by kernel_rfl) (by kernel_rfl) (by kernel_rfl) (fun _ _ _ h => h) rfl (by intro wq hq; (try go_split_ands); go_simp; try with_reducible rfl) (hHeld) ?_; try simp only [List.setIfInBounds_toArray, List.set_cons_zero, List.set_cons_succ])
                (refine take_val (i := 5) (v := .pointer (some ⟨b, off + f, none⟩)) rfl rfl (by kernel_rfl) (by kernel_rfl) (by kernel_rfl) (fun _ _ _ h => h) rfl (by intro wq hq; (try go_split_ands); go_simp; try with_reducible rfl) (hHeld) ?_; try simp only [List.setIfInBounds_toArray, List.set_cons_zero, List.set_cons_succ])
                (refine take_val (i := 6) (v := .int .i64 x) rfl rfl (by kernel_rfl) (by kernel_rfl) (by kernel_rfl) (fun _ _ _ h => h) rfl (by intro wq hq; (try go_split_ands); go_simp; try with_reducible rfl) (hHeld) ?_; try simp only [List.setIfInBounds_toArray, List.set_cons_zero, List.set_cons_succ])
                (refine take_val (i := 7) (v := .slice (some ⟨b, off, none⟩) 32 c2) rfl rfl (by kernel_rfl) (by kernel_rfl) (by kernel_rfl) (fun _ _ _ h => h) rfl (by intro wq hq; (try go_split_ands); go_simp; try with_reducible rfl) (hHeld) ?_; try simp only [List.setIfInBounds_toArray, List.set_cons_zero, List.set_cons_succ])
                (refine take_val (i := 8) (v := .int .i64 j) rfl rfl (by kernel_rfl) (by kernel_rfl) (by kernel_rfl) (fun _ _ _ h => h) rfl (by intro wq hq; (try go_split_ands); go_simp; try with_reducible rfl) (hHeld) ?_; try simp only [List.setIfInBounds_toArray, List.set_cons_zero, List.set_cons_succ])
                (refine take_val (i := 9) (v := .pointer (some ⟨b, off + j, none⟩)) rfl rfl (by kernel_rfl) (by kernel_rfl) (by kernel_rfl) (fun _ _ _ h => h) rfl (by intro wq hq; (try go_split_ands); go_simp; try with_reducible rfl) (hHeld) ?_; try simp only [List.setIfInBounds_toArray, List.set_cons_zero, List.set_cons_succ])
                (refine take_val (i := 10) (v := .int .i64 y0) rfl rfl (by kernel_rfl) (by kernel_rfl) (by kernel_rfl) (fun _ _ _ h => h) rfl (by intro wq hq; (try go_split_ands); go_simp; try with_reducible rfl) (hHeld) ?_; try simp only [List.setIfInBounds_toArray, List.set_cons_zero, List.set_cons_succ])
                (refine take_val (i := 11) (v := .int .i64 (y0 - 1)) rfl rfl (by kernel_rfl) (by kernel_rfl) (by kernel_rfl) (fun _ _ _ h => h) rfl (by intro wq hq; (try go_split_ands); go_simp; try with_reducible rfl) (hHeld) ?_; try simp only [List.setIfInBounds_toArray, List.set_cons_zero, List.set_cons_succ])
                (refine take_val (i := 12) (v := .bool false) rfl rfl (by kernel_rfl) (by kernel_rfl) (by kernel_rfl) (fun _ _ _ h => h) rfl (by intro wq hq; (try go_split_ands); go_simp; try with_reducible rfl) (hHeld) ?_; try simp only [List.setIfInBounds_toArray, List.set_cons_zero, List.set_cons_succ])
                (refine take_val (i := 13) (v := .bool false) rfl rfl (by kernel_rfl) (by kernel_rfl) (by kernel_rfl) (fun _ _ _ h => h) rfl (by intro wq hq; (try go_split_ands); go_simp; try with_reducible rfl) (hHeld) ?_; try simp only [List.setIfInBounds_toArray, List.set_cons_zero, List.set_cons_succ])
                refine wpAnyH_done (by kernel_rfl) ?_ _
                clear cx cy hHeld
                go_wp2_with fail
                exact ⟨⟨k + 1, by omega, by go_num, hkp.drew, HX2⟩, by simp [intOf]; omega⟩
            · rw [decide_eq_false hf, Bool.false_and] at HB
              have HX2 := Lib.hid (HNx.out HB.out)
              refine wp_region_held_drew (S := fun w' => True) (by kernel_rfl) trivial (fun hHeld => ?_)
              (refine take_val (i := 0) (v := .int .i64 f) rfl rfl (by kernel_rfl) (by kernel_rfl) (by kernel_rfl) (fun _ _ _ h => h) rfl (by intro wq hq; (try go_split_ands); go_simp; try with_reducible rfl) (hHeld) ?_; try simp only [List.setIfInBounds_toArray, List.set_cons_zero, List.set_cons_succ])
              (refine take_val (i := 1) (v := .bool false) rfl rfl (by kernel_rfl) (by kernel_rfl) (by kernel_rfl) (fun _ _ _ h => h) rfl (by intro wq hq; (try go_split_ands); go_simp; try with_reducible rfl) (hHeld) ?_; try simp only [List.setIfInBounds_toArray, List.set_cons_zero, List.set_cons_succ])
              (refine take_val (i := 2) (v := .bool false) rfl rfl (by kernel_rfl) (by kernel_rfl) (by kernel_rfl) (fun _ _ _ h => h) rfl (by intro wq hq; (try go_split_ands); go_simp; try with_reducible rfl) (hHeld) ?_; try simp only [List.setIfInBounds_toArray, List.set_cons_zero, List.set_cons_succ])
              (refine take_skip (i := 3) rfl rfl (by kernel_rfl) (by kernel_rfl) (by kernel_rfl) (fun _ _ _ h => h) rfl (hHeld) ?_; try simp only [List.setIfInBounds_toArray, List.set_cons_zero, List.set_cons_succ])
              (refine take_skip (i := 4) rfl rfl (by kernel_rfl) (by kernel_rfl) (by kernel_rfl) (fun _ _ _ h => h) rfl (hHeld) ?_; try simp only [List.setIfInBounds_toArray, List.set_cons_zero, List.set_cons_succ])
              (refine take_skip (i := 5) rfl rfl (by kernel_rfl) (by kernel_rfl) (by kernel_rfl) (fun _ _ _ h => h) rfl (hHeld) ?_; try simp only [List.setIfInBounds_toArray, List.set_cons_zero, List.set_cons_succ])
              (refine take_skip (i := 6) rfl rfl (by kernel_rfl) (by kernel_rfl) (by kernel_rfl) (fun _ _ _ h => h) rfl (hHeld) ?_; try simp only [List.setIfInBounds_toArray, List.set_cons_zero, List.set_cons_succ])
              (refine take_skip (i := 7) rfl rfl (by kernel_rfl) (by kernel_rfl) (by kernel_rfl) (fun _ _ _ h => h) rfl (hHeld) ?_; try simp only [List.setIfInBounds_toArray, List.set_cons_zero, List.set_cons_succ])
              (refine take_skip (i := 8) rfl rfl (by kernel_rfl) (by kernel_rfl) (by kernel_rfl) (fun _ _ _ h => h) rfl (hHeld) ?_; try simp only [List.setIfInBounds_toArray, List.set_cons_zero, List.set_cons_succ])
              (refine take_skip (i := 9) rfl rfl (by kernel_rfl) (by kernel_rfl) (by kernel_rfl) (fun _ _ _ h => h) rfl (hHeld) ?_; try simp only [List.setIfInBounds_toArray, List.set_cons_zero, List.set_cons_succ])
              (refine take_skip (i := 10) rfl rfl (by kernel_rfl) (by kernel_rfl) (by kernel_rfl) (fun _ _ _ h => h) rfl (hHeld) ?_; try simp only [List.setIfInBounds_toArray, List.set_cons_zero, List.set_cons_succ])
              (refine take_skip (i := 11) rfl rfl (by kernel_rfl) (by kernel_rfl) (by kernel_rfl) (fun _ _ _ h => h) rfl (hHeld) ?_; try simp only [List.setIfInBounds_toArray, List.set_cons_zero, List.set_cons_succ])
              (refine take_skip (i := 12) rfl rfl (by kernel_rfl) (by kernel_rfl) (by kernel_rfl) (fun _ _ _ h => h) rfl (hHeld) ?_; try simp only [List.setIfInBounds_toArray, List.set_cons_zero, List.set_cons_succ])
              (refine take_val (i := 13) (v := .bool false) rfl rfl (by kernel_rfl) (by kernel_rfl) (by kernel_rfl) (fun _ _ _ h => h) rfl (by intro wq hq; (try go_split_ands); go_simp; try with_reducible rfl) (hHeld) ?_; try simp only [List.setIfInBounds_toArray, List.set_cons_zero, List.set_cons_succ])
              refine wpAnyH_done (by kernel_rfl) ?_ _
              clear hHeld
              go_wp2_with fail
              exact ⟨⟨k + 1, by omega, by go_num, hkp.drew, HX2⟩, by simp [intOf]; omega⟩
          · obtain rfl : k = n' := by omega
            have HNb2 : Hid (∀ x, x < k → ∀ y, y < j + 1 → Sp.stepBrk (Sp.flat t.deeds) l (x * 32 + y) = false) := fun x hx y hy => by
              by_cases e : y = j
              · subst e; exact HNk.out x hx
              · exact HNb.out x hx y (by omega)
            go_wp2_with fail
            exact ⟨⟨j + 1, by omega, by go_num, hkp, HX, HNb2⟩, by simp [intOf]; omega⟩
    · obtain rfl : j = 32 := by omega
      have HE : Hid (Sp.numbersOk t l = true) := numbersOk_yes HK.out HLen.out HAll.out fun p hp => by
        rw [HLn.out] at hp
        have := HNb.out (p / 32) (by omega) (p % 32) (by omega)
        rwa [show p / 32 * 32 + p % 32 = p by omega] at this
      go_wp2_with fail
      go_ret
      exact ⟨ret_bool HE.out.symm, hk0.trans hkp⟩

end Go.Proofs.YtphdojebdclonaaDoor
