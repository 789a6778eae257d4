/- Walks: a state is looked at (the program's). No condition. -/
import Derived.Test.YtphdojebdclonaaDoorG41
namespace Go.Proofs.YtphdojebdclonaaDoor
open Go.RowKit

theorem or_bit (R s j : Nat) : (R ||| 2 ^ s).testBit j = (R.testBit j || decide (s = j)) := by rw [Nat.testBit_or, Nat.testBit_two_pow]
/-- what a look leaves -/
def LookedQ (g D : Nat) (f : Nat → Int) (_v : Value) (w' : World) : Prop := ∃ R, LookB w' g R D f
theorem relax_no {f : Nat → Int} {s : Nat} {to : Int} (h : ¬ (0 ≤ to ∧ (f to.toNat < 0 ∨ f s + 1 < f to.toNat))) : Sp.relax f s to = f := by
  funext j
  unfold Sp.relax
  rw [if_neg]
  rintro ⟨h1, h2, _⟩
  exact h ⟨h1, h2⟩
theorem relax_yes {f : Nat → Int} {s u : Nat} (h : f u < 0 ∨ f s + 1 < f u) (j : Nat) : Sp.relax f s (u : Int) j = if j = u then f s + 1 else f j := by
  unfold Sp.relax
  rw [Int.toNat_natCast]
  by_cases e : j = u
  · rw [if_pos ⟨by omega, h, e⟩, if_pos e]
  · rw [if_neg (fun h2 => e h2.2.2), if_neg e]
theorem LookB.looked {w : World} {g R D : Nat} {f : Nat → Int} (h : LookB w g R D f) {s : Nat} (hs : s < 32) : LookB (w.setCell ⟨g, 1, none⟩ (.int .i64 ((D ||| 2 ^ s : Nat) : Int))) g R (D ||| 2 ^ s) f := by
  refine ⟨(h.1.set (s := 1) (by omega) _).congr fun i hi => ?_, h.2.1, Nat.or_lt_two_pow (n := 32) h.2.2.1 (Nat.pow_lt_pow_right (by decide) hs), h.2.2.2⟩
  unfold Sp.lookRow
  by_cases e1 : i = 1
  · subst e1; rw [if_pos rfl, if_neg (by omega), if_pos rfl]
  · rw [if_neg e1]
    by_cases e0 : i = 0
    · rw [if_pos e0, if_pos e0]
    · rw [if_neg e0, if_neg e0, if_neg e1, if_neg e1]
theorem LookB.relaxed {w w2 : World} {g R D : Nat} {f : Nat → Int} (h : LookB w g R D f) {s u : Nat} (hu : u < 32) (hs0 : 0 ≤ f s) (hc : f u < 0 ∨ f s + 1 < f u)
    (hI : IntRow w2 g 34 (fun i => if i = 2 + u then f s + 1 else if i = 0 then ((R ||| 2 ^ u : Nat) : Int) else Sp.lookRow R D f i)) : LookB w2 g (R ||| 2 ^ u) D (Sp.relax f s (u : Int)) := by
  refine ⟨hI.congr fun i hi => ?_, Nat.or_lt_two_pow (n := 32) h.2.1 (Nat.pow_lt_pow_right (by decide) hu), h.2.2.1, fun j hj => ?_⟩
  · by_cases e2 : i = 2 + u
    · rw [if_pos e2]
      unfold Sp.lookRow
      rw [if_neg (show ¬ i = 0 by omega), if_neg (show ¬ i = 1 by omega), relax_yes hc, if_pos (show i - 2 = u by omega), if_neg (show ¬ f s + 1 < 0 by omega)]
    · rw [if_neg e2]
      unfold Sp.lookRow
      by_cases e0 : i = 0
      · rw [if_pos e0, if_pos e0]
      · by_cases e1 : i = 1
        · subst e1; rfl
        · rw [if_neg e0, if_neg e0, if_neg e0, if_neg e1, if_neg e1, relax_yes hc, if_neg (show ¬ i - 2 = u by omega)]
  · rw [or_bit, h.2.2.2 j hj, relax_yes hc]
    by_cases e : j = u
    · subst e; rw [if_pos rfl, decide_eq_true (show 0 ≤ f s + 1 by omega)]; simp
    · rw [if_neg e, show decide (u = j) = false from decide_eq_false (fun e2 => e e2.symm), Bool.or_false]

set_option maxHeartbeats 2000000 in
set_option maxRecDepth 100000 in
theorem c_iLook (w0 : World) (g R D : Nat) (f : Nat → Int) (gr n cr : Nat) (F : Nat → Int) (s : Nat) (w : World) (h : LookB w g R D f) (hk : Kept w0 w) (hg : w0.heap.size ≤ g) (hR : RowsF w0 gr n F) (hn : n ≤ 6) (hs : s < 32) (hs0 : 0 ≤ f s) (hf : ∀ j, -1 ≤ f j ∧ f j ≤ 40) :
    Calls Tryd.prog 59 #[.pointer (some ⟨g, 0, none⟩), .slice (some ⟨gr, 0, none⟩) n cr, .int .i64 (s : Int)] w (RetS (LookedQ g (D ||| 2 ^ s) (Sp.lookUp F s f n)) w0) := by
  have HF := Lib.hid (fun k => @lookUp_bd F s f 40 hf hs0 k)
  have HSf := Lib.hid (fun k => @lookUp_self F s f hs0 k)
  have HF0 := Lib.hid hf
  clear hf
  have hsh := bin_shl_one s (by omega)
  have hor := or_p2 D s h.2.2.1 hs
  have c1 := h.c1
  have f1 := h.1.2.1 1
  have hLk := (h.looked hs).keep (Kept.refl _).drew
  have hk1 := (hk.setCell (p := ⟨g, 1, none⟩) hg (.int .i64 ((D ||| 2 ^ s : Nat) : Int))).drew
  clear h
  go_enter Tryd.func59, Tryd.ntmps59
  go_wp2_with fail
  go_still_tail 9, (by kernel_rfl)
  change wpList _ _ _ _ _ w.drew
  go_wp2_with fail
  generalize (w.setCell ⟨g, 1, none⟩ (.int .i64 ((D ||| 2 ^ s : Nat) : Int))).drew = w1 at *
  clear hsh hor c1 f1
  have hDl := hLk.2.2.1
  generalize D ||| 2 ^ s = D1 at *
  go_loopw [20] (fun i wr => ∃ k R : Nat, k ≤ n ∧ i = .int .i64 k ∧ LookB wr g R D1 (Sp.lookUp F s f k) ∧ Kept w0 wr) (fun i _ => n - (intOf i).toNat)
  case atStart => exact ⟨0, R, Nat.zero_le _, rfl, hLk, hk1⟩
  case round =>
    clear hLk hk1
    obtain ⟨k, R, hkn, rfl, hLk, hkp⟩ := hrel
    by_cases hlt : k < n
    · have HR := hR.keep hkp
      obtain ⟨hF0, hF1⟩ := hR.2.2 (k * 32 + s) (by omega)
      have HStep : Hid (Sp.lookUp F s f (k + 1) = Sp.relax (Sp.lookUp F s f k) s (F (k * 32 + s))) := rfl
      have hfs : Sp.lookUp F s f k s = f s := HSf.out k
      have hfb := HF.out k
      have HFs0 : Hid (0 ≤ Sp.lookUp F s f k s) := by show 0 ≤ _; rw [hfs]; exact hs0
      obtain ⟨fk, HFk⟩ : ∃ fk, Hid (Sp.lookUp F s f k = fk) := ⟨_, rfl⟩
      rw [HFk.out] at hLk HStep hfb HFs0
      have hl4 := row_zero
      have hl5 := zeros_cells
      have hkA := hkp.alloc (.cells (rowOf F k).toArray 81)
      have hLA := hLk.keep ((Kept.refl wr).alloc (.cells (rowOf F k).toArray 81))
      have hat : (rowOf F k).toArray[s]? = some (.int .i64 (F (k * 32 + s))) := by rw [List.getElem?_toArray]; exact rowOf_at F k s hs
      have hcs : (wr.alloc (.cells (rowOf F k).toArray 81)).cell? ⟨wr.heap.size, s, none⟩ = some (.int .i64 (F (k * 32 + s))) := by rw [World.cell?_alloc_new]; exact hat
      obtain ⟨to, HTo⟩ : ∃ to, Hid (F (k * 32 + s) = to) := ⟨_, rfl⟩
      rw [HTo.out] at hF0 hF1 HStep hcs
      have hs33 : ¬ (32 : Int) ≤ (s : Int) := by omega
      clear hLk hat hfs
      by_cases ht : to < 0
      · have HE : Hid (Sp.lookUp F s f (k + 1) = fk) := by show _ = _; rw [HStep.out]; exact relax_no (fun h => by omega)
        go_wp2_with (first | (refine row_load_at HR hlt rfl rfl rfl ?_) | (refine row_store_new rfl rfl rfl rfl ?_))
        exact ⟨⟨k + 1, R, by omega, by go_num, by rw [HE.out]; exact hLA, hkA⟩, by simp [intOf]; omega⟩
      obtain ⟨u, rfl⟩ := Int.eq_ofNat_of_zero_le (show 0 ≤ to by omega)
      have hu : u < 32 := by omega
      have hu33 : ¬ (32 : Int) ≤ (u : Int) := by omega
      have hab := and_bit R u (by have := hLA.2.1; omega)
      have hRb := hLA.2.2.2 u hu
      have hbu := hfb u
      have hbs := hfb s
      go_wp2_with (first | (refine row_load_at HR hlt rfl rfl rfl ?_) | (refine row_store_new rfl rfl rfl rfl ?_))
      generalize wr.alloc (.cells (rowOf F k).toArray 81) = wA at *
      clear hl4 hl5 hcs
      have hLd := hLA.keep (Kept.refl _).drew
      have hkd := hkA.drew
      have c0 := hLd.c0
      have cse := hLd.ce hs HFs0.out
      have cue := hLd.cs hu
      have HYes : Hid ((fk u < 0 ∨ fk s + 1 < fk u) → ∀ w2 : World, IntRow w2 g 34 (fun i => if i = 2 + u then fk s + 1 else if i = 0 then ((R ||| 2 ^ u : Nat) : Int) else Sp.lookRow R D1 fk i) → LookB w2 g (R ||| 2 ^ u) D1 (Sp.lookUp F s f (k + 1))) := fun hc w2 hI => by rw [HStep.out]; exact hLd.relaxed hu HFs0.out hc hI
      have HNo : Hid (¬ (fk u < 0 ∨ fk s + 1 < fk u) → Sp.lookUp F s f (k + 1) = fk) := fun hc => by rw [HStep.out]; exact relax_no (fun h => hc (by rw [Int.toNat_natCast] at h; exact h.2))
      have hI0 := (hLd.1.set (s := 0) (by omega) (((R ||| 2 ^ u : Nat) : Int))).keep (Kept.refl _).drew
      have hcs2 : Sp.lookRow R D1 fk (2 + s) = fk s := by
        unfold Sp.lookRow
        rw [if_neg (by omega), if_neg (by omega), show 2 + s - 2 = s by omega, if_neg (by have := HFs0.out; omega)]
      have hf0 := hLd.1.2.1
      have HRl := Lib.hid hLA.2.1
      clear HFk HStep hLA hkA hfb
      obtain ⟨x, HX⟩ : ∃ x, Hid (fk s = x) := ⟨_, rfl⟩
      obtain ⟨y, HY⟩ : ∃ y, Hid (fk u = y) := ⟨_, rfl⟩
      rw [HX.out] at cse hbs hcs2 HYes HNo
      rw [HY.out] at cue hbu hRb HYes HNo
      have hx0 : 0 ≤ x := by rw [← HX.out]; exact HFs0.out
      have hw1 : IntKind.i64.wrap (x + 1) = x + 1 := by rw [IntKind.wrap_i64]; omega
      obtain ⟨z, HZ⟩ : ∃ z, Hid ((if y < 0 then 0 else y) = z) := ⟨_, rfl⟩
      rw [HZ.out] at cue
      refine wp_region_held_drew (S := fun w' => w'.cell? ⟨g, 0, none⟩ = some (.int .i64 (R : Int)) ∧ w'.cell? ⟨g, 2 + s, none⟩ = some (.int .i64 x) ∧ w'.cell? ⟨g, 2 + u, none⟩ = some (.int .i64 z)) (by kernel_rfl) ⟨c0, cse, cue⟩ (fun hHeld => ?_)
      by_cases hy : y < 0
      · rw [decide_eq_false (by omega)] at hRb
        rw [hRb] at hab
        have HL := Lib.hid (HYes.out (.inl hy))
        (refine take_val (i := 0) (v := .pointer (some ⟨g, 0, none⟩)) rfl rfl (by kernel_rfl) (by kernel_rfl) (by kernel_rfl) (fun _ _ _ h => h) rfl (by intro wq hq; (try go_split_ands); go_simp; try with_reducible rfl) (hHeld) ?_; simp only [List.setIfInBounds_toArray, List.set_cons_zero, List.set_cons_succ])
        (refine take_val (i := 1) (v := .pointer (some ⟨g, 0, none⟩)) rfl rfl (by kernel_rfl) (by kernel_rfl) (by kernel_rfl) (fun _ _ _ h => h) rfl (by intro wq hq; (try go_split_ands); go_simp; try with_reducible rfl) (hHeld) ?_; simp only [List.setIfInBounds_toArray, List.set_cons_zero, List.set_cons_succ])
        (refine take_val (i := 2) (v := .pointer (some ⟨g, 0, none⟩)) rfl rfl (by kernel_rfl) (by kernel_rfl) (by kernel_rfl) (fun _ _ _ h => h) rfl (by intro wq hq; (try go_split_ands); go_simp; try with_reducible rfl) (hHeld) ?_; simp only [List.setIfInBounds_toArray, List.set_cons_zero, List.set_cons_succ])
        (refine take_val (i := 3) (v := .int .i64 (R : Int)) rfl rfl (by kernel_rfl) (by kernel_rfl) (by kernel_rfl) (fun _ _ _ h => h) rfl (by intro wq hq; (try go_split_ands); go_simp; try with_reducible rfl) (hHeld) ?_; simp only [List.setIfInBounds_toArray, List.set_cons_zero, List.set_cons_succ])
        (refine take_val (i := 4) (v := .int .i64 (u : Int)) rfl rfl (by kernel_rfl) (by kernel_rfl) (by kernel_rfl) (fun _ _ _ h => h) rfl (by intro wq hq; (try go_split_ands); go_simp; try with_reducible rfl) (hHeld) ?_; simp only [List.setIfInBounds_toArray, List.set_cons_zero, List.set_cons_succ])
        (refine take_val (i := 5) (v := .int .i64 ((R : Int) / 2 ^ u)) rfl rfl (by kernel_rfl) (by kernel_rfl) (by kernel_rfl) (fun _ _ _ h => h) rfl (by intro wq hq; (try go_split_ands); go_simp; try with_reducible rfl) (hHeld) ?_; simp only [List.setIfInBounds_toArray, List.set_cons_zero, List.set_cons_succ])
        (refine take_val (i := 6) (v := .int .i64 0) rfl rfl (by kernel_rfl) (by kernel_rfl) (by kernel_rfl) (fun _ _ _ h => h) rfl (by intro wq hq; (try go_split_ands); go_simp; try with_reducible rfl) (hHeld) ?_; simp only [List.setIfInBounds_toArray, List.set_cons_zero, List.set_cons_succ])
        (refine take_val (i := 7) (v := .bool true) rfl rfl (by kernel_rfl) (by kernel_rfl) (by kernel_rfl) (fun _ _ _ h => h) rfl (by intro wq hq; (try go_split_ands); go_simp; try with_reducible rfl) (hHeld) ?_; simp only [List.setIfInBounds_toArray, List.set_cons_zero, List.set_cons_succ])
        (refine take_val (i := 8) (v := .bool true) rfl rfl (by kernel_rfl) (by kernel_rfl) (by kernel_rfl) (fun _ _ _ h => h) rfl (by intro wq hq; (try go_split_ands); go_simp; try with_reducible rfl) (hHeld) ?_; simp only [List.setIfInBounds_toArray, List.set_cons_zero, List.set_cons_succ])
        (refine take_skip (i := 9) rfl rfl (by kernel_rfl) (by kernel_rfl) (by kernel_rfl) (fun _ _ _ h => h) rfl (hHeld) ?_; simp only [List.setIfInBounds_toArray, List.set_cons_zero, List.set_cons_succ])
        (refine take_skip (i := 10) rfl rfl (by kernel_rfl) (by kernel_rfl) (by kernel_rfl) (fun _ _ _ h => h) rfl (hHeld) ?_; simp only [List.setIfInBounds_toArray, List.set_cons_zero, List.set_cons_succ])
        (refine take_skip (i := 11) rfl rfl (by kernel_rfl) (by kernel_rfl) (by kernel_rfl) (fun _ _ _ h => h) rfl (hHeld) ?_; simp only [List.setIfInBounds_toArray, List.set_cons_zero, List.set_cons_succ])
        (refine take_skip (i := 12) rfl rfl (by kernel_rfl) (by kernel_rfl) (by kernel_rfl) (fun _ _ _ h => h) rfl (hHeld) ?_; simp only [List.setIfInBounds_toArray, List.set_cons_zero, List.set_cons_succ])
        (refine take_skip (i := 13) rfl rfl (by kernel_rfl) (by kernel_rfl) (by kernel_rfl) (fun _ _ _ h => h) rfl (hHeld) ?_; simp only [List.setIfInBounds_toArray, List.set_cons_zero, List.set_cons_succ])
        (refine take_skip (i := 14) rfl rfl (by kernel_rfl) (by kernel_rfl) (by kernel_rfl) (fun _ _ _ h => h) rfl (hHeld) ?_; simp only [List.setIfInBounds_toArray, List.set_cons_zero, List.set_cons_succ])
        (refine take_skip (i := 15) rfl rfl (by kernel_rfl) (by kernel_rfl) (by kernel_rfl) (fun _ _ _ h => h) rfl (hHeld) ?_; simp only [List.setIfInBounds_toArray, List.set_cons_zero, List.set_cons_succ])
        (refine take_skip (i := 16) rfl rfl (by kernel_rfl) (by kernel_rfl) (by kernel_rfl) (fun _ _ _ h => h) rfl (hHeld) ?_; simp only [List.setIfInBounds_toArray, List.set_cons_zero, List.set_cons_succ])
        (refine take_skip (i := 17) rfl rfl (by kernel_rfl) (by kernel_rfl) (by kernel_rfl) (fun _ _ _ h => h) rfl (hHeld) ?_; simp only [List.setIfInBounds_toArray, List.set_cons_zero, List.set_cons_succ])
        (refine take_skip (i := 18) rfl rfl (by kernel_rfl) (by kernel_rfl) (by kernel_rfl) (fun _ _ _ h => h) rfl (hHeld) ?_; simp only [List.setIfInBounds_toArray, List.set_cons_zero, List.set_cons_succ])
        (refine take_skip (i := 19) rfl rfl (by kernel_rfl) (by kernel_rfl) (by kernel_rfl) (fun _ _ _ h => h) rfl (hHeld) ?_; simp only [List.setIfInBounds_toArray, List.set_cons_zero, List.set_cons_succ])
        (refine take_skip (i := 20) rfl rfl (by kernel_rfl) (by kernel_rfl) (by kernel_rfl) (fun _ _ _ h => h) rfl (hHeld) ?_; simp only [List.setIfInBounds_toArray, List.set_cons_zero, List.set_cons_succ])
        (refine take_skip (i := 21) rfl rfl (by kernel_rfl) (by kernel_rfl) (by kernel_rfl) (fun _ _ _ h => h) rfl (hHeld) ?_; simp only [List.setIfInBounds_toArray, List.set_cons_zero, List.set_cons_succ])
        (refine take_skip (i := 22) rfl rfl (by kernel_rfl) (by kernel_rfl) (by kernel_rfl) (fun _ _ _ h => h) rfl (hHeld) ?_; simp only [List.setIfInBounds_toArray, List.set_cons_zero, List.set_cons_succ])
        (refine take_val (i := 23) (v := .bool true) rfl rfl (by kernel_rfl) (by kernel_rfl) (by kernel_rfl) (fun _ _ _ h => h) rfl (by intro wq hq; (try go_split_ands); go_simp; try with_reducible rfl) (hHeld) ?_; simp only [List.setIfInBounds_toArray, List.set_cons_zero, List.set_cons_succ])
        refine wpAnyH_done (by kernel_rfl) ?_ _
        clear hHeld cse cue hab hI0
        have hsh := bin_shl_one u (by omega)
        have hor := or_p2 R u HRl.out hu
        have f00 := hf0 0
        have hI7 := (hLd.1.set (s := 0) (by omega) (((R ||| 2 ^ u : Nat) : Int))).keep (Kept.refl _).drew
        have hk7 := (hkd.setCell (p := ⟨g, 0, none⟩) hg (.int .i64 ((R ||| 2 ^ u : Nat) : Int))).drew
        generalize wA.drew = wd at *
        go_wp2_with fail
        go_still_tail 9, (by kernel_rfl)
        change wpList _ _ _ _ _ wd.drew
        go_wp2_with fail
        generalize (wd.setCell ⟨g, 0, none⟩ (.int .i64 ((R ||| 2 ^ u : Nat) : Int))).drew = w7 at *
        have c7 : w7.cell? ⟨g, 2 + s, none⟩ = some (.int .i64 x) := by
          rw [hI7.2.2 (2 + s) (by omega)]
          show some (Value.int .i64 (if 2 + s = 0 then ((R ||| 2 ^ u : Nat) : Int) else Sp.lookRow R D1 fk (2 + s))) = _
          rw [if_neg (by omega), hcs2]
        have e7 := hI7.2.2 (2 + u) (by omega)
        have f7 := hI7.2.1 (2 + u)
        have hI8 := (hI7.set (s := 2 + u) (by omega) (x + 1)).keep (Kept.refl _).drew
        have hk8 := (hk7.setCell (p := ⟨g, 2 + u, none⟩) hg (.int .i64 (x + 1))).drew
        have HL8 := Lib.hid (HL.out _ hI8)
        clear hsh hor f00 hI7 hk7 hI8 HL hf0 c0
        go_still_tail 12, (by kernel_rfl)
        change wpList _ _ _ _ _ w7.drew
        go_wp2_with fail
        exact ⟨⟨k + 1, _, by omega, by go_num, HL8.out, hk8⟩, by simp [intOf]; omega⟩
      · rw [decide_eq_true (by omega)] at hRb
        rw [hRb] at hab
        obtain rfl : z = y := by rw [← HZ.out, if_neg hy]
        by_cases hxy : x + 1 < z
        · have HL := Lib.hid (HYes.out (.inr hxy))
          (refine take_val (i := 0) (v := .pointer (some ⟨g, 0, none⟩)) rfl rfl (by kernel_rfl) (by kernel_rfl) (by kernel_rfl) (fun _ _ _ h => h) rfl (by intro wq hq; (try go_split_ands); go_simp; try with_reducible rfl) (hHeld) ?_; simp only [List.setIfInBounds_toArray, List.set_cons_zero, List.set_cons_succ])
          (refine take_val (i := 1) (v := .pointer (some ⟨g, 0, none⟩)) rfl rfl (by kernel_rfl) (by kernel_rfl) (by kernel_rfl) (fun _ _ _ h => h) rfl (by intro wq hq; (try go_split_ands); go_simp; try with_reducible rfl) (hHeld) ?_; simp only [List.setIfInBounds_toArray, List.set_cons_zero, List.set_cons_succ])
          (refine take_val (i := 2) (v := .pointer (some ⟨g, 0, none⟩)) rfl rfl (by kernel_rfl) (by kernel_rfl) (by kernel_rfl) (fun _ _ _ h => h) rfl (by intro wq hq; (try go_split_ands); go_simp; try with_reducible rfl) (hHeld) ?_; simp only [List.setIfInBounds_toArray, List.set_cons_zero, List.set_cons_succ])
          (refine take_val (i := 3) (v := .int .i64 (R : Int)) rfl rfl (by kernel_rfl) (by kernel_rfl) (by kernel_rfl) (fun _ _ _ h => h) rfl (by intro wq hq; (try go_split_ands); go_simp; try with_reducible rfl) (hHeld) ?_; simp only [List.setIfInBounds_toArray, List.set_cons_zero, List.set_cons_succ])
          (refine take_val (i := 4) (v := .int .i64 (u : Int)) rfl rfl (by kernel_rfl) (by kernel_rfl) (by kernel_rfl) (fun _ _ _ h => h) rfl (by intro wq hq; (try go_split_ands); go_simp; try with_reducible rfl) (hHeld) ?_; simp only [List.setIfInBounds_toArray, List.set_cons_zero, List.set_cons_succ])
          (refine take_val (i := 5) (v := .int .i64 ((R : Int) / 2 ^ u)) rfl rfl (by kernel_rfl) (by kernel_rfl) (by kernel_rfl) (fun _ _ _ h => h) rfl (by intro wq hq; (try go_split_ands); go_simp; try with_reducible rfl) (hHeld) ?_; simp only [List.setIfInBounds_toArray, List.set_cons_zero, List.set_cons_succ])
          (refine take_val (i := 6) (v := .int .i64 1) rfl rfl (by kernel_rfl) (by kernel_rfl) (by kernel_rfl) (fun _ _ _ h => h) rfl (by intro wq hq; (try go_split_ands); go_simp; try with_reducible rfl) (hHeld) ?_; simp only [List.setIfInBounds_toArray, List.set_cons_zero, List.set_cons_succ])
          (refine take_val (i := 7) (v := .bool false) rfl rfl (by kernel_rfl) (by kernel_rfl) (by kernel_rfl) (fun _ _ _ h => h) rfl (by intro wq hq; (try go_split_ands); go_simp; try with_reducible rfl) (hHeld) ?_; simp only [List.setIfInBounds_toArray, List.set_cons_zero, List.set_cons_succ])
          (refine take_val (i := 8) (v := .bool false) rfl rfl (by kernel_rfl) (by kernel_rfl) (by kernel_rfl) (fun _ _ _ h => h) rfl (by intro wq hq; (try go_split_ands); go_simp; try with_reducible rfl) (hHeld) ?_; simp only [List.setIfInBounds_toArray, List.set_cons_zero, List.set_cons_succ])
          (refine take_val (i := 9) (v := .pointer (some ⟨g, 0, none⟩)) rfl rfl (by kernel_rfl) (by kernel_rfl) (by kernel_rfl) (fun _ _ _ h => h) rfl (by intro wq hq; (try go_split_ands); go_simp; try with_reducible rfl) (hHeld) ?_; simp only [List.setIfInBounds_toArray, List.set_cons_zero, List.set_cons_succ])
          (refine take_val (i := 10) (v := .int .i64 (s : Int)) rfl rfl (by kernel_rfl) (by kernel_rfl) (by kernel_rfl) (fun _ _ _ h => h) rfl (by intro wq hq; (try go_split_ands); go_simp; try with_reducible rfl) (hHeld) ?_; simp only [List.setIfInBounds_toArray, List.set_cons_zero, List.set_cons_succ])
          (refine take_val (i := 11) (v := .pointer (some ⟨g, 0, none⟩)) rfl rfl (by kernel_rfl) (by kernel_rfl) (by kernel_rfl) (fun _ _ _ h => h) rfl (by intro wq hq; (try go_split_ands); go_simp; try with_reducible rfl) (hHeld) ?_; simp only [List.setIfInBounds_toArray, List.set_cons_zero, List.set_cons_succ])
          (refine take_val (i := 12) (v := .pointer (some ⟨g, 2, none⟩)) rfl rfl (by kernel_rfl) (by kernel_rfl) (by kernel_rfl) (fun _ _ _ h => h) rfl (by intro wq hq; (try go_split_ands); go_simp; try with_reducible rfl) (hHeld) ?_; simp only [List.setIfInBounds_toArray, List.set_cons_zero, List.set_cons_succ])
          (refine take_val (i := 13) (v := .pointer (some ⟨g, 2 + s, none⟩)) rfl rfl (by kernel_rfl) (by kernel_rfl) (by kernel_rfl) (fun _ _ _ h => h) rfl (by intro wq hq; (try go_split_ands); go_simp; try with_reducible rfl) (hHeld) ?_; simp only [List.setIfInBounds_toArray, List.set_cons_zero, List.set_cons_succ])
          (refine take_val (i := 14) (v := .int .i64 x) rfl rfl (by kernel_rfl) (by kernel_rfl) (by kernel_rfl) (fun _ _ _ h => h) rfl (by intro wq hq; (try go_split_ands); go_simp; try with_reducible rfl) (hHeld) ?_; simp only [List.setIfInBounds_toArray, List.set_cons_zero, List.set_cons_succ])
          (refine take_val (i := 15) (v := .int .i64 (x + 1)) rfl rfl (by kernel_rfl) (by kernel_rfl) (by kernel_rfl) (fun _ _ _ h => h) rfl (by intro wq hq; (try go_split_ands); go_simp; try with_reducible rfl) (hHeld) ?_; simp only [List.setIfInBounds_toArray, List.set_cons_zero, List.set_cons_succ])
          (refine take_val (i := 16) (v := .pointer (some ⟨g, 0, none⟩)) rfl rfl (by kernel_rfl) (by kernel_rfl) (by kernel_rfl) (fun _ _ _ h => h) rfl (by intro wq hq; (try go_split_ands); go_simp; try with_reducible rfl) (hHeld) ?_; simp only [List.setIfInBounds_toArray, List.set_cons_zero, List.set_cons_succ])
          (refine take_val (i := 17) (v := .int .i64 (u : Int)) rfl rfl (by kernel_rfl) (by kernel_rfl) (by kernel_rfl) (fun _ _ _ h => h) rfl (by intro wq hq; (try go_split_ands); go_simp; try with_reducible rfl) (hHeld) ?_; simp only [List.setIfInBounds_toArray, List.set_cons_zero, List.set_cons_succ])
          (refine take_val (i := 18) (v := .pointer (some ⟨g, 0, none⟩)) rfl rfl (by kernel_rfl) (by kernel_rfl) (by kernel_rfl) (fun _ _ _ h => h) rfl (by intro wq hq; (try go_split_ands); go_simp; try with_reducible rfl) (hHeld) ?_; simp only [List.setIfInBounds_toArray, List.set_cons_zero, List.set_cons_succ])
          (refine take_val (i := 19) (v := .pointer (some ⟨g, 2, none⟩)) rfl rfl (by kernel_rfl) (by kernel_rfl) (by kernel_rfl) (fun _ _ _ h => h) rfl (by intro wq hq; (try go_split_ands); go_simp; try with_reducible rfl) (hHeld) ?_; simp only [List.setIfInBounds_toArray, List.set_cons_zero, List.set_cons_succ])
          (refine take_val (i := 20) (v := .pointer (some ⟨g, 2 + u, none⟩)) rfl rfl (by kernel_rfl) (by kernel_rfl) (by kernel_rfl) (fun _ _ _ h => h) rfl (by intro wq hq; (try go_split_ands); go_simp; try with_reducible rfl) (hHeld) ?_; simp only [List.setIfInBounds_toArray, List.set_cons_zero, List.set_cons_succ])
          (refine take_val (i := 21) (v := .int .i64 z) rfl rfl (by kernel_rfl) (by kernel_rfl) (by kernel_rfl) (fun _ _ _ h => h) rfl (by intro wq hq; (try go_split_ands); go_simp; try with_reducible rfl) (hHeld) ?_; simp only [List.setIfInBounds_toArray, List.set_cons_zero, List.set_cons_succ])
          (refine take_val (i := 22) (v := .bool true) rfl rfl (by kernel_rfl) (by kernel_rfl) (by kernel_rfl) (fun _ _ _ h => h) rfl (by intro wq hq; (try go_split_ands); go_simp; try with_reducible rfl) (hHeld) ?_; simp only [List.setIfInBounds_toArray, List.set_cons_zero, List.set_cons_succ])
          (refine take_val (i := 23) (v := .bool true) rfl rfl (by kernel_rfl) (by kernel_rfl) (by kernel_rfl) (fun _ _ _ h => h) rfl (by intro wq hq; (try go_split_ands); go_simp; try with_reducible rfl) (hHeld) ?_; simp only [List.setIfInBounds_toArray, List.set_cons_zero, List.set_cons_succ])
          refine wpAnyH_done (by kernel_rfl) ?_ _
          clear hHeld cse cue hab hI0
          have hsh := bin_shl_one u (by omega)
          have hor := or_p2 R u HRl.out hu
          have f00 := hf0 0
          have hI7 := (hLd.1.set (s := 0) (by omega) (((R ||| 2 ^ u : Nat) : Int))).keep (Kept.refl _).drew
          have hk7 := (hkd.setCell (p := ⟨g, 0, none⟩) hg (.int .i64 ((R ||| 2 ^ u : Nat) : Int))).drew
          generalize wA.drew = wd at *
          go_wp2_with fail
          go_still_tail 9, (by kernel_rfl)
          change wpList _ _ _ _ _ wd.drew
          go_wp2_with fail
          generalize (wd.setCell ⟨g, 0, none⟩ (.int .i64 ((R ||| 2 ^ u : Nat) : Int))).drew = w7 at *
          have c7 : w7.cell? ⟨g, 2 + s, none⟩ = some (.int .i64 x) := by
            rw [hI7.2.2 (2 + s) (by omega)]
            show some (Value.int .i64 (if 2 + s = 0 then ((R ||| 2 ^ u : Nat) : Int) else Sp.lookRow R D1 fk (2 + s))) = _
            rw [if_neg (by omega), hcs2]
          have e7 := hI7.2.2 (2 + u) (by omega)
          have f7 := hI7.2.1 (2 + u)
          have hI8 := (hI7.set (s := 2 + u) (by omega) (x + 1)).keep (Kept.refl _).drew
          have hk8 := (hk7.setCell (p := ⟨g, 2 + u, none⟩) hg (.int .i64 (x + 1))).drew
          have HL8 := Lib.hid (HL.out _ hI8)
          clear hsh hor f00 hI7 hk7 hI8 HL hf0 c0
          go_still_tail 12, (by kernel_rfl)
          change wpList _ _ _ _ _ w7.drew
          go_wp2_with fail
          exact ⟨⟨k + 1, _, by omega, by go_num, HL8.out, hk8⟩, by simp [intOf]; omega⟩
        · have HE := Lib.hid (HNo.out (fun h => by omega))
          (refine take_val (i := 0) (v := .pointer (some ⟨g, 0, none⟩)) rfl rfl (by kernel_rfl) (by kernel_rfl) (by kernel_rfl) (fun _ _ _ h => h) rfl (by intro wq hq; (try go_split_ands); go_simp; try with_reducible rfl) (hHeld) ?_; simp only [List.setIfInBounds_toArray, List.set_cons_zero, List.set_cons_succ])
          (refine take_val (i := 1) (v := .pointer (some ⟨g, 0, none⟩)) rfl rfl (by kernel_rfl) (by kernel_rfl) (by kernel_rfl) (fun _ _ _ h => h) rfl (by intro wq hq; (try go_split_ands); go_simp; try with_reducible rfl) (hHeld) ?_; simp only [List.setIfInBounds_toArray, List.set_cons_zero, List.set_cons_succ])
          (refine take_val (i := 2) (v := .pointer (some ⟨g, 0, none⟩)) rfl rfl (by kernel_rfl) (by kernel_rfl) (by kernel_rfl) (fun _ _ _ h => h) rfl (by intro wq hq; (try go_split_ands); go_simp; try with_reducible rfl) (hHeld) ?_; simp only [List.setIfInBounds_toArray, List.set_cons_zero, List.set_cons_succ])
          (refine take_val (i := 3) (v := .int .i64 (R : Int)) rfl rfl (by kernel_rfl) (by kernel_rfl) (by kernel_rfl) (fun _ _ _ h => h) rfl (by intro wq hq; (try go_split_ands); go_simp; try with_reducible rfl) (hHeld) ?_; simp only [List.setIfInBounds_toArray, List.set_cons_zero, List.set_cons_succ])
          (refine take_val (i := 4) (v := .int .i64 (u : Int)) rfl rfl (by kernel_rfl) (by kernel_rfl) (by kernel_rfl) (fun _ _ _ h => h) rfl (by intro wq hq; (try go_split_ands); go_simp; try with_reducible rfl) (hHeld) ?_; simp only [List.setIfInBounds_toArray, List.set_cons_zero, List.set_cons_succ])
          (refine take_val (i := 5) (v := .int .i64 ((R : Int) / 2 ^ u)) rfl rfl (by kernel_rfl) (by kernel_rfl) (by kernel_rfl) (fun _ _ _ h => h) rfl (by intro wq hq; (try go_split_ands); go_simp; try with_reducible rfl) (hHeld) ?_; simp only [List.setIfInBounds_toArray, List.set_cons_zero, List.set_cons_succ])
          (refine take_val (i := 6) (v := .int .i64 1) rfl rfl (by kernel_rfl) (by kernel_rfl) (by kernel_rfl) (fun _ _ _ h => h) rfl (by intro wq hq; (try go_split_ands); go_simp; try with_reducible rfl) (hHeld) ?_; simp only [List.setIfInBounds_toArray, List.set_cons_zero, List.set_cons_succ])
          (refine take_val (i := 7) (v := .bool false) rfl rfl (by kernel_rfl) (by kernel_rfl) (by kernel_rfl) (fun _ _ _ h => h) rfl (by intro wq hq; (try go_split_ands); go_simp; try with_reducible rfl) (hHeld) ?_; simp only [List.setIfInBounds_toArray, List.set_cons_zero, List.set_cons_succ])
          (refine take_val (i := 8) (v := .bool false) rfl rfl (by kernel_rfl) (by kernel_rfl) (by kernel_rfl) (fun _ _ _ h => h) rfl (by intro wq hq; (try go_split_ands); go_simp; try with_reducible rfl) (hHeld) ?_; simp only [List.setIfInBounds_toArray, List.set_cons_zero, List.set_cons_succ])
          (refine take_val (i := 9) (v := .pointer (some ⟨g, 0, none⟩)) rfl rfl (by kernel_rfl) (by kernel_rfl) (by kernel_rfl) (fun _ _ _ h => h) rfl (by intro wq hq; (try go_split_ands); go_simp; try with_reducible rfl) (hHeld) ?_; simp only [List.setIfInBounds_toArray, List.set_cons_zero, List.set_cons_succ])
          (refine take_val (i := 10) (v := .int .i64 (s : Int)) rfl rfl (by kernel_rfl) (by kernel_rfl) (by kernel_rfl) (fun _ _ _ h => h) rfl (by intro wq hq; (try go_split_ands); go_simp; try with_reducible rfl) (hHeld) ?_; simp only [List.setIfInBounds_toArray, List.set_cons_zero, List.set_cons_succ])
          (refine take_val (i := 11) (v := .pointer (some ⟨g, 0, none⟩)) rfl rfl (by kernel_rfl) (by kernel_rfl) (by kernel_rfl) (fun _ _ _ h => h) rfl (by intro wq hq; (try go_split_ands); go_simp; try with_reducible rfl) (hHeld) ?_; simp only [List.setIfInBounds_toArray, List.set_cons_zero, List.set_cons_succ])
          (refine take_val (i := 12) (v := .pointer (some ⟨g, 2, none⟩)) rfl rfl (by kernel_rfl) (by kernel_rfl) (by kernel_rfl) (fun _ _ _ h => h) rfl (by intro wq hq; (try go_split_ands); go_simp; try with_reducible rfl) (hHeld) ?_; simp only [List.setIfInBounds_toArray, List.set_cons_zero, List.set_cons_succ])
          (refine take_val (i := 13) (v := .pointer (some ⟨g, 2 + s, none⟩)) rfl rfl (by kernel_rfl) (by kernel_rfl) (by kernel_rfl) (fun _ _ _ h => h) rfl (by intro wq hq; (try go_split_ands); go_simp; try with_reducible rfl) (hHeld) ?_; simp only [List.setIfInBounds_toArray, List.set_cons_zero, List.set_cons_succ])
          (refine take_val (i := 14) (v := .int .i64 x) rfl rfl (by kernel_rfl) (by kernel_rfl) (by kernel_rfl) (fun _ _ _ h => h) rfl (by intro wq hq; (try go_split_ands); go_simp; try with_reducible rfl) (hHeld) ?_; simp only [List.setIfInBounds_toArray, List.set_cons_zero, List.set_cons_succ])
          (refine take_val (i := 15) (v := .int .i64 (x + 1)) rfl rfl (by kernel_rfl) (by kernel_rfl) (by kernel_rfl) (fun _ _ _ h => h) rfl (by intro wq hq; (try go_split_ands); go_simp; try with_reducible rfl) (hHeld) ?_; simp only [List.setIfInBounds_toArray, List.set_cons_zero, List.set_cons_succ])
          (refine take_val (i := 16) (v := .pointer (some ⟨g, 0, none⟩)) rfl rfl (by kernel_rfl) (by kernel_rfl) (by kernel_rfl) (fun _ _ _ h => h) rfl (by intro wq hq; (try go_split_ands); go_simp; try with_reducible rfl) (hHeld) ?_; simp only [List.setIfInBounds_toArray, List.set_cons_zero, List.set_cons_succ])
          (refine take_val (i := 17) (v := .int .i64 (u : Int)) rfl rfl (by kernel_rfl) (by kernel_rfl) (by kernel_rfl) (fun _ _ _ h => h) rfl (by intro wq hq; (try go_split_ands); go_simp; try with_reducible rfl) (hHeld) ?_; simp only [List.setIfInBounds_toArray, List.set_cons_zero, List.set_cons_succ])
          (refine take_val (i := 18) (v := .pointer (some ⟨g, 0, none⟩)) rfl rfl (by kernel_rfl) (by kernel_rfl) (by kernel_rfl) (fun _ _ _ h => h) rfl (by intro wq hq; (try go_split_ands); go_simp; try with_reducible rfl) (hHeld) ?_; simp only [List.setIfInBounds_toArray, List.set_cons_zero, List.set_cons_succ])
          (refine take_val (i := 19) (v := .pointer (some ⟨g, 2, none⟩)) rfl rfl (by kernel_rfl) (by kernel_rfl) (by kernel_rfl) (fun _ _ _ h => h) rfl (by intro wq hq; (try go_split_ands); go_simp; try with_reducible rfl) (hHeld) ?_; simp only [List.setIfInBounds_toArray, List.set_cons_zero, List.set_cons_succ])
          (refine take_val (i := 20) (v := .pointer (some ⟨g, 2 + u, none⟩)) rfl rfl (by kernel_rfl) (by kernel_rfl) (by kernel_rfl) (fun _ _ _ h => h) rfl (by intro wq hq; (try go_split_ands); go_simp; try with_reducible rfl) (hHeld) ?_; simp only [List.setIfInBounds_toArray, List.set_cons_zero, List.set_cons_succ])
          (refine take_val (i := 21) (v := .int .i64 z) rfl rfl (by kernel_rfl) (by kernel_rfl) (by kernel_rfl) (fun _ _ _ h => h) rfl (by intro wq hq; (try go_split_ands); go_simp; try with_reducible rfl) (hHeld) ?_; simp only [List.setIfInBounds_toArray, List.set_cons_zero, List.set_cons_succ])
          (refine take_val (i := 22) (v := .bool false) rfl rfl (by kernel_rfl) (by kernel_rfl) (by kernel_rfl) (fun _ _ _ h => h) rfl (by intro wq hq; (try go_split_ands); go_simp; try with_reducible rfl) (hHeld) ?_; simp only [List.setIfInBounds_toArray, List.set_cons_zero, List.set_cons_succ])
          (refine take_val (i := 23) (v := .bool false) rfl rfl (by kernel_rfl) (by kernel_rfl) (by kernel_rfl) (fun _ _ _ h => h) rfl (by intro wq hq; (try go_split_ands); go_simp; try with_reducible rfl) (hHeld) ?_; simp only [List.setIfInBounds_toArray, List.set_cons_zero, List.set_cons_succ])
          refine wpAnyH_done (by kernel_rfl) ?_ _
          clear hHeld c0 cse cue hI0 hcs2 hf0 hab
          go_wp2_with fail
          exact ⟨⟨k + 1, R, by omega, by go_num, by rw [HE.out]; exact hLd, hkd⟩, by simp [intOf]; omega⟩
    · obtain rfl : k = n := by omega
      go_wp2_with fail
      exact bodyPost_end (results_none rfl _ _ _) rfl ⟨_, rfl, ⟨R, hLk⟩, hkp⟩

end Go.Proofs.YtphdojebdclonaaDoor
