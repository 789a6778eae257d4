/- Joined texts. No condition. -/
import Derived.Lib.AppendZeros
import Derived.Lib.AppendZerosOnto
import Derived.Test.YtphdojebdclonaaDoorQ23
import Derived.Test.YtphdojebdclonaaDoorQ22
import Derived.Test.YtphdojebdclonaaDoorQ9
import Derived.Test.YtphdojebdclonaaDoorQ8
import Derived.Test.YtphdojebdclonaaDoorQ31
/- The program's reader of codes: one sign. slices.Concat of two rows of integers. The program's readers of codes. No condition. -/
namespace Go.Proofs.YtphdojebdclonaaDoor
set_option linter.unusedSimpArgs false
set_option linter.unusedVariables false
open Go.RowKit

/-- the reader at the place p of the text s -/
def RdB (w : World) (R : Nat) (s : List UInt8) (p : Nat) : Prop := Blk w R 161 #[.string ⟨s.toArray⟩, .int .i64 (p : Int)]

set_option maxHeartbeats 2000000 in
set_option maxRecDepth 100000 in
theorem c_next_end (R : Nat) (s : List UInt8) (p : Nat) (c : Int) (w : World) (h : RdB w R s p) (hp : s.length ≤ p) :
    Calls Tryd.prog 154 #[.pointer (some ⟨R, 0, none⟩), .int .u8 c] w (RetK (.bool false) w) := by
  have hkd := (Kept.refl w).drew
  have B1 := Blk.kept h hkd
  have hge : ¬ (p : Int) < (s.length : Int) := by omega
  go_enter Tryd.func154, Tryd.ntmps154
  go_wp2_with fail
  refine wp_region_held_drew (S := fun w' => w'.cell? ⟨R, 0, none⟩ = some (.string ⟨s.toArray⟩) ∧ w'.cell? ⟨R, 1, none⟩ = some (.int .i64 (p : Int))) (by kernel_rfl) ⟨B1.cell 0, B1.cell 1⟩ (fun hHeld => ?_)
  (refine take_val (i := 0) (v := .pointer (some ⟨R, 0, none⟩)) rfl rfl (by kernel_rfl) (by kernel_rfl) (by kernel_rfl) (fun _ _ _ h => h) rfl (by intro wq hq; (try go_split_ands); go_simp; try with_reducible rfl) (hHeld) ?_; try simp only [List.setIfInBounds_toArray, List.set_cons_zero, List.set_cons_succ])
  (refine take_val (i := 1) (v := .pointer (some ⟨R, 0, none⟩)) rfl rfl (by kernel_rfl) (by kernel_rfl) (by kernel_rfl) (fun _ _ _ h => h) rfl (by intro wq hq; (try go_split_ands); go_simp; try with_reducible rfl) (hHeld) ?_; try simp only [List.setIfInBounds_toArray, List.set_cons_zero, List.set_cons_succ])
  (refine take_val (i := 2) (v := .pointer (some ⟨R, 1, none⟩)) rfl rfl (by kernel_rfl) (by kernel_rfl) (by kernel_rfl) (fun _ _ _ h => h) rfl (by intro wq hq; (try go_split_ands); go_simp; try with_reducible rfl) (hHeld) ?_; try simp only [List.setIfInBounds_toArray, List.set_cons_zero, List.set_cons_succ])
  (refine take_val (i := 3) (v := .int .i64 (p : Int)) rfl rfl (by kernel_rfl) (by kernel_rfl) (by kernel_rfl) (fun _ _ _ h => h) rfl (by intro wq hq; (try go_split_ands); go_simp; try with_reducible rfl) (hHeld) ?_; try simp only [List.setIfInBounds_toArray, List.set_cons_zero, List.set_cons_succ])
  (refine take_val (i := 4) (v := .pointer (some ⟨R, 0, none⟩)) rfl rfl (by kernel_rfl) (by kernel_rfl) (by kernel_rfl) (fun _ _ _ h => h) rfl (by intro wq hq; (try go_split_ands); go_simp; try with_reducible rfl) (hHeld) ?_; try simp only [List.setIfInBounds_toArray, List.set_cons_zero, List.set_cons_succ])
  (refine take_val (i := 5) (v := .pointer (some ⟨R, 0, none⟩)) rfl rfl (by kernel_rfl) (by kernel_rfl) (by kernel_rfl) (fun _ _ _ h => h) rfl (by intro wq hq; (try go_split_ands); go_simp; try with_reducible rfl) (hHeld) ?_; try simp only [List.setIfInBounds_toArray, List.set_cons_zero, List.set_cons_succ])
  (refine take_val (i := 6) (v := .pointer (some ⟨R, 0, none⟩)) rfl rfl (by kernel_rfl) (by kernel_rfl) (by kernel_rfl) (fun _ _ _ h => h) rfl (by intro wq hq; (try go_split_ands); go_simp; try with_reducible rfl) (hHeld) ?_; try simp only [List.setIfInBounds_toArray, List.set_cons_zero, List.set_cons_succ])
  (refine take_val (i := 7) (v := .string ⟨s.toArray⟩) rfl rfl (by kernel_rfl) (by kernel_rfl) (by kernel_rfl) (fun _ _ _ h => h) rfl (by intro wq hq; (try go_split_ands); go_simp; (try with_reducible rfl); (try omega)) (hHeld) ?_; try simp only [List.setIfInBounds_toArray, List.set_cons_zero, List.set_cons_succ])
  (refine take_val (i := 8) (v := .int .i64 (s.length : Int)) rfl rfl (by kernel_rfl) (by kernel_rfl) (by kernel_rfl) (fun _ _ _ h => h) rfl (by intro wq hq; (try go_split_ands); go_simp; try with_reducible rfl) (hHeld) ?_; try simp only [List.setIfInBounds_toArray, List.set_cons_zero, List.set_cons_succ])
  (refine take_val (i := 9) (v := .bool true) rfl rfl (by kernel_rfl) (by kernel_rfl) (by kernel_rfl) (fun _ _ _ h => h) rfl (by intro wq hq; (try go_split_ands); go_simp; try with_reducible rfl) (hHeld) ?_; try simp only [List.setIfInBounds_toArray, List.set_cons_zero, List.set_cons_succ])
  (refine take_val (i := 10) (v := .bool true) rfl rfl (by kernel_rfl) (by kernel_rfl) (by kernel_rfl) (fun _ _ _ h => h) rfl (by intro wq hq; (try go_split_ands); go_simp; try with_reducible rfl) (hHeld) ?_; try simp only [List.setIfInBounds_toArray, List.set_cons_zero, List.set_cons_succ])
  (refine take_skip (i := 11) rfl rfl (by kernel_rfl) (by kernel_rfl) (by kernel_rfl) (fun _ _ _ h => h) rfl (hHeld) ?_; try simp only [List.setIfInBounds_toArray, List.set_cons_zero, List.set_cons_succ])
  (refine take_skip (i := 12) rfl rfl (by kernel_rfl) (by kernel_rfl) (by kernel_rfl) (fun _ _ _ h => h) rfl (hHeld) ?_; try simp only [List.setIfInBounds_toArray, List.set_cons_zero, List.set_cons_succ])
  (refine take_skip (i := 13) rfl rfl (by kernel_rfl) (by kernel_rfl) (by kernel_rfl) (fun _ _ _ h => h) rfl (hHeld) ?_; try simp only [List.setIfInBounds_toArray, List.set_cons_zero, List.set_cons_succ])
  (refine take_skip (i := 14) rfl rfl (by kernel_rfl) (by kernel_rfl) (by kernel_rfl) (fun _ _ _ h => h) rfl (hHeld) ?_; try simp only [List.setIfInBounds_toArray, List.set_cons_zero, List.set_cons_succ])
  (refine take_skip (i := 15) rfl rfl (by kernel_rfl) (by kernel_rfl) (by kernel_rfl) (fun _ _ _ h => h) rfl (hHeld) ?_; try simp only [List.setIfInBounds_toArray, List.set_cons_zero, List.set_cons_succ])
  (refine take_skip (i := 16) rfl rfl (by kernel_rfl) (by kernel_rfl) (by kernel_rfl) (fun _ _ _ h => h) rfl (hHeld) ?_; try simp only [List.setIfInBounds_toArray, List.set_cons_zero, List.set_cons_succ])
  (refine take_skip (i := 17) rfl rfl (by kernel_rfl) (by kernel_rfl) (by kernel_rfl) (fun _ _ _ h => h) rfl (hHeld) ?_; try simp only [List.setIfInBounds_toArray, List.set_cons_zero, List.set_cons_succ])
  (refine take_skip (i := 18) rfl rfl (by kernel_rfl) (by kernel_rfl) (by kernel_rfl) (fun _ _ _ h => h) rfl (hHeld) ?_; try simp only [List.setIfInBounds_toArray, List.set_cons_zero, List.set_cons_succ])
  (refine take_skip (i := 19) rfl rfl (by kernel_rfl) (by kernel_rfl) (by kernel_rfl) (fun _ _ _ h => h) rfl (hHeld) ?_; try simp only [List.setIfInBounds_toArray, List.set_cons_zero, List.set_cons_succ])
  (refine take_skip (i := 20) rfl rfl (by kernel_rfl) (by kernel_rfl) (by kernel_rfl) (fun _ _ _ h => h) rfl (hHeld) ?_; try simp only [List.setIfInBounds_toArray, List.set_cons_zero, List.set_cons_succ])
  (refine take_skip (i := 21) rfl rfl (by kernel_rfl) (by kernel_rfl) (by kernel_rfl) (fun _ _ _ h => h) rfl (hHeld) ?_; try simp only [List.setIfInBounds_toArray, List.set_cons_zero, List.set_cons_succ])
  (refine take_val (i := 22) (v := .bool true) rfl rfl (by kernel_rfl) (by kernel_rfl) (by kernel_rfl) (fun _ _ _ h => h) rfl (by intro wq hq; (try go_split_ands); go_simp; try with_reducible rfl) (hHeld) ?_; try simp only [List.setIfInBounds_toArray, List.set_cons_zero, List.set_cons_succ])
  refine wpAnyH_done (by kernel_rfl) ?_ _
  clear hHeld
  go_wp2_with fail
  go_ret
  exact ⟨rfl, hkd⟩

theorem byte_at {s r : List UInt8} {p : Nat} {x : UInt8} (h : s.drop p = x :: r) : ∃ hp : p < s.length, ((⟨s.toArray⟩ : ByteArray)[p]'(by simpa [ByteArray.size] using hp)) = x ∧ s.drop (p + 1) = r := by
  have hp : p < s.length := by
    rcases Nat.lt_or_ge p s.length with h' | h'
    · exact h'
    · rw [List.drop_of_length_le h'] at h; cases h
  rw [List.drop_eq_getElem_cons hp] at h
  injection h with h1 h2
  exact ⟨hp, h1, h2⟩

set_option maxHeartbeats 2000000 in
set_option maxRecDepth 100000 in
theorem c_next_no (R : Nat) (s r : List UInt8) (p : Nat) (x c : UInt8) (w : World) (h : RdB w R s p) (hs : s.length ≤ 1048576) (hx : s.drop p = x :: r) (hc : x ≠ c) :
    Calls Tryd.prog 154 #[.pointer (some ⟨R, 0, none⟩), .int .u8 (c.toNat : Int)] w (RetK (.bool false) w) := by
  have hkd := (Kept.refl w).drew
  have B1 := Blk.kept h hkd
  obtain ⟨hp, hg, _⟩ := byte_at hx
  have hlt : (p : Int) < (s.length : Int) := by omega
  have hne : (((⟨s.toArray⟩ : ByteArray)[p]'(by simpa [ByteArray.size] using hp)).toNat : Int) ≠ (c.toNat : Int) := by
    rw [hg]; intro e; exact hc (UInt8.toNat_inj.1 (by omega))
  have hnb : ((((⟨s.toArray⟩ : ByteArray)[p]'(by simpa [ByteArray.size] using hp)).toNat : Int) == (c.toNat : Int)) = false := beq_eq_false_iff_ne.2 hne
  clear hg hx
  go_enter Tryd.func154, Tryd.ntmps154
  go_wp2_with fail
  refine wp_region_held_drew (S := fun w' => w'.cell? ⟨R, 0, none⟩ = some (.string ⟨s.toArray⟩) ∧ w'.cell? ⟨R, 1, none⟩ = some (.int .i64 (p : Int))) (by kernel_rfl) ⟨B1.cell 0, B1.cell 1⟩ (fun hHeld => ?_)
  (refine take_val (i := 0) (v := .pointer (some ⟨R, 0, none⟩)) rfl rfl (by kernel_rfl) (by kernel_rfl) (by kernel_rfl) (fun _ _ _ h => h) rfl (by intro wq hq; (try go_split_ands); go_simp; try with_reducible rfl) (hHeld) ?_; try simp only [List.setIfInBounds_toArray, List.set_cons_zero, List.set_cons_succ])
  (refine take_val (i := 1) (v := .pointer (some ⟨R, 0, none⟩)) rfl rfl (by kernel_rfl) (by kernel_rfl) (by kernel_rfl) (fun _ _ _ h => h) rfl (by intro wq hq; (try go_split_ands); go_simp; try with_reducible rfl) (hHeld) ?_; try simp only [List.setIfInBounds_toArray, List.set_cons_zero, List.set_cons_succ])
  (refine take_val (i := 2) (v := .pointer (some ⟨R, 1, none⟩)) rfl rfl (by kernel_rfl) (by kernel_rfl) (by kernel_rfl) (fun _ _ _ h => h) rfl (by intro wq hq; (try go_split_ands); go_simp; try with_reducible rfl) (hHeld) ?_; try simp only [List.setIfInBounds_toArray, List.set_cons_zero, List.set_cons_succ])
  (refine take_val (i := 3) (v := .int .i64 (p : Int)) rfl rfl (by kernel_rfl) (by kernel_rfl) (by kernel_rfl) (fun _ _ _ h => h) rfl (by intro wq hq; (try go_split_ands); go_simp; try with_reducible rfl) (hHeld) ?_; try simp only [List.setIfInBounds_toArray, List.set_cons_zero, List.set_cons_succ])
  (refine take_val (i := 4) (v := .pointer (some ⟨R, 0, none⟩)) rfl rfl (by kernel_rfl) (by kernel_rfl) (by kernel_rfl) (fun _ _ _ h => h) rfl (by intro wq hq; (try go_split_ands); go_simp; try with_reducible rfl) (hHeld) ?_; try simp only [List.setIfInBounds_toArray, List.set_cons_zero, List.set_cons_succ])
  (refine take_val (i := 5) (v := .pointer (some ⟨R, 0, none⟩)) rfl rfl (by kernel_rfl) (by kernel_rfl) (by kernel_rfl) (fun _ _ _ h => h) rfl (by intro wq hq; (try go_split_ands); go_simp; try with_reducible rfl) (hHeld) ?_; try simp only [List.setIfInBounds_toArray, List.set_cons_zero, List.set_cons_succ])
  (refine take_val (i := 6) (v := .pointer (some ⟨R, 0, none⟩)) rfl rfl (by kernel_rfl) (by kernel_rfl) (by kernel_rfl) (fun _ _ _ h => h) rfl (by intro wq hq; (try go_split_ands); go_simp; try with_reducible rfl) (hHeld) ?_; try simp only [List.setIfInBounds_toArray, List.set_cons_zero, List.set_cons_succ])
  (refine take_val (i := 7) (v := .string ⟨s.toArray⟩) rfl rfl (by kernel_rfl) (by kernel_rfl) (by kernel_rfl) (fun _ _ _ h => h) rfl (by intro wq hq; (try go_split_ands); go_simp; (try with_reducible rfl); (try omega)) (hHeld) ?_; try simp only [List.setIfInBounds_toArray, List.set_cons_zero, List.set_cons_succ])
  (refine take_val (i := 8) (v := .int .i64 (s.length : Int)) rfl rfl (by kernel_rfl) (by kernel_rfl) (by kernel_rfl) (fun _ _ _ h => h) rfl (by intro wq hq; (try go_split_ands); go_simp; try with_reducible rfl) (hHeld) ?_; try simp only [List.setIfInBounds_toArray, List.set_cons_zero, List.set_cons_succ])
  (refine take_val (i := 9) (v := .bool false) rfl rfl (by kernel_rfl) (by kernel_rfl) (by kernel_rfl) (fun _ _ _ h => h) rfl (by intro wq hq; (try go_split_ands); go_simp; try with_reducible rfl) (hHeld) ?_; try simp only [List.setIfInBounds_toArray, List.set_cons_zero, List.set_cons_succ])
  (refine take_val (i := 10) (v := .bool false) rfl rfl (by kernel_rfl) (by kernel_rfl) (by kernel_rfl) (fun _ _ _ h => h) rfl (by intro wq hq; (try go_split_ands); go_simp; try with_reducible rfl) (hHeld) ?_; try simp only [List.setIfInBounds_toArray, List.set_cons_zero, List.set_cons_succ])
  (refine take_val (i := 11) (v := .pointer (some ⟨R, 0, none⟩)) rfl rfl (by kernel_rfl) (by kernel_rfl) (by kernel_rfl) (fun _ _ _ h => h) rfl (by intro wq hq; (try go_split_ands); go_simp; try with_reducible rfl) (hHeld) ?_; try simp only [List.setIfInBounds_toArray, List.set_cons_zero, List.set_cons_succ])
  (refine take_val (i := 12) (v := .pointer (some ⟨R, 0, none⟩)) rfl rfl (by kernel_rfl) (by kernel_rfl) (by kernel_rfl) (fun _ _ _ h => h) rfl (by intro wq hq; (try go_split_ands); go_simp; try with_reducible rfl) (hHeld) ?_; try simp only [List.setIfInBounds_toArray, List.set_cons_zero, List.set_cons_succ])
  (refine take_val (i := 13) (v := .pointer (some ⟨R, 0, none⟩)) rfl rfl (by kernel_rfl) (by kernel_rfl) (by kernel_rfl) (fun _ _ _ h => h) rfl (by intro wq hq; (try go_split_ands); go_simp; try with_reducible rfl) (hHeld) ?_; try simp only [List.setIfInBounds_toArray, List.set_cons_zero, List.set_cons_succ])
  (refine take_val (i := 14) (v := .string ⟨s.toArray⟩) rfl rfl (by kernel_rfl) (by kernel_rfl) (by kernel_rfl) (fun _ _ _ h => h) rfl (by intro wq hq; (try go_split_ands); go_simp; (try with_reducible rfl); (try omega)) (hHeld) ?_; try simp only [List.setIfInBounds_toArray, List.set_cons_zero, List.set_cons_succ])
  (refine take_val (i := 15) (v := .pointer (some ⟨R, 0, none⟩)) rfl rfl (by kernel_rfl) (by kernel_rfl) (by kernel_rfl) (fun _ _ _ h => h) rfl (by intro wq hq; (try go_split_ands); go_simp; try with_reducible rfl) (hHeld) ?_; try simp only [List.setIfInBounds_toArray, List.set_cons_zero, List.set_cons_succ])
  (refine take_val (i := 16) (v := .pointer (some ⟨R, 0, none⟩)) rfl rfl (by kernel_rfl) (by kernel_rfl) (by kernel_rfl) (fun _ _ _ h => h) rfl (by intro wq hq; (try go_split_ands); go_simp; try with_reducible rfl) (hHeld) ?_; try simp only [List.setIfInBounds_toArray, List.set_cons_zero, List.set_cons_succ])
  (refine take_val (i := 17) (v := .pointer (some ⟨R, 1, none⟩)) rfl rfl (by kernel_rfl) (by kernel_rfl) (by kernel_rfl) (fun _ _ _ h => h) rfl (by intro wq hq; (try go_split_ands); go_simp; try with_reducible rfl) (hHeld) ?_; try simp only [List.setIfInBounds_toArray, List.set_cons_zero, List.set_cons_succ])
  (refine take_val (i := 18) (v := .int .i64 (p : Int)) rfl rfl (by kernel_rfl) (by kernel_rfl) (by kernel_rfl) (fun _ _ _ h => h) rfl (by intro wq hq; (try go_split_ands); go_simp; try with_reducible rfl) (hHeld) ?_; try simp only [List.setIfInBounds_toArray, List.set_cons_zero, List.set_cons_succ])
  (refine take_val (i := 19) (v := .int .u8 (((⟨s.toArray⟩ : ByteArray)[p]'(by simpa [ByteArray.size] using hp)).toNat : Int)) rfl rfl (by kernel_rfl) (by kernel_rfl) (by kernel_rfl) (fun _ _ _ h => h) rfl (by intro wq hq; (try go_split_ands); go_simp; try with_reducible rfl) (hHeld) ?_; try simp only [List.setIfInBounds_toArray, List.set_cons_zero, List.set_cons_succ])
  (refine take_val (i := 20) (v := .int .u8 (c.toNat : Int)) rfl rfl (by kernel_rfl) (by kernel_rfl) (by kernel_rfl) (fun _ _ _ h => h) rfl (by intro wq hq; (try go_split_ands); go_simp; try with_reducible rfl) (hHeld) ?_; try simp only [List.setIfInBounds_toArray, List.set_cons_zero, List.set_cons_succ])
  (refine take_val (i := 21) (v := .bool true) rfl rfl (by kernel_rfl) (by kernel_rfl) (by kernel_rfl) (fun _ _ _ h => h) rfl (by intro wq hq; (try go_split_ands); go_simp; try with_reducible rfl) (hHeld) ?_; try simp only [List.setIfInBounds_toArray, List.set_cons_zero, List.set_cons_succ])
  (refine take_val (i := 22) (v := .bool true) rfl rfl (by kernel_rfl) (by kernel_rfl) (by kernel_rfl) (fun _ _ _ h => h) rfl (by intro wq hq; (try go_split_ands); go_simp; try with_reducible rfl) (hHeld) ?_; try simp only [List.setIfInBounds_toArray, List.set_cons_zero, List.set_cons_succ])
  refine wpAnyH_done (by kernel_rfl) ?_ _
  clear hHeld
  go_wp2_with fail
  go_ret
  exact ⟨rfl, hkd⟩

set_option maxHeartbeats 2000000 in
set_option maxRecDepth 100000 in
theorem c_next_yes (R : Nat) (s r : List UInt8) (p : Nat) (c : UInt8) (w : World) (h : RdB w R s p) (hs : s.length ≤ 1048576) (hx : s.drop p = c :: r) :
    Calls Tryd.prog 154 #[.pointer (some ⟨R, 0, none⟩), .int .u8 (c.toNat : Int)] w (fun e w' => e = .returned (.bool true) ∧ w' = w.drew.setCell ⟨R, 1, none⟩ (.int .i64 ((p + 1 : Nat) : Int))) := by
  have hkd := (Kept.refl w).drew
  have B1 := Blk.kept h hkd
  obtain ⟨hp, hg, _⟩ := byte_at hx
  have hlt : (p : Int) < (s.length : Int) := by omega
  have hnb : (((⟨s.toArray⟩ : ByteArray)[p]'(by simpa [ByteArray.size] using hp)).toNat : Int) = (c.toNat : Int) := by rw [hg]
  have f1 := B1.frozen 1
  have hw : IntKind.i64.wrap ((p : Int) + 1) = ((p + 1 : Nat) : Int) := by rw [IntKind.wrap_i64]; omega
  clear hg hx
  go_enter Tryd.func154, Tryd.ntmps154
  go_wp2_with fail
  refine wp_region_held_drew (S := fun w' => w'.cell? ⟨R, 0, none⟩ = some (.string ⟨s.toArray⟩) ∧ w'.cell? ⟨R, 1, none⟩ = some (.int .i64 (p : Int))) (by kernel_rfl) ⟨B1.cell 0, B1.cell 1⟩ (fun hHeld => ?_)
  (refine take_val (i := 0) (v := .pointer (some ⟨R, 0, none⟩)) rfl rfl (by kernel_rfl) (by kernel_rfl) (by kernel_rfl) (fun _ _ _ h => h) rfl (by intro wq hq; (try go_split_ands); go_simp; try with_reducible rfl) (hHeld) ?_; try simp only [List.setIfInBounds_toArray, List.set_cons_zero, List.set_cons_succ])
  (refine take_val (i := 1) (v := .pointer (some ⟨R, 0, none⟩)) rfl rfl (by kernel_rfl) (by kernel_rfl) (by kernel_rfl) (fun _ _ _ h => h) rfl (by intro wq hq; (try go_split_ands); go_simp; try with_reducible rfl) (hHeld) ?_; try simp only [List.setIfInBounds_toArray, List.set_cons_zero, List.set_cons_succ])
  (refine take_val (i := 2) (v := .pointer (some ⟨R, 1, none⟩)) rfl rfl (by kernel_rfl) (by kernel_rfl) (by kernel_rfl) (fun _ _ _ h => h) rfl (by intro wq hq; (try go_split_ands); go_simp; try with_reducible rfl) (hHeld) ?_; try simp only [List.setIfInBounds_toArray, List.set_cons_zero, List.set_cons_succ])
  (refine take_val (i := 3) (v := .int .i64 (p : Int)) rfl rfl (by kernel_rfl) (by kernel_rfl) (by kernel_rfl) (fun _ _ _ h => h) rfl (by intro wq hq; (try go_split_ands); go_simp; try with_reducible rfl) (hHeld) ?_; try simp only [List.setIfInBounds_toArray, List.set_cons_zero, List.set_cons_succ])
  (refine take_val (i := 4) (v := .pointer (some ⟨R, 0, none⟩)) rfl rfl (by kernel_rfl) (by kernel_rfl) (by kernel_rfl) (fun _ _ _ h => h) rfl (by intro wq hq; (try go_split_ands); go_simp; try with_reducible rfl) (hHeld) ?_; try simp only [List.setIfInBounds_toArray, List.set_cons_zero, List.set_cons_succ])
  (refine take_val (i := 5) (v := .pointer (some ⟨R, 0, none⟩)) rfl rfl (by kernel_rfl) (by kernel_rfl) (by kernel_rfl) (fun _ _ _ h => h) rfl (by intro wq hq; (try go_split_ands); go_simp; try with_reducible rfl) (hHeld) ?_; try simp only [List.setIfInBounds_toArray, List.set_cons_zero, List.set_cons_succ])
  (refine take_val (i := 6) (v := .pointer (some ⟨R, 0, none⟩)) rfl rfl (by kernel_rfl) (by kernel_rfl) (by kernel_rfl) (fun _ _ _ h => h) rfl (by intro wq hq; (try go_split_ands); go_simp; try with_reducible rfl) (hHeld) ?_; try simp only [List.setIfInBounds_toArray, List.set_cons_zero, List.set_cons_succ])
  (refine take_val (i := 7) (v := .string ⟨s.toArray⟩) rfl rfl (by kernel_rfl) (by kernel_rfl) (by kernel_rfl) (fun _ _ _ h => h) rfl (by intro wq hq; (try go_split_ands); go_simp; (try with_reducible rfl); (try omega)) (hHeld) ?_; try simp only [List.setIfInBounds_toArray, List.set_cons_zero, List.set_cons_succ])
  (refine take_val (i := 8) (v := .int .i64 (s.length : Int)) rfl rfl (by kernel_rfl) (by kernel_rfl) (by kernel_rfl) (fun _ _ _ h => h) rfl (by intro wq hq; (try go_split_ands); go_simp; try with_reducible rfl) (hHeld) ?_; try simp only [List.setIfInBounds_toArray, List.set_cons_zero, List.set_cons_succ])
  (refine take_val (i := 9) (v := .bool false) rfl rfl (by kernel_rfl) (by kernel_rfl) (by kernel_rfl) (fun _ _ _ h => h) rfl (by intro wq hq; (try go_split_ands); go_simp; try with_reducible rfl) (hHeld) ?_; try simp only [List.setIfInBounds_toArray, List.set_cons_zero, List.set_cons_succ])
  (refine take_val (i := 10) (v := .bool false) rfl rfl (by kernel_rfl) (by kernel_rfl) (by kernel_rfl) (fun _ _ _ h => h) rfl (by intro wq hq; (try go_split_ands); go_simp; try with_reducible rfl) (hHeld) ?_; try simp only [List.setIfInBounds_toArray, List.set_cons_zero, List.set_cons_succ])
  (refine take_val (i := 11) (v := .pointer (some ⟨R, 0, none⟩)) rfl rfl (by kernel_rfl) (by kernel_rfl) (by kernel_rfl) (fun _ _ _ h => h) rfl (by intro wq hq; (try go_split_ands); go_simp; try with_reducible rfl) (hHeld) ?_; try simp only [List.setIfInBounds_toArray, List.set_cons_zero, List.set_cons_succ])
  (refine take_val (i := 12) (v := .pointer (some ⟨R, 0, none⟩)) rfl rfl (by kernel_rfl) (by kernel_rfl) (by kernel_rfl) (fun _ _ _ h => h) rfl (by intro wq hq; (try go_split_ands); go_simp; try with_reducible rfl) (hHeld) ?_; try simp only [List.setIfInBounds_toArray, List.set_cons_zero, List.set_cons_succ])
  (refine take_val (i := 13) (v := .pointer (some ⟨R, 0, none⟩)) rfl rfl (by kernel_rfl) (by kernel_rfl) (by kernel_rfl) (fun _ _ _ h => h) rfl (by intro wq hq; (try go_split_ands); go_simp; try with_reducible rfl) (hHeld) ?_; try simp only [List.setIfInBounds_toArray, List.set_cons_zero, List.set_cons_succ])
  (refine take_val (i := 14) (v := .string ⟨s.toArray⟩) rfl rfl (by kernel_rfl) (by kernel_rfl) (by kernel_rfl) (fun _ _ _ h => h) rfl (by intro wq hq; (try go_split_ands); go_simp; (try with_reducible rfl); (try omega)) (hHeld) ?_; try simp only [List.setIfInBounds_toArray, List.set_cons_zero, List.set_cons_succ])
  (refine take_val (i := 15) (v := .pointer (some ⟨R, 0, none⟩)) rfl rfl (by kernel_rfl) (by kernel_rfl) (by kernel_rfl) (fun _ _ _ h => h) rfl (by intro wq hq; (try go_split_ands); go_simp; try with_reducible rfl) (hHeld) ?_; try simp only [List.setIfInBounds_toArray, List.set_cons_zero, List.set_cons_succ])
  (refine take_val (i := 16) (v := .pointer (some ⟨R, 0, none⟩)) rfl rfl (by kernel_rfl) (by kernel_rfl) (by kernel_rfl) (fun _ _ _ h => h) rfl (by intro wq hq; (try go_split_ands); go_simp; try with_reducible rfl) (hHeld) ?_; try simp only [List.setIfInBounds_toArray, List.set_cons_zero, List.set_cons_succ])
  (refine take_val (i := 17) (v := .pointer (some ⟨R, 1, none⟩)) rfl rfl (by kernel_rfl) (by kernel_rfl) (by kernel_rfl) (fun _ _ _ h => h) rfl (by intro wq hq; (try go_split_ands); go_simp; try with_reducible rfl) (hHeld) ?_; try simp only [List.setIfInBounds_toArray, List.set_cons_zero, List.set_cons_succ])
  (refine take_val (i := 18) (v := .int .i64 (p : Int)) rfl rfl (by kernel_rfl) (by kernel_rfl) (by kernel_rfl) (fun _ _ _ h => h) rfl (by intro wq hq; (try go_split_ands); go_simp; try with_reducible rfl) (hHeld) ?_; try simp only [List.setIfInBounds_toArray, List.set_cons_zero, List.set_cons_succ])
  (refine take_val (i := 19) (v := .int .u8 (((⟨s.toArray⟩ : ByteArray)[p]'(by simpa [ByteArray.size] using hp)).toNat : Int)) rfl rfl (by kernel_rfl) (by kernel_rfl) (by kernel_rfl) (fun _ _ _ h => h) rfl (by intro wq hq; (try go_split_ands); go_simp; try with_reducible rfl) (hHeld) ?_; try simp only [List.setIfInBounds_toArray, List.set_cons_zero, List.set_cons_succ])
  (refine take_val (i := 20) (v := .int .u8 (c.toNat : Int)) rfl rfl (by kernel_rfl) (by kernel_rfl) (by kernel_rfl) (fun _ _ _ h => h) rfl (by intro wq hq; (try go_split_ands); go_simp; try with_reducible rfl) (hHeld) ?_; try simp only [List.setIfInBounds_toArray, List.set_cons_zero, List.set_cons_succ])
  (refine take_val (i := 21) (v := .bool false) rfl rfl (by kernel_rfl) (by kernel_rfl) (by kernel_rfl) (fun _ _ _ h => h) rfl (by intro wq hq; (try go_split_ands); go_simp; try with_reducible rfl) (hHeld) ?_; try simp only [List.setIfInBounds_toArray, List.set_cons_zero, List.set_cons_succ])
  (refine take_val (i := 22) (v := .bool false) rfl rfl (by kernel_rfl) (by kernel_rfl) (by kernel_rfl) (fun _ _ _ h => h) rfl (by intro wq hq; (try go_split_ands); go_simp; try with_reducible rfl) (hHeld) ?_; try simp only [List.setIfInBounds_toArray, List.set_cons_zero, List.set_cons_succ])
  refine wpAnyH_done (by kernel_rfl) ?_ _
  have c1 := B1.cell 1
  clear hHeld
  go_wp2_with fail
  go_ret
  exact ⟨rfl, rfl⟩

end Go.Proofs.YtphdojebdclonaaDoor

namespace Go.Proofs.YtphdojebdclonaaDoor
set_option linter.unusedSimpArgs false
set_option linter.unusedVariables false
open Go.RowKit

theorem ints_cells1 (l : List Int) : ∀ u ∈ l.map (Value.int .i64), u.oneCell' = true := by
  intro u hu
  rw [List.mem_map] at hu
  obtain ⟨x, _, rfl⟩ := hu
  rfl
section
variable {P : Program} (w : World)
/-- an append of integers that came in, or of none, to a row of one's own: one operation -/
theorem wp_app_ints {o : Oper} {a : Act} {K : Act → World → Prop} {Q : Exit → Act → World → Prop} (s x : Operand) (t : TypeId)
    (ho : o.op = .call { callee := .builtin .append, args := #[s, x], argTypes := #[t, t] })
    (base : Nat) (e : TypeId) (i : TypeInfo) (z : Value) (ht : P.underlying t = some (.slice e)) (hi : P.info? e = some i) (hz : i.zero = some z)
    (hsize : i.size = 1) (hby : i.bytes = 8) (hzs : z.cells.size = 1)
    (v : Value) (n : Nat) (xs : List Value) (hs : a.eval s = v) (hown : w.ownsRow base e 1 v n xs)
    (A : Option Addr) (m c : Nat) (l : List Int) (hx : a.eval x = .slice A m c) (hI : Ints w A m l) (k : Nat) (hk : n + m = k)
    (h63 : n + m ≤ maxLen) (hbytes : (n + m) * 8 ≤ 140737488355328) (hbase : base ≤ w.heap.size)
    (h : ∀ v' w', w'.ownsRow base e 1 v' k (xs ++ l.map (Value.int .i64)) → w.grownBy w' v.ownBlock → (v'.ownBlock = v.ownBlock ∨ v'.ownBlock = some w.heap.size) → K (a.put o.dst v') w') : Oper.wp P o a w K Q := by
  subst hk
  by_cases hm : 0 < m
  · obtain ⟨b, off, rfl, hb, hc⟩ := hI.2.2.2 hm
    refine wp_append_own_at w s x t ho base e i z 1 8 ht hi hz hsize hby hzs (by decide) v n xs hs hown ⟨b, off, none⟩ m c (l.map (Value.int .i64)) hx (by rw [List.length_map, hI.1, Nat.mul_one]) (fun j u hj => ?_) (ints_cells1 l) h63 hbytes hbase fun v' w' h2 h3 h4 => h v' w' h2 h3 h4
    rw [List.getElem?_map] at hj
    have hlt : j < l.length := by
      refine Classical.byContradiction fun hn => ?_
      rw [List.getElem?_eq_none (by omega)] at hj
      cases hj
    rw [List.getElem?_eq_getElem hlt] at hj
    injection hj with hj
    have h5 := hc j (by rw [← hI.1]; exact hlt)
    have e2 : ((⟨b, off, none⟩ : Addr).add j) = ⟨b, off + j, none⟩ := by
      unfold Addr.add
      split
      · rename_i h0; subst h0; rfl
      · rfl
    rw [e2, h5, ← hj, List.getD_eq_getElem?_getD, List.getElem?_eq_getElem hlt]; rfl
  · obtain rfl : m = 0 := by omega
    have hl : l = [] := List.eq_nil_of_length_eq_zero hI.1
    subst hl
    have hrun : ∀ ty, (Builtin.append_ #[t, t] ty #[v, .slice A 0 c]).run P w = .ok v w := by
      intro ty
      rcases hown.2 with ⟨rfl, rfl⟩ | ⟨g, cap, cur, rfl, _, _, hnc, _⟩ <;> cases A <;> simp [Builtin.append_, run_underlying ht, sizeOf, typeInfo, hi, Builtin.lenOf, Builtin.firstCells, storeCells, loadCells, loadCellsFrom, *]
    unfold Oper.wp execOp
    simp only [ho, resolve, invoke, builtin, Sem.run_bind, Sem.run_pure, Result.andThen_ok, List.map_toArray, List.map_cons, List.map_nil, hs, hx, hrun]
    exact h v w (by simpa using hown) (World.grownBy.refl w _) (.inl rfl)
theorem wpList_app_ints {ops : Array Oper} {rest : List Oper} {o : Oper} {a : Act} {Q : Exit → Act → World → Prop} (hgd : o.guard = none) (s x : Operand) (t : TypeId)
    (ho : o.op = .call { callee := .builtin .append, args := #[s, x], argTypes := #[t, t] })
    (base : Nat) (e : TypeId) (i : TypeInfo) (z : Value) (ht : P.underlying t = some (.slice e)) (hi : P.info? e = some i) (hz : i.zero = some z)
    (hsize : i.size = 1) (hby : i.bytes = 8) (hzs : z.cells.size = 1)
    (v : Value) (n : Nat) (xs : List Value) (hs : a.eval s = v) (hown : w.ownsRow base e 1 v n xs)
    (A : Option Addr) (m c : Nat) (l : List Int) (hx : a.eval x = .slice A m c) (hI : Ints w A m l) (k : Nat) (hk : n + m = k)
    (h63 : n + m ≤ maxLen) (hbytes : (n + m) * 8 ≤ 140737488355328) (hbase : base ≤ w.heap.size)
    (h : ∀ v' w', w'.ownsRow base e 1 v' k (xs ++ l.map (Value.int .i64)) → w.grownBy w' v.ownBlock → (v'.ownBlock = v.ownBlock ∨ v'.ownBlock = some w.heap.size) → wpList P ops Q rest (a.put o.dst v') w') : wpList P ops Q (o :: rest) a w := by
  refine wpList_plain hgd fun K hK => ?_
  exact wp_app_ints w s x t ho base e i z ht hi hz hsize hby hzs v n xs hs hown A m c l hx hI k hk h63 hbytes hbase fun v' w' h2 h3 h4 => hK _ _ (h v' w' h2 h3 h4)
end

set_option maxHeartbeats 2000000 in
set_option maxRecDepth 100000 in
theorem c_growInts (n : Nat) (w : World) (hn : n ≤ 1048576) : Calls Tryd.prog 168 #[.slice none 0 0, .int .i64 (n : Int)] w
    (fun e w' => ∃ A c, e = .returned (.slice A 0 c) ∧ w'.ownsRow w.heap.size 3 1 (.slice A 0 c) 0 [] ∧ Kept w w') := by
  obtain ⟨i0, hi0, hz0, hz1, hz2⟩ := info_parts info_int
  by_cases h0 : n = 0
  · subst h0
    clear hi0 hz0 hz1 hz2
    go_enter Tryd.func168, Tryd.ntmps168
    go_wp2_with fail
    go_ret
    exact ⟨_, _, rfl, World.ownsRow_nil _ _ _ _, Kept.refl _⟩
  obtain ⟨G, hG⟩ : ∃ G, G = grownCap w n 0 3 := ⟨_, rfl⟩
  have hGn : n ≤ G := by rw [hG]; exact grownCap_ge w _ _ _
  have hGm : G ≤ maxLen := by rw [hG]; exact grownCap_le_maxLen w n 0 _ (by unfold maxLen; omega)
  have hG63 : G ≤ 9223372036854775807 := by unfold maxLen at hGm; omega
  have HGm := Lib.hid hGm
  have hrz : ∃ cur : Array Value, cur.size = G * 1 ∧ ∀ ty, (Builtin.append_ #[23, 3] ty #[.slice none 0 0, .int .i64 (n : Int)]).run Tryd.prog w = .ok (.slice (some ⟨w.heap.size, 0, none⟩) n G) (w.drew.alloc (.cells cur 3)) := by
    have hfit := growslice_fits (need := 0 + n) (old := 0) (bytes := 8) (by omega) (by omega)
    refine ⟨([] : List Value).toArray ++ Builtin.zeroCells (Value.int .i64 0).cells n ++ Builtin.zeroCells (Value.int .i64 0).cells (grownCap w n 0 3 - n), ?_, fun ty => ?_⟩
    rotate_left
    · have h := Lib.run_append_grow_zeros (P := Tryd.prog) w 23 3 ty 3 i0 _ .i64 .i64 Tryd.underlying23 Tryd.underlying3 hi0 hz0 none 0 0 [] (run_firstCells_none w.drew i0.size 0 0 0) n (by omega) (by rw [hz1]; decide) (by omega) (by omega) (by rw [hz2]; omega) (by rw [hz2]; exact hfit)
      rw [show 0 + n = n by omega] at h
      rw [hG]
      exact h
    · rw [← hG]
      have hzs : (Value.int .i64 0).cells.size = 1 := rfl
      simp only [Array.size_append, size_zeroCells, hzs]
      show 0 + n * 1 + (G - n) * 1 = G * 1
      omega
  obtain ⟨cur, hcur, hrun⟩ := hrz
  have HC := Lib.hid hcur
  have h1 : ¬ ((n : Int) < 0) := by omega
  have h4 : (0 : Int) < (n : Int) := by omega
  have h5 : IntKind.i64.wrap (n : Int) = (n : Int) := by rw [IntKind.wrap_i64]; omega
  clear hG hcur hi0 hz0 hz1 hz2 hGm
  go_enter Tryd.func168, Tryd.ntmps168
  go_wp2_with (at_builtin; refine Lib.wpList_append_run _ rfl _ _ _ _ rfl _ _ rfl rfl _ _ (hrun _) ?_)
  all_goals (go_ret; exact ⟨_, _, rfl, World.ownsRow_made w.drew cur G (Nat.le_refl _) HGm.out HC.out, ((Kept.refl w).drew).alloc _⟩)

theorem own_ints2 {w : World} {X : Nat} {A : Option Addr} {n c : Nat} {l : List Int} (hn : n ≤ 1048576) (ho : w.ownsRow X 3 1 (.slice A n c) n (l.map (Value.int .i64))) (hi : ∀ x ∈ l, Sp.inI x) : Ints w A n l := by
  have hl : l.length = n := by have := ho.1; simpa using this
  refine ⟨hl, by unfold maxLen; omega, hi, fun h0 => ?_⟩
  obtain ⟨_, g, rfl, _, h3⟩ := own_row ho h0
  obtain ⟨h4, h5⟩ := h3
  exact ⟨g, 0, rfl, h5.1, fun k hk => by rw [Nat.zero_add]; exact h5.2.2 k hk⟩

set_option maxHeartbeats 2000000 in
set_option maxRecDepth 100000 in
theorem c_concatInts (E c1 c2 n1 n2 : Nat) (A1 A2 : Option Addr) (l1 l2 : List Int) (w : World) (h1 : Ints w A1 n1 l1) (h2 : Ints w A2 n2 l2) (hn1 : n1 ≤ 1000) (hn2 : n2 ≤ 1000) (hE : E < w.heap.size)
    (e0 : w.cell? ⟨E, 0, none⟩ = some (.slice A1 n1 c1)) (e1 : w.cell? ⟨E, 1, none⟩ = some (.slice A2 n2 c2)) :
    Calls Tryd.prog 155 #[.slice (some ⟨E, 0, none⟩) 2 2] w (RetS (fun v w' => ∃ A c, v = .slice A (n1 + n2) c ∧ w'.ownsRow w.heap.size 3 1 (.slice A (n1 + n2) c) (n1 + n2) ((l1 ++ l2).map (Value.int .i64))) w) := by
  obtain ⟨i0, hi0, hz0, hz1, hz2⟩ := info_parts info_int
  have HI := Lib.hid (And.intro hi0 (And.intro hz0 (And.intro hz1 hz2)))
  clear hi0 hz0 hz1 hz2
  have hw1 : IntKind.i64.wrap (n1 : Int) = (n1 : Int) := by rw [IntKind.wrap_i64]; omega
  have hw2 : IntKind.i64.wrap ((n1 : Int) + (n2 : Int)) = ((n1 + n2 : Nat) : Int) := by rw [IntKind.wrap_i64]; omega
  have hp1 : ¬ (n1 : Int) < 0 := by omega
  have hp2 : ¬ ((n1 + n2 : Nat) : Int) < 0 := by omega
  go_enter Tryd.func155, Tryd.ntmps155
  go_wp2_with fail
  go_loop [11, 3] (fun i s => (i = .int .i64 0 ∧ s = .int .i64 0) ∨ (i = .int .i64 1 ∧ s = .int .i64 (n1 : Int)) ∨ (i = .int .i64 2 ∧ s = .int .i64 ((n1 + n2 : Nat) : Int))) (fun i _ => 2 - (intOf i).toNat)
  case atStart => exact .inl ⟨rfl, rfl⟩
  case round =>
    rcases hrel with ⟨rfl, rfl⟩ | ⟨rfl, rfl⟩ | ⟨rfl, rfl⟩
    · go_wp2_with fail
      exact ⟨.inr (.inl ⟨rfl, rfl⟩), by simp [intOf]⟩
    · go_wp2_with fail
      exact ⟨.inr (.inr ⟨rfl, rfl⟩), by simp [intOf]⟩
    · go_wp2_with fail
      refine (c_growInts (n1 + n2) _ (by omega)).mono ?_; rintro e w1 ⟨A0, c0, rfl, hown0, hk0⟩
      have hE0 := Nat.lt_of_lt_of_le hE hk0.size
      go_wp2_with fail
      go_loopw [27, 6] (fun i v wr => ∃ (j m : Nat) (A : Option Addr) (c : Nat) (xs : List Value), i = .int .i64 (j : Int) ∧ v = .slice A m c ∧ wr.ownsRow w.heap.size 3 1 (.slice A m c) m xs ∧ Kept w wr ∧ Hid ((j = 0 ∧ 0 = m ∧ xs = []) ∨ (j = 1 ∧ n1 = m ∧ xs = l1.map (Value.int .i64)) ∨ (j = 2 ∧ n1 + n2 = m ∧ xs = l1.map (Value.int .i64) ++ l2.map (Value.int .i64)))) (fun i _ _ => 2 - (intOf i).toNat)
      case atStart => exact ⟨0, 0, A0, c0, [], rfl, rfl, hown0, hk0, .inl ⟨rfl, rfl, rfl⟩⟩
      case round =>
        clear hown0 hk0
        obtain ⟨j, m, A, c, xs, rfl, rfl, hown, hkp, HJ⟩ := hrel
        have hsz := hkp.size
        have hR1 := h1.keep hkp
        have hR2 := h2.keep hkp
        have d0 := hkp.at_ e0
        have d1 := hkp.at_ e1
        rcases HJ.out with ⟨rfl, rfl, rfl⟩ | ⟨rfl, rfl, rfl⟩ | ⟨rfl, rfl, rfl⟩
        · clear HJ
          go_wp2_with (at_builtin; refine wpList_app_ints _ rfl (.tmp 31) (.tmp 32) 23 rfl w.heap.size 3 i0 (.int .i64 0) Tryd.underlying23 HI.out.1 HI.out.2.1 HI.out.2.2.1 HI.out.2.2.2 rfl (.slice A 0 c) 0 [] rfl hown A1 n1 c1 l1 rfl hR1 n1 (by omega) (by unfold maxLen; omega) (by omega) hsz ?_; intro v' w2 hown2 hg2 _)
          obtain ⟨A3, c3, rfl⟩ := own_form hown2
          rw [List.nil_append] at hown2
          exact ⟨⟨1, n1, A3, c3, _, by trivial, rfl, hown2, hkp.grown hg2 (fun k e => (hown.lt k e).1), .inr (.inl ⟨rfl, rfl, rfl⟩)⟩, by simp [intOf]⟩
        · clear HJ
          go_wp2_with (at_builtin; refine wpList_app_ints _ rfl (.tmp 31) (.tmp 32) 23 rfl w.heap.size 3 i0 (.int .i64 0) Tryd.underlying23 HI.out.1 HI.out.2.1 HI.out.2.2.1 HI.out.2.2.2 rfl (.slice A n1 c) n1 (l1.map (Value.int .i64)) rfl hown A2 n2 c2 l2 rfl hR2 (n1 + n2) rfl (by unfold maxLen; omega) (by omega) hsz ?_; intro v' w2 hown2 hg2 _)
          obtain ⟨A3, c3, rfl⟩ := own_form hown2
          exact ⟨⟨2, n1 + n2, A3, c3, _, by trivial, rfl, hown2, hkp.grown hg2 (fun k e => (hown.lt k e).1), .inr (.inr ⟨rfl, rfl, rfl⟩)⟩, by simp [intOf]⟩
        · clear HJ
          rw [← List.map_append] at hown
          go_wp2_with fail
          go_ret
          exact ⟨_, rfl, ⟨_, _, rfl, hown⟩, hkp⟩

end Go.Proofs.YtphdojebdclonaaDoor

namespace Go.Proofs.YtphdojebdclonaaDoor
set_option linter.unusedSimpArgs false
set_option linter.unusedVariables false
open Go.RowKit

/-- where a reader is -/
def atOf (w : World) (R : Nat) : Nat := (intOf ((w.cell? ⟨R, 1, none⟩).getD (.int .i64 0))).toNat
theorem RdB.atOf {w : World} {R p : Nat} {s : List UInt8} (h : RdB w R s p) : atOf w R = p := by
  have := Blk.cell h 1
  unfold Go.Proofs.YtphdojebdclonaaDoor.atOf
  rw [this]
  simp [intOf]
theorem RdB.lt {w : World} {R p : Nat} {s : List UInt8} (h : RdB w R s p) : R < w.heap.size := Blk.lt h
/-- a sign that is not next -/
theorem c_next_f (R : Nat) (s : List UInt8) (p k : Nat) (c : Int) (w : World) (h : RdB w R s p) (hs : s.length ≤ 1048576) (hk : k < 256) (hc : c = (k : Int)) (hne : (s.drop p).head? ≠ some (UInt8.ofNat k)) :
    Calls Tryd.prog 154 #[.pointer (some ⟨R, 0, none⟩), .int .u8 c] w (RetK (.bool false) w) := by
  subst hc
  cases e : s.drop p with
  | nil =>
    exact c_next_end R s p _ w h (by
      have := congrArg List.length e
      rw [List.length_drop, List.length_nil] at this
      omega)
  | cons x r =>
    have hn : (UInt8.ofNat k).toNat = k := by simp [UInt8.toNat_ofNat']; omega
    have := c_next_no R s r p x (UInt8.ofNat k) w h hs e (fun e2 => hne (by rw [e, e2]; rfl))
    rw [hn] at this
    exact this
/-- a sign that is next -/
theorem c_next_t (R : Nat) (s r : List UInt8) (p k : Nat) (c : Int) (w : World) (h : RdB w R s p) (hs : s.length ≤ 1048576) (hk : k < 256) (hc : c = (k : Int)) (hx : s.drop p = UInt8.ofNat k :: r) :
    Calls Tryd.prog 154 #[.pointer (some ⟨R, 0, none⟩), .int .u8 c] w (fun e w' => e = .returned (.bool true) ∧ RdB w' R s (p + 1) ∧ But R (R + 1) w w' ∧ w'.heap.size = w.heap.size) := by
  subst hc
  have hn : (UInt8.ofNat k).toNat = k := by simp [UInt8.toNat_ofNat']; omega
  have := c_next_yes R s r p (UInt8.ofNat k) w h hs hx
  rw [hn] at this
  refine this.mono ?_
  rintro e w' ⟨rfl, rfl⟩
  have hB := Blk.kept h (Kept.refl w).drew
  refine ⟨rfl, ?_, (But.of_kept (Kept.refl w).drew).set (x := (p : Int)) (hB.cell 1) (Nat.le_refl R) (Nat.lt_succ_self R) _, by simp⟩
  have := hB.set_ 1 (.int .i64 ((p + 1 : Nat) : Int))
  unfold RdB
  simpa using this

/-- what a reader of codes comes to -/
def RcQ (R : Nat) (s : List UInt8) (p m : Nat) (w : World) (e : Ending) (w' : World) : Prop :=
  ∃ (A : Option Addr) (n c : Nat) (l : List Int) (b : Bool) (q : Nat), e = .returned (.tuple #[.slice A n c, .bool b]) ∧ w'.ownsRow w.heap.size 3 1 (.slice A n c) n (l.map (Value.int .i64)) ∧
    RdB w' R s q ∧ But R (R + 1) w w' ∧ p ≤ q ∧ q ≤ s.length ∧ n + p ≤ q ∧ (∀ x ∈ l, 0 ≤ x ∧ x ≤ 9) ∧ Sp.Rds m (s.drop p) b l (s.drop q)

set_option maxHeartbeats 2000000 in
set_option maxRecDepth 100000 in
theorem c_part9 (R : Nat) (s : List UInt8) (p : Nat) (w : World)
    (H : Calls Tryd.prog 134 #[.pointer (some ⟨R, 0, none⟩), .int .i64 8] w (RcQ R s p 2 w)) :
    Calls Tryd.prog 153 #[.pointer (some ⟨R, 0, none⟩), .int .i64 9] w (RcQ R s p 2 w) := by
  have HH := Lib.hid H
  clear H
  go_enter Tryd.func153, Tryd.ntmps153
  go_wp2_with fail
  refine HH.out.mono ?_; rintro e w1 ⟨A, n, c, l, b, q, rfl, hrest⟩
  go_wp2_with fail
  go_ret2
  exact ⟨A, n, c, l, b, q, rfl, hrest⟩

set_option maxHeartbeats 4000000 in
set_option maxRecDepth 100000 in
theorem c_joined9 (R : Nat) (s : List UInt8) (p : Nat) (w : World) (h : RdB w R s p) (hs : s.length ≤ 199) (hp : p ≤ s.length)
    (HP0 : ∀ p' w', p ≤ p' → p' ≤ s.length → RdB w' R s p' → Calls Tryd.prog 153 #[.pointer (some ⟨R, 0, none⟩), .int .i64 9] w' (RcQ R s p' 2 w')) :
    Calls Tryd.prog 134 #[.pointer (some ⟨R, 0, none⟩), .int .i64 9] w (RcQ R s p 1 w) := by
  obtain ⟨i0, hi0, hz0, hz1, hz2⟩ := info_parts info_int
  have HI := Lib.hid (And.intro hi0 (And.intro hz0 (And.intro hz1 hz2)))
  clear hi0 hz0 hz1 hz2
  have HP := Lib.hid HP0
  have hRw : R < w.heap.size := h.lt
  clear HP0
  go_enter Tryd.func134, Tryd.ntmps134
  go_wp2_with fail
  refine (HP.out p w (Nat.le_refl _) hp h).mono ?_; rintro e w1 ⟨A, n, c, l, b, q, rfl, hown, hR, hb, h1, h2, h3, h4, hg⟩
  have HJ0 := Lib.hid (rds_up (.inl rfl) hg)
  have H40 := Lib.hid h4
  clear h hg h4
  go_wp2_with fail
  go_loopw [7, 8, 9] (fun v o _ wr => ∃ (A : Option Addr) (n c : Nat) (l : List Int) (b : Bool) (q : Nat), v = .slice A n c ∧ o = .bool b ∧ wr.ownsRow w.heap.size 3 1 (.slice A n c) n (l.map (Value.int .i64)) ∧ RdB wr R s q ∧ But R (R + 1) w wr ∧ p ≤ q ∧ q ≤ s.length ∧ n + p ≤ q ∧ Hid (∀ x ∈ l, 0 ≤ x ∧ x ≤ 9) ∧ Hid (Sp.Sofar 1 (s.drop p) b l (s.drop q))) (fun _ _ _ wr => s.length - atOf wr R)
  case atStart => exact ⟨A, n, c, l, b, q, rfl, rfl, hown, hR, hb, h1, h2, h3, H40, HJ0⟩
  case round =>
    clear hown hR hb h1 h2 h3 H40 HJ0
    obtain ⟨A, n, c, l, b, q, rfl, rfl, hown, hR, hb, h1, h2, h3, H4, HJ⟩ := hrel
    cases b
    · have HR := Lib.hid (sofar_stop HJ.out (fun e => by cases e))
      clear HJ
      go_wp2_with fail
      go_ret2
      exact ⟨A, n, c, l, false, q, rfl, hown, hR, hb, h1, h2, h3, H4.out, HR.out⟩
    · by_cases hx : (s.drop q).head? = some 124
      · obtain ⟨r, hr⟩ : ∃ r, s.drop q = 124 :: r := by
          cases e : s.drop q with
          | nil => rw [e] at hx; cases hx
          | cons y r => rw [e] at hx; injection hx with hx; exact ⟨r, by rw [hx]⟩
        have hat := hR.atOf
        obtain ⟨hq1, _, hr2⟩ := byte_at hr
        rw [hr] at HJ
        rw [← hr2] at HJ
        have HX := Lib.hid hr
        clear hx hr hr2
        go_wp2_with fail
        refine (c_next_t R s r q 124 _ wr hR (by omega) (by omega) rfl HX.out).mono ?_; rintro e w2 ⟨rfl, hR2, hb2, hs2⟩
        have hown2 := own_but hown hb2 (by omega)
        have hbA := hb.trans hb2
        clear hown hb2 hR HX
        go_wp2_with fail
        refine (HP.out (q + 1) w2 (by omega) (by omega) hR2).mono ?_; rintro e w3 ⟨A3, n3, c3, l3, b3, q3, rfl, hown3, hR3, hb3, k1, k2, k3, k4, hg3⟩
        have HJ2 := Lib.hid (sofar_more HJ.out hg3)
        have H43 := Lib.hid k4
        have hownA := own_but hown2 hb3 (by omega)
        have hbB := hbA.trans hb3
        have hk3 := (Kept.refl w3).alloc (.cells #[.slice A n c, .slice A3 n3 c3] 23)
        have BE := Blk.new w3 23 #[.slice A n c, .slice A3 n3 c3]
        have hIa := (own_ints2 (by omega) hownA (fun x hx => by have := H4.out x hx; unfold Sp.inI; omega)).keep hk3
        have hIb := (own_ints2 (by omega) hown3 (fun x hx => by have := H43.out x hx; unfold Sp.inI; omega)).keep hk3
        have hlt3 : w3.heap.size < (w3.alloc (.cells #[.slice A n c, .slice A3 n3 c3] 23)).heap.size := by simp
        clear HJ hg3 hown2 k4 hbA
        go_wp2_with fail
        refine (c_concatInts w3.heap.size c c3 n n3 A A3 l l3 _ hIa hIb (by omega) (by omega) hlt3 (BE.cell 0) (BE.cell 1)).mono ?_; rintro e w4 ⟨v, rfl, ⟨A4, c4, rfl, hown4⟩, hk4⟩
        have hkA := hk3.trans hk4
        have hws := hbB.size
        replace hown4 := ownsRow_mono hown4 (X := w.heap.size) (by simp; omega)
        have hR4 : RdB w4 R s q3 := Blk.kept hR3 hkA
        have hbC := hbB.kept_ hkA
        have hsz4 := hkA.size
        have HL4 : Hid (∀ x ∈ l ++ l3 ++ [Sp.opC 1], 0 ≤ x ∧ x ≤ 9) := by
          intro x hx
          simp only [List.mem_append, List.mem_singleton] at hx
          rcases hx with (hx | hx) | hx
          · exact H4.out x hx
          · exact H43.out x hx
          · subst hx; decide
        clear hIa hIb BE hk3 hk4 hlt3 hownA hown3 hbB hR3 hb3 hkA
        go_wp2_with (at_builtin; refine wpList_append_own _ rfl (.tmp 33) (.tmp 35) 23 rfl (w.heap.size) 3 i0 (.int .i64 0) 1 8 Tryd.underlying23 HI.out.1 HI.out.2.1 HI.out.2.2.1 HI.out.2.2.2 rfl (by decide) (.slice A4 (n + n3) c4) (n + n3) _ rfl (hown4.alloc _) ⟨w4.heap.size, 0, none⟩ 1 1 [.int .i64 (9)] rfl rfl (one_new _ _ _) (by simp [Value.oneCell']) (by unfold maxLen; omega) (by omega) (by simp; omega) ?_; intro v' wapp hown2 hg2 _)
        obtain ⟨A5, c5, rfl⟩ := own_form hown2
        have hge : ∀ k, (Value.slice A4 (n + n3) c4).ownBlock = some k → w.heap.size ≤ k := fun k e => (hown4.lt k e).1
        have hR5 : RdB wapp R s q3 := Blk.grown (Blk.alloc hR4 _) hg2 (fun e => by have := hge R e.symm; omega)
        have hbD := (hbC.kept_ ((Kept.refl w4).alloc _)).grown hg2 hge
        have hat2 := hR5.atOf
        have hown6 : wapp.ownsRow w.heap.size 3 1 (.slice A5 (n + n3 + 1) c5) (n + n3 + 1) ((l ++ l3 ++ [Sp.opC 1]).map (Value.int .i64)) := by
          rw [List.map_append (l₁ := l ++ l3)]; exact hown2
        go_wp2_with fail
        exact ⟨⟨A5, n + n3 + 1, c5, l ++ l3 ++ [Sp.opC 1], b3, q3, rfl, rfl, hown6, hR5, hbD, by omega, k2, by omega, HL4, HJ2.out⟩, by rw [hat2, hat]; omega⟩
      · have HR := Lib.hid (sofar_stop HJ.out (fun _ => hx))
        clear HJ
        go_wp2_with fail
        refine (c_next_f R s q 124 _ wr hR (by omega) (by omega) rfl hx).mono ?_; rintro e w2 ⟨rfl, hk2⟩
        go_wp2_with fail
        go_ret2
        exact ⟨A, n, c, l, true, q, rfl, own_keep hown hk2, Blk.kept hR hk2, hb.kept_ hk2, h1, h2, h3, H4.out, HR.out⟩

set_option maxHeartbeats 4000000 in
set_option maxRecDepth 100000 in
theorem c_joined8 (R : Nat) (s : List UInt8) (p : Nat) (w : World) (h : RdB w R s p) (hs : s.length ≤ 199) (hp : p ≤ s.length)
    (HP0 : ∀ p' w', p ≤ p' → p' ≤ s.length → RdB w' R s p' → Calls Tryd.prog 153 #[.pointer (some ⟨R, 0, none⟩), .int .i64 8] w' (RcQ R s p' 3 w')) :
    Calls Tryd.prog 134 #[.pointer (some ⟨R, 0, none⟩), .int .i64 8] w (RcQ R s p 2 w) := by
  obtain ⟨i0, hi0, hz0, hz1, hz2⟩ := info_parts info_int
  have HI := Lib.hid (And.intro hi0 (And.intro hz0 (And.intro hz1 hz2)))
  clear hi0 hz0 hz1 hz2
  have HP := Lib.hid HP0
  have hRw : R < w.heap.size := h.lt
  clear HP0
  go_enter Tryd.func134, Tryd.ntmps134
  go_wp2_with fail
  refine (HP.out p w (Nat.le_refl _) hp h).mono ?_; rintro e w1 ⟨A, n, c, l, b, q, rfl, hown, hR, hb, h1, h2, h3, h4, hg⟩
  have HJ0 := Lib.hid (rds_up (.inr rfl) hg)
  have H40 := Lib.hid h4
  clear h hg h4
  go_wp2_with fail
  go_loopw [7, 8, 9] (fun v o _ wr => ∃ (A : Option Addr) (n c : Nat) (l : List Int) (b : Bool) (q : Nat), v = .slice A n c ∧ o = .bool b ∧ wr.ownsRow w.heap.size 3 1 (.slice A n c) n (l.map (Value.int .i64)) ∧ RdB wr R s q ∧ But R (R + 1) w wr ∧ p ≤ q ∧ q ≤ s.length ∧ n + p ≤ q ∧ Hid (∀ x ∈ l, 0 ≤ x ∧ x ≤ 9) ∧ Hid (Sp.Sofar 2 (s.drop p) b l (s.drop q))) (fun _ _ _ wr => s.length - atOf wr R)
  case atStart => exact ⟨A, n, c, l, b, q, rfl, rfl, hown, hR, hb, h1, h2, h3, H40, HJ0⟩
  case round =>
    clear hown hR hb h1 h2 h3 H40 HJ0
    obtain ⟨A, n, c, l, b, q, rfl, rfl, hown, hR, hb, h1, h2, h3, H4, HJ⟩ := hrel
    cases b
    · have HR := Lib.hid (sofar_stop HJ.out (fun e => by cases e))
      clear HJ
      go_wp2_with fail
      go_ret2
      exact ⟨A, n, c, l, false, q, rfl, hown, hR, hb, h1, h2, h3, H4.out, HR.out⟩
    · by_cases hx : (s.drop q).head? = some 38
      · obtain ⟨r, hr⟩ : ∃ r, s.drop q = 38 :: r := by
          cases e : s.drop q with
          | nil => rw [e] at hx; cases hx
          | cons y r => rw [e] at hx; injection hx with hx; exact ⟨r, by rw [hx]⟩
        have hat := hR.atOf
        obtain ⟨hq1, _, hr2⟩ := byte_at hr
        rw [hr] at HJ
        rw [← hr2] at HJ
        have HX := Lib.hid hr
        clear hx hr hr2
        go_wp2_with fail
        refine (c_next_t R s r q 38 _ wr hR (by omega) (by omega) rfl HX.out).mono ?_; rintro e w2 ⟨rfl, hR2, hb2, hs2⟩
        have hown2 := own_but hown hb2 (by omega)
        have hbA := hb.trans hb2
        clear hown hb2 hR HX
        go_wp2_with fail
        refine (HP.out (q + 1) w2 (by omega) (by omega) hR2).mono ?_; rintro e w3 ⟨A3, n3, c3, l3, b3, q3, rfl, hown3, hR3, hb3, k1, k2, k3, k4, hg3⟩
        have HJ2 := Lib.hid (sofar_more HJ.out hg3)
        have H43 := Lib.hid k4
        have hownA := own_but hown2 hb3 (by omega)
        have hbB := hbA.trans hb3
        have hk3 := (Kept.refl w3).alloc (.cells #[.slice A n c, .slice A3 n3 c3] 23)
        have BE := Blk.new w3 23 #[.slice A n c, .slice A3 n3 c3]
        have hIa := (own_ints2 (by omega) hownA (fun x hx => by have := H4.out x hx; unfold Sp.inI; omega)).keep hk3
        have hIb := (own_ints2 (by omega) hown3 (fun x hx => by have := H43.out x hx; unfold Sp.inI; omega)).keep hk3
        have hlt3 : w3.heap.size < (w3.alloc (.cells #[.slice A n c, .slice A3 n3 c3] 23)).heap.size := by simp
        clear HJ hg3 hown2 k4 hbA
        go_wp2_with fail
        refine (c_concatInts w3.heap.size c c3 n n3 A A3 l l3 _ hIa hIb (by omega) (by omega) hlt3 (BE.cell 0) (BE.cell 1)).mono ?_; rintro e w4 ⟨v, rfl, ⟨A4, c4, rfl, hown4⟩, hk4⟩
        have hkA := hk3.trans hk4
        have hws := hbB.size
        replace hown4 := ownsRow_mono hown4 (X := w.heap.size) (by simp; omega)
        have hR4 : RdB w4 R s q3 := Blk.kept hR3 hkA
        have hbC := hbB.kept_ hkA
        have hsz4 := hkA.size
        have HL4 : Hid (∀ x ∈ l ++ l3 ++ [Sp.opC 2], 0 ≤ x ∧ x ≤ 9) := by
          intro x hx
          simp only [List.mem_append, List.mem_singleton] at hx
          rcases hx with (hx | hx) | hx
          · exact H4.out x hx
          · exact H43.out x hx
          · subst hx; decide
        clear hIa hIb BE hk3 hk4 hlt3 hownA hown3 hbB hR3 hb3 hkA
        go_wp2_with (at_builtin; refine wpList_append_own _ rfl (.tmp 33) (.tmp 35) 23 rfl (w.heap.size) 3 i0 (.int .i64 0) 1 8 Tryd.underlying23 HI.out.1 HI.out.2.1 HI.out.2.2.1 HI.out.2.2.2 rfl (by decide) (.slice A4 (n + n3) c4) (n + n3) _ rfl (hown4.alloc _) ⟨w4.heap.size, 0, none⟩ 1 1 [.int .i64 (8)] rfl rfl (one_new _ _ _) (by simp [Value.oneCell']) (by unfold maxLen; omega) (by omega) (by simp; omega) ?_; intro v' wapp hown2 hg2 _)
        obtain ⟨A5, c5, rfl⟩ := own_form hown2
        have hge : ∀ k, (Value.slice A4 (n + n3) c4).ownBlock = some k → w.heap.size ≤ k := fun k e => (hown4.lt k e).1
        have hR5 : RdB wapp R s q3 := Blk.grown (Blk.alloc hR4 _) hg2 (fun e => by have := hge R e.symm; omega)
        have hbD := (hbC.kept_ ((Kept.refl w4).alloc _)).grown hg2 hge
        have hat2 := hR5.atOf
        have hown6 : wapp.ownsRow w.heap.size 3 1 (.slice A5 (n + n3 + 1) c5) (n + n3 + 1) ((l ++ l3 ++ [Sp.opC 2]).map (Value.int .i64)) := by
          rw [List.map_append (l₁ := l ++ l3)]; exact hown2
        go_wp2_with fail
        exact ⟨⟨A5, n + n3 + 1, c5, l ++ l3 ++ [Sp.opC 2], b3, q3, rfl, rfl, hown6, hR5, hbD, by omega, k2, by omega, HL4, HJ2.out⟩, by rw [hat2, hat]; omega⟩
      · have HR := Lib.hid (sofar_stop HJ.out (fun _ => hx))
        clear HJ
        go_wp2_with fail
        refine (c_next_f R s q 38 _ wr hR (by omega) (by omega) rfl hx).mono ?_; rintro e w2 ⟨rfl, hk2⟩
        go_wp2_with fail
        go_ret2
        exact ⟨A, n, c, l, true, q, rfl, own_keep hown hk2, Blk.kept hR hk2, hb.kept_ hk2, h1, h2, h3, H4.out, HR.out⟩

set_option maxHeartbeats 4000000 in
set_option maxRecDepth 100000 in
theorem c_part8_neg (R : Nat) (s r : List UInt8) (p : Nat) (w : World) (h : RdB w R s p) (hs : s.length ≤ 199) (hp : p ≤ s.length) (hx : s.drop p = 33 :: r) 
    (H3 : ∀ p' w', p < p' → p' ≤ s.length → RdB w' R s p' → Calls Tryd.prog 153 #[.pointer (some ⟨R, 0, none⟩), .int .i64 8] w' (RcQ R s p' 3 w')) :
    Calls Tryd.prog 153 #[.pointer (some ⟨R, 0, none⟩), .int .i64 8] w (RcQ R s p 3 w) := by
  obtain ⟨i0, hi0, hz0, hz1, hz2⟩ := info_parts info_int
  have HI := Lib.hid (And.intro hi0 (And.intro hz0 (And.intro hz1 hz2)))
  clear hi0 hz0 hz1 hz2
  have HH := Lib.hid H3
  have hRw := h.lt
  obtain ⟨hq1, _, hr2⟩ := byte_at hx
  have HX := Lib.hid hx
  have HR2 := Lib.hid hr2
  clear H3 hx hr2
  go_enter Tryd.func153, Tryd.ntmps153
  go_wp2_with fail
  refine (c_next_t R s r p 33 _ w h (by omega) (by omega) rfl HX.out).mono ?_; rintro e w1 ⟨rfl, hR1, hb1, hs1⟩
  go_wp2_with fail
  refine (HH.out (p + 1) w1 (by omega) (by omega) hR1).mono ?_; rintro e w2 ⟨A, n, c, l, b, q, rfl, hown, hR, hb, h1, h2, h3, h4, hg⟩
  rw [hs1] at hown
  have hbA := hb1.trans hb
  have hws := hbA.size
  have H4 := Lib.hid h4
  have HG : Hid (Sp.Rds 3 (s.drop p) b (l ++ [7]) (s.drop q)) := by
    show Sp.Rds _ _ _ _ _
    rw [HX.out, ← HR2.out]; exact rds_neg hg
  clear hb1 hb hg h4 hR1 h
  go_wp2_with (at_builtin; refine wpList_append_own _ rfl (.tmp 25) (.tmp 26) 23 rfl (w.heap.size) 3 i0 (.int .i64 0) 1 8 Tryd.underlying23 HI.out.1 HI.out.2.1 HI.out.2.2.1 HI.out.2.2.2 rfl (by decide) (.slice A n c) n _ rfl (hown.alloc _) ⟨w2.heap.size, 0, none⟩ 1 1 [.int .i64 (7)] rfl rfl (one_new _ _ _) (by simp [Value.oneCell']) (by unfold maxLen; omega) (by omega) (by simp; omega) ?_; intro v' wapp hown2 hg2 _)
  obtain ⟨A5, c5, rfl⟩ := own_form hown2
  have hge : ∀ k, (Value.slice A n c).ownBlock = some k → w.heap.size ≤ k := fun k e => (hown.lt k e).1
  have hR5 : RdB wapp R s q := Blk.grown (Blk.alloc hR _) hg2 (fun e => by have := hge R e.symm; omega)
  have hbD := (hbA.kept_ ((Kept.refl w2).alloc _)).grown hg2 hge
  go_wp2_with fail
  go_ret2
  refine ⟨A5, n + 1, c5, l ++ [7], b, q, rfl, ?_, hR5, hbD, by omega, h2, by omega, fun x hx => ?_, HG.out⟩
  · rw [List.map_append]; exact hown2
  · rw [List.mem_append, List.mem_singleton] at hx
    rcases hx with hx | rfl
    · exact H4.out x hx
    · decide

set_option maxHeartbeats 4000000 in
set_option maxRecDepth 100000 in
theorem c_part8_brk (R : Nat) (s r : List UInt8) (p : Nat) (w : World) (h : RdB w R s p) (hs : s.length ≤ 199) (hp : p ≤ s.length) (hx : s.drop p = 40 :: r) 
    (H1 : ∀ p' w', p < p' → p' ≤ s.length → RdB w' R s p' → Calls Tryd.prog 134 #[.pointer (some ⟨R, 0, none⟩), .int .i64 9] w' (RcQ R s p' 1 w')) :
    Calls Tryd.prog 153 #[.pointer (some ⟨R, 0, none⟩), .int .i64 8] w (RcQ R s p 3 w) := by
  have HH := Lib.hid H1
  have hRw := h.lt
  obtain ⟨hq1, _, hr2⟩ := byte_at hx
  have HX := Lib.hid hx
  have HR2 := Lib.hid hr2
  have hk0 := Kept.refl w
  clear H1 hx hr2
  go_enter Tryd.func153, Tryd.ntmps153
  go_wp2_with fail
  refine (c_next_f R s p 33 _ _ (Blk.kept h hk0) (by omega) (by omega) rfl (by rw [HX.out]; intro e; injection e with e; exact absurd e (by decide))).mono ?_; rintro e w1 ⟨rfl, hq1⟩
  have hk1 := hk0.trans hq1
  clear hq1
  go_wp2_with fail
  refine (c_next_t R s r p 40 _ _ (Blk.kept h hk1) (by omega) (by omega) rfl HX.out).mono ?_; rintro e w2 ⟨rfl, hR1, hb1, hs1⟩
  go_wp2_with fail
  refine (HH.out (p + 1) w2 (by omega) (by omega) hR1).mono ?_; rintro e w3 ⟨A, n, c, l, b, q, rfl, hown, hR, hb, h1, h2, h3, h4, hg⟩
  have hbA := ((But.of_kept hk1).trans hb1).trans hb
  have hws := hk1.size
  replace hown := ownsRow_mono hown (X := w.heap.size) (by omega)
  rw [HR2.out] at hg
  have H4 := Lib.hid h4
  have HG := Lib.hid hg
  clear hb1 hb hg h4 hR1 h hk1
  cases b
  · have HN : Hid (Sp.Rds 3 (s.drop p) false l (s.drop q)) := by
      show Sp.Rds _ _ _ _ _
      rw [HX.out]; exact rds_brk_no HG.out (fun e => by cases e)
    clear HG
    go_wp2_with fail
    go_ret2
    exact ⟨A, n, c, l, false, q, rfl, hown, hR, hbA, by omega, h2, by omega, H4.out, HN.out⟩
  · by_cases hy : (s.drop q).head? = some 41
    · obtain ⟨r3, hr3⟩ : ∃ r, s.drop q = 41 :: r := by
        cases e : s.drop q with
        | nil => rw [e] at hy; cases hy
        | cons y r => rw [e] at hy; injection hy with hy; exact ⟨r, by rw [hy]⟩
      obtain ⟨hq3, _, hr4⟩ := byte_at hr3
      have HN : Hid (Sp.Rds 3 (s.drop p) true l (s.drop (q + 1))) := by
        show Sp.Rds _ _ _ _ _
        rw [HX.out]
        have := HG.out
        rw [hr3, ← hr4] at this
        exact rds_brk_yes this
      have HX3 := Lib.hid hr3
      clear HG hy hr3 hr4
      go_wp2_with fail
      refine (c_next_t R s r3 q 41 _ _ hR (by omega) (by omega) rfl HX3.out).mono ?_; rintro e w4 ⟨rfl, hR4, hb4, hs4⟩
      have hown4 := own_but hown hb4 (by omega)
      go_wp2_with fail
      go_ret2
      exact ⟨A, n, c, l, true, q + 1, rfl, hown4, hR4, hbA.trans hb4, by omega, by omega, by omega, H4.out, HN.out⟩
    · have HN : Hid (Sp.Rds 3 (s.drop p) false l (s.drop q)) := by
        show Sp.Rds _ _ _ _ _
        rw [HX.out]; exact rds_brk_no HG.out (fun _ => hy)
      clear HG
      go_wp2_with fail
      refine (c_next_f R s q 41 _ _ hR (by omega) (by omega) rfl hy).mono ?_; rintro e w4 ⟨rfl, hk4⟩
      go_wp2_with fail
      go_ret2
      exact ⟨A, n, c, l, false, q, rfl, own_keep hown hk4, Blk.kept hR hk4, hbA.kept_ hk4, by omega, h2, by omega, H4.out, HN.out⟩

set_option maxHeartbeats 4000000 in
set_option maxRecDepth 100000 in
theorem c_part8_yes (R : Nat) (s r : List UInt8) (p : Nat) (w : World) (h : RdB w R s p) (hs : s.length ≤ 199) (hp : p ≤ s.length) (hx : s.drop p = 49 :: r) :
    Calls Tryd.prog 153 #[.pointer (some ⟨R, 0, none⟩), .int .i64 8] w (RcQ R s p 3 w) := by
  have hRw := h.lt
  obtain ⟨hq1, _, hr2⟩ := byte_at hx
  have HX := Lib.hid hx
  have HG : Hid (Sp.Rds 3 (s.drop p) true [5] (s.drop (p + 1))) := by
    show Sp.Rds _ _ _ _ _
    rw [hx, hr2]; exact rds_one (s := 5) (by omega) (by omega)
  have hk0 := Kept.refl w
  clear hx hr2
  go_enter Tryd.func153, Tryd.ntmps153
  go_wp2_with fail
  refine (c_next_f R s p 33 _ _ (Blk.kept h hk0) (by omega) (by omega) rfl (by rw [HX.out]; intro e; injection e with e; exact absurd e (by decide))).mono ?_; rintro e w1 ⟨rfl, hq1⟩
  have hk1 := hk0.trans hq1
  clear hq1
  go_wp2_with fail
  refine (c_next_f R s p 40 _ _ (Blk.kept h hk1) (by omega) (by omega) rfl (by rw [HX.out]; intro e; injection e with e; exact absurd e (by decide))).mono ?_; rintro e w2 ⟨rfl, hq2⟩
  have hk2 := hk1.trans hq2
  clear hq2
  go_wp2_with fail
  refine (c_next_t R s r p 49 _ _ (Blk.kept h hk2) (by omega) (by omega) rfl HX.out).mono ?_; rintro e wz ⟨rfl, hR1, hb1, hs1⟩
  have hbA := (But.of_kept (B := R) (C := R + 1) hk2).trans hb1
  have hws := hbA.size
  clear hb1 hk2 h hs1
  go_wp2_with fail
  go_ret2
  exact ⟨_, _, _, [5], true, p + 1, rfl, own_new wz [.int .i64 5] 3 (by omega) (by show 1 ≤ maxLen; unfold maxLen; omega), Blk.alloc hR1 _, hbA.kept_ ((Kept.refl wz).alloc _), by omega, by omega, by omega, fun x hx => by rw [List.mem_singleton] at hx; omega, HG.out⟩

set_option maxHeartbeats 4000000 in
set_option maxRecDepth 100000 in
theorem c_part8_not (R : Nat) (s r : List UInt8) (p : Nat) (w : World) (h : RdB w R s p) (hs : s.length ≤ 199) (hp : p ≤ s.length) (hx : s.drop p = 48 :: r) :
    Calls Tryd.prog 153 #[.pointer (some ⟨R, 0, none⟩), .int .i64 8] w (RcQ R s p 3 w) := by
  have hRw := h.lt
  obtain ⟨hq1, _, hr2⟩ := byte_at hx
  have HX := Lib.hid hx
  have HG : Hid (Sp.Rds 3 (s.drop p) true [6] (s.drop (p + 1))) := by
    show Sp.Rds _ _ _ _ _
    rw [hx, hr2]; exact rds_one (s := 6) (by omega) (by omega)
  have hk0 := Kept.refl w
  clear hx hr2
  go_enter Tryd.func153, Tryd.ntmps153
  go_wp2_with fail
  refine (c_next_f R s p 33 _ _ (Blk.kept h hk0) (by omega) (by omega) rfl (by rw [HX.out]; intro e; injection e with e; exact absurd e (by decide))).mono ?_; rintro e w1 ⟨rfl, hq1⟩
  have hk1 := hk0.trans hq1
  clear hq1
  go_wp2_with fail
  refine (c_next_f R s p 40 _ _ (Blk.kept h hk1) (by omega) (by omega) rfl (by rw [HX.out]; intro e; injection e with e; exact absurd e (by decide))).mono ?_; rintro e w2 ⟨rfl, hq2⟩
  have hk2 := hk1.trans hq2
  clear hq2
  go_wp2_with fail
  refine (c_next_f R s p 49 _ _ (Blk.kept h hk2) (by omega) (by omega) rfl (by rw [HX.out]; intro e; injection e with e; exact absurd e (by decide))).mono ?_; rintro e w3 ⟨rfl, hq3⟩
  have hk3 := hk2.trans hq3
  clear hq3
  go_wp2_with fail
  refine (c_next_t R s r p 48 _ _ (Blk.kept h hk3) (by omega) (by omega) rfl HX.out).mono ?_; rintro e wz ⟨rfl, hR1, hb1, hs1⟩
  have hbA := (But.of_kept (B := R) (C := R + 1) hk3).trans hb1
  have hws := hbA.size
  clear hb1 hk3 h hs1
  go_wp2_with fail
  go_ret2
  exact ⟨_, _, _, [6], true, p + 1, rfl, own_new wz [.int .i64 6] 3 (by omega) (by show 1 ≤ maxLen; unfold maxLen; omega), Blk.alloc hR1 _, hbA.kept_ ((Kept.refl wz).alloc _), by omega, by omega, by omega, fun x hx => by rw [List.mem_singleton] at hx; omega, HG.out⟩

set_option maxHeartbeats 4000000 in
set_option maxRecDepth 100000 in
theorem c_part8_let (R : Nat) (s r : List UInt8) (p j : Nat) (w : World) (h : RdB w R s p) (hs : s.length ≤ 199) (hp : p ≤ s.length) (hx : s.drop p = UInt8.ofNat (97 + j) :: r) (hj : j < 5) :
    Calls Tryd.prog 153 #[.pointer (some ⟨R, 0, none⟩), .int .i64 8] w (RcQ R s p 3 w) := by
  have hRw := h.lt
  obtain ⟨hq1, _, hr2⟩ := byte_at hx
  have HX := Lib.hid hx
  have hsg : ∀ j : Fin 5, Sp.sgn ((j.val : Nat) : Int) = UInt8.ofNat (97 + j.val) ∧ UInt8.ofNat (97 + j.val) ≠ 33 ∧ UInt8.ofNat (97 + j.val) ≠ 40 ∧ UInt8.ofNat (97 + j.val) ≠ 49 ∧ UInt8.ofNat (97 + j.val) ≠ 48 := by decide
  have hdf : ∀ j k : Fin 5, UInt8.ofNat (97 + j.val) = UInt8.ofNat (97 + k.val) → j = k := by decide
  obtain ⟨g1, g2, g3, g4, g5⟩ := hsg ⟨j, hj⟩
  simp only at g1 g2 g3 g4 g5
  have HG : Hid (Sp.Rds 3 (s.drop p) true [(j : Int)] (s.drop (p + 1))) := by
    show Sp.Rds _ _ _ _ _
    rw [hx, hr2, ← g1]; exact rds_one (by omega) (by omega)
  have N1 : Hid ((s.drop p).head? ≠ some 33) := by show _ ≠ _; rw [hx]; intro e; injection e with e; exact g2 e
  have N2 : Hid ((s.drop p).head? ≠ some 40) := by show _ ≠ _; rw [hx]; intro e; injection e with e; exact g3 e
  have N3 : Hid ((s.drop p).head? ≠ some 49) := by show _ ≠ _; rw [hx]; intro e; injection e with e; exact g4 e
  have N4 : Hid ((s.drop p).head? ≠ some 48) := by show _ ≠ _; rw [hx]; intro e; injection e with e; exact g5 e
  have N5 : Hid (∀ k, k < j → (s.drop p).head? ≠ some (UInt8.ofNat (97 + k))) := by
    intro k hk
    rw [hx]; intro e; injection e with e
    have := hdf ⟨j, hj⟩ ⟨k, by omega⟩ e
    simp only [Fin.mk.injEq] at this
    omega
  have hk0 := Kept.refl w
  clear hx hr2 g1 g2 g3 g4 g5 hsg hdf
  go_enter Tryd.func153, Tryd.ntmps153
  go_wp2_with fail
  refine (c_next_f R s p 33 _ _ (Blk.kept h hk0) (by omega) (by omega) rfl N1.out).mono ?_; rintro e w1 ⟨rfl, hq1⟩
  have hk1 := hk0.trans hq1
  clear hq1
  go_wp2_with fail
  refine (c_next_f R s p 40 _ _ (Blk.kept h hk1) (by omega) (by omega) rfl N2.out).mono ?_; rintro e w2 ⟨rfl, hq2⟩
  have hk2 := hk1.trans hq2
  clear hq2
  go_wp2_with fail
  refine (c_next_f R s p 49 _ _ (Blk.kept h hk2) (by omega) (by omega) rfl N3.out).mono ?_; rintro e w3 ⟨rfl, hq3⟩
  have hk3 := hk2.trans hq3
  clear hq3
  go_wp2_with fail
  refine (c_next_f R s p 48 _ _ (Blk.kept h hk3) (by omega) (by omega) rfl N4.out).mono ?_; rintro e w4 ⟨rfl, hq4⟩
  have hk4 := hk3.trans hq4
  clear hq4
  go_wp2_with fail
  go_loopw [10, 48] (fun _ i wr => ∃ k : Nat, k ≤ j ∧ i = .int .i64 k ∧ Kept w wr) (fun _ i _ => j - (intOf i).toNat)
  case atStart => exact ⟨0, Nat.zero_le _, rfl, hk4⟩
  case round =>
    clear hk4
    obtain ⟨k, hk, rfl, hkp⟩ := hrel
    have hk5 : k < 5 := by omega
    obtain ⟨c, HC⟩ : ∃ c : Nat, Hid (c = 97 + k) := ⟨_, rfl⟩
    have hw : IntKind.i64.wrap (97 + (k : Int)) = (c : Int) := by rw [HC.out, IntKind.wrap_i64]; omega
    have hw8 : IntKind.u8.wrap (c : Int) = (c : Int) := by rw [HC.out]; simp [IntKind.wrap, IntKind.bits, IntKind.signed]; omega
    by_cases e : k = j
    · have HX2 : Hid (s.drop p = UInt8.ofNat c :: r) := by show _ = _; rw [HX.out, HC.out, e]
      have HK := Lib.hid e
      clear e
      go_wp2_with fail
      refine (c_next_t R s r p c _ _ (Blk.kept h hkp) (by omega) (by rw [HC.out]; omega) rfl HX2.out).mono ?_; rintro e wz ⟨rfl, hR1, hb1, hs1⟩
      have hbA := (But.of_kept (B := R) (C := R + 1) hkp).trans hb1
      have hws := hbA.size
      clear hb1 hkp h hs1
      go_wp2_with fail
      go_ret2
      rw [← HK.out] at HG
      exact ⟨_, _, _, [(k : Int)], true, p + 1, rfl, own_new wz [.int .i64 (k : Int)] 3 (by omega) (by show 1 ≤ maxLen; unfold maxLen; omega), Blk.alloc hR1 _, hbA.kept_ ((Kept.refl wz).alloc _), by omega, by omega, by omega, fun x hx => by rw [List.mem_singleton] at hx; omega, HG.out⟩
    · have hlt : k < j := by omega
      clear e
      go_wp2_with fail
      refine (c_next_f R s p c _ _ (Blk.kept h hkp) (by omega) (by rw [HC.out]; omega) rfl (by rw [HC.out]; exact N5.out k hlt)).mono ?_; rintro e wz ⟨rfl, hkz⟩
      go_wp2_with fail
      exact ⟨⟨k + 1, by omega, by go_num, hkp.trans hkz⟩, by simp [intOf]; omega⟩

set_option maxHeartbeats 4000000 in
set_option maxRecDepth 100000 in
theorem c_part8_no (R : Nat) (s : List UInt8) (p : Nat) (w : World) (h : RdB w R s p) (hs : s.length ≤ 199) (hp : p ≤ s.length) (hx : Sp.Rds 3 (s.drop p) false [] (s.drop p)) (N1 : Hid ((s.drop p).head? ≠ some 33)) (N2 : Hid ((s.drop p).head? ≠ some 40)) (N3 : Hid ((s.drop p).head? ≠ some 49)) (N4 : Hid ((s.drop p).head? ≠ some 48))
    (N5 : Hid (∀ k, k < 5 → (s.drop p).head? ≠ some (UInt8.ofNat (97 + k)))) :
    Calls Tryd.prog 153 #[.pointer (some ⟨R, 0, none⟩), .int .i64 8] w (RcQ R s p 3 w) := by
  have HX := Lib.hid hx
  have hk0 := Kept.refl w
  clear hx
  go_enter Tryd.func153, Tryd.ntmps153
  go_wp2_with fail
  refine (c_next_f R s p 33 _ _ (Blk.kept h hk0) (by omega) (by omega) rfl N1.out).mono ?_; rintro e w1 ⟨rfl, hq1⟩
  have hk1 := hk0.trans hq1
  clear hq1
  go_wp2_with fail
  refine (c_next_f R s p 40 _ _ (Blk.kept h hk1) (by omega) (by omega) rfl N2.out).mono ?_; rintro e w2 ⟨rfl, hq2⟩
  have hk2 := hk1.trans hq2
  clear hq2
  go_wp2_with fail
  refine (c_next_f R s p 49 _ _ (Blk.kept h hk2) (by omega) (by omega) rfl N3.out).mono ?_; rintro e w3 ⟨rfl, hq3⟩
  have hk3 := hk2.trans hq3
  clear hq3
  go_wp2_with fail
  refine (c_next_f R s p 48 _ _ (Blk.kept h hk3) (by omega) (by omega) rfl N4.out).mono ?_; rintro e w4 ⟨rfl, hq4⟩
  have hk4 := hk3.trans hq4
  clear hq4
  go_wp2_with fail
  go_loopw [10, 48] (fun _ i wr => ∃ k : Nat, k ≤ 5 ∧ i = .int .i64 k ∧ Kept w wr) (fun _ i _ => 5 - (intOf i).toNat)
  case atStart => exact ⟨0, Nat.zero_le _, rfl, hk4⟩
  case round =>
    clear hk4
    obtain ⟨k, hk, rfl, hkp⟩ := hrel
    by_cases hk5 : k < 5
    · obtain ⟨c, HC⟩ : ∃ c : Nat, Hid (c = 97 + k) := ⟨_, rfl⟩
      have hw : IntKind.i64.wrap (97 + (k : Int)) = (c : Int) := by rw [HC.out, IntKind.wrap_i64]; omega
      have hw8 : IntKind.u8.wrap (c : Int) = (c : Int) := by rw [HC.out]; simp [IntKind.wrap, IntKind.bits, IntKind.signed]; omega
      go_wp2_with fail
      refine (c_next_f R s p c _ _ (Blk.kept h hkp) (by omega) (by rw [HC.out]; omega) rfl (by rw [HC.out]; exact N5.out k hk5)).mono ?_; rintro e wz ⟨rfl, hkz⟩
      go_wp2_with fail
      exact ⟨⟨k + 1, by omega, by go_num, hkp.trans hkz⟩, by simp [intOf]; omega⟩
    · go_wp2_with fail
      go_ret2
      exact ⟨none, 0, 0, [], false, p, rfl, World.ownsRow_nil _ _ _ _, Blk.kept h hkp, But.of_kept hkp, Nat.le_refl _, hp, by omega, (fun x hx => by cases hx), HX.out⟩

theorem c_part8 (R : Nat) (s : List UInt8) (p : Nat) (w : World) (h : RdB w R s p) (hs : s.length ≤ 199) (hp : p ≤ s.length)
    (H3 : ∀ p' w', p < p' → p' ≤ s.length → RdB w' R s p' → Calls Tryd.prog 153 #[.pointer (some ⟨R, 0, none⟩), .int .i64 8] w' (RcQ R s p' 3 w'))
    (H1 : ∀ p' w', p < p' → p' ≤ s.length → RdB w' R s p' → Calls Tryd.prog 134 #[.pointer (some ⟨R, 0, none⟩), .int .i64 9] w' (RcQ R s p' 1 w')) :
    Calls Tryd.prog 153 #[.pointer (some ⟨R, 0, none⟩), .int .i64 8] w (RcQ R s p 3 w) := by
  cases hx : s.drop p with
  | nil =>
    have e : ∀ x : UInt8, (s.drop p).head? ≠ some x := fun x => by rw [hx]; simp
    exact c_part8_no R s p w h hs hp (by rw [hx]; exact rds_nil _) (e _) (e _) (e _) (e _) (fun k _ => e _)
  | cons x r =>
    by_cases e1 : x = 33
    · subst e1; exact c_part8_neg R s r p w h hs hp hx H3
    by_cases e2 : x = 40
    · subst e2; exact c_part8_brk R s r p w h hs hp hx H1
    by_cases e3 : x = 49
    · subst e3; exact c_part8_yes R s r p w h hs hp hx
    by_cases e4 : x = 48
    · subst e4; exact c_part8_not R s r p w h hs hp hx
    by_cases e5 : ∃ j : Nat, j < 5 ∧ x = UInt8.ofNat (97 + j)
    · obtain ⟨j, hj, rfl⟩ := e5
      exact c_part8_let R s r p j w h hs hp hx hj
    · have e : ∀ y : UInt8, x ≠ y → (s.drop p).head? ≠ some y := fun y hy => by rw [hx]; intro e; injection e with e; exact hy e
      have hd : Sp.dull x := dull_of e1 e2 e3 e4 (fun k hk e => e5 ⟨k, hk, e⟩)
      exact c_part8_no R s p w h hs hp (by rw [hx]; exact rds_dull hd) (e _ e1) (e _ e2) (e _ e3) (e _ e4) (fun k hk => e _ (fun e => e5 ⟨k, hk, e⟩))
/-- all four readers at once -/
theorem c_readers (R : Nat) (s : List UInt8) (hs : s.length ≤ 199) : ∀ n p, s.length - p < n → p ≤ s.length →
    (∀ w, RdB w R s p → Calls Tryd.prog 153 #[.pointer (some ⟨R, 0, none⟩), .int .i64 8] w (RcQ R s p 3 w)) ∧
    (∀ w, RdB w R s p → Calls Tryd.prog 134 #[.pointer (some ⟨R, 0, none⟩), .int .i64 8] w (RcQ R s p 2 w)) ∧
    (∀ w, RdB w R s p → Calls Tryd.prog 153 #[.pointer (some ⟨R, 0, none⟩), .int .i64 9] w (RcQ R s p 2 w)) ∧
    (∀ w, RdB w R s p → Calls Tryd.prog 134 #[.pointer (some ⟨R, 0, none⟩), .int .i64 9] w (RcQ R s p 1 w)) := by
  intro n
  induction n with
  | zero => intro p h; omega
  | succ n ih =>
    intro p hn hp
    have K1 : ∀ w, RdB w R s p → Calls Tryd.prog 153 #[.pointer (some ⟨R, 0, none⟩), .int .i64 8] w (RcQ R s p 3 w) := fun w h =>
      c_part8 R s p w h hs hp (fun p' w' h1 h2 h3 => (ih p' (by omega) h2).1 w' h3) (fun p' w' h1 h2 h3 => (ih p' (by omega) h2).2.2.2 w' h3)
    have K2 : ∀ w, RdB w R s p → Calls Tryd.prog 134 #[.pointer (some ⟨R, 0, none⟩), .int .i64 8] w (RcQ R s p 2 w) := fun w h =>
      c_joined8 R s p w h hs hp (fun p' w' h1 h2 h3 => by
        rcases Nat.eq_or_lt_of_le h1 with e | e
        · subst e; exact K1 w' h3
        · exact (ih p' (by omega) h2).1 w' h3)
    have K3 : ∀ w, RdB w R s p → Calls Tryd.prog 153 #[.pointer (some ⟨R, 0, none⟩), .int .i64 9] w (RcQ R s p 2 w) := fun w h => c_part9 R s p w (K2 w h)
    refine ⟨K1, K2, K3, fun w h => c_joined9 R s p w h hs hp (fun p' w' h1 h2 h3 => ?_)⟩
    rcases Nat.eq_or_lt_of_le h1 with e | e
    · subst e; exact K3 w' h3
    · exact (ih p' (by omega) h2).2.2.1 w' h3

end Go.Proofs.YtphdojebdclonaaDoor
