/- Walks: the exact laws' own helpers: copies. No condition. -/
import Derived.Test.YthkcdjnnacdeoaaHar
import Derived.Test.YthkcdjnnacdeoaaMem2
namespace Go.Proofs.Ythkcdjnnacdeoaa
open Go.RowKit

theorem run_make_rowN {P : Program} (t e : TypeId) (i : TypeInfo) (z : Value) (ht : P.underlying t = some (.slice e)) (hi : P.info? e = some i) (hz : i.zero = some z)
    (kl kc : IntKind) (n c : Nat) (hnc : n ≤ c) (hbytes : i.bytes * c ≤ 281474976710656) (h63 : c ≤ 9223372036854775807) (w : World) :
    (Instr.makeSlice t (.int kl (n : Int)) (.int kc (c : Int))).run P w = .ok (.slice (some ⟨w.heap.size, 0, none⟩) n c) (w.alloc (.cells (madeCells z.cells (c * i.size)) e)) := by
  have hb : (i.bytes : Int) * (c : Int) ≤ 281474976710656 := by
    have h : ((i.bytes * c : Nat) : Int) ≤ 281474976710656 := by omega
    rwa [Int.natCast_mul] at h
  have hr := run_make (P := P) w t e i z ht hi hz kl kc n c (by omega) (by omega) hb (by omega)
  simp only [Int.toNat_natCast] at hr
  exact hr

theorem info_int : (Try.prog.info? 3).map (fun i => (i.zero, i.size, i.bytes)) = some (some (.int .i64 0), 1, 8) := by kernel_rfl
theorem info_deed : (Try.prog.info? 39).map (fun i => (i.zero, i.size, i.bytes)) = some (some (.agg #[.slice none 0 0, .int .i64 0, .int .i64 0, .int .i64 0]), 4, 48) := by kernel_rfl

/-- n integers, each nought: a new row -/
theorem make_ints (n : Nat) (hn : n ≤ 2147483648) (w : World) :
    (Instr.makeSlice 23 (.int .i64 (n : Int)) (.int .i64 (n : Int))).run Try.prog w = .ok (.slice (some ⟨w.heap.size, 0, none⟩) n n) (w.alloc (.cells (madeCells #[.int .i64 0] n) 3)) := by
  obtain ⟨i, hi, hz, hs, hb⟩ := info_parts info_int
  have := run_make_rowN (P := Try.prog) 23 3 i _ Try.underlying23 hi hz .i64 .i64 n n (Nat.le_refl _) (by rw [hb]; omega) (by omega) w
  rw [hs, Nat.mul_one] at this
  exact this

theorem make_deeds (n : Nat) (hn : n ≤ 2147483648) (w : World) :
    (Instr.makeSlice 24 (.int .i64 (n : Int)) (.int .i64 (n : Int))).run Try.prog w =
      .ok (.slice (some ⟨w.heap.size, 0, none⟩) n n) (w.alloc (.cells (madeCells #[.slice none 0 0, .int .i64 0, .int .i64 0, .int .i64 0] (n * 4)) 39)) := by
  obtain ⟨i, hi, hz, hs, hb⟩ := info_parts info_deed
  have := run_make_rowN (P := Try.prog) 24 39 i _ Try.underlying24 hi hz .i64 .i64 n n (Nat.le_refl _) (by rw [hb]; omega) (by omega) w
  rw [hs] at this
  exact this

/-- a row of integers in a block that stands last -/
theorem Ints.last {w : World} {arr : Array Value} {T : TypeId} {n : Nat} {l : List Int} (hl : l.length = n) (hm : n ≤ maxLen) (hi : ∀ x ∈ l, Sp.inI x)
    (h : ∀ j, j < n → arr[j]? = some (.int .i64 (l.getD j default))) : Ints (w.alloc (.cells arr T)) (some ⟨w.heap.size, 0, none⟩) n l :=
  ⟨hl, hm, hi, fun _ => ⟨_, _, rfl, by simp, fun k hk => by rw [Nat.zero_add, World.cell?_alloc_new]; exact h k hk⟩⟩

def NewInts (w : World) (l : List Int) (v : Value) (w' : World) : Prop :=
  ∃ g, v = .slice (some ⟨g, 0, none⟩) l.length l.length ∧ w.heap.size ≤ g ∧ Own w' g l.length l

theorem c_toIntS (A : Option Addr) (n c : Nat) (l : List Int) (w : World) (h : Ints w A n l) (hn : n ≤ 1048576) :
    Calls Try.prog 109 #[.slice A n c] w (RetS (NewInts w l) w) := by
  have HL := Lib.hid h.len
  have hmk := make_ints n (by omega)
  go_enter Try.func109, Try.ntmps109
  go_wp2_with fail
  clear hmk
  go_loopw [4] (fun i wr => ∃ (k : Nat) (arr : Array Value), k ≤ n ∧ i = .int .i64 k ∧ wr = w.alloc (.cells arr 3) ∧ Hid (arr.size = n) ∧ Hid (∀ j, j < k → arr[j]? = some (.int .i64 (l.getD j default)))) (fun i _ => n - (intOf i).toNat)
  case atStart => exact ⟨0, _, Nat.zero_le _, rfl, rfl, size_madeCells _ _, by show ∀ j, j < 0 → _; omega⟩
  case round =>
    obtain ⟨k, arr, hk, rfl, rfl, HS, HA⟩ := hrel
    by_cases hlt : k < n
    · obtain ⟨b, off, rfl, hb, hc, hin⟩ := h.at hlt
      have hc' : (w.alloc (.cells arr 3)).cell? ⟨b, off + k, none⟩ = some (.int .i64 (l.getD k default)) := by rw [World.cell?_alloc_lt _ _ _ hb]; exact hc
      have HX : Hid (∀ j, j < k + 1 → (arr.setIfInBounds k (.int .i64 (l.getD k default)))[j]? = some (.int .i64 (l.getD j default))) := by
        intro j hj
        rw [Array.getElem?_setIfInBounds]
        by_cases e : k = j
        · subst e; rw [if_pos rfl, if_pos (by rw [HS.out]; exact hlt)]
        · rw [if_neg e]; exact HA.out j (by omega)
      have hold : ∃ u, arr[k]? = some u := ⟨_, Array.getElem?_eq_getElem (by rw [HS.out]; exact hlt)⟩
      obtain ⟨u, hu⟩ := hold
      generalize l.getD k default = x at *
      go_wp2_with fail
      exact ⟨⟨k + 1, _, by omega, by go_num, rfl, by show _ = n; rw [Array.size_setIfInBounds]; exact HS.out, HX⟩, by simp [intOf]; omega⟩
    · obtain rfl : k = n := by omega
      go_wp2_with fail
      go_ret
      have hl := HL.out
      subst hl
      exact ⟨_, rfl, ⟨_, rfl, Nat.le_refl _, Own.ofBlk (Blk.new w _ arr) (Ints.last rfl h.2.1 h.2.2.1 HA.out)⟩, (Kept.refl w).alloc _⟩

end Go.Proofs.Ythkcdjnnacdeoaa
