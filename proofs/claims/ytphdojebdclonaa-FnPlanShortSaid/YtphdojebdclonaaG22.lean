/- Walks: the reference's WaysTo. No condition. -/
import Derived.Test.YtphdojebdclonaaG21
import Derived.StillTailTactics
namespace Go.Proofs.Ytphdojebdclonaa
open Go.RowKit

theorem IntRow.made (w : World) (n : Nat) : IntRow (w.alloc (.cells (madeCells #[.int .i64 0] n) 3)) w.heap.size n (fun _ => 0) := by
  have B := Blk.new w 3 (madeCells #[.int .i64 0] n)
  exact ⟨B.lt, B.frozen, fun s hs => by rw [B.cell]; simp [madeCells, hs, Nat.mod_one]⟩
theorem waysBy_skip {t : Sp.Task} {W : Nat → Int} {s k : Nat} (h : Sp.hit t s k = false) : Sp.waysBy t W s (k + 1) = Sp.waysBy t W s k := by
  show (if Sp.hit t s k = true then _ else _) = _
  rw [h]; rfl
theorem waysBy_add {t : Sp.Task} {W : Nat → Int} {s k u : Nat} (h : Sp.hit t s k = true) (hu : Sp.stepI (t.deeds.getD k default) s = (u : Int)) : Sp.waysBy t W s (k + 1) = IntKind.i64.wrap (Sp.waysBy t W s k + W u) := by
  show (if Sp.hit t s k = true then _ else _) = _
  rw [h, hu, Int.toNat_natCast]; rfl
/-- the ways while the deeds of the state j are gone through -/
def Sp.waysMid (t : Sp.Task) (m j k s : Nat) : Int := if s = j then Sp.waysBy t (Sp.waysUp t m) j k else Sp.waysTill t (m + 1) j s
theorem waysMid_zero {t : Sp.Task} {m j : Nat} (h : Sp.toGo t j = ((m + 1 : Nat) : Int)) (s : Nat) : Sp.waysTill t (m + 1) j s = Sp.waysMid t m j 0 s := by
  unfold Sp.waysMid
  by_cases e : s = j
  · subst e; rw [if_pos rfl, waysTill_this t h]; rfl
  · rw [if_neg e]
theorem waysMid_this (t : Sp.Task) (m j k : Nat) : Sp.waysMid t m j k j = Sp.waysBy t (Sp.waysUp t m) j k := by unfold Sp.waysMid; rw [if_pos rfl]
theorem waysMid_before {t : Sp.Task} {m j k u : Nat} (h : Sp.toGo t j = ((m + 1 : Nat) : Int)) (hu : Sp.toGo t u = (m : Int)) : Sp.waysMid t m j k u = Sp.waysUp t m u := by
  unfold Sp.waysMid
  rw [if_neg (by rintro rfl; rw [hu] at h; omega), waysTill_before t hu]
theorem waysMid_skip {t : Sp.Task} {m j k : Nat} (h : Sp.hit t j k = false) (s : Nat) : Sp.waysMid t m j k s = Sp.waysMid t m j (k + 1) s := by
  unfold Sp.waysMid
  rw [waysBy_skip h]
theorem waysMid_add {t : Sp.Task} {m j k u : Nat} (h : Sp.hit t j k = true) (hu : Sp.stepI (t.deeds.getD k default) j = (u : Int)) (s : Nat) :
    (if s = j then IntKind.i64.wrap (Sp.waysBy t (Sp.waysUp t m) j k + Sp.waysUp t m u) else Sp.waysMid t m j k s) = Sp.waysMid t m j (k + 1) s := by
  unfold Sp.waysMid
  rw [waysBy_add h hu]
  by_cases e : s = j
  · rw [if_pos e, if_pos e]
  · rw [if_neg e, if_neg e, if_neg e]
theorem waysMid_end {t : Sp.Task} {m j : Nat} (h : Sp.toGo t j = ((m + 1 : Nat) : Int)) (s : Nat) : Sp.waysMid t m j t.deeds.length s = Sp.waysTill t (m + 1) (j + 1) s := by
  unfold Sp.waysMid
  by_cases e : s = j
  · subst e; rw [if_pos rfl, waysTill_done t h]; rfl
  · rw [if_neg e, waysTill_other t (.inl e)]
theorem waysTill_one {t : Sp.Task} {j : Nat} (h : Sp.toGo t j = ((0 : Nat) : Int)) (s : Nat) : (if s = j then 1 else Sp.waysTill t 0 j s) = Sp.waysTill t 0 (j + 1) s := by
  by_cases e : s = j
  · subst e; rw [if_pos rfl, waysTill_done t h]; rfl
  · rw [if_neg e, waysTill_other t (.inl e)]
theorem hit_step {t : Sp.Task} {j m u k : Nat} (h : Sp.toGo t j = ((m + 1 : Nat) : Int)) (hu : Sp.stepI (t.deeds.getD k default) j = (u : Int)) : Sp.hit t j k = (Sp.toGo t u == (m : Int)) := by
  rw [hit_on hu, h]
  congr 1
  omega
theorem waysTo_yes {t : Sp.Task} (h : Sp.taskOk t = true) : (Sp.waysTo t).length = 32 ∧ (∀ s, s < 32 → Sp.ways t s = (Sp.waysTo t).getD s default) ∧ ∀ x ∈ Sp.waysTo t, Sp.inI x := by
  unfold Sp.waysTo
  rw [if_pos h]
  refine ⟨by simp, fun s hs => by simp [List.getD, hs], fun x hx => ?_⟩
  obtain ⟨s, _, rfl⟩ := List.mem_map.1 hx
  exact ways_in t s
theorem outInts_ways {w wr : World} {t : Sp.Task} {O : Nat} (h : Sp.taskOk t = true) (hR : IntRow wr O 32 (Sp.waysTill t 32 0)) (hO : w.heap.size ≤ O) : OutInts w (Sp.waysTo t) (.slice (some ⟨O, 0, none⟩) 32 32) wr := by
  obtain ⟨h1, h2, h3⟩ := waysTo_yes h
  have := (hR.congr fun s hs => waysTill_end t hs).own h1 (by unfold maxLen; omega) h3 h2
  rw [← h1] at this
  have := OutInts.of (c := 32) this hO
  rw [h1] at this
  exact this






























































































































































































end Go.Proofs.Ytphdojebdclonaa
