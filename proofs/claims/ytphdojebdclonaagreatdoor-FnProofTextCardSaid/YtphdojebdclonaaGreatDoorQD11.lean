/- Walks: draws of tasks and of hard tasks. No condition. -/
import Derived.Test.YtphdojebdclonaaGreatDoorQ18
namespace Go.Proofs.YtphdojebdclonaaGreatDoor
open Go.RowKit





































































































































































































































































































































set_option maxHeartbeats 1000000 in
set_option maxRecDepth 100000 in
theorem c_drawProofText (A : Option Addr) (n c : Nat) (w : World) (h : BytesV w A n ∧ n ≤ c ∧ c ≤ maxLen) : Calls Tryz.prog 6 #[.slice A n c] w (RetS DrawnT w) := by
  have hk0 := (Kept.refl w).alloc (.cells #[.int .i64 0, .slice none 0 0, .slice none 0 0] 26)
  have B0 := Blk.new w 26 #[.int .i64 0, .slice none 0 0, .slice none 0 0]
  have hb0 := h.1.keep hk0
  go_enter Tryz.func6, Tryz.ntmps6
  go_wp2_with fail
  refine (c_l20Open A n c _ hb0 h.2.1 h.2.2).mono ?_; rintro e w2 ⟨v, rfl, ⟨R, rfl, hRge, hR⟩, hk2⟩
  simp only [World.size_alloc] at hRge
  replace hk0 := hk0.trans hk2
  replace B0 := B0.kept hk2
  clear hk2 hb0
  go_wp2_with fail
  refine (c_l20Hard R 9 0 _ hR (by omega) (by omega) (by omega)).mono ?_; rintro e w3 ⟨v, p3, rfl, hR3, hp1, hp2, hB, st, A1, n1, c1, A2, n2, c2, rfl, hst, hG, hD, hn2⟩
  replace hk0 := hB.kept hk0 (by omega)
  replace B0 := hB.blk B0 (.inl (by omega))
  clear hB hR hR3
  have ce := B0.cell
  have fe := B0.frozen
  have b1 := B0.set_ 0 (.int .i64 st)
  have b2 := b1.set_ 1 (.slice A1 n1 c1)
  have k1 := RowsKept.set (X := w2.heap.size) B0 (by decide) (by decide) 0 (.int .i64 st)
  have k2 := RowsKept.set (X := w2.heap.size) b1 (by decide) (by decide) 1 (.slice A1 n1 c1)
  have k3 := RowsKept.set (X := w2.heap.size) b2 (by decide) (by decide) 2 (.slice A2 n2 c2)
  have kk := (k1.trans k2).trans k3
  have hG2 := hG.kept kk.ints
  have hD2 := hD.kept kk
  have hle := Nat.le_refl w.heap.size
  have hkF := ((hk0.setCell (p := ⟨w.heap.size, 0, none⟩) hle (.int .i64 st)).setCell (p := ⟨w.heap.size, 1, none⟩) hle (.slice A1 n1 c1)).setCell (p := ⟨w.heap.size, 2, none⟩) hle (.slice A2 n2 c2)
  clear B0 b1 b2 k1 k2 k3 kk hG hD hk0
  go_wp2_with fail
  refine bodyPost_ret (v := .agg #[.int .i64 st, .slice A1 n1 c1, .slice A2 n2 c2]) (by simp [results, Tryz.results6, go_sem, ce]) rfl ?_
  obtain ⟨t, hTV, _⟩ := TaskQ.task ⟨st, A1, n1, c1, A2, n2, c2, rfl, hst, hG2, hD2, hn2⟩
  exact ⟨_, rfl, ⟨t, hTV⟩, hkF⟩

end Go.Proofs.YtphdojebdclonaaGreatDoor
