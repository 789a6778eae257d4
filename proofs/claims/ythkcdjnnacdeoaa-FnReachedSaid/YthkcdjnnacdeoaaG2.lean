/- Walks: what is behind each deed in each state. No condition. -/
import Derived.Test.YthkcdjnnacdeoaaG1
import Derived.Test.YthkcdjnnacdeoaaHar2
import Derived.Deep.RegionHeld3
import Derived.Deep.MidRow
namespace Go.Proofs.Ythkcdjnnacdeoaa
open Go.RowKit

def zeros32 : Array Value := (List.replicate 32 (Value.int .i64 0)).toArray
theorem info_row : (Try.prog.info? 79).map (fun i => (i.zero, i.size, i.bytes)) = some (some (.agg zeros32), 32, 256) := by kernel_rfl

theorem make_rows (n : Nat) (hn : n ≤ 2147483648) (w : World) :
    (Instr.makeSlice 67 (.int .i64 (n : Int)) (.int .i64 (n : Int))).run Try.prog w =
      .ok (.slice (some ⟨w.heap.size, 0, none⟩) n n) (w.alloc (.cells (madeCells zeros32 (n * 32)) 79)) := by
  obtain ⟨i, hi, hz, hs, hb⟩ := info_parts info_row
  have := run_make_rowN (P := Try.prog) 67 79 i _ Try.underlying67 hi hz .i64 .i64 n n (Nat.le_refl _) (by rw [hb]; omega) (by omega) w
  rw [hs] at this
  exact this

/-- the rows in one list, row behind row -/
def Sp.flat (ds : List Sp.Deed) (p : Nat) : Int := Sp.stepI (ds.getD (p / 32) default) (p % 32)
theorem flat_at (ds : List Sp.Deed) (k s : Nat) (hs : s < 32) : Sp.flat ds (k * 32 + s) = Sp.stepI (ds.getD k default) s := by
  unfold Sp.flat
  rw [show (k * 32 + s) / 32 = k by omega, show (k * 32 + s) % 32 = s by omega]

/-- the rows of n deeds, in block g -/
def Rows (w : World) (g : Nat) (ds : List Sp.Deed) : Prop := g < w.heap.size ∧ ∀ p, p < ds.length * 32 → w.cell? ⟨g, p, none⟩ = some (.int .i64 (Sp.flat ds p))
theorem Rows.keep {w w' : World} {g : Nat} {ds : List Sp.Deed} (h : Rows w g ds) (hk : Kept w w') : Rows w' g ds :=
  ⟨Nat.lt_of_lt_of_le h.1 hk.size, fun p hp => by rw [hk.cell h.1]; exact h.2 p hp⟩

def AllQ (w : World) (ds : List Sp.Deed) (v : Value) (w' : World) : Prop := ∃ g, v = .slice (some ⟨g, 0, none⟩) ds.length ds.length ∧ w.heap.size ≤ g ∧ Rows w' g ds

set_option maxHeartbeats 1000000 in
set_option maxRecDepth 100000 in
theorem c_behindAll (v : Value) (t : Sp.Task) (w : World) (h : TaskV w v t) (ht : Sp.taskOk t = true) : Calls Try.prog 75 #[v] w (RetS (AllQ w t.deeds) w) := by
  obtain ⟨A, n, c, A', n', c', rfl⟩ := h.form
  have hk0 := (Kept.refl w).alloc (.cells #[.int .i64 t.start, .slice A n c, .slice A' n' c'] 26)
  have B0 := Blk.new w 26 #[.int .i64 t.start, .slice A n c, .slice A' n' c']
  have hn := h.deeds.le
  have HL := Lib.hid h.deeds.len
  have HT := Lib.hid ht
  have hn6 := Sp.taskOk_len ht
  rw [HL.out] at hn6
  clear ht
  have hmk := make_rows n' (by omega)
  go_enter Try.func75, Try.ntmps75
  go_wp2_with fail
  clear hmk
  go_loopw [14] (fun i wr => ∃ (k : Nat) (cs : Array Value), k ≤ n' ∧ i = .int .i64 k ∧ Kept w wr ∧ Blk wr (w.heap.size + 1) 79 cs ∧ Hid (cs.size = n' * 32) ∧ Hid (∀ p, p < k * 32 → cs[p]? = some (.int .i64 (Sp.flat t.deeds p)))) (fun i _ => n' - (intOf i).toNat)
  case atStart => exact ⟨0, _, Nat.zero_le _, rfl, hk0.alloc _, by have := Blk.new (w.alloc (.cells #[.int .i64 t.start, .slice A n c, .slice A' n' c'] 26)) 79 (madeCells zeros32 (n' * 32)); simpa using this, by show _ = _; rw [size_madeCells], by show ∀ p, p < 0 * 32 → _; omega⟩
  case round =>
    obtain ⟨k, cs, hk, rfl, hkp, hB, HS, HA⟩ := hrel
    by_cases hlt : k < n'
    · have hkl : k < t.deeds.length := by rw [HL.out]; exact hlt
      obtain ⟨b, off, rfl, hb, hc⟩ := h.deeds.at hlt
      have hdo := Lib.hid (Sp.taskOk_deed HT.out hkl)
      have hfl := Lib.hid (flat_at t.deeds k)
      generalize t.deeds.getD k default = d at *
      obtain ⟨A2, n2, c2, q0, hI, q1, q2, q3, hin1, hin2, hin3⟩ := hc
      have c0 := hkp.at_ q0
      have c1 := hkp.at_ q1
      have c2' := hkp.at_ q2
      have c3 := hkp.at_ q3
      clear q0 q1 q2 q3
      go_wp2_with fail
      clear c0 c1 c2' c3
      have hkD := hkp.alloc (.cells #[.slice A2 n2 c2, .int .i64 d.on, .int .i64 d.off, .int .i64 d.flip] 39)
      have BD := Blk.new wr 39 #[.slice A2 n2 c2, .int .i64 d.on, .int .i64 d.off, .int .i64 d.flip]
      have BG := hB.alloc (.cells #[.slice A2 n2 c2, .int .i64 d.on, .int .i64 d.off, .int .i64 d.flip] 39)
      have hGlt := hB.lt
      obtain ⟨D, HD⟩ : ∃ D, Hid (D = wr.heap.size) := ⟨_, rfl⟩
      have hDG : w.heap.size + 1 ≠ D := by rw [HD.out]; omega
      have hSt : Hid (∀ w', Blk w' D 39 #[.slice A2 n2 c2, .int .i64 d.on, .int .i64 d.off, .int .i64 d.flip] → Kept w w' → (w'.cell? ⟨D, 0, none⟩ = some (.slice A2 n2 c2) ∧ w'.cell? ⟨D, 1, none⟩ = some (.int .i64 d.on) ∧ w'.cell? ⟨D, 2, none⟩ = some (.int .i64 d.off) ∧ w'.cell? ⟨D, 3, none⟩ = some (.int .i64 d.flip) ∧ Kept w w')) :=
        fun w' hb' hk' => ⟨hb'.cell 0, hb'.cell 1, hb'.cell 2, hb'.cell 3, hk'⟩
      rw [← HD.out]
      rw [← HD.out] at BD
      go_loopw [19] (fun i wi => ∃ (s : Nat) (cs : Array Value), s ≤ 32 ∧ i = .int .i64 s ∧ Kept w wi ∧ Blk wi (w.heap.size + 1) 79 cs ∧ Blk wi D 39 #[.slice A2 n2 c2, .int .i64 d.on, .int .i64 d.off, .int .i64 d.flip] ∧ Hid (cs.size = n' * 32) ∧ Hid (∀ p, p < k * 32 + s → cs[p]? = some (.int .i64 (Sp.flat t.deeds p)))) (fun i _ => 32 - (intOf i).toNat)
      case atStart => exact ⟨0, cs, by omega, rfl, hkD, BG, BD, HS, HA⟩
      case round =>
        obtain ⟨s, cs, hs, rfl, hkp, hB, hD, HS, HA⟩ := hrel
        by_cases hlt2 : s < 32
        · have hold : ∃ u, cs[k * 32 + s]? = some u := ⟨_, Array.getElem?_eq_getElem (by rw [HS.out]; omega)⟩
          obtain ⟨u, hu⟩ := hold
          have HF := Lib.hid (hfl.out s hlt2)
          have HU := Lib.hid hu
          clear hu
          go_wp2_with fail
          go_region_held3 (fun w' => w'.cell? ⟨D, 0, none⟩ = some (.slice A2 n2 c2) ∧ w'.cell? ⟨D, 1, none⟩ = some (.int .i64 d.on) ∧ w'.cell? ⟨D, 2, none⟩ = some (.int .i64 d.off) ∧ w'.cell? ⟨D, 3, none⟩ = some (.int .i64 d.flip) ∧ Kept w w')
            (first | exact hSt.out _ hD hkp | exact hSt.out _ hD hkp.drew | exact hSt.out _ hD6 hkp6 | (exact hSt.out _ (hD6.far (fun e => hDG e.symm) _) (hkp6.setCell (by simp) _)))
            (first | (go_at_call 91; go_split_ands; refine (c_behindDeed _ d _ _ ⟨_, _, _, rfl, hI.keep (by assumption), hin1, hin2, hin3⟩ hdo.out (by omega) (by omega)).mono ?_; rintro e w6 ⟨rfl, hk6⟩; rw [Int.toNat_natCast, ← HF.out]; have hk7 := (Kept.refl wr).drew.trans hk6; have hD6 := hD.kept hk7; have hkp6 := hkp.trans hk7; have hB6 := hB.kept hk7; have cG := hB6.cell (k * 32 + s); rw [HU.out] at cG; have fG := hB6.frozen (k * 32 + s)))
          have hkp7 := hkp6.setCell (p := ⟨w.heap.size + 1, k * 32 + s, none⟩) (by simp) (.int .i64 (Sp.flat t.deeds (k * 32 + s)))
          have hB7 := hB6.set_ (k * 32 + s) (.int .i64 (Sp.flat t.deeds (k * 32 + s)))
          have hD7 := hD6.far (p := ⟨w.heap.size + 1, k * 32 + s, none⟩) (fun e => hDG e.symm) (.int .i64 (Sp.flat t.deeds (k * 32 + s)))
          have HX : Hid (∀ p, p < k * 32 + (s + 1) → (cs.setIfInBounds (k * 32 + s) (.int .i64 (Sp.flat t.deeds (k * 32 + s))))[p]? = some (.int .i64 (Sp.flat t.deeds p))) := by
            intro p hp
            rw [Array.getElem?_setIfInBounds]
            by_cases e : k * 32 + s = p
            · subst e; rw [if_pos rfl, if_pos (by rw [HS.out]; omega)]
            · rw [if_neg e]; exact HA.out p (by omega)
          clear hk6 hk7 cG fG
          go_wp2_with fail
          exact ⟨⟨s + 1, _, by omega, by go_num, hkp7, hB7, hD7, by show _ = _; rw [Array.size_setIfInBounds]; exact HS.out, HX⟩, by simp [intOf]; omega⟩
        · obtain rfl : s = 32 := by omega
          have HA' : Hid (∀ p, p < (k + 1) * 32 → cs[p]? = some (.int .i64 (Sp.flat t.deeds p))) := fun p hp => HA.out p (by omega)
          go_wp2_with fail
          exact ⟨⟨k + 1, cs, by omega, by go_num, hkp, hB, HS, HA'⟩, by simp [intOf]; omega⟩
    · go_wp2_with fail
      go_ret
      obtain rfl : k = n' := by omega
      exact ⟨_, rfl, ⟨w.heap.size + 1, by rw [HL.out]; rfl, by omega, hB.lt, fun p hp => by rw [hB.cell]; exact HA.out p (by rw [HL.out] at hp; omega)⟩, hkp⟩

theorem zeros_cells : (Value.agg zeros32).cells = zeros32 := rfl
theorem zeros_size : zeros32.size = 32 := rfl
attribute [irreducible] zeros32

end Go.Proofs.Ythkcdjnnacdeoaa
