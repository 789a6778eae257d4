/- Joined texts. No condition. -/
import Derived.Deep.RegionHeld3
import Derived.Deep.MidRow
import Derived.Test.YtphdojebdclonaaDoorQ4
import Derived.Test.YtphdojebdclonaaDoorQ1
import Derived.Test.YtphdojebdclonaaDoorQ3
/- Walks: a deed done. Walks: what is behind each deed in each state. No condition. -/
namespace Go.Proofs.YtphdojebdclonaaDoor
set_option linter.unusedSimpArgs false
set_option linter.unusedVariables false
open Go.RowKit

def Sp.stepI (d : Sp.Deed) (s : Nat) : Int := if Sp.run d.need s = true then (Sp.behind d s : Nat) else -1

theorem andNot_fin : ∀ a : Fin 32, ∀ b : Fin 32, bits .andNot .i64 ((a.val : Nat) : Int) ((b.val : Nat) : Int) = ((a.val &&& (31 ^^^ b.val) : Nat) : Int) := by decide +kernel
theorem minus_fin : ∀ a : Fin 32, ∀ b : Fin 32, ∀ c : Fin 32, b.val &&& c.val = 0 → (a.val ||| b.val) - (a.val &&& c.val) = (a.val ||| b.val) &&& (31 ^^^ c.val) := by decide +kernel
theorem or32 (a b : Nat) (ha : a < 32) (hb : b < 32) : a ||| b < 32 := Nat.or_lt_two_pow (n := 5) ha hb
theorem xor32 (a b : Nat) (ha : a < 32) (hb : b < 32) : a ^^^ b < 32 := Nat.xor_lt_two_pow (n := 5) ha hb
theorem behind_lt {d : Sp.Deed} {s : Nat} (hs : s < 32) (h : Sp.deedOk d = true) : Sp.behind d s < 32 := by
  have h1 := deedOk_on h
  have h3 := deedOk_flip h
  unfold Sp.behind
  refine xor32 _ _ ?_ (by omega)
  exact Nat.lt_of_le_of_lt Nat.and_le_left (or32 _ _ hs (by omega))
theorem deedOk_apart {d : Sp.Deed} (h : Sp.deedOk d = true) : d.on.toNat &&& d.off.toNat = 0 := by
  unfold Sp.deedOk at h
  simp only [Bool.and_eq_true, beq_iff_eq] at h
  exact h.1.1.2
theorem stepI_bd {d : Sp.Deed} {s : Nat} (hs : s < 32) (h : Sp.deedOk d = true) : -1 ≤ Sp.stepI d s ∧ Sp.stepI d s ≤ 31 := by
  have := behind_lt hs h
  unfold Sp.stepI
  split <;> omega

theorem c_behindDeed (v : Value) (d : Sp.Deed) (s : Int) (w : World) (h : DeedV w v d) (hd : Sp.deedOk d = true) (hs0 : 0 ≤ s) (hs1 : s ≤ 31) :
    Calls Tryd.prog 115 #[v, .int .i64 s] w (RetK (.int .i64 (Sp.stepI d s.toNat)) w) := by
  obtain ⟨A, n, c, rfl, hI, _, _, _⟩ := h
  obtain ⟨s, rfl⟩ := Int.eq_ofNat_of_zero_le hs0
  rw [Int.toNat_natCast]
  have hk := (Kept.refl w).alloc (.cells #[.slice A n c, .int .i64 d.on, .int .i64 d.off, .int .i64 d.flip] 72)
  have B0 := Blk.new w 72 #[.slice A n c, .int .i64 d.on, .int .i64 d.off, .int .i64 d.flip]
  obtain ⟨o0, o1⟩ := deedOk_on hd
  obtain ⟨f0, f1⟩ := deedOk_off hd
  obtain ⟨x0, x1⟩ := deedOk_flip hd
  obtain ⟨on, hon⟩ := Int.eq_ofNat_of_zero_le o0
  obtain ⟨off, hoff⟩ := Int.eq_ofNat_of_zero_le f0
  obtain ⟨flip, hflip⟩ := Int.eq_ofNat_of_zero_le x0
  have HB : Hid (Sp.behind d s = ((s ||| on) &&& (31 ^^^ off)) ^^^ flip) := by
    show _ = _
    unfold Sp.behind
    rw [hon, hoff, hflip, Int.toNat_natCast, Int.toNat_natCast, Int.toNat_natCast]
  rw [hon] at B0 hk o0 o1
  rw [hoff] at B0 hk f0 f1
  rw [hflip] at B0 hk x0 x1
  rw [hon, hoff, hflip]
  have HN := Lib.hid (deedOk_need hd)
  have hol := or32 s on (by omega) (by omega)
  have e1 := i64_or_nat s on (by omega) (by omega)
  have e2 := andNot_fin ⟨s ||| on, hol⟩ ⟨off, by omega⟩
  simp only at e2
  have hal : (s ||| on) &&& (31 ^^^ off) < 32 := Nat.lt_of_le_of_lt Nat.and_le_left hol
  have e3 := i64_xor_nat ((s ||| on) &&& (31 ^^^ off)) flip (by omega) (by omega)
  clear hd hon hoff hflip
  cases hr : Sp.run d.need s
  · have HR := Lib.hid hr
    clear hr
    go_enter Tryd.func115, Tryd.ntmps115
    go_wp2_with fail
    refine (c_runCode _ _ _ _ _ _ (hI.keep hk) HN.out (by omega) (by omega)).mono ?_; rintro e w2 ⟨rfl, hk2⟩
    rw [Int.toNat_natCast, HR.out]
    go_wp2_with fail
    go_ret
    exact ⟨ret_int (by unfold Sp.stepI; rw [HR.out]; rfl), hk.trans hk2⟩
  · have HR := Lib.hid hr
    clear hr
    go_enter Tryd.func115, Tryd.ntmps115
    go_wp2_with fail
    refine (c_runCode _ _ _ _ _ _ (hI.keep hk) HN.out (by omega) (by omega)).mono ?_; rintro e w2 ⟨rfl, hk2⟩
    rw [Int.toNat_natCast, HR.out]
    replace B0 := B0.kept hk2
    have c0 := B0.cell
    go_wp2_with fail
    go_ret
    exact ⟨ret_int (by unfold Sp.stepI; rw [HR.out, HB.out]; rfl), hk.trans hk2⟩

set_option maxRecDepth 100000 in
theorem c_l6Do (v : Value) (d : Sp.Deed) (s : Int) (w : World) (h : DeedV w v d) (hd : Sp.deedOk d = true) (hs0 : 0 ≤ s) (hs1 : s ≤ 31) :
    Calls Tryd.prog 50 #[v, .int .i64 s] w (RetK (.int .i64 (Sp.stepI d s.toNat)) w) := by
  obtain ⟨A, n, c, rfl, hI, _, _, _⟩ := h
  obtain ⟨s, rfl⟩ := Int.eq_ofNat_of_zero_le hs0
  rw [Int.toNat_natCast]
  have hk := (Kept.refl w).alloc (.cells #[.slice A n c, .int .i64 d.on, .int .i64 d.off, .int .i64 d.flip] 72)
  have B0 := Blk.new w 72 #[.slice A n c, .int .i64 d.on, .int .i64 d.off, .int .i64 d.flip]
  obtain ⟨o0, o1⟩ := deedOk_on hd
  obtain ⟨f0, f1⟩ := deedOk_off hd
  obtain ⟨x0, x1⟩ := deedOk_flip hd
  have hap := deedOk_apart hd
  obtain ⟨on, hon⟩ := Int.eq_ofNat_of_zero_le o0
  obtain ⟨off, hoff⟩ := Int.eq_ofNat_of_zero_le f0
  obtain ⟨flip, hflip⟩ := Int.eq_ofNat_of_zero_le x0
  have HB : Hid (Sp.behind d s = ((s ||| on) &&& (31 ^^^ off)) ^^^ flip) := by
    show _ = _
    unfold Sp.behind
    rw [hon, hoff, hflip, Int.toNat_natCast, Int.toNat_natCast, Int.toNat_natCast]
  rw [hon, hoff, Int.toNat_natCast, Int.toNat_natCast] at hap
  rw [hon] at B0 hk o0 o1
  rw [hoff] at B0 hk f0 f1
  rw [hflip] at B0 hk x0 x1
  rw [hon, hoff, hflip]
  have HN := Lib.hid (deedOk_need hd)
  have hol := or32 s on (by omega) (by omega)
  have hb1 : s < 32 := by omega
  have hb2 : on < 32 := by omega
  have hb3 : off < 32 := by omega
  have HM : Hid ((s ||| on) - (s &&& off) = (s ||| on) &&& (31 ^^^ off)) := minus_fin ⟨s, hb1⟩ ⟨on, hb2⟩ ⟨off, hb3⟩ hap
  have hal : (s ||| on) &&& (31 ^^^ off) < 32 := Nat.lt_of_le_of_lt Nat.and_le_left hol
  have hsub : s &&& off ≤ s ||| on := Nat.le_trans Nat.and_le_left Nat.left_le_or
  have hsubI : ((s ||| on : Nat) : Int) - ((s &&& off : Nat) : Int) = (((s ||| on) &&& (31 ^^^ off) : Nat) : Int) := by
    have := HM.out
    omega
  have hw : IntKind.i64.wrap (((s ||| on : Nat) : Int) - ((s &&& off : Nat) : Int)) = (((s ||| on) &&& (31 ^^^ off) : Nat) : Int) := by rw [hsubI]; exact IntWalk.i64_in _ (by omega)
  clear hd hon hoff hflip hap
  cases hr : Sp.run d.need s
  · have HR := Lib.hid hr
    clear hr hw hsubI
    go_enter Tryd.func50, Tryd.ntmps50
    go_wp2_with fail
    refine (c_l5Run _ _ _ _ _ _ (hI.keep hk) HN.out (by omega) (by omega)).mono ?_; rintro e w2 ⟨rfl, hk2⟩
    rw [Int.toNat_natCast, HR.out]
    go_wp2_with fail
    go_ret
    exact ⟨ret_int (by unfold Sp.stepI; rw [HR.out]; rfl), hk.trans hk2⟩
  · have HR := Lib.hid hr
    clear hr
    go_enter Tryd.func50, Tryd.ntmps50
    go_wp2_with fail
    refine (c_l5Run _ _ _ _ _ _ (hI.keep hk) HN.out (by omega) (by omega)).mono ?_; rintro e w2 ⟨rfl, hk2⟩
    rw [Int.toNat_natCast, HR.out]
    replace B0 := B0.kept hk2
    have c0 := B0.cell
    go_wp2_with fail
    go_quiet (first | (go_at_call 109; exact quiet_ret (c_l1Either _ _ _ (by omega) (by omega) (by omega) (by omega))) | (go_at_call 110; exact quiet_ret (c_l1Both _ _ _ (by omega) (by omega) (by omega) (by omega))) | (go_at_call 108; exact quiet_ret (c_l1Other _ _ _ (by omega) (by omega) (by omega) (by omega))))
    go_wp2_with fail
    go_ret
    exact ⟨ret_int (by unfold Sp.stepI; rw [HR.out, HB.out]; rfl), hk.trans (hk2.drewN _)⟩

end Go.Proofs.YtphdojebdclonaaDoor

namespace Go.Proofs.YtphdojebdclonaaDoor
set_option linter.unusedSimpArgs false
set_option linter.unusedVariables false
open Go.RowKit

def zeros32 : Array Value := (List.replicate 32 (Value.int .i64 0)).toArray
theorem info_row : (Tryd.prog.info? 81).map (fun i => (i.zero, i.size, i.bytes)) = some (some (.agg zeros32), 32, 256) := by kernel_rfl

theorem make_rows (n : Nat) (hn : n ≤ 2147483648) (w : World) :
    (Instr.makeSlice 78 (.int .i64 (n : Int)) (.int .i64 (n : Int))).run Tryd.prog w =
      .ok (.slice (some ⟨w.heap.size, 0, none⟩) n n) (w.alloc (.cells (madeCells zeros32 (n * 32)) 81)) := by
  obtain ⟨i, hi, hz, hs, hb⟩ := info_parts info_row
  have := run_make_rowN (P := Tryd.prog) 78 81 i _ Tryd.underlying78 hi hz .i64 .i64 n n (Nat.le_refl _) (by rw [hb]; omega) (by omega) w
  rw [hs] at this
  exact this

/-- the rows in one list, row behind row -/
def Sp.flat (ds : List Sp.Deed) (p : Nat) : Int := Sp.stepI (ds.getD (p / 32) default) (p % 32)
theorem flat_at (ds : List Sp.Deed) (k s : Nat) (hs : s < 32) : Sp.flat ds (k * 32 + s) = Sp.stepI (ds.getD k default) s := by
  unfold Sp.flat
  rw [show (k * 32 + s) / 32 = k by omega, show (k * 32 + s) % 32 = s by omega]

/-- the rows of n deeds, in block g -/
def Rows (w : World) (g : Nat) (ds : List Sp.Deed) : Prop := g < w.heap.size ∧ ∀ p, p < ds.length * 32 → w.cell? ⟨g, p, none⟩ = some (.int .i64 (Sp.flat ds p))
theorem Rows.keep {w w' : World} {g : Nat} {ds : List Sp.Deed} (h : Rows w g ds) (hk : Kept w w') : Rows w' g ds :=
  ⟨Nat.lt_of_lt_of_le h.1 hk.size, fun p hp => by rw [hk.cell h.1]; exact h.2 p hp⟩

def AllQ (w : World) (ds : List Sp.Deed) (v : Value) (w' : World) : Prop := ∃ g, v = .slice (some ⟨g, 0, none⟩) ds.length ds.length ∧ w.heap.size ≤ g ∧ Rows w' g ds

set_option maxHeartbeats 1000000 in
set_option maxRecDepth 100000 in
theorem c_behindAll (v : Value) (t : Sp.Task) (w : World) (h : TaskV w v t) (ht : Sp.taskOk t = true) : Calls Tryd.prog 54 #[v] w (RetS (AllQ w t.deeds) w) := by
  obtain ⟨A, n, c, A', n', c', rfl⟩ := h.form
  have hk0 := (Kept.refl w).alloc (.cells #[.int .i64 t.start, .slice A n c, .slice A' n' c'] 26)
  have B0 := Blk.new w 26 #[.int .i64 t.start, .slice A n c, .slice A' n' c']
  have hn := h.deeds.le
  have HL := Lib.hid h.deeds.len
  have HT := Lib.hid ht
  have hn6 := Sp.taskOk_len ht
  rw [HL.out] at hn6
  clear ht
  have hmk := make_rows n' (by omega)
  go_enter Tryd.func54, Tryd.ntmps54
  go_wp2_with fail
  clear hmk
  go_loopw [14] (fun i wr => ∃ (k : Nat) (cs : Array Value), k ≤ n' ∧ i = .int .i64 k ∧ Kept w wr ∧ Blk wr (w.heap.size + 1) 81 cs ∧ Hid (cs.size = n' * 32) ∧ Hid (∀ p, p < k * 32 → cs[p]? = some (.int .i64 (Sp.flat t.deeds p)))) (fun i _ => n' - (intOf i).toNat)
  case atStart => exact ⟨0, _, Nat.zero_le _, rfl, hk0.alloc _, by have := Blk.new (w.alloc (.cells #[.int .i64 t.start, .slice A n c, .slice A' n' c'] 26)) 81 (madeCells zeros32 (n' * 32)); simpa using this, by show _ = _; rw [size_madeCells], by show ∀ p, p < 0 * 32 → _; omega⟩
  case round =>
    obtain ⟨k, cs, hk, rfl, hkp, hB, HS, HA⟩ := hrel
    by_cases hlt : k < n'
    · have hkl : k < t.deeds.length := by rw [HL.out]; exact hlt
      obtain ⟨b, off, rfl, hb, hc⟩ := h.deeds.at hlt
      have hdo := Lib.hid (Sp.taskOk_deed HT.out hkl)
      have hfl := Lib.hid (flat_at t.deeds k)
      generalize t.deeds.getD k default = d at *
      obtain ⟨A2, n2, c2, q0, hI, q1, q2, q3, hin1, hin2, hin3⟩ := hc
      have c0 := hkp.at_ q0
      have c1 := hkp.at_ q1
      have c2' := hkp.at_ q2
      have c3 := hkp.at_ q3
      clear q0 q1 q2 q3
      go_wp2_with fail
      clear c0 c1 c2' c3
      have hkD := hkp.alloc (.cells #[.slice A2 n2 c2, .int .i64 d.on, .int .i64 d.off, .int .i64 d.flip] 72)
      have BD := Blk.new wr 72 #[.slice A2 n2 c2, .int .i64 d.on, .int .i64 d.off, .int .i64 d.flip]
      have BG := hB.alloc (.cells #[.slice A2 n2 c2, .int .i64 d.on, .int .i64 d.off, .int .i64 d.flip] 72)
      have hGlt := hB.lt
      obtain ⟨D, HD⟩ : ∃ D, Hid (D = wr.heap.size) := ⟨_, rfl⟩
      have hDG : w.heap.size + 1 ≠ D := by rw [HD.out]; omega
      have hSt : Hid (∀ w', Blk w' D 72 #[.slice A2 n2 c2, .int .i64 d.on, .int .i64 d.off, .int .i64 d.flip] → Kept w w' → (w'.cell? ⟨D, 0, none⟩ = some (.slice A2 n2 c2) ∧ w'.cell? ⟨D, 1, none⟩ = some (.int .i64 d.on) ∧ w'.cell? ⟨D, 2, none⟩ = some (.int .i64 d.off) ∧ w'.cell? ⟨D, 3, none⟩ = some (.int .i64 d.flip) ∧ Kept w w')) :=
        fun w' hb' hk' => ⟨hb'.cell 0, hb'.cell 1, hb'.cell 2, hb'.cell 3, hk'⟩
      rw [← HD.out]
      rw [← HD.out] at BD
      go_loopw [19] (fun i wi => ∃ (s : Nat) (cs : Array Value), s ≤ 32 ∧ i = .int .i64 s ∧ Kept w wi ∧ Blk wi (w.heap.size + 1) 81 cs ∧ Blk wi D 72 #[.slice A2 n2 c2, .int .i64 d.on, .int .i64 d.off, .int .i64 d.flip] ∧ Hid (cs.size = n' * 32) ∧ Hid (∀ p, p < k * 32 + s → cs[p]? = some (.int .i64 (Sp.flat t.deeds p)))) (fun i _ => 32 - (intOf i).toNat)
      case atStart => exact ⟨0, cs, by omega, rfl, hkD, BG, BD, HS, HA⟩
      case round =>
        obtain ⟨s, cs, hs, rfl, hkp, hB, hD, HS, HA⟩ := hrel
        by_cases hlt2 : s < 32
        · have hold : ∃ u, cs[k * 32 + s]? = some u := ⟨_, Array.getElem?_eq_getElem (by rw [HS.out]; omega)⟩
          obtain ⟨u, hu⟩ := hold
          have HF := Lib.hid (hfl.out s hlt2)
          have HU := Lib.hid hu
          clear hu
          go_wp2_with fail
          go_region_held3 (fun w' => w'.cell? ⟨D, 0, none⟩ = some (.slice A2 n2 c2) ∧ w'.cell? ⟨D, 1, none⟩ = some (.int .i64 d.on) ∧ w'.cell? ⟨D, 2, none⟩ = some (.int .i64 d.off) ∧ w'.cell? ⟨D, 3, none⟩ = some (.int .i64 d.flip) ∧ Kept w w')
            (first | exact hSt.out _ hD hkp | exact hSt.out _ hD hkp.drew | exact hSt.out _ hD6 hkp6 | (exact hSt.out _ (hD6.far (fun e => hDG e.symm) _) (hkp6.setCell (by simp) _)))
            (first | (go_at_call 115; go_split_ands; refine (c_behindDeed _ d _ _ ⟨_, _, _, rfl, hI.keep (by assumption), hin1, hin2, hin3⟩ hdo.out (by omega) (by omega)).mono ?_; rintro e w6 ⟨rfl, hk6⟩; rw [Int.toNat_natCast, ← HF.out]; have hk7 := (Kept.refl wr).drew.trans hk6; have hD6 := hD.kept hk7; have hkp6 := hkp.trans hk7; have hB6 := hB.kept hk7; have cG := hB6.cell (k * 32 + s); rw [HU.out] at cG; have fG := hB6.frozen (k * 32 + s)))
          have hkp7 := hkp6.setCell (p := ⟨w.heap.size + 1, k * 32 + s, none⟩) (by simp) (.int .i64 (Sp.flat t.deeds (k * 32 + s)))
          have hB7 := hB6.set_ (k * 32 + s) (.int .i64 (Sp.flat t.deeds (k * 32 + s)))
          have hD7 := hD6.far (p := ⟨w.heap.size + 1, k * 32 + s, none⟩) (fun e => hDG e.symm) (.int .i64 (Sp.flat t.deeds (k * 32 + s)))
          have HX : Hid (∀ p, p < k * 32 + (s + 1) → (cs.setIfInBounds (k * 32 + s) (.int .i64 (Sp.flat t.deeds (k * 32 + s))))[p]? = some (.int .i64 (Sp.flat t.deeds p))) := by
            intro p hp
            rw [Array.getElem?_setIfInBounds]
            by_cases e : k * 32 + s = p
            · subst e; rw [if_pos rfl, if_pos (by rw [HS.out]; omega)]
            · rw [if_neg e]; exact HA.out p (by omega)
          clear hk6 hk7 cG fG
          go_wp2_with fail
          exact ⟨⟨s + 1, _, by omega, by go_num, hkp7, hB7, hD7, by show _ = _; rw [Array.size_setIfInBounds]; exact HS.out, HX⟩, by simp [intOf]; omega⟩
        · obtain rfl : s = 32 := by omega
          have HA' : Hid (∀ p, p < (k + 1) * 32 → cs[p]? = some (.int .i64 (Sp.flat t.deeds p))) := fun p hp => HA.out p (by omega)
          go_wp2_with fail
          exact ⟨⟨k + 1, cs, by omega, by go_num, hkp, hB, HS, HA'⟩, by simp [intOf]; omega⟩
    · go_wp2_with fail
      go_ret
      obtain rfl : k = n' := by omega
      exact ⟨_, rfl, ⟨w.heap.size + 1, by rw [HL.out]; rfl, by omega, hB.lt, fun p hp => by rw [hB.cell]; exact HA.out p (by rw [HL.out] at hp; omega)⟩, hkp⟩

theorem zeros_cells : (Value.agg zeros32).cells = zeros32 := rfl
theorem zeros_size : zeros32.size = 32 := rfl
attribute [irreducible] zeros32

end Go.Proofs.YtphdojebdclonaaDoor
