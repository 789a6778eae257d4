/- Joined texts. No condition. -/
import Derived.Deep.WholeRow
import Derived.Test.YtphdojebdclonaaDoorQ6
/- Walks: what is before a set of states. Walks: the reference's states before a set. Walks: steps back. No condition. -/
namespace Go.Proofs.YtphdojebdclonaaDoor
set_option linter.unusedSimpArgs false
set_option linter.unusedVariables false
open Go.RowKit

/-- the other way round -/
def Sp.rev (r : Nat → Nat → Bool) : Nat → Nat → Bool := fun a b => r b a

def Sp.qBack (F : Nat → Int) (S p u : Nat) : Prop := (∃ v : Nat, F p = (v : Int) ∧ S.testBit v = true) ∧ u = p % 32
theorem back_all {n : Nat} {F : Nat → Int} {S T : Nat} (hF : ∀ p, p < n * 32 → -1 ≤ F p ∧ F p ≤ 31) (h : Sp.To (Sp.qBack F S) (n * 32) T) : T = Sp.img (Sp.rev (Sp.edge n F)) S := by
  refine Sp.set_ext h.1 (Sp.img_lt _ _) fun u hu => ?_
  rw [h.2 u, Sp.img_bit]
  constructor
  · rintro ⟨p, hp, ⟨v, h1, h2⟩, rfl⟩
    have := hF p hp
    refine ⟨hu, v, by omega, h2, (edge_iff _ _ _ _).2 ⟨p / 32, by omega, ?_⟩⟩
    rw [show p / 32 * 32 + p % 32 = p by omega]; exact h1
  · rintro ⟨_, s, hs, h2, h3⟩
    obtain ⟨k, hk, h1⟩ := (edge_iff _ _ _ _).1 h3
    exact ⟨k * 32 + u, by omega, ⟨s, h1, h2⟩, by omega⟩

set_option maxHeartbeats 1000000 in
set_option maxRecDepth 100000 in
theorem c_backStatesO (A : Option Addr) (g n c : Nat) (F : Nat → Int) (S : Nat) (w : World) (h : RowsF w g n F) (hS : S < 4294967296) (hn : n ≤ 6) (hA : 0 < n → A = some ⟨g, 0, none⟩) :
    Calls Tryd.prog 114 #[.slice A n c, .int .i64 S] w (RetK (.int .i64 (Sp.img (Sp.rev (Sp.edge n F)) S : Nat)) w) := by
  go_enter Tryd.func114, Tryd.ntmps114
  go_wp2_with fail
  go_loopw [12, 5] (fun i o wr => ∃ k T : Nat, k ≤ n ∧ i = .int .i64 k ∧ o = .int .i64 T ∧ Kept w wr ∧ Sp.To (Sp.qBack F S) (k * 32) T) (fun i _ _ => n - (intOf i).toNat)
  case atStart => exact ⟨0, 0, Nat.zero_le _, rfl, rfl, Kept.refl w, To_zero _⟩
  case round =>
    obtain ⟨k, T, hk, rfl, rfl, hkp, hT⟩ := hrel
    by_cases hlt : k < n
    · obtain rfl := hA (by omega)
      have HR := h.keep hkp
      have hl4 := row_zero
      have hl5 := zeros_cells
      go_wp2_with (first | (refine row_load_at HR hlt rfl rfl rfl ?_) | (refine row_store_new rfl rfl rfl rfl ?_) | (refine row_load_new rfl rfl rfl ?_))
      obtain ⟨C, HC⟩ : ∃ C, Hid (C = (rowOf F k).toArray) := ⟨_, rfl⟩
      rw [← HC.out]
      have HCa : Hid (∀ s, s < 32 → C[s]? = some (.int .i64 (F (k * 32 + s)))) := fun s hs => by rw [HC.out, List.getElem?_toArray]; exact rowOf_at F k s hs
      have hkD := hkp.alloc (.cells C 81)
      clear hl4 hl5
      go_loopw [17, 5] (fun i o wi => ∃ s T : Nat, s ≤ 32 ∧ i = .int .i64 s ∧ o = .int .i64 T ∧ Kept w wi ∧ Sp.To (Sp.qBack F S) (k * 32 + s) T) (fun i _ _ => 32 - (intOf i).toNat)
      case atStart => exact ⟨0, T, by omega, rfl, rfl, hkD, hT⟩
      case round =>
        obtain ⟨s, T, hs, rfl, rfl, hkp, hT⟩ := hrel
        by_cases hlt2 : s < 32
        · have hix := run_index_row C s _ hlt2 (HCa.out s hlt2)
          obtain ⟨hF0, hF1⟩ := h.2.2 (k * 32 + s) (by omega)
          have HQ := Lib.hid (show ∀ u, Sp.qBack F S (k * 32 + s) u ↔ ((∃ v : Nat, F (k * 32 + s) = (v : Int) ∧ S.testBit v = true) ∧ u = s) from fun u => by unfold Sp.qBack; rw [show (k * 32 + s) % 32 = s by omega])
          generalize F (k * 32 + s) = f at *
          by_cases hf : 0 ≤ f
          · obtain ⟨f, rfl⟩ := Int.eq_ofNat_of_zero_le hf
            have hab := and_bit S f (by omega)
            have hb1 := bit_one (S.testBit f)
            have hsh := bin_shl_one s (by omega)
            have hor := or_p2 T s hT.1 (by omega)
            cases hev : S.testBit f
            all_goals
              rw [hev] at hb1 hab
              have HV := Lib.hid hev
              clear hev
              go_wp2_with fail
            · exact ⟨⟨s + 1, T, by omega, by go_num, rfl, hkp, To_skip hT fun u hu => by obtain ⟨⟨v, hv, hb⟩, _⟩ := (HQ.out u).1 hu; rw [show v = f from (by omega), HV.out] at hb; cases hb⟩, by simp [intOf]; omega⟩
            · exact ⟨⟨s + 1, _, by omega, by go_num, rfl, hkp, To_add hT (by omega) fun u => (HQ.out u).trans ⟨fun hu => hu.2, fun e => ⟨⟨f, rfl, HV.out⟩, e⟩⟩⟩, by simp [intOf]; omega⟩
          · go_wp2_with fail
            exact ⟨⟨s + 1, T, by omega, by go_num, rfl, hkp, To_skip hT fun u hu => by obtain ⟨⟨v, hv, _⟩, _⟩ := (HQ.out u).1 hu; omega⟩, by simp [intOf]; omega⟩
        · obtain rfl : s = 32 := by omega
          have hT2 : Hid (Sp.To (Sp.qBack F S) ((k + 1) * 32) T) := by show Sp.To _ _ _; rw [show (k + 1) * 32 = k * 32 + 32 by omega]; exact hT
          go_wp2_with fail
          exact ⟨⟨k + 1, T, by omega, by go_num, rfl, hkp, hT2⟩, by simp [intOf]; omega⟩
    · go_wp2_with fail
      go_ret
      obtain rfl : k = n := by omega
      exact ⟨ret_int (by rw [back_all h.2.2 hT]), hkp⟩
theorem c_backStates (g n c : Nat) (F : Nat → Int) (S : Nat) (w : World) (h : RowsF w g n F) (hS : S < 4294967296) (hn : n ≤ 6) :
    Calls Tryd.prog 114 #[.slice (some ⟨g, 0, none⟩) n c, .int .i64 S] w (RetK (.int .i64 (Sp.img (Sp.rev (Sp.edge n F)) S : Nat)) w) := c_backStatesO _ g n c F S w h hS hn (fun _ => rfl)

end Go.Proofs.YtphdojebdclonaaDoor

namespace Go.Proofs.YtphdojebdclonaaDoor
set_option linter.unusedSimpArgs false
set_option linter.unusedVariables false
open Go.RowKit

/-- what is before a state by some deed of a task -/
def Sp.relB (t : Sp.Task) : Nat → Nat → Bool := Sp.rev (Sp.rel t)

def Sp.qBk (t : Sp.Task) (S s k : Nat) : Prop := ∃ v : Nat, Sp.stepI (t.deeds.getD k default) s = (v : Int) ∧ S.testBit v = true
/-- the places k < m of a row give the bit s -/
def Sp.qBit (q : Nat → Prop) (s k u : Nat) : Prop := q k ∧ u = s
def Sp.qInto (t : Sp.Task) (S s u : Nat) : Prop := u = s ∧ ∃ v, v < 32 ∧ S.testBit v = true ∧ Sp.rel t s v = true
theorem into_row {t : Sp.Task} {S s b T : Nat} (hs : s < 32) (hok : Sp.taskOk t = true) (h : Sp.To (Sp.qInto t S) s b) (hr : Sp.ToB b (Sp.qBit (Sp.qBk t S s) s) t.deeds.length T) : Sp.To (Sp.qInto t S) (s + 1) T := by
  refine ⟨hr.1, fun u => ?_⟩
  rw [hr.2 u, h.2 u]
  constructor
  · rintro (⟨p, hp, h1⟩ | ⟨k, hk, ⟨v, h1, h2⟩, rfl⟩)
    · exact ⟨p, by omega, h1⟩
    · have := stepI_bd (d := t.deeds.getD k default) hs (Sp.taskOk_deed hok hk)
      exact ⟨u, by omega, rfl, v, by omega, h2, (rel_iff t u v hs).2 ⟨k, hk, h1⟩⟩
  · rintro ⟨p, hp, h1⟩
    by_cases e : p = s
    · subst e
      obtain ⟨rfl, v, hv, h2, h3⟩ := h1
      obtain ⟨k, hk, h4⟩ := (rel_iff t u v hs).1 h3
      exact .inr ⟨k, hk, ⟨v, h4, h2⟩, rfl⟩
    · exact .inl ⟨p, by omega, h1⟩
theorem into_all {t : Sp.Task} {S T : Nat} (h : Sp.To (Sp.qInto t S) 32 T) : T = Sp.img (Sp.relB t) S := by
  refine Sp.set_ext h.1 (Sp.img_lt _ _) fun u hu => ?_
  rw [h.2 u, Sp.img_bit]
  exact ⟨fun ⟨p, hp, e, v, hv, h1, h2⟩ => ⟨hu, v, hv, h1, by subst e; exact h2⟩, fun ⟨_, v, hv, h1, h2⟩ => ⟨u, hu, rfl, v, hv, h1, h2⟩⟩

def Sp.statesBack (t : Sp.Task) (S : Int) : Int := if Sp.taskOk t = true ∧ Sp.setOk S = true then (Sp.img (Sp.relB t) S.toNat : Nat) else -1

set_option maxHeartbeats 1000000 in
theorem c_sStatesBack (v : Value) (t : Sp.Task) (S : Int) (w : World) (h : TaskV w v t) :
    Calls Tryd.prog 140 #[v, .int .i64 S] w (RetK (.int .i64 (Sp.statesBack t S)) w) := by
  obtain ⟨A, n, c, A', n', c', rfl⟩ := h.form
  have hk0 := (Kept.refl w).alloc (.cells #[.int .i64 t.start, .slice A n c, .slice A' n' c'] 26)
  have B0 := Blk.new w 26 #[.int .i64 t.start, .slice A n c, .slice A' n' c']
  have hn := h.deeds.le
  have HL := Lib.hid h.deeds.len
  have hT := h.keep hk0
  go_enter Tryd.func140, Tryd.ntmps140
  go_wp2_with fail
  refine (c_sTaskValid _ t _ hT).mono ?_; rintro e w2 ⟨rfl, hk2⟩
  replace hk0 := hk0.trans hk2
  replace B0 := B0.kept hk2
  replace hT := hT.keep hk2
  clear hk2
  have c0 := B0.cell
  cases ht : Sp.taskOk t
  · have HE : Hid (Sp.statesBack t S = -1) := by show _ = _; unfold Sp.statesBack; rw [ht]; simp
    clear ht
    go_wp2_with fail
    go_ret
    exact ⟨ret_int HE.out.symm, hk0⟩
  have HK := Lib.hid ht
  cases hs : Sp.setOk S
  · have HE : Hid (Sp.statesBack t S = -1) := by show _ = _; unfold Sp.statesBack; rw [hs]; simp
    have hno : ¬ (0 ≤ S ∧ S ≤ 4294967295) := by unfold Sp.setOk at hs; simpa using hs
    clear ht hs
    go_wp2_with (first | (go_at_call 48; refine (c_l1In_no _ _ _ _ hno).mono ?_; rintro e w' ⟨rfl, rfl⟩))
    go_ret
    exact ⟨ret_int HE.out.symm, hk0⟩
  have hyes : 0 ≤ S ∧ S ≤ 4294967295 := by unfold Sp.setOk at hs; simpa using hs
  have HS := Lib.hid hs
  obtain ⟨S, rfl⟩ := Int.eq_ofNat_of_zero_le hyes.1
  have hS : S < 4294967296 := by omega
  clear ht hs
  go_wp2_with (first | (go_at_call 48; refine (c_l1In_yes _ _ _ _ hyes).mono ?_; rintro e w' ⟨rfl, rfl⟩))
  have hyes' := hyes
  clear hyes c0
  go_loopw [6, 5] (fun i o wr => ∃ s T : Nat, s ≤ 32 ∧ i = .int .i64 s ∧ o = .int .i64 T ∧ Kept w wr ∧ Blk wr w.heap.size 26 #[.int .i64 t.start, .slice A n c, .slice A' n' c'] ∧ Sp.To (Sp.qInto t S) s T) (fun i _ _ => 32 - (intOf i).toNat)
  case atStart => exact ⟨0, 0, by omega, rfl, rfl, hk0, B0, To_zero _⟩
  case round =>
    obtain ⟨s, T, hs, rfl, rfl, hkp, hB, hTo⟩ := hrel
    by_cases hlt : s < 32
    · go_wp2_with fail
      try rw [show decide ((s : Int) < 32) = true from decide_eq_true (by omega)]
      have HT0 := Lib.hid hTo
      have hTlt := hTo.1
      clear hTo
      go_loopw [7, 5] (fun i o wr => ∃ k T1 : Nat, k ≤ n' ∧ i = .int .i64 k ∧ o = .int .i64 T1 ∧ Kept w wr ∧ Blk wr w.heap.size 26 #[.int .i64 t.start, .slice A n c, .slice A' n' c'] ∧ Sp.ToB T (Sp.qBit (Sp.qBk t S s) s) k T1) (fun i _ _ => n' - (intOf i).toNat)
      case atStart => exact ⟨0, T, by omega, rfl, rfl, hkp, hB, ToB_zero hTlt _⟩
      case round =>
        obtain ⟨k, T1, hk, rfl, rfl, hkp, hB, hTB⟩ := hrel
        have c0 := hB.cell
        by_cases hlt2 : k < n'
        · have hkl : k < t.deeds.length := by rw [HL.out]; exact hlt2
          have h' := h.keep hkp
          obtain ⟨b, off, rfl, hb, hc⟩ := h'.deeds.at hlt2
          have HY := Lib.hid (show Sp.qBk t S s k ↔ ∃ v : Nat, Sp.stepI (t.deeds.getD k default) s = (v : Int) ∧ S.testBit v = true from Iff.rfl)
          have hdo := Lib.hid (Sp.taskOk_deed HK.out hkl)
          generalize t.deeds.getD k default = d at *
          obtain ⟨A2, n2, c2, hc0, hc1, hc2, hc3, hdv⟩ := hc.v
          have HD := Lib.hid hdv
          clear hdv
          have hTl := hTB.1
          have hbd := stepI_bd (d := d) hlt hdo.out
          go_wp2_with fail
          refine (c_l6Do _ d _ _ HD.out hdo.out (by omega) (by omega)).mono ?_; rintro e w4 ⟨rfl, hk4⟩
          rw [Int.toNat_natCast]
          replace hkp := hkp.trans hk4
          replace hB := hB.kept hk4
          clear c0 hc0 hc1 hc2 hc3 hk4 hb HD
          obtain ⟨x, HX⟩ : ∃ x, Hid (Sp.stepI d s = x) := ⟨_, rfl⟩
          rw [HX.out] at hbd ⊢
          by_cases hx : 0 ≤ x
          · obtain ⟨x, rfl⟩ := Int.eq_ofNat_of_zero_le hx
            have hsh := bin_shl_one s (by omega)
            cases hbit : S.testBit x
            · have HBit := Lib.hid hbit
              clear hbit
              go_wp2_with (first | (go_at_call 100; refine (c_bitN S x _ hS (by omega)).mono ?_; rintro e w3 ⟨rfl, rfl⟩; rw [HBit.out]))
              exact ⟨⟨k + 1, T1, by omega, by go_num, rfl, hkp, hB, ToB_skip hTB fun u hu => by
                obtain ⟨v, hv, hb⟩ := HY.out.1 hu.1
                rw [HX.out] at hv
                obtain rfl : x = v := by omega
                rw [HBit.out] at hb; cases hb⟩, by simp [intOf]; omega⟩
            · have HBit := Lib.hid hbit
              clear hbit
              go_wp2_with (first | (go_at_call 100; refine (c_bitN S x _ hS (by omega)).mono ?_; rintro e w3 ⟨rfl, rfl⟩; rw [HBit.out]) | (go_at_call 109; refine (c_eitherP T1 s _ hTl (by omega)).mono ?_; rintro e w3 ⟨rfl, rfl⟩))
              exact ⟨⟨k + 1, _, by omega, by go_num, rfl, hkp, hB, ToB_add hTB (by omega) fun u => ⟨fun hu => hu.2, fun e => ⟨HY.out.2 ⟨x, HX.out, HBit.out⟩, e⟩⟩⟩, by simp [intOf]; omega⟩
          · go_wp2_with fail
            exact ⟨⟨k + 1, T1, by omega, by go_num, rfl, hkp, hB, ToB_skip hTB fun u hu => by obtain ⟨v, hv, _⟩ := HY.out.1 hu.1; rw [HX.out] at hv; omega⟩, by simp [intOf]; omega⟩
        · have HX : Hid (Sp.To (Sp.qInto t S) (s + 1) T1) := into_row hlt HK.out HT0.out (by rw [HL.out]; rw [show k = n' by omega] at hTB; exact hTB)
          go_wp2_with fail
          exact ⟨⟨s + 1, T1, by omega, by go_num, rfl, hkp, hB, HX.out⟩, by simp [intOf]; omega⟩
    · go_wp2_with fail
      go_ret
      obtain rfl : s = 32 := by omega
      exact ⟨ret_int (by unfold Sp.statesBack; rw [if_pos ⟨HK.out, HS.out⟩, Int.toNat_natCast, into_all hTo]), hkp⟩

end Go.Proofs.YtphdojebdclonaaDoor

namespace Go.Proofs.YtphdojebdclonaaDoor
set_option linter.unusedSimpArgs false
set_option linter.unusedVariables false
open Go.RowKit

set_option maxHeartbeats 1000000 in
theorem c_stepsBackO (A : Option Addr) (g n c : Nat) (F : Nat → Int) (S : Nat) (w : World) (h : RowsF w g n F) (hn : n ≤ 6) (hS : S < 2 ^ 32) (hA : 0 < n → A = some ⟨g, 0, none⟩) :
    Calls Tryd.prog 53 #[.slice A n c, .int .i64 (S : Int)] w (RetS (NewInts w (Sp.distList (Sp.rev (Sp.edge n F)) S)) w) := by
  have hmk : ∀ w, (Instr.makeSlice 23 (.int .i64 32) (.int .i64 32)).run Tryd.prog w = _ := fun w => make_ints 32 (by omega) w
  go_enter Tryd.func53, Tryd.ntmps53
  go_wp2_with fail
  clear hmk
  have hk0 := (Kept.refl w).alloc (.cells (madeCells #[.int .i64 0] 32) 3)
  have B0 := Blk.new w 3 (madeCells #[.int .i64 0] 32)
  obtain ⟨C0, hC0⟩ : ∃ C0, C0 = madeCells #[.int .i64 0] 32 := ⟨_, rfl⟩
  have hz : C0.size = 32 := by rw [hC0]; exact size_madeCells _ _
  rw [← hC0] at hk0 B0 ⊢
  have HZ := Lib.hid hz
  clear hz hC0
  obtain ⟨rel, HRel⟩ : ∃ rel, Hid (rel = Sp.rev (Sp.edge n F)) := ⟨Sp.rev (Sp.edge n F), rfl⟩
  rw [← HRel.out]
  go_loopw [13] (fun i wr => ∃ (k : Nat) (cs : Array Value), k ≤ 32 ∧ i = .int .i64 k ∧ Kept w wr ∧ Blk wr w.heap.size 3 cs ∧ Hid (cs.size = 32) ∧ Hid (∀ s, s < k → cs[s]? = some (.int .i64 (Sp.dto rel S 0 s)))) (fun i _ => 32 - (intOf i).toNat)
  case atStart => exact ⟨0, _, Nat.zero_le _, rfl, hk0, B0, HZ, by show ∀ s, s < 0 → _; omega⟩
  case round =>
    obtain ⟨k, cs, hk, rfl, hkp, hB, HZ, HA⟩ := hrel
    by_cases hlt : k < 32
    · obtain ⟨u, hu⟩ : ∃ u, cs[k]? = some u := ⟨_, Array.getElem?_eq_getElem (by rw [HZ.out]; exact hlt)⟩
      have c0 := hB.cell k
      rw [hu] at c0
      clear hu
      have f0 := hB.frozen k
      have hab := and_bit S k (by omega)
      have HD := Lib.hid (dto_zero (rel := rel) hS k hlt)
      have HX : Hid (∀ x : Int, x = Sp.dto rel S 0 k → ∀ s, s < k + 1 → (cs.setIfInBounds k (.int .i64 x))[s]? = some (.int .i64 (Sp.dto rel S 0 s))) := by
        intro x hx s hs
        rw [Array.getElem?_setIfInBounds]
        by_cases e : k = s
        · subst e; rw [if_pos rfl, if_pos (by rw [HZ.out]; exact hlt), hx]
        · rw [if_neg e]; exact HA.out s (by omega)
      cases hev : S.testBit k
      all_goals
        rw [hev] at hab HD
        clear hev
        go_wp2_with fail
        exact ⟨⟨k + 1, _, by omega, by go_num, hkp.setCell (by simp) _, hB.set_ k _, by show _ = 32; rw [Array.size_setIfInBounds]; exact HZ.out, HX.out _ (by rw [HD.out]; rfl)⟩, by simp [intOf]; omega⟩
    · have HA0 : Hid (∀ s, s < 32 → cs[s]? = some (.int .i64 (Sp.dto rel S 0 s))) := fun s hs => HA.out s (by omega)
      go_wp2_with fail
      clear HA
      have HA := HA0
      clear HA0 hlt hk
      go_loopw [1, 7] (fun o y wr => ∃ (m : Nat) (cs : Array Value), m ≤ 31 ∧ o = .int .i64 (Sp.rch rel S m : Nat) ∧ y = .int .i64 ((m : Int) + 1) ∧ Kept w wr ∧ Blk wr w.heap.size 3 cs ∧ Hid (cs.size = 32) ∧ Hid (∀ s, s < 32 → cs[s]? = some (.int .i64 (Sp.dto rel S m s)))) (fun _ y _ => 40 - (intOf y).toNat)
      case atStart => exact ⟨0, cs, by omega, rfl, rfl, hkp, hB, HZ, HA⟩
      case round =>
        obtain ⟨m, cs, hm, rfl, rfl, hkp, hB, HZ, HA⟩ := hrel
        have hT := Sp.rch_lt (rel := rel) hS m
        have hf := Sp.fr_lt (rel := rel) hS (m + 1)
        have hand := i64_andNot_nat (Sp.img rel (Sp.rch rel S m)) (Sp.rch rel S m) (by have := Sp.img_lt rel (Sp.rch rel S m); omega) (by omega)
        rw [fresh_fr hS m] at hand
        have hor := i64_or_nat (Sp.rch rel S m) (Sp.fr rel S (m + 1)) (by omega) (by omega)
        rw [or_fr hS m] at hor
        have HEnd := Lib.hid (@dto_end rel S hS m)
        have HNew := Lib.hid (@dto_new rel S hS m)
        have HOld := Lib.hid (@dto_old rel S m)
        have HBd := Lib.hid (Sp.fr_bound (rel := rel) hS (m + 1))
        have hstep := (c_backStatesO A g n c F (Sp.rch rel S m) wr (h.keep hkp) (by omega) hn hA)
        rw [← HRel.out] at hstep
        obtain ⟨T1, HT1⟩ : ∃ T1, Hid (Sp.rch rel S (m + 1) = T1) := ⟨Sp.rch rel S (m + 1), rfl⟩
        rw [HT1.out] at hor
        generalize Sp.rch rel S m = T at *
        generalize Sp.img rel T = I at *
        generalize Sp.fr rel S (m + 1) = f at *
        go_wp2_with fail
        refine hstep.mono ?_; rintro e w2 ⟨rfl, hk2⟩
        replace hkp := hkp.trans hk2
        replace hB := hB.kept hk2
        clear hk2 hstep
        by_cases hf0 : f = 0
        · subst hf0
          go_wp2_with fail
          go_ret
          exact ⟨_, rfl, ⟨w.heap.size, by rw [distList_len]; rfl, Nat.le_refl _, by
            rw [distList_len]
            rw [← HRel.out]
            refine Own.ofBlk hB ?_
            exact Ints.ofBlk hB (distList_len _ _) (by unfold maxLen; omega) (distList_in _ _ hS) (fun j hj => by rw [distList_at _ _ j hj, ← HEnd.out trivial j hj]; exact HA.out j hj)⟩, hkp⟩
        · have hm1 : m + 1 ≤ 31 := HBd.out hf0
          go_wp2_with fail
          clear hand
          go_loopw [37] (fun i wr => ∃ (k : Nat) (cs : Array Value), k ≤ 32 ∧ i = .int .i64 k ∧ Kept w wr ∧ Blk wr w.heap.size 3 cs ∧ Hid (cs.size = 32) ∧ Hid (∀ s, s < 32 → cs[s]? = some (.int .i64 (if s < k then Sp.dto rel S (m + 1) s else Sp.dto rel S m s)))) (fun i _ => 32 - (intOf i).toNat)
          case atStart => exact ⟨0, _, Nat.zero_le _, rfl, hkp, hB, HZ, fun s hs => by rw [if_neg (by omega)]; exact HA.out s hs⟩
          case round =>
            obtain ⟨k, cs, hk, rfl, hkp, hB, HZ, HA⟩ := hrel
            by_cases hlt : k < 32
            · have hab := and_bit f k (by omega)
              have hb1 := bit_one (f.testBit k)
              have HN2 := Lib.hid (HNew.out k hlt)
              have HO2 := Lib.hid (HOld.out k hlt)
              cases hev : f.testBit k
              · rw [hev] at hab hb1 HO2
                have HX : Hid (∀ s, s < 32 → cs[s]? = some (.int .i64 (if s < k + 1 then Sp.dto rel S (m + 1) s else Sp.dto rel S m s))) := by
                  intro s hs
                  rw [HA.out s hs]
                  by_cases e : s = k
                  · subst e; rw [if_neg (by omega), if_pos (by omega), HO2.out rfl]
                  · by_cases e2 : s < k
                    · rw [if_pos e2, if_pos (by omega)]
                    · rw [if_neg e2, if_neg (by omega)]
                clear hev
                go_wp2_with fail
                exact ⟨⟨k + 1, cs, by omega, by go_num, hkp, hB, HZ, HX⟩, by simp [intOf]; omega⟩
              · rw [hev] at hab hb1 HN2
                obtain ⟨u, hu⟩ : ∃ u, cs[k]? = some u := ⟨_, Array.getElem?_eq_getElem (by rw [HZ.out]; exact hlt)⟩
                have c0 := hB.cell k
                rw [hu] at c0
                clear hu hev
                have f0 := hB.frozen k
                have HX : Hid (∀ s, s < 32 → (cs.setIfInBounds k (.int .i64 ((m : Int) + 1)))[s]? = some (.int .i64 (if s < k + 1 then Sp.dto rel S (m + 1) s else Sp.dto rel S m s))) := by
                  intro s hs
                  rw [Array.getElem?_setIfInBounds]
                  by_cases e : k = s
                  · subst e; rw [if_pos rfl, if_pos (by rw [HZ.out]; exact hlt), if_pos (by omega), HN2.out rfl]
                  · rw [if_neg e, HA.out s hs]
                    by_cases e2 : s < k
                    · rw [if_pos e2, if_pos (by omega)]
                    · rw [if_neg e2, if_neg (by omega)]
                go_wp2_with fail
                exact ⟨⟨k + 1, _, by omega, by go_num, hkp.setCell (by simp) _, hB.set_ k _, by show _ = 32; rw [Array.size_setIfInBounds]; exact HZ.out, HX⟩, by simp [intOf]; omega⟩
            · obtain rfl : k = 32 := by omega
              have HA2 : Hid (∀ s, s < 32 → cs[s]? = some (.int .i64 (Sp.dto rel S (m + 1) s))) := fun s hs => by rw [HA.out s hs, if_pos hs]
              go_wp2_with fail
              exact ⟨⟨m + 1, cs, hm1, by rw [HT1.out], by go_num, hkp, hB, HZ, HA2⟩, by simp [intOf]; omega⟩
theorem c_stepsBack (g n c : Nat) (F : Nat → Int) (S : Nat) (w : World) (h : RowsF w g n F) (hn : n ≤ 6) (hS : S < 2 ^ 32) :
    Calls Tryd.prog 53 #[.slice (some ⟨g, 0, none⟩) n c, .int .i64 (S : Int)] w (RetS (NewInts w (Sp.distList (Sp.rev (Sp.edge n F)) S)) w) := c_stepsBackO _ g n c F S w h hn hS (fun _ => rfl)

end Go.Proofs.YtphdojebdclonaaDoor
