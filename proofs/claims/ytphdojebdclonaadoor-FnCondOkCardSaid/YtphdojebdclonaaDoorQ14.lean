/- Joined texts. No condition. -/
import Derived.Deep.RegionHeld3
import Derived.Test.YtphdojebdclonaaDoorQ4
import Derived.Test.YtphdojebdclonaaDoorQ9
/- Walks: SumOk. Walks: SumFor. No condition. -/
namespace Go.Proofs.YtphdojebdclonaaDoor
set_option linter.unusedSimpArgs false
set_option linter.unusedVariables false
open Go.RowKit

def Sp.upTo (k : Nat) (p : Nat → Bool) : Bool := (List.range k).all p
theorem upTo_succ (k : Nat) (p : Nat → Bool) : Sp.upTo (k + 1) p = (Sp.upTo k p && p k) := by
  unfold Sp.upTo
  rw [List.range_succ, List.all_append]
  simp
theorem upTo_iff (k : Nat) (p : Nat → Bool) : Sp.upTo k p = true ↔ ∀ s, s < k → p s = true := by
  unfold Sp.upTo
  rw [List.all_eq_true]
  exact ⟨fun h s hs => h s (List.mem_range.2 hs), fun h s hs => h s (List.mem_range.1 hs)⟩
theorem upTo_no {k n : Nat} {p : Nat → Bool} (hk : k < n) (h : p k = false) : Sp.upTo n p = false := by
  cases e : Sp.upTo n p
  · rfl
  · rw [(upTo_iff n p).1 e k hk] at h; cases h

def Sp.evenFlip (f : Nat) (d : Sp.Deed) : Bool := !(cnt (d.flip.toNat &&& f) % 2 == 1)
def Sp.apart (t : Sp.Task) (f : Nat) (s : Nat) : Bool := !(Sp.run t.goal s && Sp.even t.start.toNat s f)
def Sp.sumOk (t : Sp.Task) (f : Int) : Bool := Sp.stOk f && Sp.onlyTurns t && t.deeds.all (Sp.evenFlip f.toNat) && Sp.upTo 32 (Sp.apart t f.toNat)

theorem onlyTurns_taskOk {t : Sp.Task} (h : Sp.onlyTurns t = true) : Sp.taskOk t = true := by
  unfold Sp.onlyTurns at h
  simp only [Bool.and_eq_true] at h
  exact h.1

theorem sumOk_no1 {t : Sp.Task} {f : Int} {k : Nat} (h : k < t.deeds.length) (hp : Sp.evenFlip f.toNat (t.deeds.getD k default) = false) : Sp.sumOk t f = false := by
  unfold Sp.sumOk
  rw [all_take_no _ _ k h hp]; simp
theorem sumOk_no2 {t : Sp.Task} {f : Int} {k : Nat} (h : k < 32) (hp : Sp.apart t f.toNat k = false) : Sp.sumOk t f = false := by
  unfold Sp.sumOk
  rw [upTo_no h hp]; simp

theorem flip_b (f : Nat) (d : Sp.Deed) : ((cnt (d.flip.toNat &&& f) : Int) % 2 == 1) = !Sp.evenFlip f d := by
  unfold Sp.evenFlip
  rw [Bool.not_not, Bool.eq_iff_iff, beq_iff_eq, beq_iff_eq]
  omega


set_option maxHeartbeats 2000000 in
set_option maxRecDepth 100000 in
theorem c_sSumOk (v : Value) (t : Sp.Task) (f : Int) (w : World) (h : TaskV w v t) : Calls Tryd.prog 136 #[v, .int .i64 f] w (RetK (.bool (Sp.sumOk t f)) w) := by
  obtain ⟨A, n, c, A', n', c', rfl⟩ := h.form
  have hk0 := (Kept.refl w).alloc (.cells #[.int .i64 t.start, .slice A n c, .slice A' n' c'] 26)
  have B0 := Blk.new w 26 #[.int .i64 t.start, .slice A n c, .slice A' n' c']
  have hn := h.deeds.le
  have HL := Lib.hid h.deeds.len
  go_enter Tryd.func136, Tryd.ntmps136
  go_wp2_with fail
  refine (c_sOnlyTurns _ t _ h.box).mono ?_; rintro e w2 ⟨rfl, hk2⟩
  replace hk0 := hk0.trans hk2
  replace B0 := B0.kept hk2
  cases hto : Sp.onlyTurns t
  · have HE : Hid (Sp.sumOk t f = false) := by show _ = _; unfold Sp.sumOk; rw [hto]; simp
    clear hto
    go_wp2_with fail
    go_ret
    exact ⟨ret_bool HE.out.symm, hk0⟩
  cases hsf : Sp.stOk f
  · have HE : Hid (Sp.sumOk t f = false) := by show _ = _; unfold Sp.sumOk; rw [hsf]; simp
    clear hto
    go_wp2_with (first | (go_at_call 48; refine (c_l1In_st _ _).mono ?_; rintro e w' ⟨rfl, rfl⟩))
    go_ret
    exact ⟨ret_bool HE.out.symm, hk0⟩
  have HT := Lib.hid hto
  have HF := Lib.hid hsf
  obtain ⟨hf0, hf1⟩ := st_bd hsf
  have HK := Lib.hid (onlyTurns_taskOk hto)
  clear hto
  go_wp2_with (first | (go_at_call 48; refine (c_l1In_st _ _).mono ?_; rintro e w' ⟨rfl, rfl⟩))
  clear hsf hk2
  go_loopw [5] (fun i wr => ∃ k : Nat, k ≤ n' ∧ i = .int .i64 k ∧ Kept w wr ∧ Blk wr w.heap.size 26 #[.int .i64 t.start, .slice A n c, .slice A' n' c'] ∧ Hid ((t.deeds.take k).all (Sp.evenFlip f.toNat) = true)) (fun i _ => n' - (intOf i).toNat)
  case atStart => exact ⟨0, Nat.zero_le _, rfl, hk0, B0, rfl⟩
  case round =>
    obtain ⟨k, hk, rfl, hkp, hB, HA⟩ := hrel
    have c0 := hB.cell
    by_cases hlt : k < n'
    · have hkl : k < t.deeds.length := by rw [HL.out]; exact hlt
      obtain ⟨b, off, rfl, hb, hc⟩ := (h.keep hkp).deeds.at hlt
      have HY := Lib.hid (all_take_succ t.deeds (Sp.evenFlip f.toNat) k hkl)
      have HN := Lib.hid (@sumOk_no1 t f k hkl)
      have hdo := Sp.taskOk_deed HK.out hkl
      generalize t.deeds.getD k default = d at *
      obtain ⟨A2, n2, c2, q0, hI, hc1, hc2, hc3, _⟩ := hc
      obtain ⟨hl0, hl1⟩ := deedOk_flip hdo
      have ha1 : d.flip.toNat &&& f.toNat ≤ f.toNat := Nat.and_le_right
      have hcl := cnt_le (d.flip.toNat &&& f.toNat)
      have hq := flip_b f.toNat d
      clear hdo
      cases hev : Sp.evenFlip f.toNat d
      all_goals
        rw [hev] at hq
        have HV := Lib.hid hev
        clear hev
        simp only [Bool.not_true, Bool.not_false] at hq
        go_wp2_with (first | (go_at_call 110; refine (c_l1Both _ _ _ (by omega) (by omega) (by omega) (by omega)).mono ?_; rintro e w' ⟨rfl, rfl⟩) | (go_at_call 158; refine (c_l1Many _ _ (by omega) (by omega)).mono ?_; rintro e w' ⟨rfl, rfl⟩))
      · go_ret
        exact ⟨ret_bool (HN.out HV.out).symm, hkp⟩
      · exact ⟨⟨k + 1, by omega, by go_num, hkp, hB, by show _ = true; rw [HY.out, HA.out, HV.out]; rfl⟩, by simp [intOf]; omega⟩
    · have HALL : Hid (t.deeds.all (Sp.evenFlip f.toNat) = true) := by have := HA.out; rwa [Sp.take_all _ k (by rw [HL.out]; omega)] at this
      go_wp2_with fail
      clear c0
      have hgo := Sp.taskOk_goal HK.out
      obtain ⟨hs0, hs1⟩ := Sp.taskOk_start HK.out
      have HG := Lib.hid hgo
      clear hgo HA
      obtain ⟨wa, rfl⟩ : ∃ wa : World, wa = wr := ⟨_, rfl⟩
      go_loopw [6] (fun i wr => ∃ k : Nat, k ≤ 32 ∧ i = .int .i64 k ∧ Kept w wr ∧ Blk wr w.heap.size 26 #[.int .i64 t.start, .slice A n c, .slice A' n' c'] ∧ Hid (Sp.upTo k (Sp.apart t f.toNat) = true)) (fun i _ => 32 - (intOf i).toNat)
      case atStart => exact ⟨0, by omega, rfl, hkp, hB, rfl⟩
      case round =>
        obtain ⟨j, hj, rfl, hkp2, hB2, HU⟩ := hrel
        by_cases hlt2 : j < 32
        · have HS : Hid (∀ w', Kept wr w' → (w'.cell? ⟨w.heap.size, 0, none⟩ = some (.int .i64 t.start) ∧ w'.cell? ⟨w.heap.size, 1, none⟩ = some (.slice A n c) ∧ w'.cell? ⟨w.heap.size, 2, none⟩ = some (.slice A' n' c') ∧ Kept wr w')) :=
            fun w' hk => ⟨(hB2.kept hk).cell 0, (hB2.kept hk).cell 1, (hB2.kept hk).cell 2, hk⟩
          have hGI := (h.keep hkp2).goal
          have HY := Lib.hid (upTo_succ j (Sp.apart t f.toNat))
          have HN := Lib.hid (@sumOk_no2 t f j hlt2)
          have ha1 : j &&& f.toNat ≤ f.toNat := Nat.and_le_right
          have ha2 : t.start.toNat &&& f.toNat ≤ f.toNat := Nat.and_le_right
          have hcl := cnt_le (j &&& f.toNat)
          have hcl2 := cnt_le (t.start.toNat &&& f.toNat)
          have hq := even_b t.start.toNat j f.toNat
          cases hev : Sp.run t.goal j
          · have HP : Hid (Sp.apart t f.toNat j = true) := by show _ = true; unfold Sp.apart; rw [hev]; rfl
            have HV := Lib.hid hev
            clear hev hq
            go_wp2_with fail
            refine wp_region_held_drew (S := fun w' => w'.cell? ⟨w.heap.size, 0, none⟩ = some (.int .i64 t.start) ∧ w'.cell? ⟨w.heap.size, 1, none⟩ = some (.slice A n c) ∧ w'.cell? ⟨w.heap.size, 2, none⟩ = some (.slice A' n' c') ∧ Kept wr w') (by kernel_rfl) (HS.out _ (Kept.refl _).drew) (fun hHeld => ?_)
            refine take_val (i := 0) (v := .pointer (some ⟨w.heap.size, 1, none⟩)) rfl rfl (by kernel_rfl) (by kernel_rfl) (by kernel_rfl) (fun _ _ _ h => h) rfl ?_ hHeld ?_
            · (intro wq hq; go_split_ands; go_simp; try with_reducible rfl)
            simp only [List.setIfInBounds_toArray, List.set_cons_zero, List.set_cons_succ]
            refine take_val (i := 1) (v := .slice A n c) rfl rfl (by kernel_rfl) (by kernel_rfl) (by kernel_rfl) (fun _ _ _ h => h) rfl ?_ hHeld ?_
            · (intro wq hq; go_split_ands; go_simp; try with_reducible rfl)
            simp only [List.setIfInBounds_toArray, List.set_cons_zero, List.set_cons_succ]
            refine take_val (i := 2) (v := .int .i64 j) rfl rfl (by kernel_rfl) (by kernel_rfl) (by kernel_rfl) (fun _ _ _ h => h) rfl ?_ hHeld ?_
            · (intro wq hq; go_split_ands; go_simp; try with_reducible rfl)
            simp only [List.setIfInBounds_toArray, List.set_cons_zero, List.set_cons_succ]
            refine wpAnyH_ready (rs := [3]) (by kernel_rfl) (by simp) ?_
            refine AllReadyH.cons rfl (fun K hK => ?_) AllReadyH.nil
            go_simp
            refine (c_l5Run _ _ _ _ _ _ (hGI.keep (Kept.refl wr).drew) HG.out (by omega) (by omega)).mono ?_; rintro e w6 ⟨rfl, hk6⟩
            rw [Int.toNat_natCast, HV.out]
            refine hK.out _ _ (HS.out _ ((Kept.refl wr).drew.trans hk6)) (fun hHeld2 => ?_)
            clear hK K
            try simp only [Act.put, List.setIfInBounds_toArray, List.set_cons_zero, List.set_cons_succ]
            refine take_val (i := 4) (v := .bool false) rfl rfl (by kernel_rfl) (by kernel_rfl) (by kernel_rfl) (fun _ _ _ h => h) rfl ?_ hHeld2 ?_
            · (intro wq hq; go_split_ands; go_simp; try with_reducible rfl)
            simp only [List.setIfInBounds_toArray, List.set_cons_zero, List.set_cons_succ]
            refine take_skip (i := 5) rfl rfl (by kernel_rfl) (by kernel_rfl) (by kernel_rfl) (fun _ _ _ h => h) rfl hHeld2 ?_
            simp only [List.setIfInBounds_toArray, List.set_cons_zero, List.set_cons_succ]
            refine take_skip (i := 6) rfl rfl (by kernel_rfl) (by kernel_rfl) (by kernel_rfl) (fun _ _ _ h => h) rfl hHeld2 ?_
            simp only [List.setIfInBounds_toArray, List.set_cons_zero, List.set_cons_succ]
            refine take_skip (i := 7) rfl rfl (by kernel_rfl) (by kernel_rfl) (by kernel_rfl) (fun _ _ _ h => h) rfl hHeld2 ?_
            simp only [List.setIfInBounds_toArray, List.set_cons_zero, List.set_cons_succ]
            refine take_skip (i := 8) rfl rfl (by kernel_rfl) (by kernel_rfl) (by kernel_rfl) (fun _ _ _ h => h) rfl hHeld2 ?_
            simp only [List.setIfInBounds_toArray, List.set_cons_zero, List.set_cons_succ]
            refine take_skip (i := 9) rfl rfl (by kernel_rfl) (by kernel_rfl) (by kernel_rfl) (fun _ _ _ h => h) rfl hHeld2 ?_
            simp only [List.setIfInBounds_toArray, List.set_cons_zero, List.set_cons_succ]
            refine take_skip (i := 10) rfl rfl (by kernel_rfl) (by kernel_rfl) (by kernel_rfl) (fun _ _ _ h => h) rfl hHeld2 ?_
            simp only [List.setIfInBounds_toArray, List.set_cons_zero, List.set_cons_succ]
            refine take_skip (i := 11) rfl rfl (by kernel_rfl) (by kernel_rfl) (by kernel_rfl) (fun _ _ _ h => h) rfl hHeld2 ?_
            simp only [List.setIfInBounds_toArray, List.set_cons_zero, List.set_cons_succ]
            refine take_skip (i := 12) rfl rfl (by kernel_rfl) (by kernel_rfl) (by kernel_rfl) (fun _ _ _ h => h) rfl hHeld2 ?_
            simp only [List.setIfInBounds_toArray, List.set_cons_zero, List.set_cons_succ]
            refine take_skip (i := 13) rfl rfl (by kernel_rfl) (by kernel_rfl) (by kernel_rfl) (fun _ _ _ h => h) rfl hHeld2 ?_
            simp only [List.setIfInBounds_toArray, List.set_cons_zero, List.set_cons_succ]
            refine take_skip (i := 14) rfl rfl (by kernel_rfl) (by kernel_rfl) (by kernel_rfl) (fun _ _ _ h => h) rfl hHeld2 ?_
            simp only [List.setIfInBounds_toArray, List.set_cons_zero, List.set_cons_succ]
            refine take_skip (i := 15) rfl rfl (by kernel_rfl) (by kernel_rfl) (by kernel_rfl) (fun _ _ _ h => h) rfl hHeld2 ?_
            simp only [List.setIfInBounds_toArray, List.set_cons_zero, List.set_cons_succ]
            refine take_skip (i := 16) rfl rfl (by kernel_rfl) (by kernel_rfl) (by kernel_rfl) (fun _ _ _ h => h) rfl hHeld2 ?_
            simp only [List.setIfInBounds_toArray, List.set_cons_zero, List.set_cons_succ]
            refine take_val (i := 17) (v := .bool false) rfl rfl (by kernel_rfl) (by kernel_rfl) (by kernel_rfl) (fun _ _ _ h => h) rfl ?_ hHeld2 ?_
            · (intro wq hq; go_split_ands; go_simp; try with_reducible rfl)
            simp only [List.setIfInBounds_toArray, List.set_cons_zero, List.set_cons_succ]
            refine wpAnyH_done (by kernel_rfl) ?_ _
            go_wp2_with fail
            exact ⟨⟨j + 1, by omega, by go_num, hkp2.trans ((Kept.refl wr).drew.trans hk6), hB2.kept ((Kept.refl wr).drew.trans hk6), by show _ = true; rw [HY.out, HU.out, HP.out]; rfl⟩, by simp [intOf]; omega⟩
          · have HV := Lib.hid hev
            clear hev
            cases hev2 : Sp.even t.start.toNat j f.toNat
            all_goals
              rw [hev2] at hq
              have HV2 := Lib.hid hev2
              clear hev2
              have hw : IntKind.i64.wrap ((cnt (j &&& f.toNat) : Int) + (cnt (t.start.toNat &&& f.toNat) : Int)) = (cnt (j &&& f.toNat) : Int) + (cnt (t.start.toNat &&& f.toNat) : Int) := IntWalk.i64_in _ (by omega)
              have htm : ((cnt (j &&& f.toNat) : Int) + (cnt (t.start.toNat &&& f.toNat) : Int)).tmod 2 = ((cnt (j &&& f.toNat) : Int) + (cnt (t.start.toNat &&& f.toNat) : Int)) % 2 := Int.tmod_eq_emod_of_nonneg (by omega)
              go_wp2_with fail
              go_region_held3 (fun w' => w'.cell? ⟨w.heap.size, 0, none⟩ = some (.int .i64 t.start) ∧ w'.cell? ⟨w.heap.size, 1, none⟩ = some (.slice A n c) ∧ w'.cell? ⟨w.heap.size, 2, none⟩ = some (.slice A' n' c') ∧ Kept wr w')
                (first | exact HS.out _ (Kept.refl _) | exact HS.out _ (Kept.refl _).drew | exact HS.out _ (Kept.trans (by assumption) hk6) | (go_split_ands; exact HS.out _ (by assumption)))
                (first | (go_at_call 49; go_split_ands; refine (c_l5Run _ _ _ _ _ _ (hGI.keep (by assumption)) HG.out (by omega) (by omega)).mono ?_; rintro e w6 ⟨rfl, hk6⟩; rw [Int.toNat_natCast, HV.out]) | (go_at_call 110; refine (c_l1Both _ _ _ (by omega) (by omega) (by omega) (by omega)).mono ?_; rintro e w7 ⟨rfl, rfl⟩) | (go_at_call 158; refine (c_l1Many _ _ (by omega) (by omega)).mono ?_; rintro e w7 ⟨rfl, rfl⟩))
              have hk7 := hkp2.trans ((Kept.refl wr).drew.trans hk6)
              have hB7 := hB2.kept ((Kept.refl wr).drew.trans hk6)
              clear hw htm
              go_wp2_with fail
            · exact ⟨⟨j + 1, by omega, by go_num, hk7, hB7, by show _ = true; rw [HY.out, HU.out]; unfold Sp.apart; rw [HV2.out]; simp⟩, by simp [intOf]; omega⟩
            · go_ret
              exact ⟨ret_bool (HN.out (by unfold Sp.apart; rw [HV.out, HV2.out]; rfl)).symm, hk7⟩
        · go_wp2_with fail
          go_ret
          obtain rfl : j = 32 := by omega
          exact ⟨ret_bool (by unfold Sp.sumOk; rw [HF.out, HT.out, HALL.out, HU.out]; rfl), hkp2⟩

end Go.Proofs.YtphdojebdclonaaDoor

namespace Go.Proofs.YtphdojebdclonaaDoor
set_option linter.unusedSimpArgs false
set_option linter.unusedVariables false
open Go.RowKit

def Sp.sumFor (t : Sp.Task) : Option Nat := (List.range 32).find? (fun f => Sp.sumOk t (f : Nat))
def Sp.sumForN (t : Sp.Task) : Int := match Sp.sumFor t with | some f => (f : Nat) | none => -1
def Sp.sumForB (t : Sp.Task) : Bool := (Sp.sumFor t).isSome

theorem find_first {p : Nat → Bool} {n k : Nat} (hk : k < n) (h : p k = true) (hb : ∀ j, j < k → p j = false) : (List.range n).find? p = some k := by
  cases hf : (List.range n).find? p with
  | none =>
    have := List.find?_eq_none.1 hf k (List.mem_range.2 hk)
    simp [h] at this
  | some m =>
    have h1 := List.find?_some hf
    congr 1
    rcases Nat.lt_trichotomy m k with h2 | h2 | h2
    · rw [hb m h2] at h1; cases h1
    · exact h2
    · exfalso
      rw [List.find?_range_eq_some] at hf
      have := hf.2.2 k h2
      rw [h] at this; simp at this
theorem find_none {p : Nat → Bool} {n : Nat} (hb : ∀ j, j < n → p j = false) : (List.range n).find? p = none := by
  rw [List.find?_eq_none]
  intro j hj
  rw [hb j (List.mem_range.1 hj)]; decide

theorem sumFor_yes {t : Sp.Task} {k : Nat} (hk : k < 32) (h : Sp.sumOk t (k : Nat) = true) (hb : ∀ j : Nat, j < k → Sp.sumOk t (j : Nat) = false) : Sp.sumForN t = k ∧ Sp.sumForB t = true := by
  unfold Sp.sumForN Sp.sumForB Sp.sumFor
  rw [find_first (p := fun f => Sp.sumOk t (f : Nat)) hk h hb]
  exact ⟨rfl, rfl⟩
theorem sumFor_no {t : Sp.Task} (hb : ∀ j : Nat, j < 32 → Sp.sumOk t (j : Nat) = false) : Sp.sumForN t = -1 ∧ Sp.sumForB t = false := by
  unfold Sp.sumForN Sp.sumForB Sp.sumFor
  rw [find_none (p := fun f => Sp.sumOk t (f : Nat)) hb]
  exact ⟨rfl, rfl⟩

theorem c_sSumFor (v : Value) (t : Sp.Task) (w : World) (h : TaskV w v t) : Calls Tryd.prog 95 #[v] w (RetK (.tuple #[.int .i64 (Sp.sumForN t), .bool (Sp.sumForB t)]) w) := by
  obtain ⟨A, n, c, A', n', c', rfl⟩ := h.form
  have hk0 := (Kept.refl w).alloc (.cells #[.int .i64 t.start, .slice A n c, .slice A' n' c'] 26)
  have B0 := Blk.new w 26 #[.int .i64 t.start, .slice A n c, .slice A' n' c']
  go_enter Tryd.func95, Tryd.ntmps95
  go_wp2_with fail
  go_loopw [4] (fun i wr => ∃ k : Nat, k ≤ 32 ∧ i = .int .i64 k ∧ Kept w wr ∧ Blk wr w.heap.size 26 #[.int .i64 t.start, .slice A n c, .slice A' n' c'] ∧ Hid (∀ j : Nat, j < k → Sp.sumOk t (j : Nat) = false)) (fun i _ => 32 - (intOf i).toNat)
  case atStart => exact ⟨0, by omega, rfl, hk0, B0, by show ∀ j : Nat, j < 0 → _; omega⟩
  case round =>
    obtain ⟨k, hk, rfl, hkp, hB, HA⟩ := hrel
    have c0 := hB.cell
    by_cases hlt : k < 32
    · cases hev : Sp.sumOk t (k : Nat)
      · have HV := Lib.hid hev
        clear hev
        go_wp2_with fail
        refine (c_sSumOk _ t _ _ (h.keep hkp)).mono ?_; rintro e w2 ⟨rfl, hk2⟩
        rw [HV.out]
        go_wp2_with fail
        refine ⟨⟨k + 1, by omega, by go_num, hkp.trans hk2, hB.kept hk2, ?_⟩, by simp [intOf]; omega⟩
        intro j hj
        by_cases e : j = k
        · subst e; exact HV.out
        · exact HA.out j (by omega)
      · have HV := Lib.hid hev
        have HX := Lib.hid (sumFor_yes hlt hev HA.out)
        clear hev
        go_wp2_with fail
        refine (c_sSumOk _ t _ _ (h.keep hkp)).mono ?_; rintro e w2 ⟨rfl, hk2⟩
        rw [HV.out]
        go_wp2_with fail
        go_ret2
        exact ⟨by rw [HX.out.1, HX.out.2]; rfl, hkp.trans hk2⟩
    · obtain rfl : k = 32 := by omega
      have HX := Lib.hid (sumFor_no HA.out)
      go_wp2_with fail
      go_ret2
      exact ⟨by rw [HX.out.1, HX.out.2]; rfl, hkp⟩

end Go.Proofs.YtphdojebdclonaaDoor
