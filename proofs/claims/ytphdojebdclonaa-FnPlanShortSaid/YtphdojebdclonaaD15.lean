/- Walks: the draw of a plan. No condition. -/
import Derived.Test.YtphdojebdclonaaD13
import Derived.Test.YtphdojebdclonaaG39
import Derived.Test.YtphdojebdclonaaG40
import Derived.Deep.Cut
namespace Go.Proofs.Ytphdojebdclonaa
open Go.RowKit

/-- a short row of integers that a draw made -/
def PlanQ (X : Nat) (v : Value) (w : World) : Prop := ∃ (A : Option Addr) (m c : Nat) (l : List Int), v = .slice A m c ∧ m ≤ 40 ∧ w.ownsRow X 3 1 (.slice A m c) m (l.map (Value.int .i64)) ∧ ∀ x ∈ l, Sp.inI x

set_option maxHeartbeats 4000000 in
set_option maxRecDepth 100000 in
theorem c_l20Plan (R X : Nat) (p : Int) (v : Value) (t : Sp.Task) (w : World) (h : Rd R w p) (hp : p ≤ 700000000) (hX : R + 1 ≤ X) (hd8 : t.deeds.length ≤ 8) (hTW : ∀ w', RowsKept X w w' → TaskV w' v t) : Calls Try.prog 56 #[.pointer (some ⟨R, 0, none⟩), v] w (RetD R p 60 w (PlanQ w.heap.size)) := by
  obtain ⟨i0, hi0, hz0, hz1, hz2⟩ := info_parts info_int
  have HI := Lib.hid (And.intro hi0 (And.intro hz0 (And.intro hz1 hz2)))
  clear hi0 hz0 hz1 hz2
  have hRlt := h.lt
  have hT0 := hTW w (RowsKept.of_kept (Kept.refl w))
  obtain ⟨A, n, c, A', n', c', rfl⟩ := hT0.form
  have HLd := Lib.hid hT0.deeds.len
  have hn8 : n' ≤ 8 := by rw [← HLd.out]; exact hd8
  have hk0 := (Kept.refl w).alloc (.cells #[.int .i64 t.start, .slice A n c, .slice A' n' c'] 30)
  have B0 := Blk.new w 30 #[.int .i64 t.start, .slice A n c, .slice A' n' c']
  have hT := hT0.keep hk0
  have hR := h.keep hk0
  clear hT0 h
  obtain ⟨w1, HW1⟩ : ∃ w1, Hid (w1 = w.alloc (.cells #[.int .i64 t.start, .slice A n c, .slice A' n' c'] 30)) := ⟨w.alloc (.cells #[.int .i64 t.start, .slice A n c, .slice A' n' c'] 30), rfl⟩
  have hz1 : w1.heap.size = w.heap.size + 1 := by rw [HW1.out]; simp
  rw [← HW1.out] at hk0 hT B0 hR
  have hTW1 : ∀ w', RowsKept X w1 w' → TaskV w' (.agg #[.int .i64 t.start, .slice A n c, .slice A' n' c']) t := fun w' hk => hTW w' ((RowsKept.of_kept hk0).trans hk)
  clear hTW
  go_enter Try.func56, Try.ntmps56
  go_wp2_with fail
  rw [← HW1.out]
  refine (c_sPlanForO _ t _ hT).mono ?_; rintro e w3 ⟨v, rfl, ⟨A3, c3, rfl, hown⟩, hk3⟩
  have HForm := Lib.hid (planFor_form t)
  obtain ⟨pl, HPl⟩ : ∃ pl, Hid (Sp.planFor t = pl) := ⟨_, rfl⟩
  obtain ⟨pt, HPt⟩ : ∃ pt, Hid (Sp.planThere t = pt) := ⟨_, rfl⟩
  rw [HPl.out] at hown HForm ⊢
  rw [HPt.out]
  obtain ⟨m, HM⟩ : ∃ m, Hid (pl.length = m) := ⟨_, rfl⟩
  have hm : m ≤ 31 := by rw [← HM.out]; exact HForm.out.1
  rw [HM.out] at hown ⊢
  have hb : But R (R + 1) w1 w3 := But.of_kept hk3
  replace hR := hR.keep hk3
  clear hk3 hT
  have key : ∀ (wr : World) (p' : Int), Rd R wr p' → p ≤ p' → p' ≤ p + 1 → But R (R + 1) w1 wr → True := fun _ _ _ _ _ _ => trivial
  clear key
  cases pt
  · clear hown
    have ce := ((hb.kept_ ((Kept.refl w3).alloc (.cells #[] 3))).blk B0 (.inr (by omega))).cell
    go_wp2_with fail
    clear ce
    have hO0 := World.ownsRow_made (e := 3) (size := 1) w3 #[] 0 (Nat.le_refl _) (by unfold maxLen; omega) rfl
    have hkM := (Kept.refl w3).alloc (.cells #[] 3)
    replace hO0 := ownsRow_mono (X := w1.heap.size) hO0 hb.size
    have hbM := hb.kept_ hkM
    have hRM := hR.keep hkM
    clear hkM hb hR
    refine (c_pick R 12 p _ hRM (by omega) (by omega)).mono ?_; rintro e w6 ⟨v, p6, rfl, hR6, hq1, hq2, hb6, k0, rfl, hk00, hk01⟩
    replace hk01 := hk01 (by omega)
    have hbL := hbM.trans hb6
    have hownL := own_but hO0 hb6 (by omega)
    clear hbM hb6 hRM hO0
    go_wp2_with fail
    go_loopw [8, 5, 7] (fun i v st wr => ∃ (k m : Nat) (A2 : Option Addr) (c2 : Nat) (l : List Int) (s p' : Int), k ≤ 11 ∧ i = .int .i64 k ∧ v = .slice A2 m c2 ∧ st = .int .i64 s ∧ m + k ≤ 11 ∧ wr.ownsRow w1.heap.size 3 1 (.slice A2 m c2) m (l.map (Value.int .i64)) ∧ Hid (∀ x ∈ l, Sp.inI x) ∧ Rd R wr p' ∧ p ≤ p' ∧ p' ≤ p + 4 + 3 * (11 - k) ∧ But R (R + 1) w1 wr) (fun i _ _ _ => (intOf i).toNat)
    case atStart =>
      obtain ⟨k0, rfl⟩ := Int.eq_ofNat_of_zero_le hk00
      exact ⟨k0, 0, _, _, [], _, p6, by omega, rfl, rfl, rfl, by omega, hownL, fun x hx => (by cases hx), hR6, by omega, by omega, hbL⟩
    case round =>
      clear hownL hR6 hbL
      obtain ⟨k, m, A2, c2, l, s, p7, hk, rfl, rfl, rfl, hmk, hown, HIn, hR7, hp7, hp8, hb⟩ := hrel
      have hw1s := hb.size
      by_cases hpos : 0 < k
      · have hk1 : (0 : Int) < (k : Int) := by omega
        have hwk : IntKind.i64.wrap ((k : Int) - 1) = (k : Int) - 1 := by rw [IntKind.wrap_i64]; omega
        have ce := (hb.blk B0 (.inr (by omega))).cell
        have hTr := hTW1 _ (RowsKept.of_but hb hX)
        go_wp2_with fail
        refine (c_sDeedsMay _ t s _ hTr).mono ?_; rintro e w7 ⟨v, rfl, ⟨A7, m7, c7, l7, rfl, hmay, hmi, hm7, hmok⟩, hk7⟩
        have HMi := Lib.hid hmi
        have HMok := Lib.hid hmok
        replace hown := own_keep hown hk7
        replace hR7 := hR7.keep hk7
        replace hb := hb.kept_ hk7
        have hs7 := hk7.size
        clear ce hTr hk7 hmi hmok
        by_cases hm0 : m7 = 0
        · subst hm0
          have ce := (hb.blk B0 (.inr (by omega))).cell
          have hw1 : IntKind.i64.wrap ((n' : Int) + 1) = (n' : Int) + 1 := by rw [IntKind.wrap_i64]; omega
          go_wp2_with fail
          refine (c_pick R ((n' : Int) + 1) p7 _ hR7 (by omega) (by omega)).mono ?_; rintro e wr ⟨v, p9, rfl, hR9, hp11, hp12, hb9, z, rfl, hz0, hz1'⟩
          replace hz1' := hz1' (by omega)
          replace hb := hb.trans hb9
          replace hown := own_but hown hb9 (by omega)
          have hsz := hb.size
          have HIn2 : Hid (∀ x ∈ l ++ [z], Sp.inI x) := fun x hx => by
            rcases List.mem_append.1 hx with h | h
            · exact HIn.out x h
            · obtain rfl := List.mem_singleton.1 h; unfold Sp.inI; omega
          clear ce hb9 hR7
          go_upto_region 10 with (first | (at_builtin; refine wpList_append_own _ rfl (.tmp 53) (.tmp 60) 22 rfl (w1.heap.size) 3 i0 (.int .i64 0) 1 8 Try.underlying22 HI.out.1 HI.out.2.1 HI.out.2.2.1 HI.out.2.2.2 rfl (by decide) (.slice A2 m c2) m _ rfl (hown.alloc _) ⟨wr.heap.size, 0, none⟩ 1 1 [.int .i64 (z)] rfl rfl (one_new _ _ _) (by simp [Value.oneCell']) (by unfold maxLen; omega) (by omega) (by simp; omega) ?_; intro v' wA hown2 hg2 _))
          obtain ⟨A6, c6, rfl⟩ := own_form hown2
          have hbA := (hb.kept_ ((Kept.refl wr).alloc (.cells #[.int .i64 z] 3))).grown hg2 (fun k e => (hown.lt k e).1)
          have hRA := (hR9.keep ((Kept.refl wr).alloc (.cells #[.int .i64 z] 3))).grown hg2 (fun k e => by have := (hown.lt k e).1; omega)
          have hown3 : wA.ownsRow w1.heap.size 3 1 (.slice A6 (m + 1) c6) (m + 1) ((l ++ [z]).map (Value.int .i64)) := by rw [List.map_append]; exact hown2
          clear hown hown2 hg2 hb
          go_wp2_with fail
          exact ⟨⟨k - 1, m + 1, _, _, _, _, p9, by omega, by go_num, rfl, rfl, by omega, hown3, HIn2, hRA, by omega, by omega, hbA⟩, by simp [intOf]; omega⟩
        · have hm1 : ¬ (m7 : Int) = 0 := by omega
          have hm2 : ((m7 : Int) == 0) = false := beq_eq_false_iff_ne.2 hm1
          go_wp2_with fail
          refine (c_odd R 40 p7 _ hR7 (by omega) (by omega) (by omega)).mono ?_; rintro e w8 ⟨v, p8, rfl, hR8, hp9, hp10, hb8, bb, rfl⟩
          replace hb := hb.trans hb8
          replace hown := own_but hown hb8 (by omega)
          replace hmay := own_but hmay hb8 (by omega)
          clear hb8 hR7
          cases bb
          · go_wp2_with fail
            refine (c_pick R (m7 : Int) p8 _ hR8 (by omega) (by omega)).mono ?_; rintro e wr ⟨v, p9, rfl, hR9, hp11, hp12, hb9, j, rfl, hj0, hj1⟩
            replace hj1 := hj1 (by omega)
            replace hb := hb.trans hb9
            replace hown := own_but hown hb9 (by omega)
            replace hmay := own_but hmay hb9 (by omega)
            clear hb9 hR8
            obtain ⟨j, rfl⟩ := Int.eq_ofNat_of_zero_le hj0
            have hj2 : j < m7 := by omega
            obtain ⟨_, g7, rfl, _, _, hIR⟩ := own_row hmay (by omega)
            have cj := hIR.2.2 j hj2
            have hl7 : l7.length = m7 := by have := hmay.1; simpa using this
            obtain ⟨hq3, hq4⟩ : 0 ≤ l7.getD j default ∧ l7.getD j default < t.deeds.length := by
              have e : l7.getD j default = l7[j]'(by omega) := by simp [List.getD, show j < l7.length by omega]
              rw [e]
              exact HMi.out _ (List.getElem_mem _)
            simp only [] at cj
            generalize l7.getD j default = q at *
            obtain ⟨q, rfl⟩ := Int.eq_ofNat_of_zero_le hq3
            have hq5 : q < n' := by have := HLd.out; omega
            have hqn2 : ¬ (n' : Int) ≤ (q : Int) := by omega
            have hjm : ¬ (m7 : Int) ≤ (j : Int) := by omega
            have hsz := hb.size
            have HOk := Lib.hid (HMok.out (by omega))
            clear hIR
            go_upto_region 15 with (first | (at_builtin; refine wpList_append_own _ rfl (.tmp 62) (.tmp 70) 22 rfl (w1.heap.size) 3 i0 (.int .i64 0) 1 8 Try.underlying22 HI.out.1 HI.out.2.1 HI.out.2.2.1 HI.out.2.2.2 rfl (by decide) (.slice A2 m c2) m _ rfl (hown.alloc _) ⟨wr.heap.size, 0, none⟩ 1 1 [.int .i64 ((q : Int))] rfl rfl (one_new _ _ _) (by simp [Value.oneCell']) (by unfold maxLen; omega) (by omega) (by simp; omega) ?_; intro v' wA hown2 hg2 _))
            obtain ⟨A6, c6, rfl⟩ := own_form hown2
            have hbA := (hb.kept_ ((Kept.refl wr).alloc (.cells #[.int .i64 (q : Int)] 3))).grown hg2 (fun k e => (hown.lt k e).1)
            have hRA := (hR9.keep ((Kept.refl wr).alloc (.cells #[.int .i64 (q : Int)] 3))).grown hg2 (fun k e => by have := (hown.lt k e).1; omega)
            have hown3 : wA.ownsRow w1.heap.size 3 1 (.slice A6 (m + 1) c6) (m + 1) ((l ++ [(q : Int)]).map (Value.int .i64)) := by rw [List.map_append]; exact hown2
            have hll : l.length = m := by have := hown.1; simpa using this
            have HIn2 : Hid (∀ x ∈ l ++ [(q : Int)], Sp.inI x) := fun x hx => by
              rcases List.mem_append.1 hx with h | h
              · exact HIn.out x h
              · obtain rfl := List.mem_singleton.1 h; unfold Sp.inI; omega
            clear hown hown2 hg2 hb hmay cj hR9
            have hdz := (Kept.refl wA).drew
            replace hbA := hbA.kept_ hdz
            replace hRA := hRA.keep hdz
            replace hown3 := own_keep hown3 hdz
            obtain ⟨_, g6, rfl, _, _, hIR⟩ := own_row hown3 (by omega)
            have cl := hIR.2.2 m (by omega)
            have hgl : (l ++ [(q : Int)]).getD m default = (q : Int) := by rw [← hll]; simp [List.getD]
            simp only [hgl] at cl
            have ce := (hbA.blk B0 (.inr (by omega))).cell 2
            have hTr := hTW1 _ (RowsKept.of_but hbA hX)
            obtain ⟨b2, off2, rfl, hb2, hd⟩ := hTr.deeds.at hq5
            have hkl : q < t.deeds.length := by have := HLd.out; omega
            have HDo := Lib.hid (Sp.taskOk_deed HOk.out hkl)
            generalize t.deeds.getD q default = d at *
            obtain ⟨A5, n5, c5, hc0, hc1, hc2, hc3, hdv⟩ := hd.v
            have HDv := Lib.hid hdv
            have hwm : IntKind.i64.wrap (((m + 1 : Nat) : Int) - 1) = (m : Int) := by rw [IntKind.wrap_i64]; omega
            have hwm2 : IntKind.i64.wrap (m : Int) = (m : Int) := by rw [IntKind.wrap_i64]; omega
            have hmm : ¬ ((m + 1 : Nat) : Int) ≤ (m : Int) := by omega
            have hmm2 : ¬ (m : Int) + 1 ≤ (m : Int) := by omega
            clear hdv hd hIR hgl hTr hdz
            refine wp_region_held_drew (S := fun w' => w'.cell? ⟨g6, m, none⟩ = some (.int .i64 q) ∧ w'.cell? ⟨w.heap.size, 2, none⟩ = some (.slice (some ⟨b2, off2, none⟩) n' c') ∧ w'.cell? ⟨b2, off2 + q * 4, none⟩ = some (.slice A5 n5 c5) ∧ w'.cell? ⟨b2, off2 + q * 4 + 1, none⟩ = some (.int .i64 d.on) ∧ w'.cell? ⟨b2, off2 + q * 4 + 2, none⟩ = some (.int .i64 d.off) ∧ w'.cell? ⟨b2, off2 + q * 4 + 3, none⟩ = some (.int .i64 d.flip)) (by kernel_rfl) ⟨cl, ce, hc0, hc1, hc2, hc3⟩ (fun hHeld => ?_)
            (refine take_val (i := 0) (v := .pointer (some ⟨w.heap.size, 2, none⟩)) rfl rfl (by kernel_rfl) (by kernel_rfl) (by kernel_rfl) (fun _ _ _ h => h) rfl (by intro wq hq; (try go_split_ands); go_simp; try with_reducible rfl) (hHeld) ?_; try simp only [List.setIfInBounds_toArray, List.set_cons_zero, List.set_cons_succ])
            (refine take_val (i := 1) (v := .slice (some ⟨b2, off2, none⟩) n' c') rfl rfl (by kernel_rfl) (by kernel_rfl) (by kernel_rfl) (fun _ _ _ h => h) rfl (by intro wq hq; (try go_split_ands); go_simp; try with_reducible rfl) (hHeld) ?_; try simp only [List.setIfInBounds_toArray, List.set_cons_zero, List.set_cons_succ])
            (refine take_val (i := 2) (v := .slice (some ⟨g6, 0, none⟩) (m + 1) c6) rfl rfl (by kernel_rfl) (by kernel_rfl) (by kernel_rfl) (fun _ _ _ h => h) rfl (by intro wq hq; (try go_split_ands); go_simp; try with_reducible rfl) (hHeld) ?_; try simp only [List.setIfInBounds_toArray, List.set_cons_zero, List.set_cons_succ])
            (refine take_val (i := 3) (v := .slice (some ⟨g6, 0, none⟩) (m + 1) c6) rfl rfl (by kernel_rfl) (by kernel_rfl) (by kernel_rfl) (fun _ _ _ h => h) rfl (by intro wq hq; (try go_split_ands); go_simp; try with_reducible rfl) (hHeld) ?_; try simp only [List.setIfInBounds_toArray, List.set_cons_zero, List.set_cons_succ])
            (refine take_val (i := 4) (v := .int .i64 ((m + 1 : Nat) : Int)) rfl rfl (by kernel_rfl) (by kernel_rfl) (by kernel_rfl) (fun _ _ _ h => h) rfl (by intro wq hq; (try go_split_ands); go_simp; try with_reducible rfl) (hHeld) ?_; try simp only [List.setIfInBounds_toArray, List.set_cons_zero, List.set_cons_succ])
            (refine take_val (i := 5) (v := .int .i64 m) rfl rfl (by kernel_rfl) (by kernel_rfl) (by kernel_rfl) (fun _ _ _ h => h) rfl (by intro wq hq; (try go_split_ands); go_simp; try with_reducible rfl) (hHeld) ?_; try simp only [List.setIfInBounds_toArray, List.set_cons_zero, List.set_cons_succ])
            (refine take_val (i := 6) (v := .pointer (some ⟨g6, m, none⟩)) rfl rfl (by kernel_rfl) (by kernel_rfl) (by kernel_rfl) (fun _ _ _ h => h) rfl (by intro wq hq; (try go_split_ands); go_simp; try with_reducible rfl) (hHeld) ?_; try simp only [List.setIfInBounds_toArray, List.set_cons_zero, List.set_cons_succ])
            (refine take_val (i := 7) (v := .int .i64 q) rfl rfl (by kernel_rfl) (by kernel_rfl) (by kernel_rfl) (fun _ _ _ h => h) rfl (by intro wq hq; (try go_split_ands); go_simp; try with_reducible rfl) (hHeld) ?_; try simp only [List.setIfInBounds_toArray, List.set_cons_zero, List.set_cons_succ])
            (refine take_val (i := 8) (v := .pointer (some ⟨b2, off2 + q * 4, none⟩)) rfl rfl (by kernel_rfl) (by kernel_rfl) (by kernel_rfl) (fun _ _ _ h => h) rfl (by intro wq hq; (try go_split_ands); go_simp; try with_reducible rfl) (hHeld) ?_; try simp only [List.setIfInBounds_toArray, List.set_cons_zero, List.set_cons_succ])
            (refine take_val (i := 9) (v := .agg #[.slice A5 n5 c5, .int .i64 d.on, .int .i64 d.off, .int .i64 d.flip]) rfl rfl (by kernel_rfl) (by kernel_rfl) (by kernel_rfl) (fun _ _ _ h => h) rfl (by intro wq hq; (try go_split_ands); go_simp; try with_reducible rfl) (hHeld) ?_; try simp only [List.setIfInBounds_toArray, List.set_cons_zero, List.set_cons_succ])
            (refine take_val (i := 10) (v := .int .i64 s) rfl rfl (by kernel_rfl) (by kernel_rfl) (by kernel_rfl) (fun _ _ _ h => h) rfl (by intro wq hq; (try go_split_ands); go_simp; try with_reducible rfl) (hHeld) ?_; try simp only [List.setIfInBounds_toArray, List.set_cons_zero, List.set_cons_succ])
            (refine wpAnyH_ready (rs := [11]) (by kernel_rfl) (by simp) ?_; refine AllReadyH.cons rfl (fun K hK => ?_) AllReadyH.nil; go_simp)
            refine (c_sDeedDo _ d s _ HDv.out HDo.out).mono ?_; rintro e w10 ⟨rfl, hk10⟩
            have hlt2 : b2 < wA.drew.heap.size := hb2
            have hSx : w10.cell? ⟨g6, m, none⟩ = some (.int .i64 q) ∧ w10.cell? ⟨w.heap.size, 2, none⟩ = some (.slice (some ⟨b2, off2, none⟩) n' c') ∧ w10.cell? ⟨b2, off2 + q * 4, none⟩ = some (.slice A5 n5 c5) ∧ w10.cell? ⟨b2, off2 + q * 4 + 1, none⟩ = some (.int .i64 d.on) ∧ w10.cell? ⟨b2, off2 + q * 4 + 2, none⟩ = some (.int .i64 d.off) ∧ w10.cell? ⟨b2, off2 + q * 4 + 3, none⟩ = some (.int .i64 d.flip) := by
              have g6l : g6 < wA.drew.heap.size := World.block_lt_of_cell? _ _ cl
              have wl : w.heap.size < wA.drew.heap.size := World.block_lt_of_cell? _ _ ce
              exact ⟨(hk10.cell g6l).trans cl, (hk10.cell wl).trans ce, (hk10.cell hlt2).trans hc0, (hk10.cell hlt2).trans hc1, (hk10.cell hlt2).trans hc2, (hk10.cell hlt2).trans hc3⟩
            (refine hK.out _ _ (hSx) (fun _ => ?_); clear hK K; try simp only [Act.put, List.setIfInBounds_toArray, List.set_cons_zero, List.set_cons_succ])
            (refine take_val (i := 12) (v := .int .i64 (Sp.stepAt d s)) rfl rfl (by kernel_rfl) (by kernel_rfl) (by kernel_rfl) (fun _ _ _ h => h) rfl (by intro wq hq; (try go_split_ands); go_simp; try with_reducible rfl) (hSx) ?_; try simp only [List.setIfInBounds_toArray, List.set_cons_zero, List.set_cons_succ])
            refine wpAnyH_done (by kernel_rfl) ?_ _
            replace hown3 := own_keep hown3 hk10
            replace hRA := hRA.keep hk10
            replace hbA := hbA.kept_ hk10
            clear hSx hHeld cl ce hc0 hc1 hc2 hc3
            go_wp2_with fail
            exact ⟨⟨k - 1, m + 1, _, _, _, _, p9, by omega, by go_num, rfl, rfl, by omega, hown3, HIn2, hRA, by omega, by omega, hbA⟩, by simp [intOf]; omega⟩
          · have ce := (hb.blk B0 (.inr (by omega))).cell
            have hw1 : IntKind.i64.wrap ((n' : Int) + 1) = (n' : Int) + 1 := by rw [IntKind.wrap_i64]; omega
            clear hmay
            go_wp2_with fail
            refine (c_pick R ((n' : Int) + 1) p8 _ hR8 (by omega) (by omega)).mono ?_; rintro e wr ⟨v, p9, rfl, hR9, hp11, hp12, hb9, z, rfl, hz0, hz1'⟩
            replace hz1' := hz1' (by omega)
            replace hb := hb.trans hb9
            replace hown := own_but hown hb9 (by omega)
            have hsz := hb.size
            have HIn2 : Hid (∀ x ∈ l ++ [z], Sp.inI x) := fun x hx => by
              rcases List.mem_append.1 hx with h | h
              · exact HIn.out x h
              · obtain rfl := List.mem_singleton.1 h; unfold Sp.inI; omega
            clear ce hb9 hR8
            go_upto_region 10 with (first | (at_builtin; refine wpList_append_own _ rfl (.tmp 53) (.tmp 60) 22 rfl (w1.heap.size) 3 i0 (.int .i64 0) 1 8 Try.underlying22 HI.out.1 HI.out.2.1 HI.out.2.2.1 HI.out.2.2.2 rfl (by decide) (.slice A2 m c2) m _ rfl (hown.alloc _) ⟨wr.heap.size, 0, none⟩ 1 1 [.int .i64 (z)] rfl rfl (one_new _ _ _) (by simp [Value.oneCell']) (by unfold maxLen; omega) (by omega) (by simp; omega) ?_; intro v' wA hown2 hg2 _))
            obtain ⟨A6, c6, rfl⟩ := own_form hown2
            have hbA := (hb.kept_ ((Kept.refl wr).alloc (.cells #[.int .i64 z] 3))).grown hg2 (fun k e => (hown.lt k e).1)
            have hRA := (hR9.keep ((Kept.refl wr).alloc (.cells #[.int .i64 z] 3))).grown hg2 (fun k e => by have := (hown.lt k e).1; omega)
            have hown3 : wA.ownsRow w1.heap.size 3 1 (.slice A6 (m + 1) c6) (m + 1) ((l ++ [z]).map (Value.int .i64)) := by rw [List.map_append]; exact hown2
            clear hown hown2 hg2 hb
            go_wp2_with fail
            exact ⟨⟨k - 1, m + 1, _, _, _, _, p9, by omega, by go_num, rfl, rfl, by omega, hown3, HIn2, hRA, by omega, by omega, hbA⟩, by simp [intOf]; omega⟩
      · go_wp2_with fail
        go_ret
        exact ⟨_, p7, rfl, hR7, by omega, by omega, (But.of_kept hk0).trans hb, _, _, _, _, rfl, by omega, ownsRow_mono hown (by omega), HIn.out⟩
  · go_wp2_with fail
    refine (c_pick R 2 p _ hR (by omega) (by omega)).mono ?_; rintro e w4 ⟨v, p4, rfl, hR4, hp3, hp4, hb4, x, rfl, hx0, hx1⟩
    replace hx1 := hx1 (by omega)
    replace hb := hb.trans hb4
    replace hown := own_but hown hb4 (by omega)
    clear hR hb4
    by_cases hx : x = 0
    · subst hx
      go_wp2_with fail
      refine (c_pick R 5 p4 _ hR4 (by omega) (by omega)).mono ?_; rintro e w5 ⟨v, p5, rfl, hR5, hp5, hp6, hb5, y, rfl, hy0, hy1⟩
      replace hy1 := hy1 (by omega)
      replace hb := hb.trans hb5
      replace hown := own_but hown hb5 (by omega)
      clear hR4 hb5
      by_cases hy : y = 0
      · subst hy
        have ce := (hb.blk B0 (.inr (by omega))).cell
        have hw1 : IntKind.i64.wrap ((n' : Int) + 1) = (n' : Int) + 1 := by rw [IntKind.wrap_i64]; omega
        go_wp2_with fail
        refine (c_pick R ((n' : Int) + 1) p5 _ hR5 (by omega) (by omega)).mono ?_; rintro e wr ⟨v, p6, rfl, hR6, hp7, hp8, hb6, z, rfl, hz0, hz1'⟩
        replace hz1' := hz1' (by omega)
        replace hb := hb.trans hb6
        replace hown := own_but hown hb6 (by omega)
        have hsz := hb.size
        clear ce hb6 hR5
        go_upto_region 5 with (first | (at_builtin; refine wpList_append_own _ rfl (.tmp 24) (.tmp 31) 22 rfl (w1.heap.size) 3 i0 (.int .i64 0) 1 8 Try.underlying22 HI.out.1 HI.out.2.1 HI.out.2.2.1 HI.out.2.2.2 rfl (by decide) (.slice A3 m c3) m _ rfl (hown.alloc _) ⟨wr.heap.size, 0, none⟩ 1 1 [.int .i64 (z)] rfl rfl (one_new _ _ _) (by simp [Value.oneCell']) (by unfold maxLen; omega) (by omega) (by simp; omega) ?_; intro v' wA hown2 hg2 _))
        obtain ⟨A6, c6, rfl⟩ := own_form hown2
        have hbA := (hb.kept_ ((Kept.refl wr).alloc (.cells #[.int .i64 z] 3))).grown hg2 (fun k e => (hown.lt k e).1)
        have hRA := (hR6.keep ((Kept.refl wr).alloc (.cells #[.int .i64 z] 3))).grown hg2 (fun k e => by have := (hown.lt k e).1; omega)
        have hown3 : wA.ownsRow w1.heap.size 3 1 (.slice A6 (m + 1) c6) (m + 1) ((pl ++ [z]).map (Value.int .i64)) := by rw [List.map_append]; exact hown2
        clear hown hown2 hg2 hb
        go_wp2_with fail
        go_ret
        exact ⟨_, p6, rfl, hRA, by omega, by omega, (But.of_kept hk0).trans hbA, _, _, _, _, rfl, by omega, ownsRow_mono hown3 (by omega), fun x hx => by
          rcases List.mem_append.1 hx with h | h
          · exact HForm.out.2 x h
          · obtain rfl := List.mem_singleton.1 h; unfold Sp.inI; omega⟩
      · have hy2 : (y == 0) = false := beq_eq_false_iff_ne.2 hy
        go_wp2_with fail
        go_ret
        exact ⟨_, p5, rfl, hR5, by omega, by omega, (But.of_kept hk0).trans hb, _, _, _, _, rfl, by omega, ownsRow_mono hown (by omega), HForm.out.2⟩
    · have hx2 : (x == 0) = false := beq_eq_false_iff_ne.2 hx
      clear hown
      have ce := ((hb.kept_ ((Kept.refl w4).alloc (.cells #[] 3))).blk B0 (.inr (by omega))).cell
      go_wp2_with fail
      clear ce
      have hO0 := World.ownsRow_made (e := 3) (size := 1) w4 #[] 0 (Nat.le_refl _) (by unfold maxLen; omega) rfl
      have hkM := (Kept.refl w4).alloc (.cells #[] 3)
      replace hO0 := ownsRow_mono (X := w1.heap.size) hO0 hb.size
      have hbM := hb.kept_ hkM
      have hRM := hR4.keep hkM
      clear hkM hb hR4
      refine (c_pick R 12 p4 _ hRM (by omega) (by omega)).mono ?_; rintro e w6 ⟨v, p6, rfl, hR6, hq1, hq2, hb6, k0, rfl, hk00, hk01⟩
      replace hk01 := hk01 (by omega)
      have hbL := hbM.trans hb6
      have hownL := own_but hO0 hb6 (by omega)
      clear hbM hb6 hRM hO0
      go_wp2_with fail
      go_loopw [8, 5, 7] (fun i v st wr => ∃ (k m : Nat) (A2 : Option Addr) (c2 : Nat) (l : List Int) (s p' : Int), k ≤ 11 ∧ i = .int .i64 k ∧ v = .slice A2 m c2 ∧ st = .int .i64 s ∧ m + k ≤ 11 ∧ wr.ownsRow w1.heap.size 3 1 (.slice A2 m c2) m (l.map (Value.int .i64)) ∧ Hid (∀ x ∈ l, Sp.inI x) ∧ Rd R wr p' ∧ p ≤ p' ∧ p' ≤ p + 4 + 3 * (11 - k) ∧ But R (R + 1) w1 wr) (fun i _ _ _ => (intOf i).toNat)
      case atStart =>
        obtain ⟨k0, rfl⟩ := Int.eq_ofNat_of_zero_le hk00
        exact ⟨k0, 0, _, _, [], _, p6, by omega, rfl, rfl, rfl, by omega, hownL, fun x hx => (by cases hx), hR6, by omega, by omega, hbL⟩
      case round =>
        clear hownL hR6 hbL
        obtain ⟨k, m, A2, c2, l, s, p7, hk, rfl, rfl, rfl, hmk, hown, HIn, hR7, hp7, hp8, hb⟩ := hrel
        have hw1s := hb.size
        by_cases hpos : 0 < k
        · have hk1 : (0 : Int) < (k : Int) := by omega
          have hwk : IntKind.i64.wrap ((k : Int) - 1) = (k : Int) - 1 := by rw [IntKind.wrap_i64]; omega
          have ce := (hb.blk B0 (.inr (by omega))).cell
          have hTr := hTW1 _ (RowsKept.of_but hb hX)
          go_wp2_with fail
          refine (c_sDeedsMay _ t s _ hTr).mono ?_; rintro e w7 ⟨v, rfl, ⟨A7, m7, c7, l7, rfl, hmay, hmi, hm7, hmok⟩, hk7⟩
          have HMi := Lib.hid hmi
          have HMok := Lib.hid hmok
          replace hown := own_keep hown hk7
          replace hR7 := hR7.keep hk7
          replace hb := hb.kept_ hk7
          have hs7 := hk7.size
          clear ce hTr hk7 hmi hmok
          by_cases hm0 : m7 = 0
          · subst hm0
            have ce := (hb.blk B0 (.inr (by omega))).cell
            have hw1 : IntKind.i64.wrap ((n' : Int) + 1) = (n' : Int) + 1 := by rw [IntKind.wrap_i64]; omega
            go_wp2_with fail
            refine (c_pick R ((n' : Int) + 1) p7 _ hR7 (by omega) (by omega)).mono ?_; rintro e wr ⟨v, p9, rfl, hR9, hp11, hp12, hb9, z, rfl, hz0, hz1'⟩
            replace hz1' := hz1' (by omega)
            replace hb := hb.trans hb9
            replace hown := own_but hown hb9 (by omega)
            have hsz := hb.size
            have HIn2 : Hid (∀ x ∈ l ++ [z], Sp.inI x) := fun x hx => by
              rcases List.mem_append.1 hx with h | h
              · exact HIn.out x h
              · obtain rfl := List.mem_singleton.1 h; unfold Sp.inI; omega
            clear ce hb9 hR7
            go_upto_region 10 with (first | (at_builtin; refine wpList_append_own _ rfl (.tmp 53) (.tmp 60) 22 rfl (w1.heap.size) 3 i0 (.int .i64 0) 1 8 Try.underlying22 HI.out.1 HI.out.2.1 HI.out.2.2.1 HI.out.2.2.2 rfl (by decide) (.slice A2 m c2) m _ rfl (hown.alloc _) ⟨wr.heap.size, 0, none⟩ 1 1 [.int .i64 (z)] rfl rfl (one_new _ _ _) (by simp [Value.oneCell']) (by unfold maxLen; omega) (by omega) (by simp; omega) ?_; intro v' wA hown2 hg2 _))
            obtain ⟨A6, c6, rfl⟩ := own_form hown2
            have hbA := (hb.kept_ ((Kept.refl wr).alloc (.cells #[.int .i64 z] 3))).grown hg2 (fun k e => (hown.lt k e).1)
            have hRA := (hR9.keep ((Kept.refl wr).alloc (.cells #[.int .i64 z] 3))).grown hg2 (fun k e => by have := (hown.lt k e).1; omega)
            have hown3 : wA.ownsRow w1.heap.size 3 1 (.slice A6 (m + 1) c6) (m + 1) ((l ++ [z]).map (Value.int .i64)) := by rw [List.map_append]; exact hown2
            clear hown hown2 hg2 hb
            go_wp2_with fail
            exact ⟨⟨k - 1, m + 1, _, _, _, _, p9, by omega, by go_num, rfl, rfl, by omega, hown3, HIn2, hRA, by omega, by omega, hbA⟩, by simp [intOf]; omega⟩
          · have hm1 : ¬ (m7 : Int) = 0 := by omega
            have hm2 : ((m7 : Int) == 0) = false := beq_eq_false_iff_ne.2 hm1
            go_wp2_with fail
            refine (c_odd R 40 p7 _ hR7 (by omega) (by omega) (by omega)).mono ?_; rintro e w8 ⟨v, p8, rfl, hR8, hp9, hp10, hb8, bb, rfl⟩
            replace hb := hb.trans hb8
            replace hown := own_but hown hb8 (by omega)
            replace hmay := own_but hmay hb8 (by omega)
            clear hb8 hR7
            cases bb
            · go_wp2_with fail
              refine (c_pick R (m7 : Int) p8 _ hR8 (by omega) (by omega)).mono ?_; rintro e wr ⟨v, p9, rfl, hR9, hp11, hp12, hb9, j, rfl, hj0, hj1⟩
              replace hj1 := hj1 (by omega)
              replace hb := hb.trans hb9
              replace hown := own_but hown hb9 (by omega)
              replace hmay := own_but hmay hb9 (by omega)
              clear hb9 hR8
              obtain ⟨j, rfl⟩ := Int.eq_ofNat_of_zero_le hj0
              have hj2 : j < m7 := by omega
              obtain ⟨_, g7, rfl, _, _, hIR⟩ := own_row hmay (by omega)
              have cj := hIR.2.2 j hj2
              have hl7 : l7.length = m7 := by have := hmay.1; simpa using this
              obtain ⟨hq3, hq4⟩ : 0 ≤ l7.getD j default ∧ l7.getD j default < t.deeds.length := by
                have e : l7.getD j default = l7[j]'(by omega) := by simp [List.getD, show j < l7.length by omega]
                rw [e]
                exact HMi.out _ (List.getElem_mem _)
              simp only [] at cj
              generalize l7.getD j default = q at *
              obtain ⟨q, rfl⟩ := Int.eq_ofNat_of_zero_le hq3
              have hq5 : q < n' := by have := HLd.out; omega
              have hqn2 : ¬ (n' : Int) ≤ (q : Int) := by omega
              have hjm : ¬ (m7 : Int) ≤ (j : Int) := by omega
              have hsz := hb.size
              have HOk := Lib.hid (HMok.out (by omega))
              clear hIR
              go_upto_region 15 with (first | (at_builtin; refine wpList_append_own _ rfl (.tmp 62) (.tmp 70) 22 rfl (w1.heap.size) 3 i0 (.int .i64 0) 1 8 Try.underlying22 HI.out.1 HI.out.2.1 HI.out.2.2.1 HI.out.2.2.2 rfl (by decide) (.slice A2 m c2) m _ rfl (hown.alloc _) ⟨wr.heap.size, 0, none⟩ 1 1 [.int .i64 ((q : Int))] rfl rfl (one_new _ _ _) (by simp [Value.oneCell']) (by unfold maxLen; omega) (by omega) (by simp; omega) ?_; intro v' wA hown2 hg2 _))
              obtain ⟨A6, c6, rfl⟩ := own_form hown2
              have hbA := (hb.kept_ ((Kept.refl wr).alloc (.cells #[.int .i64 (q : Int)] 3))).grown hg2 (fun k e => (hown.lt k e).1)
              have hRA := (hR9.keep ((Kept.refl wr).alloc (.cells #[.int .i64 (q : Int)] 3))).grown hg2 (fun k e => by have := (hown.lt k e).1; omega)
              have hown3 : wA.ownsRow w1.heap.size 3 1 (.slice A6 (m + 1) c6) (m + 1) ((l ++ [(q : Int)]).map (Value.int .i64)) := by rw [List.map_append]; exact hown2
              have hll : l.length = m := by have := hown.1; simpa using this
              have HIn2 : Hid (∀ x ∈ l ++ [(q : Int)], Sp.inI x) := fun x hx => by
                rcases List.mem_append.1 hx with h | h
                · exact HIn.out x h
                · obtain rfl := List.mem_singleton.1 h; unfold Sp.inI; omega
              clear hown hown2 hg2 hb hmay cj hR9
              have hdz := (Kept.refl wA).drew
              replace hbA := hbA.kept_ hdz
              replace hRA := hRA.keep hdz
              replace hown3 := own_keep hown3 hdz
              obtain ⟨_, g6, rfl, _, _, hIR⟩ := own_row hown3 (by omega)
              have cl := hIR.2.2 m (by omega)
              have hgl : (l ++ [(q : Int)]).getD m default = (q : Int) := by rw [← hll]; simp [List.getD]
              simp only [hgl] at cl
              have ce := (hbA.blk B0 (.inr (by omega))).cell 2
              have hTr := hTW1 _ (RowsKept.of_but hbA hX)
              obtain ⟨b2, off2, rfl, hb2, hd⟩ := hTr.deeds.at hq5
              have hkl : q < t.deeds.length := by have := HLd.out; omega
              have HDo := Lib.hid (Sp.taskOk_deed HOk.out hkl)
              generalize t.deeds.getD q default = d at *
              obtain ⟨A5, n5, c5, hc0, hc1, hc2, hc3, hdv⟩ := hd.v
              have HDv := Lib.hid hdv
              have hwm : IntKind.i64.wrap (((m + 1 : Nat) : Int) - 1) = (m : Int) := by rw [IntKind.wrap_i64]; omega
              have hwm2 : IntKind.i64.wrap (m : Int) = (m : Int) := by rw [IntKind.wrap_i64]; omega
              have hmm : ¬ ((m + 1 : Nat) : Int) ≤ (m : Int) := by omega
              have hmm2 : ¬ (m : Int) + 1 ≤ (m : Int) := by omega
              clear hdv hd hIR hgl hTr hdz
              refine wp_region_held_drew (S := fun w' => w'.cell? ⟨g6, m, none⟩ = some (.int .i64 q) ∧ w'.cell? ⟨w.heap.size, 2, none⟩ = some (.slice (some ⟨b2, off2, none⟩) n' c') ∧ w'.cell? ⟨b2, off2 + q * 4, none⟩ = some (.slice A5 n5 c5) ∧ w'.cell? ⟨b2, off2 + q * 4 + 1, none⟩ = some (.int .i64 d.on) ∧ w'.cell? ⟨b2, off2 + q * 4 + 2, none⟩ = some (.int .i64 d.off) ∧ w'.cell? ⟨b2, off2 + q * 4 + 3, none⟩ = some (.int .i64 d.flip)) (by kernel_rfl) ⟨cl, ce, hc0, hc1, hc2, hc3⟩ (fun hHeld => ?_)
              (refine take_val (i := 0) (v := .pointer (some ⟨w.heap.size, 2, none⟩)) rfl rfl (by kernel_rfl) (by kernel_rfl) (by kernel_rfl) (fun _ _ _ h => h) rfl (by intro wq hq; (try go_split_ands); go_simp; try with_reducible rfl) (hHeld) ?_; try simp only [List.setIfInBounds_toArray, List.set_cons_zero, List.set_cons_succ])
              (refine take_val (i := 1) (v := .slice (some ⟨b2, off2, none⟩) n' c') rfl rfl (by kernel_rfl) (by kernel_rfl) (by kernel_rfl) (fun _ _ _ h => h) rfl (by intro wq hq; (try go_split_ands); go_simp; try with_reducible rfl) (hHeld) ?_; try simp only [List.setIfInBounds_toArray, List.set_cons_zero, List.set_cons_succ])
              (refine take_val (i := 2) (v := .slice (some ⟨g6, 0, none⟩) (m + 1) c6) rfl rfl (by kernel_rfl) (by kernel_rfl) (by kernel_rfl) (fun _ _ _ h => h) rfl (by intro wq hq; (try go_split_ands); go_simp; try with_reducible rfl) (hHeld) ?_; try simp only [List.setIfInBounds_toArray, List.set_cons_zero, List.set_cons_succ])
              (refine take_val (i := 3) (v := .slice (some ⟨g6, 0, none⟩) (m + 1) c6) rfl rfl (by kernel_rfl) (by kernel_rfl) (by kernel_rfl) (fun _ _ _ h => h) rfl (by intro wq hq; (try go_split_ands); go_simp; try with_reducible rfl) (hHeld) ?_; try simp only [List.setIfInBounds_toArray, List.set_cons_zero, List.set_cons_succ])
              (refine take_val (i := 4) (v := .int .i64 ((m + 1 : Nat) : Int)) rfl rfl (by kernel_rfl) (by kernel_rfl) (by kernel_rfl) (fun _ _ _ h => h) rfl (by intro wq hq; (try go_split_ands); go_simp; try with_reducible rfl) (hHeld) ?_; try simp only [List.setIfInBounds_toArray, List.set_cons_zero, List.set_cons_succ])
              (refine take_val (i := 5) (v := .int .i64 m) rfl rfl (by kernel_rfl) (by kernel_rfl) (by kernel_rfl) (fun _ _ _ h => h) rfl (by intro wq hq; (try go_split_ands); go_simp; try with_reducible rfl) (hHeld) ?_; try simp only [List.setIfInBounds_toArray, List.set_cons_zero, List.set_cons_succ])
              (refine take_val (i := 6) (v := .pointer (some ⟨g6, m, none⟩)) rfl rfl (by kernel_rfl) (by kernel_rfl) (by kernel_rfl) (fun _ _ _ h => h) rfl (by intro wq hq; (try go_split_ands); go_simp; try with_reducible rfl) (hHeld) ?_; try simp only [List.setIfInBounds_toArray, List.set_cons_zero, List.set_cons_succ])
              (refine take_val (i := 7) (v := .int .i64 q) rfl rfl (by kernel_rfl) (by kernel_rfl) (by kernel_rfl) (fun _ _ _ h => h) rfl (by intro wq hq; (try go_split_ands); go_simp; try with_reducible rfl) (hHeld) ?_; try simp only [List.setIfInBounds_toArray, List.set_cons_zero, List.set_cons_succ])
              (refine take_val (i := 8) (v := .pointer (some ⟨b2, off2 + q * 4, none⟩)) rfl rfl (by kernel_rfl) (by kernel_rfl) (by kernel_rfl) (fun _ _ _ h => h) rfl (by intro wq hq; (try go_split_ands); go_simp; try with_reducible rfl) (hHeld) ?_; try simp only [List.setIfInBounds_toArray, List.set_cons_zero, List.set_cons_succ])
              (refine take_val (i := 9) (v := .agg #[.slice A5 n5 c5, .int .i64 d.on, .int .i64 d.off, .int .i64 d.flip]) rfl rfl (by kernel_rfl) (by kernel_rfl) (by kernel_rfl) (fun _ _ _ h => h) rfl (by intro wq hq; (try go_split_ands); go_simp; try with_reducible rfl) (hHeld) ?_; try simp only [List.setIfInBounds_toArray, List.set_cons_zero, List.set_cons_succ])
              (refine take_val (i := 10) (v := .int .i64 s) rfl rfl (by kernel_rfl) (by kernel_rfl) (by kernel_rfl) (fun _ _ _ h => h) rfl (by intro wq hq; (try go_split_ands); go_simp; try with_reducible rfl) (hHeld) ?_; try simp only [List.setIfInBounds_toArray, List.set_cons_zero, List.set_cons_succ])
              (refine wpAnyH_ready (rs := [11]) (by kernel_rfl) (by simp) ?_; refine AllReadyH.cons rfl (fun K hK => ?_) AllReadyH.nil; go_simp)
              refine (c_sDeedDo _ d s _ HDv.out HDo.out).mono ?_; rintro e w10 ⟨rfl, hk10⟩
              have hlt2 : b2 < wA.drew.heap.size := hb2
              have hSx : w10.cell? ⟨g6, m, none⟩ = some (.int .i64 q) ∧ w10.cell? ⟨w.heap.size, 2, none⟩ = some (.slice (some ⟨b2, off2, none⟩) n' c') ∧ w10.cell? ⟨b2, off2 + q * 4, none⟩ = some (.slice A5 n5 c5) ∧ w10.cell? ⟨b2, off2 + q * 4 + 1, none⟩ = some (.int .i64 d.on) ∧ w10.cell? ⟨b2, off2 + q * 4 + 2, none⟩ = some (.int .i64 d.off) ∧ w10.cell? ⟨b2, off2 + q * 4 + 3, none⟩ = some (.int .i64 d.flip) := by
                have g6l : g6 < wA.drew.heap.size := World.block_lt_of_cell? _ _ cl
                have wl : w.heap.size < wA.drew.heap.size := World.block_lt_of_cell? _ _ ce
                exact ⟨(hk10.cell g6l).trans cl, (hk10.cell wl).trans ce, (hk10.cell hlt2).trans hc0, (hk10.cell hlt2).trans hc1, (hk10.cell hlt2).trans hc2, (hk10.cell hlt2).trans hc3⟩
              (refine hK.out _ _ (hSx) (fun _ => ?_); clear hK K; try simp only [Act.put, List.setIfInBounds_toArray, List.set_cons_zero, List.set_cons_succ])
              (refine take_val (i := 12) (v := .int .i64 (Sp.stepAt d s)) rfl rfl (by kernel_rfl) (by kernel_rfl) (by kernel_rfl) (fun _ _ _ h => h) rfl (by intro wq hq; (try go_split_ands); go_simp; try with_reducible rfl) (hSx) ?_; try simp only [List.setIfInBounds_toArray, List.set_cons_zero, List.set_cons_succ])
              refine wpAnyH_done (by kernel_rfl) ?_ _
              replace hown3 := own_keep hown3 hk10
              replace hRA := hRA.keep hk10
              replace hbA := hbA.kept_ hk10
              clear hSx hHeld cl ce hc0 hc1 hc2 hc3
              go_wp2_with fail
              exact ⟨⟨k - 1, m + 1, _, _, _, _, p9, by omega, by go_num, rfl, rfl, by omega, hown3, HIn2, hRA, by omega, by omega, hbA⟩, by simp [intOf]; omega⟩
            · have ce := (hb.blk B0 (.inr (by omega))).cell
              have hw1 : IntKind.i64.wrap ((n' : Int) + 1) = (n' : Int) + 1 := by rw [IntKind.wrap_i64]; omega
              clear hmay
              go_wp2_with fail
              refine (c_pick R ((n' : Int) + 1) p8 _ hR8 (by omega) (by omega)).mono ?_; rintro e wr ⟨v, p9, rfl, hR9, hp11, hp12, hb9, z, rfl, hz0, hz1'⟩
              replace hz1' := hz1' (by omega)
              replace hb := hb.trans hb9
              replace hown := own_but hown hb9 (by omega)
              have hsz := hb.size
              have HIn2 : Hid (∀ x ∈ l ++ [z], Sp.inI x) := fun x hx => by
                rcases List.mem_append.1 hx with h | h
                · exact HIn.out x h
                · obtain rfl := List.mem_singleton.1 h; unfold Sp.inI; omega
              clear ce hb9 hR8
              go_upto_region 10 with (first | (at_builtin; refine wpList_append_own _ rfl (.tmp 53) (.tmp 60) 22 rfl (w1.heap.size) 3 i0 (.int .i64 0) 1 8 Try.underlying22 HI.out.1 HI.out.2.1 HI.out.2.2.1 HI.out.2.2.2 rfl (by decide) (.slice A2 m c2) m _ rfl (hown.alloc _) ⟨wr.heap.size, 0, none⟩ 1 1 [.int .i64 (z)] rfl rfl (one_new _ _ _) (by simp [Value.oneCell']) (by unfold maxLen; omega) (by omega) (by simp; omega) ?_; intro v' wA hown2 hg2 _))
              obtain ⟨A6, c6, rfl⟩ := own_form hown2
              have hbA := (hb.kept_ ((Kept.refl wr).alloc (.cells #[.int .i64 z] 3))).grown hg2 (fun k e => (hown.lt k e).1)
              have hRA := (hR9.keep ((Kept.refl wr).alloc (.cells #[.int .i64 z] 3))).grown hg2 (fun k e => by have := (hown.lt k e).1; omega)
              have hown3 : wA.ownsRow w1.heap.size 3 1 (.slice A6 (m + 1) c6) (m + 1) ((l ++ [z]).map (Value.int .i64)) := by rw [List.map_append]; exact hown2
              clear hown hown2 hg2 hb
              go_wp2_with fail
              exact ⟨⟨k - 1, m + 1, _, _, _, _, p9, by omega, by go_num, rfl, rfl, by omega, hown3, HIn2, hRA, by omega, by omega, hbA⟩, by simp [intOf]; omega⟩
        · go_wp2_with fail
          go_ret
          exact ⟨_, p7, rfl, hR7, by omega, by omega, (But.of_kept hk0).trans hb, _, _, _, _, rfl, by omega, ownsRow_mono hown (by omega), HIn.out⟩

end Go.Proofs.Ytphdojebdclonaa

