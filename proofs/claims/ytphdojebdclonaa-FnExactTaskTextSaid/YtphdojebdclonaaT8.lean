/- The text of a task: the reference's. -/
import Derived.Test.YtphdojebdclonaaT7
namespace Go.Proofs.Ytphdojebdclonaa
open Go.RowKit

theorem str_tail (x a b c d : List UInt8) : ((⟨x.toArray⟩ : ByteArray) ++ ⟨#[59]⟩ ++ ⟨a.toArray⟩ ++ ⟨#[58]⟩ ++ ⟨b.toArray⟩ ++ ⟨#[44]⟩ ++ ⟨c.toArray⟩ ++ ⟨#[44]⟩ ++ ⟨d.toArray⟩) = ⟨(x ++ 59 :: (a ++ 58 :: (b ++ 44 :: (c ++ 44 :: d)))).toArray⟩ := by
  rw [str_add1, str_add, str_add1, str_add, str_add1, str_add, str_add1, str_add]; simp

set_option maxHeartbeats 4000000 in
set_option maxRecDepth 100000 in
theorem c_sTaskText (v : Value) (t : Sp.Task) (w : World) (h : TaskV w v t) : Calls Try.prog 31 #[v] w (RetK (.string ⟨(Sp.taskText t).toArray⟩) w) := by
  obtain ⟨A, n, c, A', n', c', rfl⟩ := h.form
  have hk0 := (Kept.refl w).alloc (.cells #[.int .i64 t.start, .slice A n c, .slice A' n' c'] 30)
  have B0 := Blk.new w 30 #[.int .i64 t.start, .slice A n c, .slice A' n' c']
  have hT := h.keep hk0
  go_enter Try.func31, Try.ntmps31
  go_wp2_with fail
  obtain ⟨B, HB⟩ : ∃ x, Hid (w.heap.size = x) := ⟨_, rfl⟩
  refine (c_sTaskValid _ t _ hT).mono ?_; rintro e w2 ⟨rfl, hk2⟩
  replace hk0 := hk0.trans hk2
  replace B0 := B0.kept hk2
  replace hT := hT.keep hk2
  clear hk2 h
  rw [HB.out] at B0 ⊢
  cases ht : Sp.taskOk t
  · have HE := Lib.hid (taskText_no ht)
    clear ht
    go_wp2_with fail
    go_ret
    exact ⟨by rw [HE.out]; rfl, hk0⟩
  have HK := Lib.hid ht
  have HE := Lib.hid (taskText_yes ht)
  obtain ⟨hs0, hs1⟩ := Sp.taskOk_start ht
  have hn6 := Sp.taskOk_len ht
  clear ht
  obtain ⟨_, _, _, _, _, _, e, hI, hD, _⟩ := hT
  injection e with e
  simp only [Array.mk.injEq, List.cons.injEq, Value.slice.injEq, and_true] at e
  obtain ⟨_, ⟨rfl, rfl, rfl⟩, ⟨rfl, rfl, rfl⟩⟩ := e
  have HL := Lib.hid hD.len
  rw [hD.len] at hn6 HE
  have H0 := Lib.hid (textUp_zero t)
  have hl1 := letters_len t.start
  have hl2 := codeText_len t.goal
  go_wp2_with fail
  have hkd := (Kept.refl w2).drew
  have B1 := B0.kept hkd
  refine wp_region_held_drew (S := (fun w' => w'.cell? ⟨B, 0, none⟩ = some (.int .i64 t.start) ∧ w'.cell? ⟨B, 1, none⟩ = some (.slice A n c) ∧ w'.cell? ⟨B, 2, none⟩ = some (.slice A' n' c'))) (by kernel_rfl) ⟨B1.cell 0, B1.cell 1, B1.cell 2⟩ (fun hHeld => ?_)
  (refine take_val (i := 0) (v := .pointer (some ⟨B, 0, none⟩)) rfl rfl (by kernel_rfl) (by kernel_rfl) (by kernel_rfl) (fun _ _ _ h => h) rfl (by intro wq hq; (try go_split_ands); go_simp; try with_reducible rfl) (hHeld) ?_; try simp only [List.setIfInBounds_toArray, List.set_cons_zero, List.set_cons_succ])
  (refine take_val (i := 1) (v := .int .i64 t.start) rfl rfl (by kernel_rfl) (by kernel_rfl) (by kernel_rfl) (fun _ _ _ h => h) rfl (by intro wq hq; (try go_split_ands); go_simp; try with_reducible rfl) (hHeld) ?_; try simp only [List.setIfInBounds_toArray, List.set_cons_zero, List.set_cons_succ])
  (refine take_val (i := 4) (v := .pointer (some ⟨B, 1, none⟩)) rfl rfl (by kernel_rfl) (by kernel_rfl) (by kernel_rfl) (fun _ _ _ h => h) rfl (by intro wq hq; (try go_split_ands); go_simp; try with_reducible rfl) (hHeld) ?_; try simp only [List.setIfInBounds_toArray, List.set_cons_zero, List.set_cons_succ])
  (refine take_val (i := 5) (v := .slice A n c) rfl rfl (by kernel_rfl) (by kernel_rfl) (by kernel_rfl) (fun _ _ _ h => h) rfl (by intro wq hq; (try go_split_ands); go_simp; try with_reducible rfl) (hHeld) ?_; try simp only [List.setIfInBounds_toArray, List.set_cons_zero, List.set_cons_succ])
  (refine wpAnyH_ready (rs := [2]) (by kernel_rfl) (by simp) ?_; refine AllReadyH.cons rfl (fun K hK => ?_) AllReadyH.nil; go_simp)
  refine (c_sLetters t.start _ hs0 hs1).mono ?_; rintro e w4 ⟨rfl, hk4⟩
  have B2 := B1.kept hk4
  replace hk4 := hkd.trans hk4
  generalize Sp.letters t.start = ls at *
  (refine hK.out _ _ (⟨B2.cell 0, B2.cell 1, B2.cell 2⟩) (fun _ => ?_); clear hK K; try simp only [Act.put, List.setIfInBounds_toArray, List.set_cons_zero, List.set_cons_succ])
  (refine take_val (i := 3) (v := .string (⟨ls.toArray⟩ ++ ⟨#[62]⟩)) rfl rfl (by kernel_rfl) (by kernel_rfl) (by kernel_rfl) (fun _ _ _ h => h) rfl (by intro wq hq; (try go_split_ands); go_simp; (try with_reducible rfl); (try omega)) (⟨B2.cell 0, B2.cell 1, B2.cell 2⟩) ?_; try simp only [List.setIfInBounds_toArray, List.set_cons_zero, List.set_cons_succ])
  (refine wpAnyH_ready (rs := [6]) (by kernel_rfl) (by simp) ?_; refine AllReadyH.cons rfl (fun K hK => ?_) AllReadyH.nil; go_simp)
  refine (c_sCodeText A n c t.goal _ (hI.keep hk4)).mono ?_; rintro e w5 ⟨rfl, hk5⟩
  have B3 := B2.kept hk5
  replace hk5 := hk4.trans hk5
  generalize Sp.codeText t.goal = lg at *
  (refine hK.out _ _ (⟨B3.cell 0, B3.cell 1, B3.cell 2⟩) (fun _ => ?_); clear hK K; try simp only [Act.put, List.setIfInBounds_toArray, List.set_cons_zero, List.set_cons_succ])
  (refine take_val (i := 7) (v := .string (⟨ls.toArray⟩ ++ ⟨#[62]⟩ ++ ⟨lg.toArray⟩)) rfl rfl (by kernel_rfl) (by kernel_rfl) (by kernel_rfl) (fun _ _ _ h => h) rfl (by intro wq hq; (try go_split_ands); go_simp; (try with_reducible rfl); (try omega)) (⟨B3.cell 0, B3.cell 1, B3.cell 2⟩) ?_; try simp only [List.setIfInBounds_toArray, List.set_cons_zero, List.set_cons_succ])
  (refine take_val (i := 8) (v := .string (⟨ls.toArray⟩ ++ ⟨#[62]⟩ ++ ⟨lg.toArray⟩)) rfl rfl (by kernel_rfl) (by kernel_rfl) (by kernel_rfl) (fun _ _ _ h => h) rfl (by intro wq hq; (try go_split_ands); go_simp; (try with_reducible rfl); (try omega)) (⟨B3.cell 0, B3.cell 1, B3.cell 2⟩) ?_; try simp only [List.setIfInBounds_toArray, List.set_cons_zero, List.set_cons_succ])
  refine wpAnyH_done (by kernel_rfl) ?_ _
  have HJ : Hid ((⟨ls.toArray⟩ : ByteArray) ++ ⟨#[62]⟩ ++ ⟨lg.toArray⟩ = ⟨(Sp.textUp t 0).toArray⟩) := by
    show _ = _
    rw [H0.out, str_add1, str_add]
  clear hHeld B1 B2 hkd hk4
  go_wp2_with fail
  go_loopw [3, 4, 5] (fun x i _ wr => ∃ k : Nat, k ≤ n' ∧ i = .int .i64 k ∧ x = .string ⟨(Sp.textUp t k).toArray⟩ ∧ Kept w2 wr) (fun _ i _ _ => n' - (intOf i).toNat)
  case atStart => exact ⟨0, Nat.zero_le _, rfl, by rw [HJ.out], hk5⟩
  case round =>
    clear hk5 B3
    obtain ⟨k, hk, rfl, rfl, hkr⟩ := hrel
    have BR := B0.kept hkr
    have cR := BR.cell
    by_cases hlt : k < n'
    · have hlk := textUp_len t k
      have HT1 := Lib.hid (textUp_succ t k (by rw [HL.out]; exact hlt))
      have HDo := Lib.hid (Sp.taskOk_deed HK.out (k := k) (by rw [HL.out]; exact hlt))
      obtain ⟨b, off, rfl, hb, hc⟩ := hD.at hlt
      generalize t.deeds.getD k default = d at *
      obtain ⟨A2, n2, c2, hc0, hN, hc1, hc2, hc3, _⟩ := hc
      replace hc0 := hkr.at_ hc0
      replace hc1 := hkr.at_ hc1
      replace hc2 := hkr.at_ hc2
      replace hc3 := hkr.at_ hc3
      obtain ⟨o0, o1⟩ := deedOk_on HDo.out
      obtain ⟨f0, f1⟩ := deedOk_off HDo.out
      obtain ⟨p0, p1⟩ := deedOk_flip HDo.out
      have l1 := codeText_len d.need
      have l2 := letters_len d.on
      have l3 := letters_len d.off
      have l4 := letters_len d.flip
      have hkb := (Kept.refl wr).alloc (.cells #[.slice A2 n2 c2, .int .i64 d.on, .int .i64 d.off, .int .i64 d.flip] 43)
      have BX := Blk.new wr 43 #[.slice A2 n2 c2, .int .i64 d.on, .int .i64 d.off, .int .i64 d.flip]
      obtain ⟨X, HX⟩ : ∃ x, Hid (wr.heap.size = x) := ⟨_, rfl⟩
      obtain ⟨wa, HWa⟩ : ∃ x, Hid (wr.alloc (.cells #[.slice A2 n2 c2, .int .i64 d.on, .int .i64 d.off, .int .i64 d.flip] 43) = x) := ⟨_, rfl⟩
      rw [HX.out, HWa.out] at BX
      rw [HWa.out] at hkb
      replace hkr := hkr.trans hkb
      go_wp2_with fail
      rw [HX.out, HWa.out]
      clear hc0 hc1 hc2 hc3 hkb cR BR
      have hkd := hkr.drew
      have BX1 := BX.kept (Kept.refl wa).drew
      have HF : Hid (Sp.textUp t (k + 1) = Sp.textUp t k ++ 59 :: (Sp.codeText d.need ++ 58 :: (Sp.letters d.on ++ 44 :: (Sp.letters d.off ++ 44 :: Sp.letters d.flip)))) := by show _ = _; rw [HT1.out]; rfl
      generalize Sp.textUp t k = tx at *
      refine wp_region_held_drew (S := (fun w' => w'.cell? ⟨X, 0, none⟩ = some (.slice A2 n2 c2) ∧ w'.cell? ⟨X, 1, none⟩ = some (.int .i64 d.on) ∧ w'.cell? ⟨X, 2, none⟩ = some (.int .i64 d.off) ∧ w'.cell? ⟨X, 3, none⟩ = some (.int .i64 d.flip))) (by kernel_rfl) ⟨BX1.cell 0, BX1.cell 1, BX1.cell 2, BX1.cell 3⟩ (fun hHeld => ?_)
      (refine take_val (i := 0) (v := .string ⟨tx.toArray⟩) rfl rfl (by kernel_rfl) (by kernel_rfl) (by kernel_rfl) (fun _ _ _ h => h) rfl (by intro wq hq; (try go_split_ands); go_simp; (try with_reducible rfl); (try omega)) (hHeld) ?_; try simp only [List.setIfInBounds_toArray, List.set_cons_zero, List.set_cons_succ])
      (refine take_val (i := 1) (v := .string (⟨tx.toArray⟩ ++ ⟨#[59]⟩)) rfl rfl (by kernel_rfl) (by kernel_rfl) (by kernel_rfl) (fun _ _ _ h => h) rfl (by intro wq hq; (try go_split_ands); go_simp; (try with_reducible rfl); (try omega)) (hHeld) ?_; try simp only [List.setIfInBounds_toArray, List.set_cons_zero, List.set_cons_succ])
      (refine take_val (i := 2) (v := .pointer (some ⟨X, 0, none⟩)) rfl rfl (by kernel_rfl) (by kernel_rfl) (by kernel_rfl) (fun _ _ _ h => h) rfl (by intro wq hq; (try go_split_ands); go_simp; try with_reducible rfl) (hHeld) ?_; try simp only [List.setIfInBounds_toArray, List.set_cons_zero, List.set_cons_succ])
      (refine take_val (i := 3) (v := .slice A2 n2 c2) rfl rfl (by kernel_rfl) (by kernel_rfl) (by kernel_rfl) (fun _ _ _ h => h) rfl (by intro wq hq; (try go_split_ands); go_simp; try with_reducible rfl) (hHeld) ?_; try simp only [List.setIfInBounds_toArray, List.set_cons_zero, List.set_cons_succ])
      (refine take_val (i := 7) (v := .pointer (some ⟨X, 1, none⟩)) rfl rfl (by kernel_rfl) (by kernel_rfl) (by kernel_rfl) (fun _ _ _ h => h) rfl (by intro wq hq; (try go_split_ands); go_simp; try with_reducible rfl) (hHeld) ?_; try simp only [List.setIfInBounds_toArray, List.set_cons_zero, List.set_cons_succ])
      (refine take_val (i := 8) (v := .int .i64 d.on) rfl rfl (by kernel_rfl) (by kernel_rfl) (by kernel_rfl) (fun _ _ _ h => h) rfl (by intro wq hq; (try go_split_ands); go_simp; try with_reducible rfl) (hHeld) ?_; try simp only [List.setIfInBounds_toArray, List.set_cons_zero, List.set_cons_succ])
      (refine take_val (i := 12) (v := .pointer (some ⟨X, 2, none⟩)) rfl rfl (by kernel_rfl) (by kernel_rfl) (by kernel_rfl) (fun _ _ _ h => h) rfl (by intro wq hq; (try go_split_ands); go_simp; try with_reducible rfl) (hHeld) ?_; try simp only [List.setIfInBounds_toArray, List.set_cons_zero, List.set_cons_succ])
      (refine take_val (i := 13) (v := .int .i64 d.off) rfl rfl (by kernel_rfl) (by kernel_rfl) (by kernel_rfl) (fun _ _ _ h => h) rfl (by intro wq hq; (try go_split_ands); go_simp; try with_reducible rfl) (hHeld) ?_; try simp only [List.setIfInBounds_toArray, List.set_cons_zero, List.set_cons_succ])
      (refine take_val (i := 17) (v := .pointer (some ⟨X, 3, none⟩)) rfl rfl (by kernel_rfl) (by kernel_rfl) (by kernel_rfl) (fun _ _ _ h => h) rfl (by intro wq hq; (try go_split_ands); go_simp; try with_reducible rfl) (hHeld) ?_; try simp only [List.setIfInBounds_toArray, List.set_cons_zero, List.set_cons_succ])
      (refine take_val (i := 18) (v := .int .i64 d.flip) rfl rfl (by kernel_rfl) (by kernel_rfl) (by kernel_rfl) (fun _ _ _ h => h) rfl (by intro wq hq; (try go_split_ands); go_simp; try with_reducible rfl) (hHeld) ?_; try simp only [List.setIfInBounds_toArray, List.set_cons_zero, List.set_cons_succ])
      (refine wpAnyH_ready (rs := [4]) (by kernel_rfl) (by simp) ?_; refine AllReadyH.cons rfl (fun K hK => ?_) AllReadyH.nil; go_simp)
      refine (c_sCodeText A2 n2 c2 d.need _ (hN.keep hkd)).mono ?_; rintro e v0 ⟨rfl, hv0⟩
      have BY0 := BX1.kept hv0
      have hy0 := hkd.trans hv0
      generalize Sp.codeText d.need = ta at *
      (refine hK.out _ _ (⟨BY0.cell 0, BY0.cell 1, BY0.cell 2, BY0.cell 3⟩) (fun _ => ?_); clear hK K; try simp only [Act.put, List.setIfInBounds_toArray, List.set_cons_zero, List.set_cons_succ])
      (refine take_val (i := 5) (v := .string (⟨tx.toArray⟩ ++ ⟨#[59]⟩ ++ ⟨ta.toArray⟩)) rfl rfl (by kernel_rfl) (by kernel_rfl) (by kernel_rfl) (fun _ _ _ h => h) rfl (by intro wq hq; (try go_split_ands); go_simp; (try with_reducible rfl); (try omega)) (⟨BY0.cell 0, BY0.cell 1, BY0.cell 2, BY0.cell 3⟩) ?_; try simp only [List.setIfInBounds_toArray, List.set_cons_zero, List.set_cons_succ])
      (refine take_val (i := 6) (v := .string (⟨tx.toArray⟩ ++ ⟨#[59]⟩ ++ ⟨ta.toArray⟩ ++ ⟨#[58]⟩)) rfl rfl (by kernel_rfl) (by kernel_rfl) (by kernel_rfl) (fun _ _ _ h => h) rfl (by intro wq hq; (try go_split_ands); go_simp; (try with_reducible rfl); (try omega)) (⟨BY0.cell 0, BY0.cell 1, BY0.cell 2, BY0.cell 3⟩) ?_; try simp only [List.setIfInBounds_toArray, List.set_cons_zero, List.set_cons_succ])
      (refine wpAnyH_ready (rs := [9]) (by kernel_rfl) (by simp) ?_; refine AllReadyH.cons rfl (fun K hK => ?_) AllReadyH.nil; go_simp)
      refine (c_sLetters d.on _ o0 o1).mono ?_; rintro e v1 ⟨rfl, hv1⟩
      have BY1 := BY0.kept hv1
      have hy1 := hy0.trans hv1
      generalize Sp.letters d.on = tb at *
      (refine hK.out _ _ (⟨BY1.cell 0, BY1.cell 1, BY1.cell 2, BY1.cell 3⟩) (fun _ => ?_); clear hK K; try simp only [Act.put, List.setIfInBounds_toArray, List.set_cons_zero, List.set_cons_succ])
      (refine take_val (i := 10) (v := .string (⟨tx.toArray⟩ ++ ⟨#[59]⟩ ++ ⟨ta.toArray⟩ ++ ⟨#[58]⟩ ++ ⟨tb.toArray⟩)) rfl rfl (by kernel_rfl) (by kernel_rfl) (by kernel_rfl) (fun _ _ _ h => h) rfl (by intro wq hq; (try go_split_ands); go_simp; (try with_reducible rfl); (try omega)) (⟨BY1.cell 0, BY1.cell 1, BY1.cell 2, BY1.cell 3⟩) ?_; try simp only [List.setIfInBounds_toArray, List.set_cons_zero, List.set_cons_succ])
      (refine take_val (i := 11) (v := .string (⟨tx.toArray⟩ ++ ⟨#[59]⟩ ++ ⟨ta.toArray⟩ ++ ⟨#[58]⟩ ++ ⟨tb.toArray⟩ ++ ⟨#[44]⟩)) rfl rfl (by kernel_rfl) (by kernel_rfl) (by kernel_rfl) (fun _ _ _ h => h) rfl (by intro wq hq; (try go_split_ands); go_simp; (try with_reducible rfl); (try omega)) (⟨BY1.cell 0, BY1.cell 1, BY1.cell 2, BY1.cell 3⟩) ?_; try simp only [List.setIfInBounds_toArray, List.set_cons_zero, List.set_cons_succ])
      (refine wpAnyH_ready (rs := [14]) (by kernel_rfl) (by simp) ?_; refine AllReadyH.cons rfl (fun K hK => ?_) AllReadyH.nil; go_simp)
      refine (c_sLetters d.off _ f0 f1).mono ?_; rintro e v2 ⟨rfl, hv2⟩
      have BY2 := BY1.kept hv2
      have hy2 := hy1.trans hv2
      generalize Sp.letters d.off = tc at *
      (refine hK.out _ _ (⟨BY2.cell 0, BY2.cell 1, BY2.cell 2, BY2.cell 3⟩) (fun _ => ?_); clear hK K; try simp only [Act.put, List.setIfInBounds_toArray, List.set_cons_zero, List.set_cons_succ])
      (refine take_val (i := 15) (v := .string (⟨tx.toArray⟩ ++ ⟨#[59]⟩ ++ ⟨ta.toArray⟩ ++ ⟨#[58]⟩ ++ ⟨tb.toArray⟩ ++ ⟨#[44]⟩ ++ ⟨tc.toArray⟩)) rfl rfl (by kernel_rfl) (by kernel_rfl) (by kernel_rfl) (fun _ _ _ h => h) rfl (by intro wq hq; (try go_split_ands); go_simp; (try with_reducible rfl); (try omega)) (⟨BY2.cell 0, BY2.cell 1, BY2.cell 2, BY2.cell 3⟩) ?_; try simp only [List.setIfInBounds_toArray, List.set_cons_zero, List.set_cons_succ])
      (refine take_val (i := 16) (v := .string (⟨tx.toArray⟩ ++ ⟨#[59]⟩ ++ ⟨ta.toArray⟩ ++ ⟨#[58]⟩ ++ ⟨tb.toArray⟩ ++ ⟨#[44]⟩ ++ ⟨tc.toArray⟩ ++ ⟨#[44]⟩)) rfl rfl (by kernel_rfl) (by kernel_rfl) (by kernel_rfl) (fun _ _ _ h => h) rfl (by intro wq hq; (try go_split_ands); go_simp; (try with_reducible rfl); (try omega)) (⟨BY2.cell 0, BY2.cell 1, BY2.cell 2, BY2.cell 3⟩) ?_; try simp only [List.setIfInBounds_toArray, List.set_cons_zero, List.set_cons_succ])
      (refine wpAnyH_ready (rs := [19]) (by kernel_rfl) (by simp) ?_; refine AllReadyH.cons rfl (fun K hK => ?_) AllReadyH.nil; go_simp)
      refine (c_sLetters d.flip _ p0 p1).mono ?_; rintro e v3 ⟨rfl, hv3⟩
      have BY3 := BY2.kept hv3
      have hy3 := hy2.trans hv3
      generalize Sp.letters d.flip = td at *
      (refine hK.out _ _ (⟨BY3.cell 0, BY3.cell 1, BY3.cell 2, BY3.cell 3⟩) (fun _ => ?_); clear hK K; try simp only [Act.put, List.setIfInBounds_toArray, List.set_cons_zero, List.set_cons_succ])
      (refine take_val (i := 20) (v := .string (⟨tx.toArray⟩ ++ ⟨#[59]⟩ ++ ⟨ta.toArray⟩ ++ ⟨#[58]⟩ ++ ⟨tb.toArray⟩ ++ ⟨#[44]⟩ ++ ⟨tc.toArray⟩ ++ ⟨#[44]⟩ ++ ⟨td.toArray⟩)) rfl rfl (by kernel_rfl) (by kernel_rfl) (by kernel_rfl) (fun _ _ _ h => h) rfl (by intro wq hq; (try go_split_ands); go_simp; (try with_reducible rfl); (try omega)) (⟨BY3.cell 0, BY3.cell 1, BY3.cell 2, BY3.cell 3⟩) ?_; try simp only [List.setIfInBounds_toArray, List.set_cons_zero, List.set_cons_succ])
      (refine take_val (i := 21) (v := .string (⟨tx.toArray⟩ ++ ⟨#[59]⟩ ++ ⟨ta.toArray⟩ ++ ⟨#[58]⟩ ++ ⟨tb.toArray⟩ ++ ⟨#[44]⟩ ++ ⟨tc.toArray⟩ ++ ⟨#[44]⟩ ++ ⟨td.toArray⟩)) rfl rfl (by kernel_rfl) (by kernel_rfl) (by kernel_rfl) (fun _ _ _ h => h) rfl (by intro wq hq; (try go_split_ands); go_simp; (try with_reducible rfl); (try omega)) (⟨BY3.cell 0, BY3.cell 1, BY3.cell 2, BY3.cell 3⟩) ?_; try simp only [List.setIfInBounds_toArray, List.set_cons_zero, List.set_cons_succ])
      refine wpAnyH_done (by kernel_rfl) ?_ _
      have HJ2 := Lib.hid (str_tail tx ta tb tc td)
      have hkz := hy3
      clear hHeld
      go_wp2_with fail
      exact ⟨⟨k + 1, by omega, by go_num, by rw [HJ2.out, HF.out], hkz⟩, by simp [intOf]; omega⟩
    · obtain rfl : k = n' := by omega
      go_wp2_with fail
      go_ret
      exact ⟨by rw [HE.out]; rfl, hk0.trans hkr⟩

end Go.Proofs.Ytphdojebdclonaa
