/- The laws' sameTask; plain facts of a task's text. No condition. -/
import Derived.Test.YtphdojebdclonaaDoorT26
import Derived.Test.YtphdojebdclonaaDoorA5
namespace Go.Proofs.YtphdojebdclonaaDoor
set_option linter.unusedSimpArgs false
set_option linter.unusedVariables false
open Go.RowKit

theorem deedTail_len2 (d : Sp.Deed) (h : Sp.deedOk d = true) : (Sp.deedTail d).length ≤ 150 := by
  obtain ⟨o0, o1⟩ := deedOk_on h
  obtain ⟨f0, f1⟩ := deedOk_off h
  obtain ⟨q0, q1⟩ := deedOk_flip h
  have h1 := codeText_len d.need
  have hl : ∀ s : Fin 32, (Sp.letters ((s.val : Nat) : Int)).length ≤ 5 := by decide +kernel
  have hl2 : ∀ x : Int, 0 ≤ x → x ≤ 31 → (Sp.letters x).length ≤ 5 := fun x h0 h1 => by
    obtain ⟨k, rfl⟩ := Int.eq_ofNat_of_zero_le h0
    exact hl ⟨k, by omega⟩
  have := hl2 _ o0 o1
  have := hl2 _ f0 f1
  have := hl2 _ q0 q1
  unfold Sp.deedTail
  simp only [List.length_cons, List.length_append]
  omega
theorem flat_len2 (ds : List Sp.Deed) (h : ∀ d ∈ ds, Sp.deedOk d = true) : (ds.flatMap Sp.deedTail).length ≤ 150 * ds.length := by
  induction ds with
  | nil => simp
  | cons d ds ih =>
    have h1 := deedTail_len2 d (h d (by simp))
    have h2 := ih (fun x hx => h x (by simp [hx]))
    rw [List.flatMap_cons, List.length_append, List.length_cons]
    omega
theorem taskText_len (t : Sp.Task) : (Sp.taskText t).length ≤ 2000 := by
  cases h : Sp.taskOk t
  · rw [taskText_no h]; simp
  · rw [taskText_form h, List.length_append]
    have h1 := flat_len2 t.deeds (deeds_ok h)
    have h2 := taskOk_len h
    have h3 := codeText_len t.goal
    obtain ⟨s0, s1⟩ := Sp.taskOk_start h
    have hl : ∀ s : Fin 32, (Sp.letters ((s.val : Nat) : Int)).length ≤ 5 := by decide +kernel
    obtain ⟨k, hk⟩ := Int.eq_ofNat_of_zero_le s0
    have h4 := hl ⟨k, by omega⟩
    simp only at h4
    rw [← hk] at h4
    unfold Sp.headText
    rw [List.length_append, List.length_cons]
    omega
theorem cutB_end (c : UInt8) (p : List UInt8) : [] ∈ (Sp.cutB c (p ++ [c])).tail := by
  induction p with
  | nil => simp [Sp.cutB]
  | cons x xs ih =>
    rw [List.cons_append, Sp.cutB]
    split
    · exact List.mem_of_mem_tail ih
    · exact ih
/-- no text of a task ends in a semicolon -/
theorem taskText_noEnd {t : Sp.Task} (h : Sp.taskOk t = true) (s : List UInt8) : Sp.taskText t ≠ s ++ [59] := by
  intro e
  have h1 := cutB_end 59 s
  rw [← e, taskText_cut h, List.tail_cons, List.mem_map] at h1
  obtain ⟨d, _, h2⟩ := h1
  unfold Sp.deedText at h2
  simp at h2

set_option maxHeartbeats 1000000 in
set_option maxRecDepth 100000 in
theorem c_sameDeed (v v' : Value) (d : Sp.Deed) (w : World) (h : DeedV w v d) (h' : DeedV w v' d) : Calls Tryd.prog 85 #[v, v'] w (RetK (.bool true) w) := by
  obtain ⟨A, n, c, rfl, hI, _⟩ := h
  obtain ⟨A', n', c', rfl, hI', _⟩ := h'
  have hk1 := (Kept.refl w).alloc (.cells #[.slice A n c, .int .i64 d.on, .int .i64 d.off, .int .i64 d.flip] 72)
  have B1 := Blk.new w 72 #[.slice A n c, .int .i64 d.on, .int .i64 d.off, .int .i64 d.flip]
  have hk2 := (Kept.refl (w.alloc (.cells #[.slice A n c, .int .i64 d.on, .int .i64 d.off, .int .i64 d.flip] 72))).alloc (.cells #[.slice A' n' c', .int .i64 d.on, .int .i64 d.off, .int .i64 d.flip] 72)
  have B2 := Blk.new (w.alloc (.cells #[.slice A n c, .int .i64 d.on, .int .i64 d.off, .int .i64 d.flip] 72)) 72 #[.slice A' n' c', .int .i64 d.on, .int .i64 d.off, .int .i64 d.flip]
  have hsz : (w.alloc (.cells #[.slice A n c, .int .i64 d.on, .int .i64 d.off, .int .i64 d.flip] 72)).heap.size = w.heap.size + 1 := by simp
  rw [hsz] at B2
  have hkk := hk1.trans hk2
  have hJ := hI.keep hkk
  have hJ' := hI'.keep hkk
  have B1' := B1.kept hk2
  clear hsz hI hI' hk1 hk2 B1
  go_enter Tryd.func85, Tryd.ntmps85
  go_wp2_with fail
  refine (c_lsameInts _ _ _ _ _ _ _ _ _ hJ hJ' rfl).mono ?_; rintro e w2 ⟨rfl, hk3⟩
  have a1 := (B1'.kept hk3).cell 1
  have a2 := (B1'.kept hk3).cell 2
  have a3 := (B1'.kept hk3).cell 3
  have b1 := (B2.kept hk3).cell 1
  have b2 := (B2.kept hk3).cell 2
  have b3 := (B2.kept hk3).cell 3
  go_wp2_with fail
  go_ret
  exact ⟨rfl, hkk.trans hk3⟩

set_option maxHeartbeats 4000000 in
set_option maxRecDepth 100000 in
theorem c_sameTask (v v' : Value) (t : Sp.Task) (w : World) (h : TaskV w v t) (h' : TaskV w v' t) : Calls Tryd.prog 32 #[v, v'] w (RetK (.bool true) w) := by
  obtain ⟨A, n, c, A2, n2, c2, rfl, hI, hD, _⟩ := h
  obtain ⟨A', n', c', A2', n2', c2', rfl, hI', hD', _⟩ := h'
  obtain rfl : n2 = n2' := hD.len.symm.trans hD'.len
  have hn2 := hD.le
  have hk1 := (Kept.refl w).alloc (.cells #[.int .i64 t.start, .slice A n c, .slice A2 n2 c2] 26)
  have B1 := Blk.new w 26 #[.int .i64 t.start, .slice A n c, .slice A2 n2 c2]
  have hk2 := (Kept.refl (w.alloc (.cells #[.int .i64 t.start, .slice A n c, .slice A2 n2 c2] 26))).alloc (.cells #[.int .i64 t.start, .slice A' n' c', .slice A2' n2 c2'] 26)
  have B2 := Blk.new (w.alloc (.cells #[.int .i64 t.start, .slice A n c, .slice A2 n2 c2] 26)) 26 #[.int .i64 t.start, .slice A' n' c', .slice A2' n2 c2']
  have hsz : (w.alloc (.cells #[.int .i64 t.start, .slice A n c, .slice A2 n2 c2] 26)).heap.size = w.heap.size + 1 := by simp
  rw [hsz] at B2
  have hkk := hk1.trans hk2
  have hJ := hI.keep hkk
  have hJ' := hI'.keep hkk
  have hE := hD.keep hkk
  have hE' := hD'.keep hkk
  have B1' := B1.kept hk2
  clear hsz hI hI' hk1 hk2 B1 hD hD'
  have a0 := B1'.cell 0
  have b0 := B2.cell 0
  go_enter Tryd.func32, Tryd.ntmps32
  go_wp2_with fail
  refine (c_lsameInts _ _ _ _ _ _ _ _ _ hJ hJ' rfl).mono ?_; rintro e w2 ⟨rfl, hk3⟩
  have P1 := B1'.kept hk3
  have P2 := B2.kept hk3
  have hF := hE.keep hk3
  have hF' := hE'.keep hk3
  have hkw := hkk.trans hk3
  obtain ⟨X1, HX1⟩ : ∃ x, Hid (w.heap.size = x) := ⟨_, rfl⟩
  obtain ⟨X2, HX2⟩ : ∃ x, Hid (w.heap.size + 1 = x) := ⟨_, rfl⟩
  rw [HX1.out] at P1
  rw [HX2.out] at P2
  clear a0 b0 hJ hJ' hE hE' B1' B2 hkk
  rw [HX2.out, HX1.out]
  have p2 := P1.cell 2
  have q2 := P2.cell 2
  go_wp2_with fail
  go_loopw [5] (fun i wr => ∃ k : Nat, k ≤ n2 ∧ i = .int .i64 (k : Int) ∧ Kept w2 wr) (fun i _ => n2 - (intOf i).toNat)
  case atStart => exact ⟨0, Nat.zero_le _, rfl, Kept.refl _⟩
  case round =>
    clear p2 q2
    obtain ⟨k, hk, rfl, hkr⟩ := hrel
    have R1 := P1.kept hkr
    have R2 := P2.kept hkr
    have p2 := R1.cell 2
    have q2 := R2.cell 2
    by_cases hlt : k < n2
    · obtain ⟨b, o, rfl, hb, Ad, nd, cd, g0, gI, g1, g2, g3, i1, i2, i3⟩ := (hF.keep hkr).at hlt
      obtain ⟨b', o', rfl, hb', Ad', nd', cd', g0', gI', g1', g2', g3', _⟩ := (hF'.keep hkr).at hlt
      have hlti : (k : Int) < (n2 : Int) := by omega
      have hdz := (Kept.refl wr).drew
      have hJd := gI.keep hdz
      have hJd' := gI'.keep hdz
      go_wp2_with fail
      refine wp_region_held_drew (S := fun w' => w'.cell? ⟨X1, 2, none⟩ = some (.slice (some ⟨b, o, none⟩) n2 c2) ∧ w'.cell? ⟨X2, 2, none⟩ = some (.slice (some ⟨b', o', none⟩) n2 c2') ∧
        w'.cell? ⟨b, o + k * 4, none⟩ = some (.slice Ad nd cd) ∧ w'.cell? ⟨b, o + k * 4 + 1, none⟩ = some (.int .i64 (t.deeds.getD k default).on) ∧ w'.cell? ⟨b, o + k * 4 + 2, none⟩ = some (.int .i64 (t.deeds.getD k default).off) ∧ w'.cell? ⟨b, o + k * 4 + 3, none⟩ = some (.int .i64 (t.deeds.getD k default).flip) ∧
        w'.cell? ⟨b', o' + k * 4, none⟩ = some (.slice Ad' nd' cd') ∧ w'.cell? ⟨b', o' + k * 4 + 1, none⟩ = some (.int .i64 (t.deeds.getD k default).on) ∧ w'.cell? ⟨b', o' + k * 4 + 2, none⟩ = some (.int .i64 (t.deeds.getD k default).off) ∧ w'.cell? ⟨b', o' + k * 4 + 3, none⟩ = some (.int .i64 (t.deeds.getD k default).flip)) (by kernel_rfl) ⟨p2, q2, g0, g1, g2, g3, g0', g1', g2', g3'⟩ (fun hHeld => ?_)
      (refine take_val (i := 0) (v := .pointer (some ⟨X1, 2, none⟩)) rfl rfl (by kernel_rfl) (by kernel_rfl) (by kernel_rfl) (fun _ _ _ h => h) rfl (by intro wq hq; (try go_split_ands); go_simp; try with_reducible rfl) (hHeld) ?_; try simp only [List.setIfInBounds_toArray, List.set_cons_zero, List.set_cons_succ])
      (refine take_val (i := 1) (v := .slice (some ⟨b, o, none⟩) n2 c2) rfl rfl (by kernel_rfl) (by kernel_rfl) (by kernel_rfl) (fun _ _ _ h => h) rfl (by intro wq hq; (try go_split_ands); go_simp; try with_reducible rfl) (hHeld) ?_; try simp only [List.setIfInBounds_toArray, List.set_cons_zero, List.set_cons_succ])
      (refine take_val (i := 2) (v := .int .i64 (k : Int)) rfl rfl (by kernel_rfl) (by kernel_rfl) (by kernel_rfl) (fun _ _ _ h => h) rfl (by intro wq hq; (try go_split_ands); go_simp; try with_reducible rfl) (hHeld) ?_; try simp only [List.setIfInBounds_toArray, List.set_cons_zero, List.set_cons_succ])
      (refine take_val (i := 3) (v := .pointer (some ⟨b, o + k * 4, none⟩)) rfl rfl (by kernel_rfl) (by kernel_rfl) (by kernel_rfl) (fun _ _ _ h => h) rfl (by intro wq hq; (try go_split_ands); go_simp; try with_reducible rfl) (hHeld) ?_; try simp only [List.setIfInBounds_toArray, List.set_cons_zero, List.set_cons_succ])
      (refine take_val (i := 4) (v := .agg #[.slice Ad nd cd, .int .i64 (t.deeds.getD k default).on, .int .i64 (t.deeds.getD k default).off, .int .i64 (t.deeds.getD k default).flip]) rfl rfl (by kernel_rfl) (by kernel_rfl) (by kernel_rfl) (fun _ _ _ h => h) rfl (by intro wq hq; (try go_split_ands); go_simp; try with_reducible rfl) (hHeld) ?_; try simp only [List.setIfInBounds_toArray, List.set_cons_zero, List.set_cons_succ])
      (refine take_val (i := 5) (v := .pointer (some ⟨X2, 2, none⟩)) rfl rfl (by kernel_rfl) (by kernel_rfl) (by kernel_rfl) (fun _ _ _ h => h) rfl (by intro wq hq; (try go_split_ands); go_simp; try with_reducible rfl) (hHeld) ?_; try simp only [List.setIfInBounds_toArray, List.set_cons_zero, List.set_cons_succ])
      (refine take_val (i := 6) (v := .slice (some ⟨b', o', none⟩) n2 c2') rfl rfl (by kernel_rfl) (by kernel_rfl) (by kernel_rfl) (fun _ _ _ h => h) rfl (by intro wq hq; (try go_split_ands); go_simp; try with_reducible rfl) (hHeld) ?_; try simp only [List.setIfInBounds_toArray, List.set_cons_zero, List.set_cons_succ])
      (refine take_val (i := 7) (v := .int .i64 (k : Int)) rfl rfl (by kernel_rfl) (by kernel_rfl) (by kernel_rfl) (fun _ _ _ h => h) rfl (by intro wq hq; (try go_split_ands); go_simp; try with_reducible rfl) (hHeld) ?_; try simp only [List.setIfInBounds_toArray, List.set_cons_zero, List.set_cons_succ])
      (refine take_val (i := 8) (v := .pointer (some ⟨b', o' + k * 4, none⟩)) rfl rfl (by kernel_rfl) (by kernel_rfl) (by kernel_rfl) (fun _ _ _ h => h) rfl (by intro wq hq; (try go_split_ands); go_simp; try with_reducible rfl) (hHeld) ?_; try simp only [List.setIfInBounds_toArray, List.set_cons_zero, List.set_cons_succ])
      (refine take_val (i := 9) (v := .agg #[.slice Ad' nd' cd', .int .i64 (t.deeds.getD k default).on, .int .i64 (t.deeds.getD k default).off, .int .i64 (t.deeds.getD k default).flip]) rfl rfl (by kernel_rfl) (by kernel_rfl) (by kernel_rfl) (fun _ _ _ h => h) rfl (by intro wq hq; (try go_split_ands); go_simp; try with_reducible rfl) (hHeld) ?_; try simp only [List.setIfInBounds_toArray, List.set_cons_zero, List.set_cons_succ])
      clear hHeld
      have V1 : DeedV wr.drew (.agg #[.slice Ad nd cd, .int .i64 (t.deeds.getD k default).on, .int .i64 (t.deeds.getD k default).off, .int .i64 (t.deeds.getD k default).flip]) (t.deeds.getD k default) := ⟨Ad, nd, cd, rfl, hJd, i1, i2, i3⟩
      have V2 : DeedV wr.drew (.agg #[.slice Ad' nd' cd', .int .i64 (t.deeds.getD k default).on, .int .i64 (t.deeds.getD k default).off, .int .i64 (t.deeds.getD k default).flip]) (t.deeds.getD k default) := ⟨Ad', nd', cd', rfl, hJd', i1, i2, i3⟩
      (refine wpAnyH_ready (rs := [10]) (by kernel_rfl) (by simp) ?_; refine AllReadyH.cons rfl (fun K hK => ?_) AllReadyH.nil; go_simp)
      refine (c_sameDeed _ _ _ _ V1 V2).mono ?_; rintro e wq ⟨rfl, hkq⟩
      have hkd := hdz.trans hkq
      have hS : wq.cell? ⟨X1, 2, none⟩ = some (.slice (some ⟨b, o, none⟩) n2 c2) ∧ wq.cell? ⟨X2, 2, none⟩ = some (.slice (some ⟨b', o', none⟩) n2 c2') ∧
        wq.cell? ⟨b, o + k * 4, none⟩ = some (.slice Ad nd cd) ∧ wq.cell? ⟨b, o + k * 4 + 1, none⟩ = some (.int .i64 (t.deeds.getD k default).on) ∧ wq.cell? ⟨b, o + k * 4 + 2, none⟩ = some (.int .i64 (t.deeds.getD k default).off) ∧ wq.cell? ⟨b, o + k * 4 + 3, none⟩ = some (.int .i64 (t.deeds.getD k default).flip) ∧
        wq.cell? ⟨b', o' + k * 4, none⟩ = some (.slice Ad' nd' cd') ∧ wq.cell? ⟨b', o' + k * 4 + 1, none⟩ = some (.int .i64 (t.deeds.getD k default).on) ∧ wq.cell? ⟨b', o' + k * 4 + 2, none⟩ = some (.int .i64 (t.deeds.getD k default).off) ∧ wq.cell? ⟨b', o' + k * 4 + 3, none⟩ = some (.int .i64 (t.deeds.getD k default).flip) :=
        ⟨hkd.at_ p2, hkd.at_ q2, hkd.at_ g0, hkd.at_ g1, hkd.at_ g2, hkd.at_ g3, hkd.at_ g0', hkd.at_ g1', hkd.at_ g2', hkd.at_ g3'⟩
      (refine hK.out _ _ (hS) (fun _ => ?_); clear hK K; try simp only [Act.put, List.setIfInBounds_toArray, List.set_cons_zero, List.set_cons_succ])
      (refine take_val (i := 11) (v := .bool false) rfl rfl (by kernel_rfl) (by kernel_rfl) (by kernel_rfl) (fun _ _ _ h => h) rfl (by intro wq hq; (try go_split_ands); go_simp; try with_reducible rfl) (hS) ?_; try simp only [List.setIfInBounds_toArray, List.set_cons_zero, List.set_cons_succ])
      refine wpAnyH_done (by kernel_rfl) ?_ _
      have hkN := hkr.trans hkd
      clear hS V1 V2 hkq hdz hJd hJd' p2 q2 g0 g1 g2 g3 g0' g1' g2' g3'
      go_wp2_with fail
      exact ⟨⟨k + 1, by omega, by go_num, hkN⟩, by simp [intOf]; omega⟩
    · go_wp2_with fail
      go_ret
      exact ⟨rfl, hkw.trans hkr⟩

end Go.Proofs.YtphdojebdclonaaDoor
