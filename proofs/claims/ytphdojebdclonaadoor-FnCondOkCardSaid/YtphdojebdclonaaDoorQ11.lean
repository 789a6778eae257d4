/- Joined texts. No condition. -/
import Derived.Test.YtphdojebdclonaaDoorQ10
/- Walks: draws: hard tasks. No condition. -/
namespace Go.Proofs.YtphdojebdclonaaDoor
set_option linter.unusedSimpArgs false
set_option linter.unusedVariables false
open Go.RowKit

/-- the hard draw's task, under way: the goal's row may grow -/
def HSt (R : Nat) (w : World) (p K : Int) (E : Nat) (w' : World) : Prop :=
  ∃ (st : Int) (A : Option Addr) (n c : Nat) (A' : Option Addr) (n' c' : Nat) (p' : Int), Blk w' E 26 #[.int .i64 st, .slice A n c, .slice A' n' c'] ∧ Sp.inI st ∧ GRow w.heap.size w' A n c ∧ DRow w.heap.size w' A' n' c' ∧ n' ≤ 8 ∧
    Rd R w' p' ∧ p ≤ p' ∧ p' ≤ p + K ∧ But R (R + 1) w w' ∧ Blk w' w.heap.size 26 #[.int .i64 0, .slice none 0 0, .slice none 0 0]

theorem GRow.mono {X Y : Nat} {w : World} {A : Option Addr} {n c : Nat} (h : GRow Y w A n c) (hX : X ≤ Y) : GRow X w A n c := by
  obtain ⟨l, hn, ho, hi⟩ := h
  exact ⟨l, hn, ownsRow_mono ho hX, hi⟩
theorem DRow.mono {X Y : Nat} {w : World} {A : Option Addr} {n c : Nat} (h : DRow Y w A n c) (hX : X ≤ Y) : DRow X w A n c := by
  obtain ⟨xs, ho, hv⟩ := h
  refine ⟨xs, ownsRow_mono ho hX, fun k hk => ?_⟩
  obtain ⟨v0, v1, v2, v3, h0, h1, h2, h3, A2, m, c2, l, on, off, flip, e0, e1, e2, e3, hm, hr, rest⟩ := hv k hk
  exact ⟨v0, v1, v2, v3, h0, h1, h2, h3, A2, m, c2, l, on, off, flip, e0, e1, e2, e3, hm, ownsRow_mono hr hX, rest⟩
theorem HTask {X : Nat} {w : World} {st : Int} {A A' : Option Addr} {n c n' c' : Nat} (hi : Sp.inI st) (hG : GRow X w A n c) (hD : DRow X w A' n' c') (hn : n' ≤ 8) : ∃ t, TaskV w (.agg #[.int .i64 st, .slice A n c, .slice A' n' c']) t := by
  obtain ⟨l, hI⟩ := hG.own
  obtain ⟨ds, hDs⟩ := hD.deeds (by omega)
  exact ⟨⟨st, l, ds⟩, ⟨A, n, c, A', n', c', rfl, hI, hDs, hi⟩⟩

theorem wrap_inI (x : Int) : Sp.inI (IntKind.i64.wrap x) := by rw [IntKind.wrap_i64]; unfold Sp.inI; omega
theorem pick8 {x : Int} (hx : Sp.inI x) {k : Nat} (hk : k < 8) : ∃ y, (#[.int .i64 3, .int .i64 5, .int .i64 6, .int .i64 12, .int .i64 24, .int .i64 10, .int .i64 15, .int .i64 x] : Array Value)[k]? = some (.int .i64 y) ∧ Sp.inI y := by
  match k, hk with
  | 0, _ => exact ⟨_, rfl, inI_small (by omega) (by omega)⟩
  | 1, _ => exact ⟨_, rfl, inI_small (by omega) (by omega)⟩
  | 2, _ => exact ⟨_, rfl, inI_small (by omega) (by omega)⟩
  | 3, _ => exact ⟨_, rfl, inI_small (by omega) (by omega)⟩
  | 4, _ => exact ⟨_, rfl, inI_small (by omega) (by omega)⟩
  | 5, _ => exact ⟨_, rfl, inI_small (by omega) (by omega)⟩
  | 6, _ => exact ⟨_, rfl, inI_small (by omega) (by omega)⟩
  | 7, _ => exact ⟨_, rfl, hx⟩
  | k + 8, h => omega

/-- behind an append to the goal's own row, laid in the task: what was there is kept -/
theorem goal_step {R E n c n' c' : Nat} {w wS wr wapp : World} {st p : Int} {A A' : Option Addr} {cs0 : Array Value} {xs ys : List Value} {o : Obj} {m : Nat} {v' : Value}
    (hBE : Blk wr E 26 #[.int .i64 st, .slice A n c, .slice A' n' c']) (hB0 : Blk wr w.heap.size 26 cs0) (hR : Rd R wr p) (hb : But R (R + 1) w wr) (hRK : RowsKept w.heap.size wS wr)
    (hown : wr.ownsRow wS.heap.size 3 1 (.slice A n c) n xs) (hS : wS.heap.size ≤ wr.heap.size) (hRw : R < w.heap.size) (hES : E < wS.heap.size) (hwE : w.heap.size < E)
    (hg : (wr.alloc o).grownBy wapp (Value.slice A n c).ownBlock) (hown2 : wapp.ownsRow wS.heap.size 3 1 v' m ys) :
    Blk (wapp.setCell ⟨E, 1, none⟩ v') E 26 #[.int .i64 st, v', .slice A' n' c'] ∧ Blk (wapp.setCell ⟨E, 1, none⟩ v') w.heap.size 26 cs0 ∧ Rd R (wapp.setCell ⟨E, 1, none⟩ v') p ∧ But R (R + 1) w (wapp.setCell ⟨E, 1, none⟩ v') ∧
      RowsKept w.heap.size wS (wapp.setCell ⟨E, 1, none⟩ v') ∧ (wapp.setCell ⟨E, 1, none⟩ v').ownsRow wS.heap.size 3 1 v' m ys ∧ wS.heap.size ≤ (wapp.setCell ⟨E, 1, none⟩ v').heap.size ∧ Blk wapp E 26 #[.int .i64 st, .slice A n c, .slice A' n' c'] := by
  have hk := (Kept.refl wr).alloc o
  have hrow : ∀ k, (Value.slice A n c).ownBlock = some k → wS.heap.size ≤ k := fun k e => (hown.lt k e).1
  have e1 := (hBE.kept hk).grown hg (fun e => by have := hrow E e.symm; omega)
  have e2 := (hB0.kept hk).grown hg (fun e => by have := hrow w.heap.size e.symm; omega)
  have e3 := (hR.keep hk).grown hg (fun k e => by have := hrow k e; omega)
  have e4 := (hb.kept_ hk).grown hg (fun k e => by have := hrow k e; omega)
  have e5 : RowsKept w.heap.size wS wapp := fun T sz v k zs hT ho => by
    refine ((hRK T sz v k zs hT ho).alloc o).kept hg ?_
    cases hb : v.ownBlock with
    | none => exact .inl rfl
    | some b =>
      refine .inr fun e => ?_
      have h1 := (ho.lt b hb).2
      have h2 := hrow b e.symm
      omega
  have e6 := hg.size
  simp only [World.size_alloc] at e6
  refine ⟨by have := e1.set_ 1 v'; simpa using this, e2.far (by simp; omega) v', e3.setFar (by simp; omega) v', e4.setNew (by simp; omega) v', e5.trans (RowsKept.set e1 (by decide) (by decide) 1 v'), own_farT (by decide) e1 hown2 1 v', by simp; omega, e1⟩

set_option maxHeartbeats 3000000 in
set_option maxRecDepth 100000 in
theorem c_l20Hard (R : Nat) (n0 : Int) (p : Int) (w : World) (h : Rd R w p) (hp : p ≤ 800000000) (hn0 : 0 ≤ n0) (hn1 : n0 ≤ 1000) : Calls Tryd.prog 40 #[.pointer (some ⟨R, 0, none⟩), .int .i64 n0] w (RetD R p 300 w (TaskQ w.heap.size)) := by
  obtain ⟨i0, hi0, hz0, hz1, hz2⟩ := info_parts info_int
  have HI := Lib.hid (And.intro hi0 (And.intro hz0 (And.intro hz1 hz2)))
  clear hi0 hz0 hz1 hz2
  have hRlt := h.lt
  have hk0 := (Kept.refl w).alloc (.cells #[.int .i64 0, .slice none 0 0, .slice none 0 0] 26)
  have B0 := Blk.new w 26 #[.int .i64 0, .slice none 0 0, .slice none 0 0]
  have hb0 : But R (R + 1) w _ := But.of_kept hk0
  go_enter Tryd.func40, Tryd.ntmps40
  go_wp2_with fail
  refine (c_l20Task R n0 p _ (h.keep hk0) (by omega) hn0 hn1).mono ?_; rintro e w2 ⟨v, p2, rfl, hR2, hp1, hp2, hb2, st, A, n, c, A', n', c', rfl, hst, hG, hD, hn'⟩
  replace hb0 := hb0.trans hb2
  replace B0 := hb2.blk B0 (.inr (by omega))
  replace hG := hG.mono (X := w.heap.size) (by simp)
  replace hD := hD.mono (X := w.heap.size) (by simp)
  have hlt0 := B0.lt
  clear hb2 hk0 h
  have hkE := (Kept.refl w2).alloc (.cells #[.int .i64 st, .slice A n c, .slice A' n' c'] 26)
  have BE := Blk.new w2 26 #[.int .i64 st, .slice A n c, .slice A' n' c']
  have hkr := RowsKept.of_kept (X := w.heap.size) hkE
  have hst0 : HSt R w p 200 w2.heap.size (w2.alloc (.cells #[.int .i64 st, .slice A n c, .slice A' n' c'] 26)) :=
    ⟨st, A, n, c, A', n', c', p2, BE, hst, hG.kept hkr.ints, hD.kept hkr, hn', hR2.keep hkE, by omega, by omega, hb0.kept_ hkE, B0.kept hkE⟩
  go_wp2_with fail
  have hEw : w.heap.size < w2.heap.size := hlt0
  obtain ⟨E, HE⟩ : ∃ E, Hid (E = w2.heap.size) := ⟨_, rfl⟩
  rw [← HE.out] at hst0 hEw ⊢
  obtain ⟨wa, HWa⟩ : ∃ wa, Hid (wa = w2.alloc (.cells #[.int .i64 st, .slice A n c, .slice A' n' c'] 26)) := ⟨w2.alloc (.cells #[.int .i64 st, .slice A n c, .slice A' n' c'] 26), rfl⟩
  rw [← HWa.out] at hst0 ⊢
  clear hkE BE hG hD hR2 hb0 B0 hlt0 hp1 hp2 hn' hst HWa HE hkr
  obtain ⟨st, A, n, c, A', n', c', p3, hBE, hst, hG, hD, hn', hR3, hp1, hp2, hb, hB0⟩ := hst0
  refine (c_pick R 2 p3 _ hR3 (by omega) (by omega)).mono ?_; rintro e w4 ⟨v, p4, rfl, hR4, hp3, hp4, hb4, x, rfl, hx0, hx1⟩
  replace hBE := hb4.blk hBE (.inr (by omega))
  replace hB0 := hb4.blk hB0 (.inr (by omega))
  have hkr := RowsKept.of_but (X := w.heap.size) hb4 hRlt
  replace hG := hG.kept hkr.ints
  replace hD := hD.kept hkr
  replace hb := hb.trans hb4
  clear hb4 hR3 hkr
  go_upto_if 14 with fail
  go_cut [5] from 6 (fun v w' => v = .pointer (some ⟨E, 0, none⟩) ∧ HSt R w p 230 E w')
  case first =>
    by_cases hx : x = 0
    · subst hx
      go_wp2_with fail
      rw [show ((0 : Int) == 0) = true from rfl]
      go_loopw [6] (fun i wr => ∃ (q : Nat) (p' : Int), q ≤ n' ∧ i = .int .i64 q ∧ Blk wr E 26 #[.int .i64 st, .slice A n c, .slice A' n' c'] ∧ GRow w.heap.size wr A n c ∧ DRow w.heap.size wr A' n' c' ∧ Rd R wr p' ∧ p ≤ p' ∧ p' ≤ p + 201 + 2 * (q : Int) ∧ But R (R + 1) w wr ∧ Blk wr w.heap.size 26 #[.int .i64 0, .slice none 0 0, .slice none 0 0]) (fun i _ => n' - (intOf i).toNat)
      case atStart => exact ⟨0, p4, Nat.zero_le _, rfl, hBE, hG, hD, hR4, by omega, by omega, hb, hB0⟩
      case round =>
        obtain ⟨q, p5, hq, rfl, hBE, hG, hD, hR4, hp5, hp6, hb, hB0⟩ := hrel
        have c0 := hBE.cell
        by_cases hlt : q < n'
        · obtain ⟨t, hT⟩ := HTask hst hG hD hn'
          go_wp2_with fail
          refine (c_sTaskValid _ t _ hT).mono ?_; rintro e w5 ⟨rfl, hk5⟩
          have hkr := RowsKept.of_kept (X := w.heap.size) hk5
          replace hBE := hBE.kept hk5
          replace hB0 := hB0.kept hk5
          replace hG := hG.kept hkr.ints
          replace hD := hD.kept hkr
          replace hb := hb.kept_ hk5
          replace hR4 := hR4.keep hk5
          clear hk5 hkr c0 hT
          have c0 := hBE.cell
          cases htv : Sp.taskOk t
          · clear htv
            go_wp2_with fail
            go_meet
            case rel => exact ⟨rfl, st, A, n, c, A', n', c', p5, hBE, hst, hG, hD, hn', hR4, by omega, by omega, hb, hB0⟩
          · clear htv
            have hD0 := hD
            obtain ⟨xs, hxs, hxv⟩ := hD0
            obtain ⟨_, g, rfl, hg, hgl, _, hfr⟩ := own_some hxs (by omega)
            obtain ⟨v0, v1, v2, v3, h0, h1, h2, h3, A2, m2, cc2, l2, on, off, flip, rfl, rfl, rfl, rfl, hm2, hr2, hi2, hon, hoff, hflip⟩ := hxv q hlt
            have hxl := hxs.1
            have k0 := (hxs.cellAt (q * 4) (by omega)).trans h0
            have k1 := (hxs.cellAt (q * 4 + 1) (by omega)).trans h1
            have k2 := (hxs.cellAt (q * 4 + 2) (by omega)).trans h2
            have k3 := (hxs.cellAt (q * 4 + 3) (by omega)).trans h3
            have hka := (Kept.refl w5).alloc (.cells #[.int .i64 5] 3)
            have c3 := (hBE.kept hka).cell
            have hEG1 : E ≠ g := fun e => own_ne_blk hxs hBE (by decide) (by rw [e]; rfl)
            have hEG2 : g ≠ E := fun e => hEG1 e.symm
            have hElt := hBE.lt
            have HN2 : Hid (w.heap.size ≠ g) := fun e => own_ne_blk hxs hB0 (by decide) (by rw [e]; rfl)
            have HXV := Lib.hid hxv
            have HX := Lib.hid hxs
            have H3 := Lib.hid h3
            have HXL := Lib.hid hxl
            clear h0 h1 h2 h3 hxv hxl hr2
            go_wp2_with fail
            obtain ⟨P1, P2⟩ := own_put3 HX.out (q * 4) (.slice (some ⟨w5.heap.size, 0, none⟩) 1 1) (.int .i64 0) (.int .i64 0) H3.out
            have hk4 := (Kept.refl (((w5.setCell ⟨g, q * 4, none⟩ (.slice (some ⟨w5.heap.size, 0, none⟩) 1 1)).setCell ⟨g, q * 4 + 1, none⟩ (.int .i64 0)).setCell ⟨g, q * 4 + 2, none⟩ (.int .i64 0))).alloc (.cells #[.int .i64 5] 3)
            have hIK : IntsKept w.heap.size w5 ((((w5.setCell ⟨g, q * 4, none⟩ (.slice (some ⟨w5.heap.size, 0, none⟩) 1 1)).setCell ⟨g, q * 4 + 1, none⟩ (.int .i64 0)).setCell ⟨g, q * 4 + 2, none⟩ (.int .i64 0)).alloc (.cells #[.int .i64 5] 3)) := fun sz v m ys h => own_keep (P2 sz v m ys h) hk4
            have hnew := gRow_new (w := ((w5.setCell ⟨g, q * 4, none⟩ (.slice (some ⟨w5.heap.size, 0, none⟩) 1 1)).setCell ⟨g, q * 4 + 1, none⟩ (.int .i64 0)).setCell ⟨g, q * 4 + 2, none⟩ (.int .i64 0)) (X := w.heap.size) [5] (by have := hb.size; simp; omega) (by simp) (fun x hx => by simp at hx; subst hx; exact inI_small (by omega) (by omega))
            simp only [World.size_setCell, List.length_cons, List.length_nil, List.map_cons, List.map_nil, Nat.zero_add] at hnew
            obtain ⟨l5, hl5, ho5, hi5⟩ := hnew
            have hD9 := DRow.put HXL.out HXV.out hlt hIK (own_keep P1 hk4) ⟨_, _, _, l5, 0, 0, flip, rfl, rfl, rfl, rfl, hl5, ho5, hi5, inI_small (by omega) (by omega), inI_small (by omega) (by omega), hflip⟩
            have hG9 := hG.kept hIK
            have hE9 := (((hBE.far (p := ⟨g, q * 4, none⟩) hEG1 (.slice (some ⟨w5.heap.size, 0, none⟩) 1 1)).far (p := ⟨g, q * 4 + 1, none⟩) hEG1 (.int .i64 0)).far (p := ⟨g, q * 4 + 2, none⟩) hEG1 (.int .i64 0)).kept hk4
            have h09 := (((hB0.far (p := ⟨g, q * 4, none⟩) HN2.out (.slice (some ⟨w5.heap.size, 0, none⟩) 1 1)).far (p := ⟨g, q * 4 + 1, none⟩) HN2.out (.int .i64 0)).far (p := ⟨g, q * 4 + 2, none⟩) HN2.out (.int .i64 0)).kept hk4
            have hRg : R < g := by omega
            have hR9 := (((hR4.setFar (a := ⟨g, q * 4, none⟩) hRg (.slice (some ⟨w5.heap.size, 0, none⟩) 1 1)).setFar (a := ⟨g, q * 4 + 1, none⟩) hRg (.int .i64 0)).setFar (a := ⟨g, q * 4 + 2, none⟩) hRg (.int .i64 0)).keep hk4
            have hb9 := (((hb.setNew (p := ⟨g, q * 4, none⟩) hg (.slice (some ⟨w5.heap.size, 0, none⟩) 1 1)).setNew (p := ⟨g, q * 4 + 1, none⟩) hg (.int .i64 0)).setNew (p := ⟨g, q * 4 + 2, none⟩) hg (.int .i64 0)).kept_ hk4
            clear HXV HX H3 HXL P1 P2 hIK hk4 hl5 ho5 hi5 hBE hB0 hR4 hb hG hD hxs hfr k0 k1 k2 k3 c0 c3 hka hElt hgl
            generalize ((((w5.setCell ⟨g, q * 4, none⟩ (.slice (some ⟨w5.heap.size, 0, none⟩) 1 1)).setCell ⟨g, q * 4 + 1, none⟩ (.int .i64 0)).setCell ⟨g, q * 4 + 2, none⟩ (.int .i64 0)).alloc (.cells #[.int .i64 5] 3)) = W at *
            have eW : W.cell? ⟨E, 2, none⟩ = some (.slice (some ⟨g, 0, none⟩) n' c') := hE9.cell 2
            have hWd := (Kept.refl W).drew
            refine wp_region_held_drew (S := fun w' => w'.cell? ⟨E, 2, none⟩ = some (.slice (some ⟨g, 0, none⟩) n' c')) (by kernel_rfl) ((hE9.kept hWd).cell 2) (fun hHeld => ?_)
            (refine take_val (i := 0) (v := .pointer (some ⟨E, 2, none⟩)) rfl rfl (by kernel_rfl) (by kernel_rfl) (by kernel_rfl) (fun _ _ _ h => h) rfl (by intro wq hq; (try go_split_ands); go_simp; try with_reducible rfl) (hHeld) ?_; try simp only [List.setIfInBounds_toArray, List.set_cons_zero, List.set_cons_succ])
            (refine take_val (i := 1) (v := .slice (some ⟨g, 0, none⟩) n' c') rfl rfl (by kernel_rfl) (by kernel_rfl) (by kernel_rfl) (fun _ _ _ h => h) rfl (by intro wq hq; (try go_split_ands); go_simp; try with_reducible rfl) (hHeld) ?_; try simp only [List.setIfInBounds_toArray, List.set_cons_zero, List.set_cons_succ])
            (refine take_val (i := 2) (v := .int .i64 q) rfl rfl (by kernel_rfl) (by kernel_rfl) (by kernel_rfl) (fun _ _ _ h => h) rfl (by intro wq hq; (try go_split_ands); go_simp; try with_reducible rfl) (hHeld) ?_; try simp only [List.setIfInBounds_toArray, List.set_cons_zero, List.set_cons_succ])
            (refine take_val (i := 3) (v := .pointer (some ⟨R, 0, none⟩)) rfl rfl (by kernel_rfl) (by kernel_rfl) (by kernel_rfl) (fun _ _ _ h => h) rfl (by intro wq hq; (try go_split_ands); go_simp; try with_reducible rfl) (hHeld) ?_; try simp only [List.setIfInBounds_toArray, List.set_cons_zero, List.set_cons_succ])
            (refine take_val (i := 7) (v := .pointer (some ⟨R, 0, none⟩)) rfl rfl (by kernel_rfl) (by kernel_rfl) (by kernel_rfl) (fun _ _ _ h => h) rfl (by intro wq hq; (try go_split_ands); go_simp; try with_reducible rfl) (hHeld) ?_; try simp only [List.setIfInBounds_toArray, List.set_cons_zero, List.set_cons_succ])
            (refine wpAnyH_ready (rs := [4]) (by kernel_rfl) (by simp) ?_; refine AllReadyH.cons rfl (fun K hK => ?_) AllReadyH.nil; go_simp)
            refine (c_pick R 31 p5 _ (hR9.keep hWd) (by omega) (by omega)).mono ?_; rintro e wA ⟨v, pA, rfl, hRA, hpA, hpA', hbA, z, rfl, hz0, hz1⟩
            have hbWA := But.trans (But.of_kept (B := R) (C := R + 1) hWd) hbA
            have hEA := hbWA.blk hE9 (.inr (by omega))
            have h0A := hbWA.blk h09 (.inr (by omega))
            have krA := RowsKept.of_but (X := w.heap.size) hbWA hRlt
            have hDA := hD9.kept krA
            have hGA := hG9.kept krA.ints
            have hbA2 := hb9.trans hbWA
            have hSA := hEA.cell 2
            clear hbA hbWA krA hD9 hG9 hE9 h09 hR9 hb9 hHeld
            (refine hK.out _ _ (hSA) (fun _ => ?_); clear hK K; try simp only [Act.put, List.setIfInBounds_toArray, List.set_cons_zero, List.set_cons_succ])
            (refine take_val (i := 5) (v := .int .i64 (IntKind.i64.wrap (1 + z))) rfl rfl (by kernel_rfl) (by kernel_rfl) (by kernel_rfl) (fun _ _ _ h => h) rfl (by intro wq hq; (try go_split_ands); go_simp; try with_reducible rfl) (hSA) ?_; try simp only [List.setIfInBounds_toArray, List.set_cons_zero, List.set_cons_succ])
            have hzI : Sp.inI (IntKind.i64.wrap (1 + z)) := wrap_inI _
            refine wpAnyH_ready (rs := [6, 8]) (by decide +kernel) (by simp) ?_
            refine AllReadyH.cons rfl (fun K hK => ?_) (AllReadyH.cons rfl (fun K hK => ?_) AllReadyH.nil)
            · go_simp
              have hkL := (Kept.refl wA).alloc (.cells #[.int .i64 3, .int .i64 5, .int .i64 6, .int .i64 12, .int .i64 24, .int .i64 10, .int .i64 15, .int .i64 (IntKind.i64.wrap (1 + z))] 3)
              have hBL := Blk.new wA 3 #[.int .i64 3, .int .i64 5, .int .i64 6, .int .i64 12, .int .i64 24, .int .i64 10, .int .i64 15, .int .i64 (IntKind.i64.wrap (1 + z))]
              have hEL := hEA.kept hkL
              (refine hK.out _ _ (hEL.cell 2) (fun _ => ?_); clear hK K; try simp only [Act.put, List.setIfInBounds_toArray, List.set_cons_zero, List.set_cons_succ])
              (refine wpAnyH_ready (rs := [8]) (by kernel_rfl) (by simp) ?_; refine AllReadyH.cons rfl (fun K hK => ?_) AllReadyH.nil; go_simp)
              refine (c_pick R 8 pA _ (hRA.keep hkL) (by omega) (by omega)).mono ?_; rintro e wB ⟨v, pB, rfl, hRX, hpB, hpB', hbB, z2, rfl, hz20, hz21⟩
              replace hz21 := hz21 (by omega)
              obtain ⟨z2, rfl⟩ := Int.eq_ofNat_of_zero_le hz20
              have hbAB := But.trans (But.of_kept (B := R) (C := R + 1) hkL) hbB
              have hEX := hbAB.blk hEA (.inr (by omega))
              have h0X := hbAB.blk h0A (.inr (by omega))
              have krB := RowsKept.of_but (X := w.heap.size) hbAB hRlt
              have hDX := hDA.kept krB
              have hGX := hGA.kept krB.ints
              have hbX := hbA2.trans hbAB
              have hBX := hbB.blk hBL (.inr (by have := hRA.lt; omega))
              have hSX := hEX.cell 2
              obtain ⟨y, hy, hyI⟩ := pick8 hzI (k := z2) (by omega)
              have cy := (hBX.cell z2).trans hy
              clear hbB hbAB krB hDA hGA hbA2 hEA h0A hRA hkL hBL hEL hBX hy
              have hz22 : (z2 : Int) < 8 := by omega
              (refine hK.out _ _ (hSX) (fun _ => ?_); clear hK K; try simp only [Act.put, List.setIfInBounds_toArray, List.set_cons_zero, List.set_cons_succ])
              (refine take_val (i := 9) (v := .pointer (some ⟨wA.heap.size, z2, none⟩)) rfl rfl (by kernel_rfl) (by kernel_rfl) (by kernel_rfl) (fun _ _ _ h => h) rfl (by intro wq hq; (try go_split_ands); go_simp; try with_reducible rfl) (hSX) ?_; try simp only [List.setIfInBounds_toArray, List.set_cons_zero, List.set_cons_succ])
              (refine wpAnyH_ready (rs := [10]) (by kernel_rfl) (by simp) ?_; refine AllReadyH.cons rfl (fun K hK => ?_) AllReadyH.nil; go_simp)
              (refine hK.out _ _ (hSX) (fun _ => ?_); clear hK K; try simp only [Act.put, List.setIfInBounds_toArray, List.set_cons_zero, List.set_cons_succ])
              (refine take_val (i := 11) (v := .pointer (some ⟨g, q * 4, none⟩)) rfl rfl (by kernel_rfl) (by kernel_rfl) (by kernel_rfl) (fun _ _ _ h => h) rfl (by intro wq hq; (try go_split_ands); go_simp; try with_reducible rfl) (hSX) ?_; try simp only [List.setIfInBounds_toArray, List.set_cons_zero, List.set_cons_succ])
              (refine take_val (i := 12) (v := .pointer (some ⟨g, q * 4 + 3, none⟩)) rfl rfl (by kernel_rfl) (by kernel_rfl) (by kernel_rfl) (fun _ _ _ h => h) rfl (by intro wq hq; (try go_split_ands); go_simp; try with_reducible rfl) (hSX) ?_; try simp only [List.setIfInBounds_toArray, List.set_cons_zero, List.set_cons_succ])
              obtain ⟨xs, hxs, hxv⟩ := id hDX
              obtain ⟨_, _, _, v3, _, _, _, h3, _⟩ := hxv q hlt
              have k3 := (hxs.cellAt (q * 4 + 3) (by have := hxs.1; omega)).trans h3
              obtain ⟨_, g', eg, _, _, _, hfr⟩ := own_some hxs (by omega)
              obtain rfl : g = g' := by simpa using eg
              have f3 := hfr (q * 4 + 3)
              clear hxs hxv h3 hfr eg
              (refine wpAnyH_ready (rs := [13]) (by kernel_rfl) (by simp) ?_; refine AllReadyH.cons rfl (fun K hK => ?_) AllReadyH.nil; go_simp)
              have hDF := (DRow.cell (w' := wB.setCell ⟨g, q * 4 + 3, none⟩ (.int .i64 y)) (i := 3) hDX hlt (by omega) ⟨fun _ _ _ _ h => h, fun _ _ h => h⟩ (fun v0 v1 v2 v3 hd => by
                obtain ⟨A3, m3, c3, l3, on3, off3, flip3, rfl, rfl, rfl, rfl, q1, q2, q3, q4, q5, _⟩ := hd
                exact ⟨A3, m3, c3, l3, on3, off3, y, rfl, rfl, rfl, rfl, q1, q2, q3, q4, q5, hyI⟩))
              have hGF := hGX.kept hDF.2
              have hEF := hEX.far (p := ⟨g, q * 4 + 3, none⟩) hEG1 (.int .i64 y)
              have h0F := h0X.far (p := ⟨g, q * 4 + 3, none⟩) HN2.out (.int .i64 y)
              have hRF := hRX.setFar (a := ⟨g, q * 4 + 3, none⟩) hRg (.int .i64 y)
              have hbF := hbX.setNew (p := ⟨g, q * 4 + 3, none⟩) hg (.int .i64 y)
              (refine hK.out _ _ (hEF.cell 2) (fun _ => ?_); clear hK K; try simp only [Act.put, List.setIfInBounds_toArray, List.set_cons_zero, List.set_cons_succ])
              refine wpAnyH_done (by kernel_rfl) ?_ _
              clear hDX hGX hEX h0X hRX hbX k3 f3
              go_wp2_with fail
              exact ⟨⟨q + 1, pB, by omega, by go_num, hEF, hGF, hDF.1, hRF, by omega, by omega, hbF, h0F⟩, by simp [intOf]; omega⟩
            · go_simp
              refine (c_pick R 8 pA _ hRA (by omega) (by omega)).mono ?_; rintro e wB ⟨v, pB, rfl, hRB, hpB, hpB', hbB, z2, rfl, hz20, hz21⟩
              replace hz21 := hz21 (by omega)
              obtain ⟨z2, rfl⟩ := Int.eq_ofNat_of_zero_le hz20
              have hEB := hbB.blk hEA (.inr (by omega))
              have h0B := hbB.blk h0A (.inr (by omega))
              have krB := RowsKept.of_but (X := w.heap.size) hbB hRlt
              have hDB := hDA.kept krB
              have hGB := hGA.kept krB.ints
              have hbB2 := hbA2.trans hbB
              (refine hK.out _ _ (hEB.cell 2) (fun _ => ?_); clear hK K; try simp only [Act.put, List.setIfInBounds_toArray, List.set_cons_zero, List.set_cons_succ])
              (refine wpAnyH_ready (rs := [6]) (by kernel_rfl) (by simp) ?_; refine AllReadyH.cons rfl (fun K hK => ?_) AllReadyH.nil; go_simp)
              have hkL := (Kept.refl wB).alloc (.cells #[.int .i64 3, .int .i64 5, .int .i64 6, .int .i64 12, .int .i64 24, .int .i64 10, .int .i64 15, .int .i64 (IntKind.i64.wrap (1 + z))] 3)
              have hBX := Blk.new wB 3 #[.int .i64 3, .int .i64 5, .int .i64 6, .int .i64 12, .int .i64 24, .int .i64 10, .int .i64 15, .int .i64 (IntKind.i64.wrap (1 + z))]
              have krL := RowsKept.of_kept (X := w.heap.size) hkL
              have hEX := hEB.kept hkL
              have h0X := h0B.kept hkL
              have hDX := hDB.kept krL
              have hGX := hGB.kept krL.ints
              have hbX := hbB2.kept_ hkL
              have hRX := hRB.keep hkL
              have hSX := hEX.cell 2
              obtain ⟨y, hy, hyI⟩ := pick8 hzI (k := z2) (by omega)
              have cy := (hBX.cell z2).trans hy
              clear hbB krB hDA hGA hbA2 hEA h0A hRA hkL hBX hy hEB h0B hDB hGB hbB2 hRB krL
              obtain ⟨wX, HWX⟩ : ∃ wX, Hid (wB.alloc (.cells #[.int .i64 3, .int .i64 5, .int .i64 6, .int .i64 12, .int .i64 24, .int .i64 10, .int .i64 15, .int .i64 (IntKind.i64.wrap (1 + z))] 3) = wX) := ⟨_, rfl⟩
              rw [HWX.out] at hEX h0X hDX hGX hbX hRX hSX cy ⊢
              have hz22 : (z2 : Int) < 8 := by omega
              (refine hK.out _ _ (hSX) (fun _ => ?_); clear hK K; try simp only [Act.put, List.setIfInBounds_toArray, List.set_cons_zero, List.set_cons_succ])
              (refine take_val (i := 9) (v := .pointer (some ⟨wB.heap.size, z2, none⟩)) rfl rfl (by kernel_rfl) (by kernel_rfl) (by kernel_rfl) (fun _ _ _ h => h) rfl (by intro wq hq; (try go_split_ands); go_simp; try with_reducible rfl) (hSX) ?_; try simp only [List.setIfInBounds_toArray, List.set_cons_zero, List.set_cons_succ])
              (refine wpAnyH_ready (rs := [10]) (by kernel_rfl) (by simp) ?_; refine AllReadyH.cons rfl (fun K hK => ?_) AllReadyH.nil; go_simp)
              (refine hK.out _ _ (hSX) (fun _ => ?_); clear hK K; try simp only [Act.put, List.setIfInBounds_toArray, List.set_cons_zero, List.set_cons_succ])
              (refine take_val (i := 11) (v := .pointer (some ⟨g, q * 4, none⟩)) rfl rfl (by kernel_rfl) (by kernel_rfl) (by kernel_rfl) (fun _ _ _ h => h) rfl (by intro wq hq; (try go_split_ands); go_simp; try with_reducible rfl) (hSX) ?_; try simp only [List.setIfInBounds_toArray, List.set_cons_zero, List.set_cons_succ])
              (refine take_val (i := 12) (v := .pointer (some ⟨g, q * 4 + 3, none⟩)) rfl rfl (by kernel_rfl) (by kernel_rfl) (by kernel_rfl) (fun _ _ _ h => h) rfl (by intro wq hq; (try go_split_ands); go_simp; try with_reducible rfl) (hSX) ?_; try simp only [List.setIfInBounds_toArray, List.set_cons_zero, List.set_cons_succ])
              obtain ⟨xs, hxs, hxv⟩ := id hDX
              obtain ⟨_, _, _, v3, _, _, _, h3, _⟩ := hxv q hlt
              have k3 := (hxs.cellAt (q * 4 + 3) (by have := hxs.1; omega)).trans h3
              obtain ⟨_, g', eg, _, _, _, hfr⟩ := own_some hxs (by omega)
              obtain rfl : g = g' := by simpa using eg
              have f3 := hfr (q * 4 + 3)
              clear hxs hxv h3 hfr eg
              (refine wpAnyH_ready (rs := [13]) (by kernel_rfl) (by simp) ?_; refine AllReadyH.cons rfl (fun K hK => ?_) AllReadyH.nil; go_simp)
              have hDF := (DRow.cell (w' := wX.setCell ⟨g, q * 4 + 3, none⟩ (.int .i64 y)) (i := 3) hDX hlt (by omega) ⟨fun _ _ _ _ h => h, fun _ _ h => h⟩ (fun v0 v1 v2 v3 hd => by
                obtain ⟨A3, m3, c3, l3, on3, off3, flip3, rfl, rfl, rfl, rfl, q1, q2, q3, q4, q5, _⟩ := hd
                exact ⟨A3, m3, c3, l3, on3, off3, y, rfl, rfl, rfl, rfl, q1, q2, q3, q4, q5, hyI⟩))
              have hGF := hGX.kept hDF.2
              have hEF := hEX.far (p := ⟨g, q * 4 + 3, none⟩) hEG1 (.int .i64 y)
              have h0F := h0X.far (p := ⟨g, q * 4 + 3, none⟩) HN2.out (.int .i64 y)
              have hRF := hRX.setFar (a := ⟨g, q * 4 + 3, none⟩) hRg (.int .i64 y)
              have hbF := hbX.setNew (p := ⟨g, q * 4 + 3, none⟩) hg (.int .i64 y)
              (refine hK.out _ _ (hEF.cell 2) (fun _ => ?_); clear hK K; try simp only [Act.put, List.setIfInBounds_toArray, List.set_cons_zero, List.set_cons_succ])
              refine wpAnyH_done (by kernel_rfl) ?_ _
              clear hDX hGX hEX h0X hRX hbX k3 f3
              go_wp2_with fail
              exact ⟨⟨q + 1, pB, by omega, by go_num, hEF, hGF, hDF.1, hRF, by omega, by omega, hbF, h0F⟩, by simp [intOf]; omega⟩
        · go_wp2_with fail
          go_meet
          case rel => exact ⟨rfl, st, A, n, c, A', n', c', p5, hBE, hst, hG, hD, hn', hR4, by omega, by omega, hb, hB0⟩
    · go_wp2_with fail
      go_meet
      case rel => exact ⟨rfl, st, A, n, c, A', n', c', p4, hBE, hst, hG, hD, hn', hR4, by omega, by omega, hb, hB0⟩
  case rest =>
    clear hBE hB0 hR4 hb hG hD hst hn' hp1 hp2 hp3 hp4
    obtain ⟨rfl, hcut⟩ := hcut
    obtain ⟨st, A, n, c, A', n', c', p3, hBE, hst, hG, hD, hn', hR3, hp1, hp2, hb, hB0⟩ := hcut
    obtain ⟨t, hT⟩ := HTask hst hG hD hn'
    have c0 := hBE.cell
    go_wp2_with fail
    refine (c_sTaskValid _ t _ hT).mono ?_; rintro e w5 ⟨rfl, hk5⟩
    have hkr := RowsKept.of_kept (X := w.heap.size) hk5
    replace hBE := hBE.kept hk5
    replace hB0 := hB0.kept hk5
    replace hG := hG.kept hkr.ints
    replace hD := hD.kept hkr
    replace hb := hb.kept_ hk5
    have hR := hR3.keep hk5
    clear hk5 hkr c0 hT hR3
    cases htv : Sp.taskOk t
    · clear htv
      have pe := p3
      obtain ⟨pe, rfl⟩ : ∃ pe, pe = p3 := ⟨_, rfl⟩
      have c0 := hBE.cell
      have c1 := hB0.cell
      have f1 := hB0.frozen
      have hle := Nat.le_refl w.heap.size
      have b1 := hB0.set_ 0 (.int .i64 st)
      have b2 := b1.set_ 1 (.slice A n c)
      have k1 := RowsKept.set (X := w.heap.size) hB0 (by decide) (by decide) 0 (.int .i64 st)
      have k2 := RowsKept.set (X := w.heap.size) b1 (by decide) (by decide) 1 (.slice A n c)
      have k3 := RowsKept.set (X := w.heap.size) b2 (by decide) (by decide) 2 (.slice A' n' c')
      have kk := (k1.trans k2).trans k3
      have hG2 := hG.kept kk.ints
      have hD2 := hD.kept kk
      have r4 := ((hR.setFar (a := ⟨w.heap.size, 0, none⟩) hRlt (.int .i64 st)).setFar (a := ⟨w.heap.size, 1, none⟩) hRlt (.slice A n c)).setFar (a := ⟨w.heap.size, 2, none⟩) hRlt (.slice A' n' c')
      have t4 := ((hb.setNew (p := ⟨w.heap.size, 0, none⟩) hle (.int .i64 st)).setNew (p := ⟨w.heap.size, 1, none⟩) hle (.slice A n c)).setNew (p := ⟨w.heap.size, 2, none⟩) hle (.slice A' n' c')
      clear hB0 hBE hG hD hR hb b1 b2 k1 k2 k3 kk hEw
      go_wp2_with fail
      refine bodyPost_ret (v := .agg #[.int .i64 st, .slice A n c, .slice A' n' c']) (by simp [results, Tryd.results40, go_sem, c1]) rfl ?_
      exact ⟨_, pe, rfl, r4, by omega, by omega, t4, st, A, n, c, A', n', c', rfl, hst, hG2, hD2, by omega⟩
    · clear htv
      go_wp2_with fail
      refine (c_pick R 2 p3 _ hR (by omega) (by omega)).mono ?_; rintro e w6 ⟨v, pe, rfl, hR6, hpe, hpe', hb6, x, rfl, hx0, hx1⟩
      replace hBE := hb6.blk hBE (.inr (by omega))
      replace hB0 := hb6.blk hB0 (.inr (by omega))
      have hkr := RowsKept.of_but (X := w.heap.size) hb6 hRlt
      replace hG := hG.kept hkr.ints
      replace hD := hD.kept hkr
      replace hb := hb.trans hb6
      clear hb6 hR hkr
      have hR := hR6
      clear hR6
      by_cases hx : x = 0
      · subst hx
        have hkA := (Kept.refl w6).alloc (.cells #[] 3)
        have c0 := hBE.cell
        have c0A := (hBE.kept hkA).cell
        have f0A := (hBE.kept hkA).frozen
        go_wp2_with fail
        have hES := hBE.lt
        have hkr := RowsKept.of_kept (X := w.heap.size) hkA
        have hown := own_farT (by decide) (hBE.kept hkA) (World.ownsRow_made (e := 3) (size := 1) w6 #[] 0 (Nat.le_refl _) (by unfold maxLen; omega) rfl) 1 (.slice (some ⟨w6.heap.size, 0, none⟩) 0 0)
        have hRK := hkr.trans (RowsKept.set (hBE.kept hkA) (by decide) (by decide) 1 (.slice (some ⟨w6.heap.size, 0, none⟩) 0 0))
        have g1 : Blk ((w6.alloc (.cells #[] 3)).setCell ⟨E, 1, none⟩ (.slice (some ⟨w6.heap.size, 0, none⟩) 0 0)) E 26 #[.int .i64 st, .slice (some ⟨w6.heap.size, 0, none⟩) 0 0, .slice A' n' c'] := by
          have := (hBE.kept hkA).set_ 1 (.slice (some ⟨w6.heap.size, 0, none⟩) 0 0); simpa using this
        have g2 := (hB0.kept hkA).far (p := ⟨E, 1, none⟩) (show w.heap.size ≠ E by omega) (.slice (some ⟨w6.heap.size, 0, none⟩) 0 0)
        have g3 := (hR.keep hkA).setFar (a := ⟨E, 1, none⟩) (show R < E by omega) (.slice (some ⟨w6.heap.size, 0, none⟩) 0 0)
        have g4 := (hb.kept_ hkA).setNew (p := ⟨E, 1, none⟩) (show w.heap.size ≤ E by omega) (.slice (some ⟨w6.heap.size, 0, none⟩) 0 0)
        have g5 : w6.heap.size ≤ ((w6.alloc (.cells #[] 3)).setCell ⟨E, 1, none⟩ (.slice (some ⟨w6.heap.size, 0, none⟩) 0 0)).heap.size := by simp
        clear hBE hB0 hR hb hkr hkA c0 c0A f0A
        generalize ((w6.alloc (.cells #[] 3)).setCell ⟨E, 1, none⟩ (.slice (some ⟨w6.heap.size, 0, none⟩) 0 0)) = wb at *
        refine (c_pick R 32 pe _ g3 (by omega) (by omega)).mono ?_; rintro e w8 ⟨v, pf, rfl, hR, hpf, hpf', hb8, z, rfl, hz0, hz1⟩
        replace hz1 := hz1 (by omega)
        obtain ⟨z, rfl⟩ := Int.eq_ofNat_of_zero_le hz0
        have hzl : z < 4294967296 := by omega
        have hBE := hb8.blk g1 (.inr (by omega))
        have hB0 := hb8.blk g2 (.inr (by omega))
        have hb := g4.trans hb8
        replace hRK := hRK.trans (RowsKept.of_but (X := w.heap.size) hb8 hRlt)
        replace hown := own_but hown hb8 (by omega)
        have hS := Nat.le_trans g5 hb8.size
        clear hb8 g1 g2 g3 g4 g5
        go_wp2_with fail
        go_loopw [8] (fun i wr => ∃ (q n c : Nat) (A : Option Addr) (l : List Int), q ≤ 5 ∧ i = .int .i64 q ∧ n ≤ 3 * q ∧ Blk wr E 26 #[.int .i64 st, .slice A n c, .slice A' n' c'] ∧ wr.ownsRow w6.heap.size 3 1 (.slice A n c) n (l.map (Value.int .i64)) ∧ Hid (∀ x ∈ l, Sp.inI x) ∧ Rd R wr pf ∧ But R (R + 1) w wr ∧ Blk wr w.heap.size 26 #[.int .i64 0, .slice none 0 0, .slice none 0 0] ∧ RowsKept w.heap.size w6 wr ∧ w6.heap.size ≤ wr.heap.size) (fun i _ => 5 - (intOf i).toNat)
        case atStart => exact ⟨0, 0, 0, _, [], by omega, rfl, by omega, hBE, hown, by show ∀ x ∈ [], _; simp, hR, hb, hB0, hRK, hS⟩
        case round =>
          clear hBE hown hR hb hB0 hRK hS
          obtain ⟨q, n, c, A, l, hq, rfl, hn, hBE, hown, HIn, hR, hb, hB0, hRK, hS⟩ := hrel
          by_cases hlt : q < 5
          · have hq32 : q < 32 := by omega
            have hbs := hb.size
            have c0 := (hBE.kept ((Kept.refl wr).alloc (.cells #[.int .i64 ((q : Int))] 3))).cell
            have c0' := hBE.cell
            go_wp2_with (first | ((at_builtin; refine wpList_append_own _ rfl (.tmp 71) (.tmp 73) 23 rfl (w6.heap.size) 3 i0 (.int .i64 0) 1 8 Tryd.underlying23 HI.out.1 HI.out.2.1 HI.out.2.2.1 HI.out.2.2.2 rfl (by decide) (.slice A n c) n _ rfl (hown.alloc _) ⟨wr.heap.size, 0, none⟩ 1 1 [.int .i64 ((q : Int))] rfl rfl (one_new _ _ _) (by simp [Value.oneCell']) (by unfold maxLen; omega) (by omega) (by simp; omega) ?_; intro v' wapp hown2 hg2 _); obtain ⟨A3, c3, rfl⟩ := own_form hown2; have hst1 := goal_step hBE hB0 hR hb hRK hown hS hRlt hES hEw hg2 hown2; have c0 := hst1.2.2.2.2.2.2.2.cell; have f0 := hst1.2.2.2.2.2.2.2.frozen))
            obtain ⟨x1, x2, x3, x4, x5, x6, x7, _⟩ := hst1
            have HIn2 : Hid (∀ x ∈ l ++ [((q : Int) : Int)], Sp.inI x) := by
              intro x hx
              rw [List.mem_append, List.mem_singleton] at hx
              rcases hx with hx | rfl
              · exact HIn.out x hx
              · exact inI_small (by omega) (by omega)
            have hl2 : l.map (Value.int .i64) ++ [Value.int .i64 ((q : Int) : Int)] = (l ++ [((q : Int) : Int)]).map (Value.int .i64) := by simp
            rw [hl2] at x6
            clear hBE hB0 hR hb hRK hown hS HIn hg2 hown2 c0 c0' f0 hl2 hbs
            have hBE := x1; have hB0 := x2; have hR := x3; have hb := x4; have hRK := x5; have hown := x6; have hS := x7; have HIn := HIn2
            clear x1 x2 x3 x4 x5 x6 x7 HIn2
            generalize wapp.setCell ⟨E, 1, none⟩ (.slice A3 (n + 1) c3) = wr at *
            generalize l ++ [((q : Int) : Int)] = l at *
            obtain ⟨n1, HNn1⟩ : ∃ n1, Hid (n + 1 = n1) := ⟨_, rfl⟩
            have hbn1 : n1 = n + 1 := HNn1.out.symm
            have hbnn1 : n1 ≤ 3 * q + 1 := by omega
            rw [HNn1.out] at hBE hown
            clear hbn1
            refine (c_bitN z q _ hzl hq32).mono ?_; rintro e w7 ⟨rfl, rfl⟩
            have hqc : q = 0 ∨ 0 < (q : Int) := by omega
            cases hbit : z.testBit q
            · have HV := Lib.hid hbit
              clear hbit
              have hbs := hb.size
              have c0 := (hBE.kept ((Kept.refl wr).alloc (.cells #[.int .i64 (7)] 3))).cell
              have c0' := hBE.cell
              go_upto_region 19 with (first | ((at_builtin; refine wpList_append_own _ rfl (.tmp 81) (.tmp 82) 23 rfl (w6.heap.size) 3 i0 (.int .i64 0) 1 8 Tryd.underlying23 HI.out.1 HI.out.2.1 HI.out.2.2.1 HI.out.2.2.2 rfl (by decide) (.slice A3 n1 c3) n1 _ rfl (hown.alloc _) ⟨wr.heap.size, 0, none⟩ 1 1 [.int .i64 (7)] rfl rfl (one_new _ _ _) (by simp [Value.oneCell']) (by unfold maxLen; omega) (by omega) (by simp; omega) ?_; intro v' wapp hown2 hg2 _); obtain ⟨A4, c4, rfl⟩ := own_form hown2; have hst1 := goal_step hBE hB0 hR hb hRK hown hS hRlt hES hEw hg2 hown2; have c0 := hst1.2.2.2.2.2.2.2.cell; have f0 := hst1.2.2.2.2.2.2.2.frozen))
              obtain ⟨x1, x2, x3, x4, x5, x6, x7, _⟩ := hst1
              have HIn2 : Hid (∀ x ∈ l ++ [(7 : Int)], Sp.inI x) := by
                intro x hx
                rw [List.mem_append, List.mem_singleton] at hx
                rcases hx with hx | rfl
                · exact HIn.out x hx
                · exact inI_small (by omega) (by omega)
              have hl2 : l.map (Value.int .i64) ++ [Value.int .i64 (7 : Int)] = (l ++ [(7 : Int)]).map (Value.int .i64) := by simp
              rw [hl2] at x6
              clear hBE hB0 hR hb hRK hown hS HIn hg2 hown2 c0 c0' f0 hl2 hbs
              have hBE := x1; have hB0 := x2; have hR := x3; have hb := x4; have hRK := x5; have hown := x6; have hS := x7; have HIn := HIn2
              clear x1 x2 x3 x4 x5 x6 x7 HIn2
              generalize wapp.setCell ⟨E, 1, none⟩ (.slice A4 (n1 + 1) c4) = wr at *
              generalize l ++ [(7 : Int)] = l at *
              obtain ⟨n2, HNn2⟩ : ∃ n2, Hid (n1 + 1 = n2) := ⟨_, rfl⟩
              have hbn2 : n2 = n1 + 1 := HNn2.out.symm
              have hbnn2 : n2 ≤ 3 * q + 2 := by omega
              rw [HNn2.out] at hBE hown
              clear hbn2
              by_cases hq0 : 0 < (q : Int)
              · skip
                have hbs := hb.size
                have c0 := (hBE.kept ((Kept.refl wr).alloc (.cells #[.int .i64 (8)] 3))).cell
                have c0' := hBE.cell
                go_wp2_with (first | ((at_builtin; refine wpList_append_own _ rfl (.tmp 88) (.tmp 89) 23 rfl (w6.heap.size) 3 i0 (.int .i64 0) 1 8 Tryd.underlying23 HI.out.1 HI.out.2.1 HI.out.2.2.1 HI.out.2.2.2 rfl (by decide) (.slice A4 n2 c4) n2 _ rfl (hown.alloc _) ⟨wr.heap.size, 0, none⟩ 1 1 [.int .i64 (8)] rfl rfl (one_new _ _ _) (by simp [Value.oneCell']) (by unfold maxLen; omega) (by omega) (by simp; omega) ?_; intro v' wapp hown2 hg2 _); obtain ⟨A5, c5, rfl⟩ := own_form hown2; have hst1 := goal_step hBE hB0 hR hb hRK hown hS hRlt hES hEw hg2 hown2; have c0 := hst1.2.2.2.2.2.2.2.cell; have f0 := hst1.2.2.2.2.2.2.2.frozen))
                obtain ⟨x1, x2, x3, x4, x5, x6, x7, _⟩ := hst1
                have HIn3 : Hid (∀ x ∈ l ++ [(8 : Int)], Sp.inI x) := by
                  intro x hx
                  rw [List.mem_append, List.mem_singleton] at hx
                  rcases hx with hx | rfl
                  · exact HIn.out x hx
                  · exact inI_small (by omega) (by omega)
                have hl2 : l.map (Value.int .i64) ++ [Value.int .i64 (8 : Int)] = (l ++ [(8 : Int)]).map (Value.int .i64) := by simp
                rw [hl2] at x6
                clear hBE hB0 hR hb hRK hown hS HIn hg2 hown2 c0 c0' f0 hl2 hbs
                have hBE := x1; have hB0 := x2; have hR := x3; have hb := x4; have hRK := x5; have hown := x6; have hS := x7; have HIn := HIn3
                clear x1 x2 x3 x4 x5 x6 x7 HIn3
                generalize wapp.setCell ⟨E, 1, none⟩ (.slice A5 (n2 + 1) c5) = wr at *
                generalize l ++ [(8 : Int)] = l at *
                obtain ⟨n3, HNn3⟩ : ∃ n3, Hid (n2 + 1 = n3) := ⟨_, rfl⟩
                have hbn3 : n3 = n2 + 1 := HNn3.out.symm
                have hbnn3 : n3 ≤ 3 * q + 3 := by omega
                rw [HNn3.out] at hBE hown
                clear hbn3
                exact ⟨⟨q + 1, n3, c5, A5, l, by omega, by go_num, by omega, hBE, hown, HIn, hR, hb, hB0, hRK, hS⟩, by simp [intOf]; omega⟩
              · go_wp2_with fail
                exact ⟨⟨q + 1, n2, c4, A4, l, by omega, by go_num, by omega, hBE, hown, HIn, hR, hb, hB0, hRK, hS⟩, by simp [intOf]; omega⟩
            · have HV := Lib.hid hbit
              clear hbit
              by_cases hq0 : 0 < (q : Int)
              · skip
                have hbs := hb.size
                have c0 := (hBE.kept ((Kept.refl wr).alloc (.cells #[.int .i64 (8)] 3))).cell
                have c0' := hBE.cell
                go_wp2_with (first | ((at_builtin; refine wpList_append_own _ rfl (.tmp 88) (.tmp 89) 23 rfl (w6.heap.size) 3 i0 (.int .i64 0) 1 8 Tryd.underlying23 HI.out.1 HI.out.2.1 HI.out.2.2.1 HI.out.2.2.2 rfl (by decide) (.slice A3 n1 c3) n1 _ rfl (hown.alloc _) ⟨wr.heap.size, 0, none⟩ 1 1 [.int .i64 (8)] rfl rfl (one_new _ _ _) (by simp [Value.oneCell']) (by unfold maxLen; omega) (by omega) (by simp; omega) ?_; intro v' wapp hown2 hg2 _); obtain ⟨A4, c4, rfl⟩ := own_form hown2; have hst1 := goal_step hBE hB0 hR hb hRK hown hS hRlt hES hEw hg2 hown2; have c0 := hst1.2.2.2.2.2.2.2.cell; have f0 := hst1.2.2.2.2.2.2.2.frozen))
                obtain ⟨x1, x2, x3, x4, x5, x6, x7, _⟩ := hst1
                have HIn2 : Hid (∀ x ∈ l ++ [(8 : Int)], Sp.inI x) := by
                  intro x hx
                  rw [List.mem_append, List.mem_singleton] at hx
                  rcases hx with hx | rfl
                  · exact HIn.out x hx
                  · exact inI_small (by omega) (by omega)
                have hl2 : l.map (Value.int .i64) ++ [Value.int .i64 (8 : Int)] = (l ++ [(8 : Int)]).map (Value.int .i64) := by simp
                rw [hl2] at x6
                clear hBE hB0 hR hb hRK hown hS HIn hg2 hown2 c0 c0' f0 hl2 hbs
                have hBE := x1; have hB0 := x2; have hR := x3; have hb := x4; have hRK := x5; have hown := x6; have hS := x7; have HIn := HIn2
                clear x1 x2 x3 x4 x5 x6 x7 HIn2
                generalize wapp.setCell ⟨E, 1, none⟩ (.slice A4 (n1 + 1) c4) = wr at *
                generalize l ++ [(8 : Int)] = l at *
                obtain ⟨n2, HNn2⟩ : ∃ n2, Hid (n1 + 1 = n2) := ⟨_, rfl⟩
                have hbn2 : n2 = n1 + 1 := HNn2.out.symm
                have hbnn2 : n2 ≤ 3 * q + 2 := by omega
                rw [HNn2.out] at hBE hown
                clear hbn2
                exact ⟨⟨q + 1, n2, c4, A4, l, by omega, by go_num, by omega, hBE, hown, HIn, hR, hb, hB0, hRK, hS⟩, by simp [intOf]; omega⟩
              · go_wp2_with fail
                exact ⟨⟨q + 1, n1, c3, A3, l, by omega, by go_num, by omega, hBE, hown, HIn, hR, hb, hB0, hRK, hS⟩, by simp [intOf]; omega⟩
          · have hn15 : n ≤ 15 := by omega
            have hG : GRow w.heap.size wr A n c := ⟨l, by omega, ownsRow_mono hown (by omega), HIn.out⟩
            replace hD := hD.kept hRK
            clear hown hRK hS hES
            obtain ⟨pe, rfl⟩ : ∃ pe, pe = pf := ⟨_, rfl⟩
            have c0 := hBE.cell
            have c1 := hB0.cell
            have f1 := hB0.frozen
            have hle := Nat.le_refl w.heap.size
            have b1 := hB0.set_ 0 (.int .i64 st)
            have b2 := b1.set_ 1 (.slice A n c)
            have k1 := RowsKept.set (X := w.heap.size) hB0 (by decide) (by decide) 0 (.int .i64 st)
            have k2 := RowsKept.set (X := w.heap.size) b1 (by decide) (by decide) 1 (.slice A n c)
            have k3 := RowsKept.set (X := w.heap.size) b2 (by decide) (by decide) 2 (.slice A' n' c')
            have kk := (k1.trans k2).trans k3
            have hG2 := hG.kept kk.ints
            have hD2 := hD.kept kk
            have r4 := ((hR.setFar (a := ⟨w.heap.size, 0, none⟩) hRlt (.int .i64 st)).setFar (a := ⟨w.heap.size, 1, none⟩) hRlt (.slice A n c)).setFar (a := ⟨w.heap.size, 2, none⟩) hRlt (.slice A' n' c')
            have t4 := ((hb.setNew (p := ⟨w.heap.size, 0, none⟩) hle (.int .i64 st)).setNew (p := ⟨w.heap.size, 1, none⟩) hle (.slice A n c)).setNew (p := ⟨w.heap.size, 2, none⟩) hle (.slice A' n' c')
            clear hB0 hBE hG hD hR hb b1 b2 k1 k2 k3 kk hEw
            go_wp2_with fail
            refine bodyPost_ret (v := .agg #[.int .i64 st, .slice A n c, .slice A' n' c']) (by simp [results, Tryd.results40, go_sem, c1]) rfl ?_
            exact ⟨_, pe, rfl, r4, by omega, by omega, t4, st, A, n, c, A', n', c', rfl, hst, hG2, hD2, by omega⟩
      · have hq0 : (x == 0) = false := beq_eq_false_iff_ne.2 hx
        clear hx
        have c0 := hBE.cell
        have c1 := hB0.cell
        have f1 := hB0.frozen
        have hle := Nat.le_refl w.heap.size
        have b1 := hB0.set_ 0 (.int .i64 st)
        have b2 := b1.set_ 1 (.slice A n c)
        have k1 := RowsKept.set (X := w.heap.size) hB0 (by decide) (by decide) 0 (.int .i64 st)
        have k2 := RowsKept.set (X := w.heap.size) b1 (by decide) (by decide) 1 (.slice A n c)
        have k3 := RowsKept.set (X := w.heap.size) b2 (by decide) (by decide) 2 (.slice A' n' c')
        have kk := (k1.trans k2).trans k3
        have hG2 := hG.kept kk.ints
        have hD2 := hD.kept kk
        have r4 := ((hR.setFar (a := ⟨w.heap.size, 0, none⟩) hRlt (.int .i64 st)).setFar (a := ⟨w.heap.size, 1, none⟩) hRlt (.slice A n c)).setFar (a := ⟨w.heap.size, 2, none⟩) hRlt (.slice A' n' c')
        have t4 := ((hb.setNew (p := ⟨w.heap.size, 0, none⟩) hle (.int .i64 st)).setNew (p := ⟨w.heap.size, 1, none⟩) hle (.slice A n c)).setNew (p := ⟨w.heap.size, 2, none⟩) hle (.slice A' n' c')
        clear hB0 hBE hG hD hR hb b1 b2 k1 k2 k3 kk hEw
        go_wp2_with fail
        refine bodyPost_ret (v := .agg #[.int .i64 st, .slice A n c, .slice A' n' c']) (by simp [results, Tryd.results40, go_sem, c1]) rfl ?_
        exact ⟨_, pe, rfl, r4, by omega, by omega, t4, st, A, n, c, A', n', c', rfl, hst, hG2, hD2, by omega⟩

end Go.Proofs.YtphdojebdclonaaDoor
