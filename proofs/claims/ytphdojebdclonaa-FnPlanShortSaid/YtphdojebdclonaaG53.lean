/- Walks: the program's PlanShort. No condition. -/
import Derived.Test.YtphdojebdclonaaG52
import Derived.Test.YtphdojebdclonaaG27
import Derived.Test.YtphdojebdclonaaHar
namespace Go.Proofs.Ytphdojebdclonaa
open Go.RowKit

/-- a slice's length -/
def vlen : Value → Nat
  | .slice _ n _ => n
  | _ => 0
theorem vlen_slice (A : Option Addr) (n c : Nat) : vlen (.slice A n c) = n := rfl
theorem make_cap (n : Nat) (hn : n ≤ 2147483648) (w : World) :
    (Instr.makeSlice 22 (.int .i64 0) (.int .i64 (n : Int))).run Try.prog w = .ok (.slice (some ⟨w.heap.size, 0, none⟩) 0 n) (w.alloc (.cells (madeCells #[.int .i64 0] n) 3)) := by
  obtain ⟨i, hi, hz, hs, hb⟩ := info_parts info_int
  have := run_make_rowN (P := Try.prog) 22 3 i _ Try.underlying22 hi hz .i64 .i64 0 n (Nat.zero_le _) (by rw [hb]; omega) (by omega) w
  rw [hs, Nat.mul_one] at this
  exact this
theorem own_one {w : World} {B : Nat} {T : TypeId} (v : Value) (hB : B ≤ w.heap.size) : (w.alloc (.cells #[v] T)).ownsRow B T 1 (.slice (some ⟨w.heap.size, 0, none⟩) 1 1) 1 [v] :=
  ⟨rfl, .inr ⟨w.heap.size, 1, #[v], rfl, hB, heap_alloc_new w _, Nat.le_refl _, by unfold maxLen; omega, rfl, rfl⟩⟩
theorem cells_from {w : World} {B n c P b : Nat} {l : List Int} (h : w.ownsRow B 3 1 (.slice (some ⟨P, 0, none⟩) n c) n (l.map (Value.int .i64))) (off : Nat) (ho : b < n → off = b) :
    ∀ j u, ((l.drop b).map (Value.int .i64))[j]? = some u → w.cell? ((⟨P, off, none⟩ : Addr).add j) = some u := by
  intro j u hj
  have hl : l.length = n := by have := h.1; simpa using this
  rw [List.getElem?_map, List.getElem?_drop] at hj
  have hlt : b + j < l.length := by
    refine Classical.byContradiction fun hn => ?_
    rw [List.getElem?_eq_none (by omega)] at hj
    cases hj
  have hc := h.cells (g := P) rfl (b + j) u (by rw [List.getElem?_map]; exact hj)
  rw [ho (by omega)]
  have e : ∀ o k, ((⟨P, o, none⟩ : Addr).add k) = ⟨P, o + k, none⟩ := by
    intro o k
    unfold Addr.add
    split
    · rename_i h0; subst h0; rfl
    · rfl
  rw [e] at hc ⊢
  rw [Nat.zero_add] at hc
  exact hc
theorem ints_one (l : List Int) : ∀ u ∈ l.map (Value.int .i64), u.oneCell' = true := by
  intro u hu
  rw [List.mem_map] at hu
  obtain ⟨x, _, rfl⟩ := hu
  rfl
theorem states_in {t : Sp.Task} (hok : Sp.taskOk t = true) (l : List Int) : ∀ x ∈ Sp.statesOf t l, Sp.inI x := by
  intro x hx
  unfold Sp.statesOf at hx
  rw [List.mem_map] at hx
  obtain ⟨i, _, rfl⟩ := hx
  have := stAt_bd hok l i
  unfold Sp.inI; omega

/-- as OutOwnB; where there is a list it has a block -/
def OutOwnS (w : World) (l : List Int) (b : Bool) (v : Value) (w' : World) : Prop := OutOwnB w l b v w' ∧ (b = true → ∃ P c, v = .tuple #[.slice (some ⟨P, 0, none⟩) l.length c, .bool true])

set_option maxHeartbeats 4000000 in
set_option maxRecDepth 100000 in
theorem c_iPlanShort (v : Value) (t : Sp.Task) (A2 : Option Addr) (n2 c2 : Nat) (l : List Int) (w : World) (h : TaskV w v t) (hP : Ints w A2 n2 l) :
    Calls Try.prog 28 #[v, .slice A2 n2 c2] w (RetS (OutOwnS w (Sp.planShort t l) (decide (0 ≤ Sp.planRun t t.start l))) w) := by
  obtain ⟨i0, hi0, hz0, hz1, hz2⟩ := info_parts info_int
  have HI := Lib.hid (And.intro hi0 (And.intro hz0 (And.intro hz1 hz2)))
  clear hi0 hz0 hz1 hz2
  obtain ⟨A, n, c, A', n', c', rfl⟩ := h.form
  have hk0 := (Kept.refl w).alloc (.cells #[.int .i64 t.start, .slice A n c, .slice A' n' c'] 30)
  have B0 := Blk.new w 30 #[.int .i64 t.start, .slice A n c, .slice A' n' c']
  have hT := h.keep hk0
  have hL := hP.keep hk0
  have HLn := Lib.hid hP.len
  clear hP h
  go_enter Try.func28, Try.ntmps28
  go_wp2_with fail
  refine (c_iPlanRun _ t _ _ _ _ l _ hT hL).mono ?_; rintro e w2 ⟨rfl, hk2⟩
  replace hk0 := hk0.trans hk2
  replace B0 := B0.kept hk2
  replace hT := hT.keep hk2
  replace hL := hL.keep hk2
  clear hk2
  obtain ⟨q, Hq⟩ : ∃ q, Hid (Sp.planRun t t.start l = q) := ⟨_, rfl⟩
  rw [Hq.out]
  by_cases hneg : q < 0
  · have HE : Hid (Sp.planShort t l = []) := planShort_no (by rw [Hq.out]; exact hneg)
    have HD : Hid (decide (0 ≤ Sp.planRun t t.start l) = false) := decide_eq_false (by rw [Hq.out]; omega)
    go_wp2_with fail
    go_ret2
    exact ⟨_, rfl, by rw [HE.out, HD.out]; exact ⟨⟨none, 0, rfl, World.ownsRow_nil _ _ _ _⟩, fun e => by cases e⟩, hk0⟩
  have HD : Hid (decide (0 ≤ Sp.planRun t t.start l) = true) := decide_eq_true (by rw [Hq.out]; omega)
  have HE : Hid (Sp.planShort t l = Sp.shortTill t l 41) := planShort_yes (by rw [Hq.out]; omega)
  obtain ⟨ht, hlen, _, hst⟩ := planRun_parts (t := t) (l := l) (by rw [Hq.out]; omega)
  have HK := Lib.hid ht
  have HSt := Lib.hid hst
  have HBd := Lib.hid (stAt_bd ht l)
  have hn40 : n2 ≤ 40 := by rw [← HLn.out]; exact hlen
  obtain ⟨st, Hst⟩ : ∃ st : Nat, Hid (t.start = (st : Int)) := Int.eq_ofNat_of_zero_le (Sp.taskOk_start ht).1
  have HZ : Hid (Sp.stAt t l 0 = (st : Int)) := by show _ = _; rw [stAt_zero, Hst.out, Int.toNat_natCast]
  have HSG := Lib.hid (Sp.taskOk_start ht)
  have HTN := Lib.hid hT.deeds.len
  have hmk := make_cap n2 (by omega)
  have hnp : ¬ (n2 : Int) < 0 := by omega
  rw [Hst.out] at B0
  have c0 := B0.cell
  clear ht hst hlen
  go_upto_region 6 with fail
  have hr0 : Rows2 w2.heap.size ((w2.alloc (.cells #[.int .i64 (st : Int)] 3)).alloc (.cells (madeCells #[.int .i64 0] n2) 3)) w2.heap.size (w2.heap.size + 1) 1 1 0 n2 [(st : Int)] [] := by
    refine ⟨by omega, own_keep (own_one _ (Nat.le_refl _)) ((Kept.refl _).alloc _), ?_⟩
    have := World.ownsRow_made (base := w2.heap.size) (e := 3) (size := 1) (w2.alloc (.cells #[.int .i64 (st : Int)] 3)) (madeCells #[.int .i64 0] n2) n2 (by simp) (by unfold maxLen; omega) (by simp [madeCells])
    simpa using this
  have hkL := ((Kept.refl w2).alloc (.cells #[.int .i64 (st : Int)] 3)).alloc (.cells (madeCells #[.int .i64 0] n2) 3)
  obtain ⟨w4, HW4⟩ : ∃ x, Hid ((w2.alloc (.cells #[.int .i64 (st : Int)] 3)).alloc (.cells (madeCells #[.int .i64 0] n2) 3) = x) := ⟨_, rfl⟩
  rw [HW4.out] at hr0
  rw [HW4.out] at hkL
  rw [HW4.out]
  clear c0 hmk
  have HZS : Hid ([(st : Int)] = (List.range (0 + 1)).map (Sp.stAt t l)) := by show _ = _; rw [← HZ.out]; rfl
  rw [HZS.out] at hr0
  go_wp2_with fail
  go_loopw [29, 6, 7, 8] (fun i s a b wr => ∃ (k P Q c7 c8 : Nat), k ≤ n2 ∧ i = .int .i64 (k : Int) ∧ s = .int .i64 (Sp.stAt t l k) ∧ a = .slice (some ⟨P, 0, none⟩) (k + 1) c7 ∧ b = .slice (some ⟨Q, 0, none⟩) k c8 ∧ Rows2 w2.heap.size wr P Q (k + 1) c7 k c8 ((List.range (k + 1)).map (Sp.stAt t l)) (l.take k) ∧ Kept w2 wr) (fun i _ _ _ _ => n2 - (intOf i).toNat)
  case atStart => exact ⟨0, _, _, _, _, Nat.zero_le _, rfl, by rw [HZ.out], rfl, rfl, hr0, hkL⟩
  case round =>
    clear hr0 hkL
    obtain ⟨k, P, Q, c7, c8, hk, rfl, rfl, rfl, rfl, hR, hkp⟩ := hrel
    have c0 := (B0.kept hkp).cell
    by_cases hlt : k < n2
    · obtain ⟨b, off, rfl, hb, hc, hi⟩ := (hL.keep hkp).at hlt
      have hsn := stAt_next (t := t) (l := l) (i := k) (by rw [HLn.out]; exact hlt) (HSt.out k) (HSt.out (k + 1))
      have hs0 := HSt.out k
      have hs31 := (HBd.out k).2
      have hTk : l.take (k + 1) = l.take k ++ [l.getD k default] := by
        rw [List.take_succ_eq_append_getElem (by rw [HLn.out]; exact hlt)]; simp [List.getD, HLn.out, hlt]
      have HRs : Hid ((List.range (k + 1 + 1)).map (Sp.stAt t l) = (List.range (k + 1)).map (Sp.stAt t l) ++ [Sp.stAt t l (k + 1)]) := by show _ = _; rw [List.range_succ, List.map_append]; rfl
      have HTk := Lib.hid hTk
      clear hTk
      obtain ⟨q1, Hq1⟩ : ∃ q1, Hid (l.getD k default = q1) := ⟨_, rfl⟩
      rw [Hq1.out] at hc hsn HTk
      obtain ⟨hq0, hqn, hstep⟩ := hsn
      obtain ⟨q1, rfl⟩ := Int.eq_ofNat_of_zero_le hq0
      have hql : q1 < t.deeds.length := by omega
      have hqn2 : ¬ (n' : Int) ≤ (q1 : Int) := by rw [HTN.out] at hqn; omega
      have hqn3 : q1 < n' := by rw [← HTN.out]; exact hql
      obtain ⟨b2, off2, rfl, hb2, hd⟩ := (hT.keep hkp).deeds.at hqn3
      have HDo := Lib.hid (Sp.taskOk_deed HK.out hql)
      rw [Int.toNat_natCast] at hstep
      generalize t.deeds.getD q1 default = d at *
      obtain ⟨A5, n5, c5, hc0, hc1, hc2, hc3, hdv⟩ := hd.v
      have HDv := Lib.hid hdv
      have HStep := Lib.hid hstep
      clear hdv hd hstep hqn hq0
      obtain ⟨s0, Hs0⟩ : ∃ s0, Hid (Sp.stAt t l k = s0) := ⟨_, rfl⟩
      obtain ⟨y, Hy⟩ : ∃ y, Hid (Sp.stAt t l (k + 1) = y) := ⟨_, rfl⟩
      rw [Hs0.out] at hs0 hs31 HStep ⊢
      rw [Hy.out] at HRs HStep
      go_wp2_with fail
      refine (c_behindDeed _ d s0 _ HDv.out HDo.out hs0 hs31).mono ?_; rintro e w7 ⟨rfl, hk7⟩
      rw [HStep.out]
      have hR7 := hR.keep hk7
      have hkp7 := hkp.trans hk7
      have hsz := hkp7.size
      have hsz0 := hk0.size
      clear c0 hc0 hc1 hc2 hc3 hc hk7 hkp hR
      go_upto_region 11 with (first | (at_builtin; refine wpList_append_own_at _ rfl (.tmp 40) (.tmp 42) 22 rfl (w2.heap.size) 3 i0 (.int .i64 0) 1 8 Try.underlying22 HI.out.1 HI.out.2.1 HI.out.2.2.1 HI.out.2.2.2 rfl (by decide) (.slice (some ⟨P, 0, none⟩) (k + 1) c7) (k + 1) _ rfl (hR7.2.1.alloc _) ⟨w7.heap.size, 0, none⟩ 1 1 [.int .i64 y] rfl rfl (one_new _ _ _) (by simp [Value.oneCell']) (by unfold maxLen; omega) (by omega) (by simp; omega) ?_; intro v1 w8 hown2 hg2 _ hat))
      have HMp : Hid (((List.range (k + 1)).map (Sp.stAt t l)).map (Value.int .i64) ++ [.int .i64 y] = ((List.range (k + 1 + 1)).map (Sp.stAt t l)).map (Value.int .i64)) := by show _ = _; rw [HRs.out, List.map_append]; rfl
      rw [HMp.out] at hown2
      obtain ⟨P2, c72, rfl, hR8⟩ := hR7.first ((Kept.refl _).alloc _) hg2 hown2 hat
      have hkp8 : Kept w2 w8 := (hkp7.alloc _).grown hg2 (fun k e => (hR7.2.1.lt k e).1)
      have hsz8 := hkp8.size
      go_wp2_with (first | (at_builtin; refine wpList_append_own_at _ rfl (.tmp 44) (.tmp 46) 22 rfl (w2.heap.size) 3 i0 (.int .i64 0) 1 8 Try.underlying22 HI.out.1 HI.out.2.1 HI.out.2.2.1 HI.out.2.2.2 rfl (by decide) (.slice (some ⟨Q, 0, none⟩) k c8) k _ rfl (hR8.2.2.alloc _) ⟨w8.heap.size, 0, none⟩ 1 1 [.int .i64 (q1 : Int)] rfl rfl (one_new _ _ _) (by simp [Value.oneCell']) (by unfold maxLen; omega) (by omega) (by simp; omega) ?_; intro v2 w9 hown3 hg3 _ hat3))
      have HMp2 : Hid ((l.take k).map (Value.int .i64) ++ [.int .i64 (q1 : Int)] = (l.take (k + 1)).map (Value.int .i64)) := by show _ = _; rw [HTk.out, List.map_append]; rfl
      rw [HMp2.out] at hown3
      obtain ⟨Q2, c82, rfl, hR9⟩ := hR8.swap.first ((Kept.refl _).alloc _) hg3 hown3 hat3
      have hkp9 : Kept w2 w9 := (hkp8.alloc _).grown hg3 (fun k e => (hR8.2.2.lt k e).1)
      exact ⟨⟨k + 1, P2, Q2, c72, c82, by omega, by go_num, by rw [Hy.out], rfl, rfl, hR9.swap, hkp9⟩, by simp [intOf]; omega⟩
    · obtain rfl : k = n2 := by omega
      have HTA : Hid (l.take k = l) := by show _ = _; rw [← HLn.out, List.take_length]
      have HSA : Hid ((List.range (k + 1)).map (Sp.stAt t l) = Sp.statesOf t l) := by show _ = _; unfold Sp.statesOf; rw [HLn.out]
      rw [HTA.out, HSA.out] at hR
      clear c0
      go_wp2_with fail
      clear hlt
      go_loopw [7, 8] (fun a b wr => ∃ (m P Q n5 c7 c8 : Nat) (S : List Int), a = .slice (some ⟨P, 0, none⟩) (n5 + 1) c7 ∧ b = .slice (some ⟨Q, 0, none⟩) n5 c8 ∧ m ≤ 41 ∧ Hid (Sp.shortTill t l m = S) ∧ Hid (S.length = n5) ∧ n5 ≤ 40 ∧ Hid (Sp.Once t S m) ∧ Rows2 w2.heap.size wr P Q (n5 + 1) c7 n5 c8 (Sp.statesOf t S) S ∧ Kept w2 wr) (fun _ b _ => vlen b)
      case atStart => exact ⟨0, P, Q, k, c7, c8, l, rfl, rfl, by omega, rfl, HLn.out, hn40, fun i j h => by omega, hR, hkp⟩
      case round =>
        clear hR hkp
        obtain ⟨m, P, Q, n5, c7, c8, S, rfl, rfl, hm41, HS, HS5, hn5, HOn, hR, hkp⟩ := hrel
        have hIn := own_row_ints hR.2.1 (by omega) (states_in HK.out S)
        go_wp2_with fail
        refine (c_comesTwice _ _ c7 _ _ hIn (by omega)).mono ?_; rintro e w7 ⟨v, rfl, hQ, hk7⟩
        have hR7 := hR.keep hk7
        have hkp7 := hkp.trans hk7
        clear hk7 hkp hR hIn
        have HSl : Hid ((Sp.statesOf t S).length = n5 + 1) := by show _ = _; rw [statesOf_len, HS5.out]
        have HAt : Hid (∀ i, i < n5 + 1 → (Sp.statesOf t S).getD i default = Sp.stAt t S i) := fun i hi => statesOf_at t S (by rw [HS5.out]; exact hi)
        rcases hQ with ⟨a, b, rfl, hab, hbl, heq, hlast, hfirst⟩ | ⟨rfl, hno⟩
        · rw [HSl.out] at hbl hlast hfirst
          rw [HAt.out b hbl, HAt.out a (by omega)] at heq
          have hlast2 : ∀ c, b < c → c ≤ S.length → Sp.stAt t S c ≠ Sp.stAt t S a := fun c h1 h2 => by
            have := hlast c h1 (by have := HS5.out; omega)
            rw [HAt.out c (by have := HS5.out; omega), HAt.out a (by omega)] at this
            exact this
          have hon : Sp.Once t S a := fun i j h1 h2 h3 => by
            have := hfirst i j h1 h2 (by have := HS5.out; omega)
            rw [HAt.out i (by omega), HAt.out j (by have := HS5.out; omega)] at this
            exact this
          have hma : m ≤ a := by
            refine Classical.byContradiction fun hn => ?_
            exact HOn.out a b (by omega) hab (by have := HS5.out; omega) heq.symm
          have HEq := Lib.hid heq
          have HNext : Hid (Sp.shortTill t l (a + 1) = Sp.cutOut S a b) := by
            show _ = _
            have := short_round (t := t) (l := l) (m := m) (a := a) (b := b) hab (by rw [HS.out, HS5.out]; omega) (by rw [HS.out]; exact hon) hma (by rw [HS.out]; exact heq) (by rw [HS.out]; exact hlast2)
            rw [HS.out] at this
            exact this
          have HOn2 : Hid (Sp.Once t (Sp.cutOut S a b) (a + 1)) := by
            show Sp.Once _ _ _
            have := once_till t l (a + 1)
            rw [HNext.out] at this
            exact this
          have HCl : Hid ((Sp.cutOut S a b).length = a + (n5 - b)) := by show _ = _; rw [cut_len hab (by rw [HS5.out]; omega), HS5.out]; omega
          have HSc : Hid (Sp.statesOf t (Sp.cutOut S a b) = (Sp.statesOf t S).take a ++ (Sp.statesOf t S).drop b) := statesOf_cut hab (by rw [HS5.out]; omega) heq
          clear heq hlast hfirst hlast2 hon
          have hc8 : n5 ≤ c8 := by obtain ⟨cc, e, hcc⟩ := own_at hR7.2.2 rfl; injection e with _ _ e3; omega
          have hc7 : n5 + 1 ≤ c7 := by obtain ⟨cc, e, hcc⟩ := own_at hR7.2.1 rfl; injection e with _ _ e3; omega
          go_wp2_with fail
          have q1 : ¬ c8 < a := by omega
          have q2 : (0 : Int) ≤ (b : Int) := by omega
          have q3 : ¬ n5 < b := by omega
          obtain ⟨c2x, q4⟩ : ∃ x, c8 - b = x := ⟨_, rfl⟩
          obtain ⟨mx, q6⟩ : ∃ x, n5 - b = x := ⟨_, rfl⟩
          have Hmx := Lib.hid q6
          obtain ⟨off, hoff, q5⟩ : ∃ off : Nat, (b < n5 → off = b) ∧ (if c8 = b then (some ⟨Q, 0, none⟩ : Option Addr) else some ⟨Q, b, none⟩) = some ⟨Q, off, none⟩ := by
            by_cases e : c8 = b
            · exact ⟨0, fun h => by omega, by rw [if_pos e]⟩
            · exact ⟨b, fun _ => rfl, by rw [if_neg e]⟩
          have Hoff := Lib.hid hoff
          clear hoff
          refine wp_region_held_drew (S := fun _ => True) (by kernel_rfl) trivial (fun hHeld => ?_)
          (refine take_val (i := 0) (v := .slice (some ⟨Q, 0, none⟩) (n5) c8) rfl rfl (by kernel_rfl) (by kernel_rfl) (by kernel_rfl) (fun _ _ _ h => h) rfl (by intro wq hq; (try go_split_ands); go_simp; try with_reducible rfl) (trivial) ?_; try simp only [List.setIfInBounds_toArray, List.set_cons_zero, List.set_cons_succ])
          (refine take_val (i := 1) (v := .int .i64 (a : Int)) rfl rfl (by kernel_rfl) (by kernel_rfl) (by kernel_rfl) (fun _ _ _ h => h) rfl (by intro wq hq; (try go_split_ands); go_simp; try with_reducible rfl) (trivial) ?_; try simp only [List.setIfInBounds_toArray, List.set_cons_zero, List.set_cons_succ])
          (refine take_val (i := 2) (v := .slice (some ⟨Q, 0, none⟩) a c8) rfl rfl (by kernel_rfl) (by kernel_rfl) (by kernel_rfl) (fun _ _ _ h => h) rfl (by intro wq hq; (try go_split_ands); go_simp; try with_reducible rfl) (trivial) ?_; try simp only [List.setIfInBounds_toArray, List.set_cons_zero, List.set_cons_succ])
          (refine take_val (i := 3) (v := .slice (some ⟨Q, 0, none⟩) (n5) c8) rfl rfl (by kernel_rfl) (by kernel_rfl) (by kernel_rfl) (fun _ _ _ h => h) rfl (by intro wq hq; (try go_split_ands); go_simp; try with_reducible rfl) (trivial) ?_; try simp only [List.setIfInBounds_toArray, List.set_cons_zero, List.set_cons_succ])
          (refine take_val (i := 4) (v := .int .i64 (b : Int)) rfl rfl (by kernel_rfl) (by kernel_rfl) (by kernel_rfl) (fun _ _ _ h => h) rfl (by intro wq hq; (try go_split_ands); go_simp; try with_reducible rfl) (trivial) ?_; try simp only [List.setIfInBounds_toArray, List.set_cons_zero, List.set_cons_succ])
          (refine take_val (i := 5) (v := .slice (some ⟨Q, off, none⟩) (mx) c2x) rfl rfl (by kernel_rfl) (by kernel_rfl) (by kernel_rfl) (fun _ _ _ h => h) rfl (by intro wq hq; (try go_split_ands); go_simp; try with_reducible rfl) (trivial) ?_; try simp only [List.setIfInBounds_toArray, List.set_cons_zero, List.set_cons_succ])
          clear q1 q2 q3 q4 q5 q6
          refine wpAnyH_ready (rs := [6]) (by kernel_rfl) (by simp) ?_
          refine AllReadyH.cons rfl (fun K hK => ?_) AllReadyH.nil
          have hRd := hR7.keep (Kept.refl w7).drew
          have hkd := hkp7.drew
          have hszd := hkd.size
          refine wp_append_own_at _ (.tmp 60) (.tmp 63) 22 rfl w2.heap.size 3 i0 (.int .i64 0) 1 8 Try.underlying22 HI.out.1 HI.out.2.1 HI.out.2.2.1 HI.out.2.2.2 rfl (by decide) (.slice (some ⟨Q, 0, none⟩) a c8) a _ rfl (own_cut hRd.2.2 (by omega)) ⟨Q, off, none⟩ mx c2x ((S.drop b).map (Value.int .i64)) rfl (by rw [List.length_map, List.length_drop, HS5.out, Hmx.out, Nat.mul_one]) (cells_from hRd.2.2 off Hoff.out) (ints_one _) (by have := Hmx.out; unfold maxLen; omega) (by have := Hmx.out; omega) hszd (fun v1 w8 hown2 hg2 hat => ?_)
          have HM2 : Hid ((S.map (Value.int .i64)).take a ++ (S.drop b).map (Value.int .i64) = (Sp.cutOut S a b).map (Value.int .i64)) := by show _ = _; unfold Sp.cutOut; rw [List.map_append, List.map_take]
          rw [HM2.out] at hown2
          obtain ⟨Q2, c82, rfl, hR8⟩ := hRd.swap.first (Kept.refl _) hg2 hown2 hat
          have hkp8 : Kept w2 w8 := hkd.grown hg2 (fun k e => (hRd.2.2.lt k e).1)
          refine hK.out _ _ trivial (fun _ => ?_); clear hK K; try simp only [Act.put, List.setIfInBounds_toArray, List.set_cons_zero, List.set_cons_succ]
          (refine take_val (i := 7) (v := .slice (some ⟨Q2, 0, none⟩) (a + mx) c82) rfl rfl (by kernel_rfl) (by kernel_rfl) (by kernel_rfl) (fun _ _ _ h => h) rfl (by intro wq hq; (try go_split_ands); go_simp; try with_reducible rfl) (trivial) ?_; try simp only [List.setIfInBounds_toArray, List.set_cons_zero, List.set_cons_succ])
          refine wpAnyH_done (by kernel_rfl) ?_ _
          clear hR7 hkp7 hRd hkd hszd hHeld hown2 hat hg2
          go_wp2_with fail
          have q1 : ¬ c7 < a := by omega
          have q2 : (0 : Int) ≤ (b : Int) := by omega
          have q3 : ¬ n5 + 1 < b := by omega
          have q7 : ¬ (n5 : Int) + 1 < (b : Int) := by omega
          obtain ⟨c2y, q4⟩ : ∃ x, c7 - b = x := ⟨_, rfl⟩
          have q6 : n5 + 1 - b = mx + 1 := by have := Hmx.out; omega
          obtain ⟨offy, hoff, q5⟩ : ∃ off : Nat, (b < n5 + 1 → off = b) ∧ (if c7 = b then (some ⟨P, 0, none⟩ : Option Addr) else some ⟨P, b, none⟩) = some ⟨P, off, none⟩ := by
            by_cases e : c7 = b
            · exact ⟨0, fun h => by omega, by rw [if_pos e]⟩
            · exact ⟨b, fun _ => rfl, by rw [if_neg e]⟩
          have Hoffy := Lib.hid hoff
          clear hoff
          refine wp_region_held_drew (S := fun _ => True) (by kernel_rfl) trivial (fun hHeld => ?_)
          (refine take_val (i := 0) (v := .slice (some ⟨P, 0, none⟩) (n5 + 1) c7) rfl rfl (by kernel_rfl) (by kernel_rfl) (by kernel_rfl) (fun _ _ _ h => h) rfl (by intro wq hq; (try go_split_ands); go_simp; try with_reducible rfl) (trivial) ?_; try simp only [List.setIfInBounds_toArray, List.set_cons_zero, List.set_cons_succ])
          (refine take_val (i := 1) (v := .int .i64 (a : Int)) rfl rfl (by kernel_rfl) (by kernel_rfl) (by kernel_rfl) (fun _ _ _ h => h) rfl (by intro wq hq; (try go_split_ands); go_simp; try with_reducible rfl) (trivial) ?_; try simp only [List.setIfInBounds_toArray, List.set_cons_zero, List.set_cons_succ])
          (refine take_val (i := 2) (v := .slice (some ⟨P, 0, none⟩) a c7) rfl rfl (by kernel_rfl) (by kernel_rfl) (by kernel_rfl) (fun _ _ _ h => h) rfl (by intro wq hq; (try go_split_ands); go_simp; try with_reducible rfl) (trivial) ?_; try simp only [List.setIfInBounds_toArray, List.set_cons_zero, List.set_cons_succ])
          (refine take_val (i := 3) (v := .slice (some ⟨P, 0, none⟩) (n5 + 1) c7) rfl rfl (by kernel_rfl) (by kernel_rfl) (by kernel_rfl) (fun _ _ _ h => h) rfl (by intro wq hq; (try go_split_ands); go_simp; try with_reducible rfl) (trivial) ?_; try simp only [List.setIfInBounds_toArray, List.set_cons_zero, List.set_cons_succ])
          (refine take_val (i := 4) (v := .int .i64 (b : Int)) rfl rfl (by kernel_rfl) (by kernel_rfl) (by kernel_rfl) (fun _ _ _ h => h) rfl (by intro wq hq; (try go_split_ands); go_simp; try with_reducible rfl) (trivial) ?_; try simp only [List.setIfInBounds_toArray, List.set_cons_zero, List.set_cons_succ])
          (refine take_val (i := 5) (v := .slice (some ⟨P, offy, none⟩) (mx + 1) c2y) rfl rfl (by kernel_rfl) (by kernel_rfl) (by kernel_rfl) (fun _ _ _ h => h) rfl (by intro wq hq; (try go_split_ands); go_simp; try with_reducible rfl) (trivial) ?_; try simp only [List.setIfInBounds_toArray, List.set_cons_zero, List.set_cons_succ])
          clear q1 q2 q3 q4 q5 q6 q7
          refine wpAnyH_ready (rs := [6]) (by kernel_rfl) (by simp) ?_
          refine AllReadyH.cons rfl (fun K hK => ?_) AllReadyH.nil
          have hRd := hR8.keep (Kept.refl w8).drew
          have hkd := hkp8.drew
          have hszd := hkd.size
          refine wp_append_own_at _ (.tmp 67) (.tmp 70) 22 rfl w2.heap.size 3 i0 (.int .i64 0) 1 8 Try.underlying22 HI.out.1 HI.out.2.1 HI.out.2.2.1 HI.out.2.2.2 rfl (by decide) (.slice (some ⟨P, 0, none⟩) a c7) a _ rfl (own_cut hRd.2.2 (by omega)) ⟨P, offy, none⟩ (mx + 1) c2y (((Sp.statesOf t S).drop b).map (Value.int .i64)) rfl (by rw [List.length_map, List.length_drop, HSl.out, Nat.mul_one]; have := Hmx.out; omega) (cells_from hRd.2.2 offy Hoffy.out) (ints_one _) (by have := Hmx.out; unfold maxLen; omega) (by have := Hmx.out; omega) hszd (fun v1 w9 hown2 hg2 hat => ?_)
          have HM3 : Hid (((Sp.statesOf t S).map (Value.int .i64)).take a ++ ((Sp.statesOf t S).drop b).map (Value.int .i64) = (Sp.statesOf t (Sp.cutOut S a b)).map (Value.int .i64)) := by show _ = _; rw [HSc.out, List.map_append, List.map_take]
          rw [HM3.out] at hown2
          obtain ⟨P2, c72, rfl, hR9⟩ := hRd.swap.first (Kept.refl _) hg2 hown2 hat
          have hkp9 : Kept w2 w9 := hkd.grown hg2 (fun k e => (hRd.2.2.lt k e).1)
          have HCm : Hid ((Sp.cutOut S a b).length = a + mx) := by show _ = _; rw [HCl.out, Hmx.out]
          have hlt5 : a + mx < n5 := by have := Hmx.out; omega
          refine hK.out _ _ trivial (fun _ => ?_); clear hK K; try simp only [Act.put, List.setIfInBounds_toArray, List.set_cons_zero, List.set_cons_succ]
          (refine take_val (i := 7) (v := .slice (some ⟨P2, 0, none⟩) (a + (mx + 1)) c72) rfl rfl (by kernel_rfl) (by kernel_rfl) (by kernel_rfl) (fun _ _ _ h => h) rfl (by intro wq hq; (try go_split_ands); go_simp; try with_reducible rfl) (trivial) ?_; try simp only [List.setIfInBounds_toArray, List.set_cons_zero, List.set_cons_succ])
          refine wpAnyH_done (by kernel_rfl) ?_ _
          clear hR8 hkp8 hRd hkd hszd hHeld hown2 hat hg2
          go_wp2_with fail
          exact ⟨⟨a + 1, P2, Q2, a + mx, c72, c82, Sp.cutOut S a b, rfl, rfl, by omega, HNext, HCm, by omega, HOn2, hR9, hkp9⟩, by simp only [vlen_slice]; omega⟩
        · have HF : Hid (Sp.shortTill t l 41 = S) := by
            show _ = _
            rw [← HS.out]
            refine short_done hm41 fun i j h1 h2 => ?_
            rw [HS.out] at h2 ⊢
            have := hno i j h1 (by rw [HSl.out]; have := HS5.out; omega)
            rw [HAt.out i (by have := HS5.out; omega), HAt.out j (by have := HS5.out; omega)] at this
            exact this
          have HRes : Hid (OutOwnS w (Sp.planShort t l) (decide (0 ≤ Sp.planRun t t.start l)) (.tuple #[.slice (some ⟨Q, 0, none⟩) n5 c8, .bool true]) w7) := by
            show OutOwnS _ _ _ _ _
            rw [HD.out, HE.out, HF.out]
            exact ⟨outOwnB_some (w1 := w2) true HS5.out.symm hR7.2.2 hk0.size, fun _ => ⟨Q, c8, by rw [HS5.out]⟩⟩
          clear hno
          go_wp2_with fail
          go_ret2
          exact ⟨_, rfl, HRes.out, hk0.trans hkp7⟩

end Go.Proofs.Ytphdojebdclonaa
