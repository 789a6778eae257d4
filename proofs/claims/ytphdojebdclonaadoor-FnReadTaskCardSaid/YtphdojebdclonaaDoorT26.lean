/- Walks: the reference's ReadTask. No condition. -/
import Derived.Test.YtphdojebdclonaaDoorT22
namespace Go.Proofs.YtphdojebdclonaaDoor
set_option linter.unusedSimpArgs false
set_option linter.unusedVariables false
open Go.RowKit

/-- what a reading of a task gives -/
def STaskQ (s : List UInt8) (v : Value) (w' : World) : Prop :=
  ∃ (t : Sp.Task) (b : Bool) (tv : Value), v = .tuple #[tv, .bool b] ∧ TaskV w' tv t ∧
    Hid ((b = true → Sp.taskOk t = true ∧ Sp.taskText t = s) ∧ (b = false → t = ⟨0, [], []⟩ ∧ tv = .agg #[.int .i64 0, .slice none 0 0, .slice none 0 0]) ∧ ∀ t', Sp.taskOk t' = true → Sp.taskText t' = s → b = true ∧ t = t')
theorem staskQ_no {s : List UInt8} {w : World} (h : ∀ t, Sp.taskOk t = true → Sp.taskText t ≠ s) : STaskQ s (.tuple #[.agg #[.int .i64 0, .slice none 0 0, .slice none 0 0], .bool false]) w :=
  ⟨⟨0, [], []⟩, false, _, rfl, task_zero w, (fun h => by cases h), (fun _ => ⟨rfl, rfl⟩), fun t ht hs => absurd hs (h t ht)⟩
theorem c_l1CutT (s : List UInt8) (c : UInt8) (w : World) (hs : s.length ≤ 1048576) : Calls Tryd.prog 86 #[.string ⟨s.toArray⟩, .int .u8 (c.toNat : Int)] w (RetS (fun v w' => TxtsQ (Sp.cutB c s) v w' ∧ OwnT w' w.heap.size v (Sp.cutB c s)) w) := by
  refine (c_l1Cut s c w hs).mono ?_; rintro e w' ⟨v, rfl, h, hk⟩
  exact ⟨v, rfl, ⟨h.txts (cutB_ne c s), h⟩, hk⟩
theorem taskText_ne {t : Sp.Task} (h : Sp.taskOk t = true) : Sp.taskText t ≠ [] := by
  rw [taskText_form h]
  unfold Sp.headText
  simp
/-- the cells of a row of three texts -/
theorem own_str3 {w : World} {B g c : Nat} {x0 x1 x2 : List UInt8} (h : w.ownsRow B 9 1 (.slice (some ⟨g, 0, none⟩) 3 c) 3 ([x0, x1, x2].map strV)) :
    w.cell? ⟨g, 0, none⟩ = some (.string ⟨x0.toArray⟩) ∧ w.cell? ⟨g, 1, none⟩ = some (.string ⟨x1.toArray⟩) ∧ w.cell? ⟨g, 2, none⟩ = some (.string ⟨x2.toArray⟩) := by
  refine ⟨?_, ?_, ?_⟩
  · rw [h.cellAt 0 (by omega)]; rfl
  · rw [h.cellAt 1 (by omega)]; rfl
  · rw [h.cellAt 2 (by omega)]; rfl

/-- the rounds of the reference's ReadTask -/
def LRel (s : List UInt8) (L : List (List UInt8)) (y : Int) (l : List Int) (A : Option Addr) (n c : Nat) (w w2 : World) (E K : Nat) (i : Value) (wr : World) : Prop :=
  ∃ (k j c2 : Nat) (A2 : Option Addr) (ds : List Sp.Deed) (gs : Nat → Nat), i = .int .i64 (k : Int) ∧ Hid (k = j + 1) ∧ k ≤ K ∧ Blk wr E 26 #[.int .i64 y, .slice A n c, .slice A2 j c2] ∧ Hid (wr.ownsRow w.heap.size 3 1 (.slice A n c) n (l.map (Value.int .i64))) ∧ Hid (DRowL w2.heap.size wr A2 j c2 ds gs) ∧ Kept w2 wr ∧ Hid (Sofar s L y l ds j)

set_option maxHeartbeats 8000000 in
set_option maxRecDepth 100000 in
theorem c_sReadTask (s : List UInt8) (w : World) (hs20 : s.length ≤ 1048576) : Calls Tryd.prog 33 #[.string ⟨s.toArray⟩] w (RetS (STaskQ s) w) := by
  obtain ⟨i0, hi0, hz0, hz1, hz2⟩ := info_parts info_deed
  have HI := Lib.hid (And.intro hi0 (And.intro hz0 (And.intro hz1 hz2)))
  clear hi0 hz0 hz1 hz2
  have hk0 := (Kept.refl w).alloc (.cells #[.int .i64 0, .slice none 0 0, .slice none 0 0] 26)
  have B0 := Blk.new w 26 #[.int .i64 0, .slice none 0 0, .slice none 0 0]
  have hle := Nat.le_refl w.heap.size
  obtain ⟨L, HL⟩ : ∃ L, Hid (Sp.cutB 59 s = L) := ⟨_, rfl⟩
  have HP : Hid (∀ k, (L.getD k []).length ≤ 1048576) := fun k => by rw [← HL.out]; have := cutB_part 59 s k; omega
  have hL1 : 1 ≤ L.length := by rw [← HL.out]; exact List.length_pos_iff.2 (cutB_ne 59 s)
  have hL2 : L.length ≤ 1048577 := by rw [← HL.out]; have := cutB_len 59 s; omega
  have HC : Hid (∀ t, Sp.taskOk t = true → Sp.taskText t = s → L = Sp.headText t :: t.deeds.map Sp.deedText) := fun t ht hs => by rw [← HL.out, ← hs, taskText_cut ht]
  go_enter Tryd.func33, Tryd.ntmps33
  go_wp2_with fail
  refine (c_l1CutT s 59 _ hs20).mono ?_; rintro e w1 ⟨v, rfl, ⟨⟨AL, cL, rfl, hcL, hT⟩, _⟩, hk1⟩
  rw [HL.out] at hT hcL
  rw [HL.out]
  replace B0 := B0.kept hk1
  replace hk0 := hk0.trans hk1
  obtain ⟨K, HK⟩ : ∃ K, Hid (L.length = K) := ⟨_, rfl⟩
  rw [HK.out] at hT hcL hL1 hL2
  rw [HK.out]
  clear hk1
  obtain ⟨tb, toff, rfl, htb, htc⟩ := hT.at_ (show 0 < K by omega)
  have HT := Lib.hid hT
  obtain ⟨x, HX⟩ : ∃ x, Hid (L.getD 0 [] = x) := ⟨_, rfl⟩
  rw [HX.out] at htc
  have hx20 : x.length ≤ 1048576 := by rw [← HX.out]; exact HP.out 0
  rw [Nat.add_zero] at htc
  obtain ⟨H, HH⟩ : ∃ H, Hid (Sp.cutB 62 x = H) := ⟨_, rfl⟩
  have HPH : Hid (∀ k, (H.getD k []).length ≤ 1048576) := fun k => by rw [← HH.out]; have := cutB_part 62 x k; omega
  have HC2 : Hid (∀ t, Sp.taskOk t = true → Sp.taskText t = s → H = [Sp.letters t.start, Sp.codeText t.goal]) := by
    intro t ht hs
    have h1 : x = Sp.headText t := by rw [← HX.out, HC.out t ht hs]; rfl
    rw [← HH.out, h1, head_cut ht]
  have hK1 : (0 : Int) < (K : Int) := by omega
  clear hT
  go_wp2_with fail
  refine (c_l1CutT x 62 _ hx20).mono ?_; rintro e wh ⟨v, rfl, ⟨⟨AH, cH, rfl, hcH, hTH⟩, _⟩, hk2⟩
  rw [HH.out] at hTH hcH
  rw [HH.out]
  replace B0 := B0.kept hk2
  replace hk0 := hk0.trans hk2
  have HT1 : Hid (Txts wh (some ⟨tb, toff, none⟩) K L) := HT.out.keep hk2
  obtain ⟨KH, HKH⟩ : ∃ x, Hid (H.length = x) := ⟨_, rfl⟩
  rw [HKH.out] at hTH hcH
  rw [HKH.out]
  clear hk2 htc
  by_cases hKH : KH = 2
  · subst hKH
    obtain ⟨hb, hoff, rfl, hhb, hhc0⟩ := hTH.at_ (show 0 < 2 by omega)
    obtain ⟨hb', hoff', eh, _, hhc1⟩ := hTH.at_ (show 1 < 2 by omega)
    simp only [Option.some.injEq, Addr.mk.injEq] at eh
    obtain ⟨rfl, rfl, _⟩ := eh
    rw [Nat.add_zero] at hhc0
    obtain ⟨a, HA⟩ : ∃ x, Hid (H.getD 0 [] = x) := ⟨_, rfl⟩
    obtain ⟨r, HR⟩ : ∃ x, Hid (H.getD 1 [] = x) := ⟨_, rfl⟩
    rw [HA.out] at hhc0
    rw [HR.out] at hhc1
    have hr20 : r.length ≤ 1048576 := by rw [← HR.out]; exact HPH.out 1
    go_wp2_with fail
    refine (c_sReadCode r _ hr20).mono ?_; rintro e w5 ⟨v, rfl, ⟨A, n, c, l, b, rfl, hown, HQ⟩, hk5⟩
    have hown2 := ownsRow_mono hown hk0.size
    replace B0 := B0.kept hk5
    replace hk0 := hk0.trans hk5
    replace hhc0 := hk5.at_ hhc0
    have HT2 : Hid (Txts w5 (some ⟨tb, toff, none⟩) K L) := HT1.out.keep hk5
    clear hk5 hown hhc1
    go_wp2_with fail
    refine (c_l6Set a _).mono ?_; rintro e w2 ⟨rfl, hk6⟩
    obtain ⟨y, HY⟩ : ∃ y, Hid (Sp.readSet a = y) := ⟨_, rfl⟩
    rw [HY.out]
    have hyb : -1 ≤ y ∧ y ≤ 31 := by rw [← HY.out]; exact readSet_bd a
    have hown3 := own_keep hown2 hk6
    replace B0 := B0.kept hk6
    replace hk0 := hk0.trans hk6
    have HT3 : Hid (Txts w2 (some ⟨tb, toff, none⟩) K L) := HT2.out.keep hk6
    clear hk6 hown2 hhc0
    have hq0 := (Kept.refl w2).alloc (.cells #[] 72)
    have hoq := World.ownsRow_made (base := w2.heap.size) (e := 72) (size := 4) w2 #[] 0 (Nat.le_refl _) (by unfold maxLen; omega) rfl
    have hkE := hq0.alloc (.cells #[.int .i64 y, .slice A n c, .slice (some ⟨w2.heap.size, 0, none⟩) 0 0] 26)
    have BE0 := Blk.new (w2.alloc (.cells #[] 72)) 26 #[.int .i64 y, .slice A n c, .slice (some ⟨w2.heap.size, 0, none⟩) 0 0]
    have hoqE := hoq.alloc (.cells #[.int .i64 y, .slice A n c, .slice (some ⟨w2.heap.size, 0, none⟩) 0 0] 26)
    have hszq : (w2.alloc (.cells #[] 72)).heap.size = w2.heap.size + 1 := by simp
    have hEw := B0.lt
    rw [hszq] at BE0
    obtain ⟨q, HQq⟩ : ∃ x, Hid (w2.heap.size = x) := ⟨_, rfl⟩
    obtain ⟨E, HE⟩ : ∃ x, Hid (w2.heap.size + 1 = x) := ⟨_, rfl⟩
    have hEge : w2.heap.size ≤ E := by have := HE.out; omega
    have hEw2 : w.heap.size < E := by have := HE.out; omega
    obtain ⟨wE, HWE⟩ : ∃ x, Hid ((w2.alloc (.cells #[] 72)).alloc (.cells #[.int .i64 y, .slice A n c, .slice (some ⟨w2.heap.size, 0, none⟩) 0 0] 26) = x) := ⟨_, rfl⟩
    rw [HWE.out] at hkE BE0 hoqE
    rw [HE.out] at BE0
    have BE1 : Blk wE E 26 #[.int .i64 y, .slice A n c, .slice (some ⟨q, 0, none⟩) 0 0] := by rw [← HQq.out]; exact BE0
    have hownE := own_keep hown3 hkE
    have HD0 : Hid (DRowL w2.heap.size wE (some ⟨q, 0, none⟩) 0 0 [] (fun _ => 0)) := DRowL.made _ (by rw [← HQq.out]; exact hoqE)
    have HS0 : Hid (Sofar s L y l [] 0) := fun t ht hs => by
      obtain ⟨h0, h1⟩ := Sp.taskOk_start ht
      have hH := HC2.out t ht hs
      have ha : a = Sp.letters t.start := by rw [← HA.out, hH]; rfl
      have hr : r = Sp.codeText t.goal := by rw [← HR.out, hH]; rfl
      refine ⟨HC.out t ht hs, ?_, (HQ.out.2.2 t.goal (Sp.taskOk_goal ht) hr).2, by simp⟩
      rw [← HY.out, ha]
      exact readSet_letters h0 h1
    have HQn := HQ.out.1
    clear hq0 hoq hoqE hszq BE0 hown3
    go_upto_region 7 with fail
    rw [HWE.out, HE.out]
    clear HWE
    go_wp2_with fail
    go_loopw [9, 10, 11, 12, 13] (fun i _ _ _ _ wr => LRel s L y l A n c w w2 E K i wr) (fun i _ _ _ _ _ => K - (intOf i).toNat)
    case atStart => exact ⟨1, 0, 0, _, [], fun _ => 0, rfl, rfl, by omega, BE1, hownE, HD0.out, hkE, HS0.out⟩
    case round =>
      clear BE1 hownE HD0 hkE HS0
      obtain ⟨k, j, c2, A2, ds, gs, rfl, Hkj, hkK, BE, HGo, HDo, hkr, HSo⟩ := hrel
      by_cases hlt : k < K
      · obtain ⟨tb2, toff2, e2, htb2, htc⟩ := (HT3.out.keep hkr).at_ hlt
        obtain ⟨z, HZ⟩ : ∃ z, Hid (L.getD k [] = z) := ⟨_, rfl⟩
        simp only [Option.some.injEq, Addr.mk.injEq] at e2
        obtain ⟨rfl, rfl, _⟩ := e2
        rw [HZ.out] at htc
        have hz20 : z.length ≤ 1048576 := by rw [← HZ.out]; exact HP.out _
        have hlti : (k : Int) < (K : Int) := by omega
        have HPC : Hid (∀ t, Sp.taskOk t = true → Sp.taskText t = s → Sp.deedOk (t.deeds.getD j default) = true ∧ z = Sp.deedText (t.deeds.getD j default) ∧ j < t.deeds.length) := fun t ht hs => by
          obtain ⟨e1, _⟩ := HSo.out t ht hs
          obtain ⟨p1, p2, p3⟩ := sofar_piece (k := j) e1 (by rw [HK.out, ← Hkj.out]; exact hlt)
          exact ⟨deeds_ok ht _ p3, by rw [← HZ.out, Hkj.out, p1], p2⟩
        go_wp2_with fail
        refine (c_l1CutT z 58 _ hz20).mono ?_; rintro e wa ⟨v, rfl, ⟨⟨A4, c4, rfl, hc4, hT4⟩, _⟩, hka⟩
        obtain ⟨P, HPp⟩ : ∃ x, Hid (Sp.cutB 58 z = x) := ⟨_, rfl⟩
        rw [HPp.out] at hT4 hc4
        rw [HPp.out]
        have hP1 : 1 ≤ P.length := by rw [← HPp.out]; exact List.length_pos_iff.2 (cutB_ne 58 z)
        have hP2 : P.length ≤ 1048577 := by rw [← HPp.out]; have := cutB_len 58 z; omega
        have HPl : Hid (∀ k, (P.getD k []).length ≤ 1048576) := fun k => by rw [← HPp.out]; have := cutB_part 58 z k; omega
        have HPQ : Hid (∀ t, Sp.taskOk t = true → Sp.taskText t = s → P = [Sp.codeText (t.deeds.getD j default).need, Sp.setsText (t.deeds.getD j default)]) := fun t ht hs => by
          obtain ⟨h1, h2, _⟩ := HPC.out t ht hs
          rw [← HPp.out, h2, deed_cut h1]
        obtain ⟨KP, HKP⟩ : ∃ x, Hid (P.length = x) := ⟨_, rfl⟩
        rw [HKP.out] at hT4 hc4 hP1 hP2
        rw [HKP.out]
        obtain ⟨M, HM⟩ : ∃ M, Hid (KP = M + 1) := ⟨KP - 1, by show _ = _; omega⟩
        have hMlt : M < KP := by rw [HM.out]; omega
        have hMlti : (M : Int) < (KP : Int) := by omega
        have hwM : IntKind.i64.wrap ((KP : Int) - 1) = (M : Int) := by rw [HM.out, IntKind.wrap_i64]; omega
        obtain ⟨pb, poff, rfl, hpb, hpc⟩ := hT4.at_ hMlt
        obtain ⟨u, HU⟩ : ∃ x, Hid (P.getD M [] = x) := ⟨_, rfl⟩
        rw [HU.out] at hpc
        have hu20 : u.length ≤ 1048576 := by rw [← HU.out]; exact HPl.out _
        have HT4 := Lib.hid hT4
        have hsza := hka.size
        clear htc hT4
        go_wp2_with fail
        refine (c_l1CutT u 44 _ hu20).mono ?_; rintro e wb ⟨v, rfl, ⟨⟨A6, c6, rfl, hc6, hT6⟩, hO6⟩, hkb⟩
        obtain ⟨Q, HQs⟩ : ∃ x, Hid (Sp.cutB 44 u = x) := ⟨_, rfl⟩
        rw [HQs.out] at hT6 hc6 hO6
        rw [HQs.out]
        obtain ⟨KQ, HKQ⟩ : ∃ x, Hid (Q.length = x) := ⟨_, rfl⟩
        have hkR := hkr.trans (hka.trans hkb)
        have BR := B0.kept hkR
        have hkW := hk0.trans hkR
        clear hpc
        by_cases hKP : KP = 2
        · subst hKP
          obtain rfl : M = 1 := by have := HM.out; omega
          have HQQ : Hid (∀ t, Sp.taskOk t = true → Sp.taskText t = s → Q = [Sp.letters (t.deeds.getD j default).on, Sp.letters (t.deeds.getD j default).off, Sp.letters (t.deeds.getD j default).flip]) := fun t ht hs => by
            rw [← HQs.out, ← HU.out, HPQ.out t ht hs]
            exact sets_cut (HPC.out t ht hs).1
          by_cases hKQ : KQ = 3
          · subst hKQ
            obtain ⟨x0, x1, x2, rfl⟩ : ∃ x0 x1 x2, Q = [x0, x1, x2] := by
              have := HKQ.out
              match Q, this with
              | [a, b, c], _ => exact ⟨a, b, c, rfl⟩
            rw [HKQ.out]
            have hO6' : wb.ownsRow wa.heap.size 9 1 (.slice A6 3 c6) 3 ([x0, x1, x2].map strV) := hO6
            obtain ⟨_, sg, rfl, hsgB, hsgl, _⟩ := own_some hO6' (by decide)
            obtain ⟨pb3, poff3, e3, _, hp0⟩ := (HT4.out.keep hkb).at_ (show 0 < 2 by omega)
            simp only [Option.some.injEq, Addr.mk.injEq] at e3
            obtain ⟨rfl, rfl, _⟩ := e3
            rw [Nat.add_zero] at hp0
            obtain ⟨g, HGg⟩ : ∃ x, Hid (P.getD 0 [] = x) := ⟨_, rfl⟩
            rw [HGg.out] at hp0
            have hg20 : g.length ≤ 1048576 := by rw [← HGg.out]; exact HPl.out 0
            clear hO6 hT6
            go_wp2_with fail
            refine (c_sReadCode g _ hg20).mono ?_; rintro e wc ⟨v, rfl, ⟨Ad, nd, cd, ld, bd, rfl, hownd, HQd⟩, hkc⟩
            obtain ⟨on, HR0⟩ : ∃ v, Hid (Sp.readSet x0 = v) := ⟨_, rfl⟩
            obtain ⟨off, HR1⟩ : ∃ v, Hid (Sp.readSet x1 = v) := ⟨_, rfl⟩
            obtain ⟨flip, HR2⟩ : ∃ v, Hid (Sp.readSet x2 = v) := ⟨_, rfl⟩
            have hkrb := hka.trans hkb
            have hszb := hkrb.size
            have hszc := hkc.size
            obtain ⟨wS, HWS⟩ : ∃ x, Hid (wc.drew = x) := ⟨_, rfl⟩
            have hkcS : Kept wc wS := by rw [← HWS.out]; exact (Kept.refl wc).drew
            have hszS := hkcS.size
            have hkrS : Kept wr wS := (hkrb.trans hkc).trans hkcS
            have hkr15 := hkr.trans hkrS
            have hkr15s := hkr.size
            have hownS := ownsRow_mono (own_keep hownd hkcS) (Nat.le_trans hkr.size hszb)
            obtain ⟨gd, hgdA, hgd1, hgd2⟩ : ∃ gd, (Ad = some ⟨gd, 0, none⟩ ∨ nd = 0) ∧ wr.heap.size ≤ gd ∧ gd < wS.heap.size := by
              by_cases hn0 : 0 < nd
              · obtain ⟨_, g, rfl, hg, hgl, _⟩ := own_some hownd hn0
                exact ⟨g, .inl rfl, by omega, by omega⟩
              · exact ⟨wr.heap.size, .inr (by omega), Nat.le_refl _, by omega⟩
            have BES := BE.kept hkrS
            have hsS := own_keep (own_keep hO6' hkc) hkcS
            have hsd := own_str3 (own_keep (own_keep hO6' hkc) (Kept.refl wc).drew)
            have hj20 : j ≤ 1048577 := by have := Hkj.out; omega
            obtain ⟨hdl, ⟨xs, hxs, hxv⟩, hd1, hd2⟩ := HDo.out.kept (RowsKept.of_kept hkrS) hkrS.size
            have hgsr : ∀ i, i < j → gs i < wr.heap.size := fun i hi => (HDo.out.2.2.1 i hi).2
            have hHd : DV w2.heap.size wS ⟨ld, on, off, flip⟩ gd (.slice Ad nd cd) (.int .i64 on) (.int .i64 off) (.int .i64 flip) :=
              ⟨Ad, nd, cd, rfl, rfl, rfl, rfl, HQd.out.1, hownS, HQd.out.2.1, by rw [← HR0.out]; exact readSet_bd x0, by rw [← HR1.out]; exact readSet_bd x1, by rw [← HR2.out]; exact readSet_bd x2, hgdA⟩
            have HS2 : Hid (Sofar s L y l (ds ++ [⟨ld, on, off, flip⟩]) (j + 1)) := fun t ht hs => by
              obtain ⟨e1, e2, e3, e4⟩ := HSo.out t ht hs
              obtain ⟨p1, _, p2⟩ := HPC.out t ht hs
              have hQ := HQQ.out t ht hs
              have hP := HPQ.out t ht hs
              obtain ⟨o0, o1⟩ := deedOk_on p1
              obtain ⟨f0, f1⟩ := deedOk_off p1
              obtain ⟨q0, q1⟩ := deedOk_flip p1
              injection hQ with hx0 hQ
              injection hQ with hx1 hQ
              injection hQ with hx2 hQ
              have hg : g = Sp.codeText (t.deeds.getD j default).need := by rw [← HGg.out, hP]; rfl
              have hld := (HQd.out.2.2 _ (deedOk_need p1) hg).2
              have h0 : on = (t.deeds.getD j default).on := by rw [← HR0.out, hx0]; exact readSet_letters o0 o1
              have h1 : off = (t.deeds.getD j default).off := by rw [← HR1.out, hx1]; exact readSet_letters f0 f1
              have h2 : flip = (t.deeds.getD j default).flip := by rw [← HR2.out, hx2]; exact readSet_letters q0 q1
              refine ⟨e1, e2, e3, ?_⟩
              rw [e4, List.take_succ_eq_append_getElem p2]
              have hg : t.deeds.getD j default = t.deeds[j] := by rw [List.getD_eq_getElem?_getD, List.getElem?_eq_getElem p2]; rfl
              rw [hg] at h0 h1 h2 hld
              rw [h0, h1, h2, hld]
            have FIN : Hid (∀ (W0 w8 : World) (A3 : Option Addr) (c3 : Nat), Kept wS W0 → w8.ownsRow w2.heap.size 72 4 (.slice A3 (j + 1) c3) (j + 1) (xs ++ [.slice Ad nd cd, .int .i64 on, .int .i64 off, .int .i64 flip]) → (W0.alloc (.cells #[.slice Ad nd cd, .int .i64 on, .int .i64 off, .int .i64 flip] 72)).grownBy w8 (Value.slice A2 j c2).ownBlock →
                LRel s L y l A n c w w2 E K (.int .i64 ((k : Int) + 1)) (w8.setCell ⟨E, 2, none⟩ (.slice A3 (j + 1) c3))) := by
              intro W0 w8 A3 c3 hkW hown8 hgrow
              have BEW := (BES.kept hkW)
              have BEA := BEW.alloc (.cells #[.slice Ad nd cd, .int .i64 on, .int .i64 off, .int .i64 flip] 72)
              have hxsW := own_keep hxs hkW
              have hxsA := hxsW.alloc (.cells #[.slice Ad nd cd, .int .i64 on, .int .i64 off, .int .i64 flip] 72)
              have hBE8 := BEA.grown hgrow (own_ne_blk hxsA BEA (by decide))
              have hwW := hkW.size
              obtain ⟨HD8, _⟩ := DRowL.push (a := gd) hdl hxsW (fun i hi => by
                obtain ⟨v0, v1, v2, v3, g0, g1, g2, g3, hd⟩ := hxv i hi
                exact ⟨v0, v1, v2, v3, g0, g1, g2, g3, hd.kept (RowsKept.of_kept hkW).ints⟩) (fun i hi => ⟨(hd1 i hi).1, by have := (hd1 i hi).2; omega⟩) hd2 ⟨by omega, by omega⟩ (fun i hi => by have := hgsr i hi; omega) hgrow hown8 (hHd.kept (RowsKept.of_kept hkW).ints)
              have HGW := own_keep HGo.out (hkrS.trans hkW)
              have HG8 := (HGW.alloc (.cells #[.slice Ad nd cd, .int .i64 on, .int .i64 off, .int .i64 flip] 72)).kept hgrow (own_apart (HGW.alloc (.cells #[.slice Ad nd cd, .int .i64 on, .int .i64 off, .int .i64 flip] 72)) hxsA (by decide))
              have hk8 := ((hkr15.trans hkW).alloc (.cells #[.slice Ad nd cd, .int .i64 on, .int .i64 off, .int .i64 flip] 72)).grown hgrow (fun i e => (hxsA.lt i e).1)
              have B9 := hBE8.set_ 2 (.slice A3 (j + 1) c3)
              simp only [List.setIfInBounds_toArray, List.set_cons_zero, List.set_cons_succ] at B9
              exact ⟨k + 1, j + 1, c3, A3, _, _, by go_num, by show _ = _; have := Hkj.out; omega, by omega, B9, own_farT (by decide) hBE8 HG8 2 (.slice A3 (j + 1) c3), HD8.kept (RowsKept.set hBE8 (by decide) (by decide) 2 (.slice A3 (j + 1) c3)) (by simp), hk8.setCell (p := ⟨E, 2, none⟩) hEge (.slice A3 (j + 1) c3), HS2.out⟩
            have hk15 := Kept.refl wS
            have BEc := BE.kept (hkrb.trans hkc)
            clear hdl hxv hd1 hd2 hHd hgsr hownS hownd hO6' hszS hszc hszb hkcS hkc hkrb hka hkb hkr hkR BR hkW hp0 HGo HDo HSo BE
            go_wp2_with fail
            refine wp_region_held_drew (S := fun w' => w'.cell? ⟨sg, 0, none⟩ = some (.string ⟨x0.toArray⟩) ∧ w'.cell? ⟨sg, 1, none⟩ = some (.string ⟨x1.toArray⟩) ∧ w'.cell? ⟨sg, 2, none⟩ = some (.string ⟨x2.toArray⟩)) (by kernel_rfl) hsd (fun hHeld => ?_)
            rw [HWS.out]
            clear hHeld hsd BEc
            (refine take_val (i := 0) (v := .pointer (some ⟨E, 2, none⟩)) rfl rfl (by kernel_rfl) (by kernel_rfl) (by kernel_rfl) (fun _ _ _ h => h) rfl (by intro wq hq; (try go_split_ands); go_simp; try with_reducible rfl) ((own_str3 hsS)) ?_; try simp only [List.setIfInBounds_toArray, List.set_cons_zero, List.set_cons_succ])
            (refine take_val (i := 2) (v := .slice Ad nd cd) rfl rfl (by kernel_rfl) (by kernel_rfl) (by kernel_rfl) (fun _ _ _ h => h) rfl (by intro wq hq; (try go_split_ands); go_simp; try with_reducible rfl) ((own_str3 hsS)) ?_; try simp only [List.setIfInBounds_toArray, List.set_cons_zero, List.set_cons_succ])
            (refine take_val (i := 3) (v := .slice (some ⟨sg, 0, none⟩) 3 c6) rfl rfl (by kernel_rfl) (by kernel_rfl) (by kernel_rfl) (fun _ _ _ h => h) rfl (by intro wq hq; (try go_split_ands); go_simp; try with_reducible rfl) ((own_str3 hsS)) ?_; try simp only [List.setIfInBounds_toArray, List.set_cons_zero, List.set_cons_succ])
            (refine take_val (i := 4) (v := .pointer (some ⟨sg, 0, none⟩)) rfl rfl (by kernel_rfl) (by kernel_rfl) (by kernel_rfl) (fun _ _ _ h => h) rfl (by intro wq hq; (try go_split_ands); go_simp; try with_reducible rfl) ((own_str3 hsS)) ?_; try simp only [List.setIfInBounds_toArray, List.set_cons_zero, List.set_cons_succ])
            (refine take_val (i := 5) (v := .string ⟨x0.toArray⟩) rfl rfl (by kernel_rfl) (by kernel_rfl) (by kernel_rfl) (fun _ _ _ h => h) rfl (by intro wq hq; (try go_split_ands); go_simp; (try with_reducible rfl); (try omega)) ((own_str3 hsS)) ?_; try simp only [List.setIfInBounds_toArray, List.set_cons_zero, List.set_cons_succ])
            (refine take_val (i := 7) (v := .slice (some ⟨sg, 0, none⟩) 3 c6) rfl rfl (by kernel_rfl) (by kernel_rfl) (by kernel_rfl) (fun _ _ _ h => h) rfl (by intro wq hq; (try go_split_ands); go_simp; try with_reducible rfl) ((own_str3 hsS)) ?_; try simp only [List.setIfInBounds_toArray, List.set_cons_zero, List.set_cons_succ])
            (refine take_val (i := 8) (v := .pointer (some ⟨sg, 1, none⟩)) rfl rfl (by kernel_rfl) (by kernel_rfl) (by kernel_rfl) (fun _ _ _ h => h) rfl (by intro wq hq; (try go_split_ands); go_simp; try with_reducible rfl) ((own_str3 hsS)) ?_; try simp only [List.setIfInBounds_toArray, List.set_cons_zero, List.set_cons_succ])
            (refine take_val (i := 9) (v := .string ⟨x1.toArray⟩) rfl rfl (by kernel_rfl) (by kernel_rfl) (by kernel_rfl) (fun _ _ _ h => h) rfl (by intro wq hq; (try go_split_ands); go_simp; (try with_reducible rfl); (try omega)) ((own_str3 hsS)) ?_; try simp only [List.setIfInBounds_toArray, List.set_cons_zero, List.set_cons_succ])
            (refine take_val (i := 11) (v := .slice (some ⟨sg, 0, none⟩) 3 c6) rfl rfl (by kernel_rfl) (by kernel_rfl) (by kernel_rfl) (fun _ _ _ h => h) rfl (by intro wq hq; (try go_split_ands); go_simp; try with_reducible rfl) ((own_str3 hsS)) ?_; try simp only [List.setIfInBounds_toArray, List.set_cons_zero, List.set_cons_succ])
            (refine take_val (i := 12) (v := .pointer (some ⟨sg, 2, none⟩)) rfl rfl (by kernel_rfl) (by kernel_rfl) (by kernel_rfl) (fun _ _ _ h => h) rfl (by intro wq hq; (try go_split_ands); go_simp; try with_reducible rfl) ((own_str3 hsS)) ?_; try simp only [List.setIfInBounds_toArray, List.set_cons_zero, List.set_cons_succ])
            (refine take_val (i := 13) (v := .string ⟨x2.toArray⟩) rfl rfl (by kernel_rfl) (by kernel_rfl) (by kernel_rfl) (fun _ _ _ h => h) rfl (by intro wq hq; (try go_split_ands); go_simp; (try with_reducible rfl); (try omega)) ((own_str3 hsS)) ?_; try simp only [List.setIfInBounds_toArray, List.set_cons_zero, List.set_cons_succ])
            refine wpAnyH_ready (rs := [1, 6]) (by kernel_rfl) (by simp) ?_
            refine AllReadyH.cons rfl (fun K hK => ?_) (AllReadyH.cons rfl (fun K hK => ?_) (AllReadyH.nil))
            · skip
              have cl1 : wS.cell? ⟨E, 2, none⟩ = some (.slice A2 j c2) := BES.cell 2
              go_simp
              (refine hK.out _ _ ((own_str3 hsS)) (fun _ => ?_); clear hK K; try simp only [Act.put, List.setIfInBounds_toArray, List.set_cons_zero, List.set_cons_succ])
              refine wpAnyH_ready (rs := [6]) (by kernel_rfl) (by simp) ?_
              refine AllReadyH.cons rfl (fun K hK => ?_) (AllReadyH.nil)
              go_simp
              refine (c_l6Set x0 _).mono ?_; rintro e W2 ⟨rfl, hc2⟩
              rw [HR0.out]
              have hk2 := hk15.trans hc2
              have B2 := BES.kept hc2
              have hs2 := own_keep hsS hc2
              (refine hK.out _ _ ((own_str3 hs2)) (fun _ => ?_); clear hK K; try simp only [Act.put, List.setIfInBounds_toArray, List.set_cons_zero, List.set_cons_succ])
              clear hc2
              refine wpAnyH_ready (rs := [10]) (by kernel_rfl) (by simp) ?_
              refine AllReadyH.cons rfl (fun K hK => ?_) (AllReadyH.nil)
              go_simp
              refine (c_l6Set x1 _).mono ?_; rintro e W3 ⟨rfl, hc3⟩
              rw [HR1.out]
              have hk3 := hk2.trans hc3
              have B3 := B2.kept hc3
              have hs3 := own_keep hs2 hc3
              (refine hK.out _ _ ((own_str3 hs3)) (fun _ => ?_); clear hK K; try simp only [Act.put, List.setIfInBounds_toArray, List.set_cons_zero, List.set_cons_succ])
              clear hc3
              refine wpAnyH_ready (rs := [14]) (by kernel_rfl) (by simp) ?_
              refine AllReadyH.cons rfl (fun K hK => ?_) (AllReadyH.nil)
              go_simp
              refine (c_l6Set x2 _).mono ?_; rintro e W4 ⟨rfl, hc4⟩
              rw [HR2.out]
              have hk4 := hk3.trans hc4
              have B4 := B3.kept hc4
              have hs4 := own_keep hs3 hc4
              (refine hK.out _ _ ((own_str3 hs4)) (fun _ => ?_); clear hK K; try simp only [Act.put, List.setIfInBounds_toArray, List.set_cons_zero, List.set_cons_succ])
              clear hc4
              (refine take_val (i := 15) (v := .agg #[.slice Ad nd cd, .int .i64 on, .int .i64 off, .int .i64 flip]) rfl rfl (by kernel_rfl) (by kernel_rfl) (by kernel_rfl) (fun _ _ _ h => h) rfl (by intro wq hq; (try go_split_ands); go_simp; try with_reducible rfl) ((own_str3 hs4)) ?_; try simp only [List.setIfInBounds_toArray, List.set_cons_zero, List.set_cons_succ])
              refine wpAnyH_ready (rs := [16]) (by kernel_rfl) (by simp) ?_
              refine AllReadyH.cons rfl (fun K hK => ?_) (AllReadyH.nil)
              go_simp
              have hl5 := (Kept.refl W4).alloc (.cells #[.slice Ad nd cd, .int .i64 on, .int .i64 off, .int .i64 flip] 72)
              have hk5 := hk4.trans hl5
              have B5 := B4.kept hl5
              have hs5 := own_keep hs4 hl5
              have BQ5 := Blk.new W4 72 #[.slice Ad nd cd, .int .i64 on, .int .i64 off, .int .i64 flip]
              (refine hK.out _ _ ((own_str3 hs5)) (fun _ => ?_); clear hK K; try simp only [Act.put, List.setIfInBounds_toArray, List.set_cons_zero, List.set_cons_succ])
              clear hl5
              have hxs6 := own_keep hxs hk5
              refine wpAnyH_ready (rs := [17]) (by kernel_rfl) (by simp) ?_
              refine AllReadyH.cons rfl (fun K hK => ?_) AllReadyH.nil
              have hz6 := (hkr15.trans hk5).size
              refine wp_append_own _ (.tmp 73) (.tmp 88) 24 rfl w2.heap.size 72 i0 (.agg #[.slice none 0 0, .int .i64 0, .int .i64 0, .int .i64 0]) 4 48 Tryd.underlying24 HI.out.1 HI.out.2.1 HI.out.2.2.1 HI.out.2.2.2 rfl (by decide) (.slice A2 j c2) j xs rfl hxs6 ⟨W4.heap.size, 0, none⟩ 1 1 [.slice Ad nd cd, .int .i64 on, .int .i64 off, .int .i64 flip] rfl rfl (list_new _ _ _) (by simp [Value.oneCell']) (by unfold maxLen; omega) (by omega) hz6 (fun v8 w8 hown8 hgrow _ => ?_)
              obtain ⟨A3, c3, rfl⟩ := own_form hown8
              have hBE8 := B5.grown hgrow (own_ne_blk hxs6 B5 (by decide))
              have hs8 := World.ownsRow.kept hs5 hgrow (own_apart hs5 hxs6 (by decide))
              refine hK.out _ _ (own_str3 hs8) (fun _ => ?_); clear hK K; try simp only [Act.put, List.setIfInBounds_toArray, List.set_cons_zero, List.set_cons_succ]
              (refine take_val (i := 18) (v := .pointer (some ⟨E, 2, none⟩)) rfl rfl (by kernel_rfl) (by kernel_rfl) (by kernel_rfl) (fun _ _ _ h => h) rfl (by intro wq hq; (try go_split_ands); go_simp; try with_reducible rfl) ((own_str3 hs8)) ?_; try simp only [List.setIfInBounds_toArray, List.set_cons_zero, List.set_cons_succ])
              have d8 := hBE8.cell 2
              have f8 := hBE8.frozen 2
              have hs9 := own_farT (by decide) hBE8 hs8 2 (.slice A3 (j + 1) c3)
              (refine wpAnyH_ready (rs := [19]) (by kernel_rfl) (by simp) ?_; refine AllReadyH.cons rfl (fun K hK => ?_) AllReadyH.nil; go_simp)
              refine hK.out _ _ (own_str3 hs9) (fun _ => ?_); clear hK K; try simp only [Act.put, List.setIfInBounds_toArray, List.set_cons_zero, List.set_cons_succ]
              refine wpAnyH_done (by kernel_rfl) ?_ _
              have hfin := FIN.out W4 w8 A3 c3 hk4 hown8 hgrow
              clear d8 f8 hs9 hs8 hBE8
              go_wp2_with fail
              exact ⟨hfin, by simp [intOf]; omega⟩
            · skip
              go_simp
              refine (c_l6Set x0 _).mono ?_; rintro e W7 ⟨rfl, hc7⟩
              rw [HR0.out]
              have hk7 := hk15.trans hc7
              have B7 := BES.kept hc7
              have hs7 := own_keep hsS hc7
              (refine hK.out _ _ ((own_str3 hs7)) (fun _ => ?_); clear hK K; try simp only [Act.put, List.setIfInBounds_toArray, List.set_cons_zero, List.set_cons_succ])
              clear hc7
              refine wpAnyH_ready (rs := [1, 10]) (by kernel_rfl) (by simp) ?_
              refine AllReadyH.cons rfl (fun K hK => ?_) (AllReadyH.cons rfl (fun K hK => ?_) (AllReadyH.nil))
              · skip
                have cl8 : W7.cell? ⟨E, 2, none⟩ = some (.slice A2 j c2) := B7.cell 2
                go_simp
                (refine hK.out _ _ ((own_str3 hs7)) (fun _ => ?_); clear hK K; try simp only [Act.put, List.setIfInBounds_toArray, List.set_cons_zero, List.set_cons_succ])
                refine wpAnyH_ready (rs := [10]) (by kernel_rfl) (by simp) ?_
                refine AllReadyH.cons rfl (fun K hK => ?_) (AllReadyH.nil)
                go_simp
                refine (c_l6Set x1 _).mono ?_; rintro e W9 ⟨rfl, hc9⟩
                rw [HR1.out]
                have hk9 := hk7.trans hc9
                have B9 := B7.kept hc9
                have hs9 := own_keep hs7 hc9
                (refine hK.out _ _ ((own_str3 hs9)) (fun _ => ?_); clear hK K; try simp only [Act.put, List.setIfInBounds_toArray, List.set_cons_zero, List.set_cons_succ])
                clear hc9
                refine wpAnyH_ready (rs := [14]) (by kernel_rfl) (by simp) ?_
                refine AllReadyH.cons rfl (fun K hK => ?_) (AllReadyH.nil)
                go_simp
                refine (c_l6Set x2 _).mono ?_; rintro e W10 ⟨rfl, hc10⟩
                rw [HR2.out]
                have hk10 := hk9.trans hc10
                have B10 := B9.kept hc10
                have hs10 := own_keep hs9 hc10
                (refine hK.out _ _ ((own_str3 hs10)) (fun _ => ?_); clear hK K; try simp only [Act.put, List.setIfInBounds_toArray, List.set_cons_zero, List.set_cons_succ])
                clear hc10
                (refine take_val (i := 15) (v := .agg #[.slice Ad nd cd, .int .i64 on, .int .i64 off, .int .i64 flip]) rfl rfl (by kernel_rfl) (by kernel_rfl) (by kernel_rfl) (fun _ _ _ h => h) rfl (by intro wq hq; (try go_split_ands); go_simp; try with_reducible rfl) ((own_str3 hs10)) ?_; try simp only [List.setIfInBounds_toArray, List.set_cons_zero, List.set_cons_succ])
                refine wpAnyH_ready (rs := [16]) (by kernel_rfl) (by simp) ?_
                refine AllReadyH.cons rfl (fun K hK => ?_) (AllReadyH.nil)
                go_simp
                have hl11 := (Kept.refl W10).alloc (.cells #[.slice Ad nd cd, .int .i64 on, .int .i64 off, .int .i64 flip] 72)
                have hk11 := hk10.trans hl11
                have B11 := B10.kept hl11
                have hs11 := own_keep hs10 hl11
                have BQ11 := Blk.new W10 72 #[.slice Ad nd cd, .int .i64 on, .int .i64 off, .int .i64 flip]
                (refine hK.out _ _ ((own_str3 hs11)) (fun _ => ?_); clear hK K; try simp only [Act.put, List.setIfInBounds_toArray, List.set_cons_zero, List.set_cons_succ])
                clear hl11
                have hxs12 := own_keep hxs hk11
                refine wpAnyH_ready (rs := [17]) (by kernel_rfl) (by simp) ?_
                refine AllReadyH.cons rfl (fun K hK => ?_) AllReadyH.nil
                have hz12 := (hkr15.trans hk11).size
                refine wp_append_own _ (.tmp 73) (.tmp 88) 24 rfl w2.heap.size 72 i0 (.agg #[.slice none 0 0, .int .i64 0, .int .i64 0, .int .i64 0]) 4 48 Tryd.underlying24 HI.out.1 HI.out.2.1 HI.out.2.2.1 HI.out.2.2.2 rfl (by decide) (.slice A2 j c2) j xs rfl hxs12 ⟨W10.heap.size, 0, none⟩ 1 1 [.slice Ad nd cd, .int .i64 on, .int .i64 off, .int .i64 flip] rfl rfl (list_new _ _ _) (by simp [Value.oneCell']) (by unfold maxLen; omega) (by omega) hz12 (fun v8 w8 hown8 hgrow _ => ?_)
                obtain ⟨A3, c3, rfl⟩ := own_form hown8
                have hBE8 := B11.grown hgrow (own_ne_blk hxs12 B11 (by decide))
                have hs8 := World.ownsRow.kept hs11 hgrow (own_apart hs11 hxs12 (by decide))
                refine hK.out _ _ (own_str3 hs8) (fun _ => ?_); clear hK K; try simp only [Act.put, List.setIfInBounds_toArray, List.set_cons_zero, List.set_cons_succ]
                (refine take_val (i := 18) (v := .pointer (some ⟨E, 2, none⟩)) rfl rfl (by kernel_rfl) (by kernel_rfl) (by kernel_rfl) (fun _ _ _ h => h) rfl (by intro wq hq; (try go_split_ands); go_simp; try with_reducible rfl) ((own_str3 hs8)) ?_; try simp only [List.setIfInBounds_toArray, List.set_cons_zero, List.set_cons_succ])
                have d8 := hBE8.cell 2
                have f8 := hBE8.frozen 2
                have hs9 := own_farT (by decide) hBE8 hs8 2 (.slice A3 (j + 1) c3)
                (refine wpAnyH_ready (rs := [19]) (by kernel_rfl) (by simp) ?_; refine AllReadyH.cons rfl (fun K hK => ?_) AllReadyH.nil; go_simp)
                refine hK.out _ _ (own_str3 hs9) (fun _ => ?_); clear hK K; try simp only [Act.put, List.setIfInBounds_toArray, List.set_cons_zero, List.set_cons_succ]
                refine wpAnyH_done (by kernel_rfl) ?_ _
                have hfin := FIN.out W10 w8 A3 c3 hk10 hown8 hgrow
                clear d8 f8 hs9 hs8 hBE8
                go_wp2_with fail
                exact ⟨hfin, by simp [intOf]; omega⟩
              · skip
                go_simp
                refine (c_l6Set x1 _).mono ?_; rintro e W13 ⟨rfl, hc13⟩
                rw [HR1.out]
                have hk13 := hk7.trans hc13
                have B13 := B7.kept hc13
                have hs13 := own_keep hs7 hc13
                (refine hK.out _ _ ((own_str3 hs13)) (fun _ => ?_); clear hK K; try simp only [Act.put, List.setIfInBounds_toArray, List.set_cons_zero, List.set_cons_succ])
                clear hc13
                refine wpAnyH_ready (rs := [1, 14]) (by kernel_rfl) (by simp) ?_
                refine AllReadyH.cons rfl (fun K hK => ?_) (AllReadyH.cons rfl (fun K hK => ?_) (AllReadyH.nil))
                · skip
                  have cl14 : W13.cell? ⟨E, 2, none⟩ = some (.slice A2 j c2) := B13.cell 2
                  go_simp
                  (refine hK.out _ _ ((own_str3 hs13)) (fun _ => ?_); clear hK K; try simp only [Act.put, List.setIfInBounds_toArray, List.set_cons_zero, List.set_cons_succ])
                  refine wpAnyH_ready (rs := [14]) (by kernel_rfl) (by simp) ?_
                  refine AllReadyH.cons rfl (fun K hK => ?_) (AllReadyH.nil)
                  go_simp
                  refine (c_l6Set x2 _).mono ?_; rintro e W15 ⟨rfl, hc15⟩
                  rw [HR2.out]
                  have hk15 := hk13.trans hc15
                  have B15 := B13.kept hc15
                  have hs15 := own_keep hs13 hc15
                  (refine hK.out _ _ ((own_str3 hs15)) (fun _ => ?_); clear hK K; try simp only [Act.put, List.setIfInBounds_toArray, List.set_cons_zero, List.set_cons_succ])
                  clear hc15
                  (refine take_val (i := 15) (v := .agg #[.slice Ad nd cd, .int .i64 on, .int .i64 off, .int .i64 flip]) rfl rfl (by kernel_rfl) (by kernel_rfl) (by kernel_rfl) (fun _ _ _ h => h) rfl (by intro wq hq; (try go_split_ands); go_simp; try with_reducible rfl) ((own_str3 hs15)) ?_; try simp only [List.setIfInBounds_toArray, List.set_cons_zero, List.set_cons_succ])
                  refine wpAnyH_ready (rs := [16]) (by kernel_rfl) (by simp) ?_
                  refine AllReadyH.cons rfl (fun K hK => ?_) (AllReadyH.nil)
                  go_simp
                  have hl16 := (Kept.refl W15).alloc (.cells #[.slice Ad nd cd, .int .i64 on, .int .i64 off, .int .i64 flip] 72)
                  have hk16 := hk15.trans hl16
                  have B16 := B15.kept hl16
                  have hs16 := own_keep hs15 hl16
                  have BQ16 := Blk.new W15 72 #[.slice Ad nd cd, .int .i64 on, .int .i64 off, .int .i64 flip]
                  (refine hK.out _ _ ((own_str3 hs16)) (fun _ => ?_); clear hK K; try simp only [Act.put, List.setIfInBounds_toArray, List.set_cons_zero, List.set_cons_succ])
                  clear hl16
                  have hxs17 := own_keep hxs hk16
                  refine wpAnyH_ready (rs := [17]) (by kernel_rfl) (by simp) ?_
                  refine AllReadyH.cons rfl (fun K hK => ?_) AllReadyH.nil
                  have hz17 := (hkr15.trans hk16).size
                  refine wp_append_own _ (.tmp 73) (.tmp 88) 24 rfl w2.heap.size 72 i0 (.agg #[.slice none 0 0, .int .i64 0, .int .i64 0, .int .i64 0]) 4 48 Tryd.underlying24 HI.out.1 HI.out.2.1 HI.out.2.2.1 HI.out.2.2.2 rfl (by decide) (.slice A2 j c2) j xs rfl hxs17 ⟨W15.heap.size, 0, none⟩ 1 1 [.slice Ad nd cd, .int .i64 on, .int .i64 off, .int .i64 flip] rfl rfl (list_new _ _ _) (by simp [Value.oneCell']) (by unfold maxLen; omega) (by omega) hz17 (fun v8 w8 hown8 hgrow _ => ?_)
                  obtain ⟨A3, c3, rfl⟩ := own_form hown8
                  have hBE8 := B16.grown hgrow (own_ne_blk hxs17 B16 (by decide))
                  have hs8 := World.ownsRow.kept hs16 hgrow (own_apart hs16 hxs17 (by decide))
                  refine hK.out _ _ (own_str3 hs8) (fun _ => ?_); clear hK K; try simp only [Act.put, List.setIfInBounds_toArray, List.set_cons_zero, List.set_cons_succ]
                  (refine take_val (i := 18) (v := .pointer (some ⟨E, 2, none⟩)) rfl rfl (by kernel_rfl) (by kernel_rfl) (by kernel_rfl) (fun _ _ _ h => h) rfl (by intro wq hq; (try go_split_ands); go_simp; try with_reducible rfl) ((own_str3 hs8)) ?_; try simp only [List.setIfInBounds_toArray, List.set_cons_zero, List.set_cons_succ])
                  have d8 := hBE8.cell 2
                  have f8 := hBE8.frozen 2
                  have hs9 := own_farT (by decide) hBE8 hs8 2 (.slice A3 (j + 1) c3)
                  (refine wpAnyH_ready (rs := [19]) (by kernel_rfl) (by simp) ?_; refine AllReadyH.cons rfl (fun K hK => ?_) AllReadyH.nil; go_simp)
                  refine hK.out _ _ (own_str3 hs9) (fun _ => ?_); clear hK K; try simp only [Act.put, List.setIfInBounds_toArray, List.set_cons_zero, List.set_cons_succ]
                  refine wpAnyH_done (by kernel_rfl) ?_ _
                  have hfin := FIN.out W15 w8 A3 c3 hk15 hown8 hgrow
                  clear d8 f8 hs9 hs8 hBE8
                  go_wp2_with fail
                  exact ⟨hfin, by simp [intOf]; omega⟩
                · skip
                  go_simp
                  refine (c_l6Set x2 _).mono ?_; rintro e W18 ⟨rfl, hc18⟩
                  rw [HR2.out]
                  have hk18 := hk13.trans hc18
                  have B18 := B13.kept hc18
                  have hs18 := own_keep hs13 hc18
                  (refine hK.out _ _ ((own_str3 hs18)) (fun _ => ?_); clear hK K; try simp only [Act.put, List.setIfInBounds_toArray, List.set_cons_zero, List.set_cons_succ])
                  clear hc18
                  (refine take_val (i := 15) (v := .agg #[.slice Ad nd cd, .int .i64 on, .int .i64 off, .int .i64 flip]) rfl rfl (by kernel_rfl) (by kernel_rfl) (by kernel_rfl) (fun _ _ _ h => h) rfl (by intro wq hq; (try go_split_ands); go_simp; try with_reducible rfl) ((own_str3 hs18)) ?_; try simp only [List.setIfInBounds_toArray, List.set_cons_zero, List.set_cons_succ])
                  refine wpAnyH_ready (rs := [1, 16]) (by kernel_rfl) (by simp) ?_
                  refine AllReadyH.cons rfl (fun K hK => ?_) (AllReadyH.cons rfl (fun K hK => ?_) (AllReadyH.nil))
                  · skip
                    have cl19 : W18.cell? ⟨E, 2, none⟩ = some (.slice A2 j c2) := B18.cell 2
                    go_simp
                    (refine hK.out _ _ ((own_str3 hs18)) (fun _ => ?_); clear hK K; try simp only [Act.put, List.setIfInBounds_toArray, List.set_cons_zero, List.set_cons_succ])
                    refine wpAnyH_ready (rs := [16]) (by kernel_rfl) (by simp) ?_
                    refine AllReadyH.cons rfl (fun K hK => ?_) (AllReadyH.nil)
                    go_simp
                    have hl20 := (Kept.refl W18).alloc (.cells #[.slice Ad nd cd, .int .i64 on, .int .i64 off, .int .i64 flip] 72)
                    have hk20 := hk18.trans hl20
                    have B20 := B18.kept hl20
                    have hs20 := own_keep hs18 hl20
                    have BQ20 := Blk.new W18 72 #[.slice Ad nd cd, .int .i64 on, .int .i64 off, .int .i64 flip]
                    (refine hK.out _ _ ((own_str3 hs20)) (fun _ => ?_); clear hK K; try simp only [Act.put, List.setIfInBounds_toArray, List.set_cons_zero, List.set_cons_succ])
                    clear hl20
                    have hxs21 := own_keep hxs hk20
                    refine wpAnyH_ready (rs := [17]) (by kernel_rfl) (by simp) ?_
                    refine AllReadyH.cons rfl (fun K hK => ?_) AllReadyH.nil
                    have hz21 := (hkr15.trans hk20).size
                    refine wp_append_own _ (.tmp 73) (.tmp 88) 24 rfl w2.heap.size 72 i0 (.agg #[.slice none 0 0, .int .i64 0, .int .i64 0, .int .i64 0]) 4 48 Tryd.underlying24 HI.out.1 HI.out.2.1 HI.out.2.2.1 HI.out.2.2.2 rfl (by decide) (.slice A2 j c2) j xs rfl hxs21 ⟨W18.heap.size, 0, none⟩ 1 1 [.slice Ad nd cd, .int .i64 on, .int .i64 off, .int .i64 flip] rfl rfl (list_new _ _ _) (by simp [Value.oneCell']) (by unfold maxLen; omega) (by omega) hz21 (fun v8 w8 hown8 hgrow _ => ?_)
                    obtain ⟨A3, c3, rfl⟩ := own_form hown8
                    have hBE8 := B20.grown hgrow (own_ne_blk hxs21 B20 (by decide))
                    have hs8 := World.ownsRow.kept hs20 hgrow (own_apart hs20 hxs21 (by decide))
                    refine hK.out _ _ (own_str3 hs8) (fun _ => ?_); clear hK K; try simp only [Act.put, List.setIfInBounds_toArray, List.set_cons_zero, List.set_cons_succ]
                    (refine take_val (i := 18) (v := .pointer (some ⟨E, 2, none⟩)) rfl rfl (by kernel_rfl) (by kernel_rfl) (by kernel_rfl) (fun _ _ _ h => h) rfl (by intro wq hq; (try go_split_ands); go_simp; try with_reducible rfl) ((own_str3 hs8)) ?_; try simp only [List.setIfInBounds_toArray, List.set_cons_zero, List.set_cons_succ])
                    have d8 := hBE8.cell 2
                    have f8 := hBE8.frozen 2
                    have hs9 := own_farT (by decide) hBE8 hs8 2 (.slice A3 (j + 1) c3)
                    (refine wpAnyH_ready (rs := [19]) (by kernel_rfl) (by simp) ?_; refine AllReadyH.cons rfl (fun K hK => ?_) AllReadyH.nil; go_simp)
                    refine hK.out _ _ (own_str3 hs9) (fun _ => ?_); clear hK K; try simp only [Act.put, List.setIfInBounds_toArray, List.set_cons_zero, List.set_cons_succ]
                    refine wpAnyH_done (by kernel_rfl) ?_ _
                    have hfin := FIN.out W18 w8 A3 c3 hk18 hown8 hgrow
                    clear d8 f8 hs9 hs8 hBE8
                    go_wp2_with fail
                    exact ⟨hfin, by simp [intOf]; omega⟩
                  · skip
                    go_simp
                    have hl22 := (Kept.refl W18).alloc (.cells #[.slice Ad nd cd, .int .i64 on, .int .i64 off, .int .i64 flip] 72)
                    have hk22 := hk18.trans hl22
                    have B22 := B18.kept hl22
                    have hs22 := own_keep hs18 hl22
                    have BQ22 := Blk.new W18 72 #[.slice Ad nd cd, .int .i64 on, .int .i64 off, .int .i64 flip]
                    (refine hK.out _ _ ((own_str3 hs22)) (fun _ => ?_); clear hK K; try simp only [Act.put, List.setIfInBounds_toArray, List.set_cons_zero, List.set_cons_succ])
                    clear hl22
                    refine wpAnyH_ready (rs := [1]) (by kernel_rfl) (by simp) ?_
                    refine AllReadyH.cons rfl (fun K hK => ?_) (AllReadyH.nil)
                    have cl23 : (W18.alloc (.cells #[.slice Ad nd cd, .int .i64 on, .int .i64 off, .int .i64 flip] 72)).cell? ⟨E, 2, none⟩ = some (.slice A2 j c2) := B22.cell 2
                    go_simp
                    (refine hK.out _ _ ((own_str3 hs22)) (fun _ => ?_); clear hK K; try simp only [Act.put, List.setIfInBounds_toArray, List.set_cons_zero, List.set_cons_succ])
                    have hxs24 := own_keep hxs hk22
                    refine wpAnyH_ready (rs := [17]) (by kernel_rfl) (by simp) ?_
                    refine AllReadyH.cons rfl (fun K hK => ?_) AllReadyH.nil
                    have hz24 := (hkr15.trans hk22).size
                    refine wp_append_own _ (.tmp 73) (.tmp 88) 24 rfl w2.heap.size 72 i0 (.agg #[.slice none 0 0, .int .i64 0, .int .i64 0, .int .i64 0]) 4 48 Tryd.underlying24 HI.out.1 HI.out.2.1 HI.out.2.2.1 HI.out.2.2.2 rfl (by decide) (.slice A2 j c2) j xs rfl hxs24 ⟨W18.heap.size, 0, none⟩ 1 1 [.slice Ad nd cd, .int .i64 on, .int .i64 off, .int .i64 flip] rfl rfl (list_new _ _ _) (by simp [Value.oneCell']) (by unfold maxLen; omega) (by omega) hz24 (fun v8 w8 hown8 hgrow _ => ?_)
                    obtain ⟨A3, c3, rfl⟩ := own_form hown8
                    have hBE8 := B22.grown hgrow (own_ne_blk hxs24 B22 (by decide))
                    have hs8 := World.ownsRow.kept hs22 hgrow (own_apart hs22 hxs24 (by decide))
                    refine hK.out _ _ (own_str3 hs8) (fun _ => ?_); clear hK K; try simp only [Act.put, List.setIfInBounds_toArray, List.set_cons_zero, List.set_cons_succ]
                    (refine take_val (i := 18) (v := .pointer (some ⟨E, 2, none⟩)) rfl rfl (by kernel_rfl) (by kernel_rfl) (by kernel_rfl) (fun _ _ _ h => h) rfl (by intro wq hq; (try go_split_ands); go_simp; try with_reducible rfl) ((own_str3 hs8)) ?_; try simp only [List.setIfInBounds_toArray, List.set_cons_zero, List.set_cons_succ])
                    have d8 := hBE8.cell 2
                    have f8 := hBE8.frozen 2
                    have hs9 := own_farT (by decide) hBE8 hs8 2 (.slice A3 (j + 1) c3)
                    (refine wpAnyH_ready (rs := [19]) (by kernel_rfl) (by simp) ?_; refine AllReadyH.cons rfl (fun K hK => ?_) AllReadyH.nil; go_simp)
                    refine hK.out _ _ (own_str3 hs9) (fun _ => ?_); clear hK K; try simp only [Act.put, List.setIfInBounds_toArray, List.set_cons_zero, List.set_cons_succ]
                    refine wpAnyH_done (by kernel_rfl) ?_ _
                    have hfin := FIN.out W18 w8 A3 c3 hk18 hown8 hgrow
                    clear d8 f8 hs9 hs8 hBE8
                    go_wp2_with fail
                    exact ⟨hfin, by simp [intOf]; omega⟩
          · have HN : Hid (∀ t, Sp.taskOk t = true → Sp.taskText t ≠ s) := fun t ht hs => by
              have h1 := congrArg List.length (HQQ.out t ht hs)
              rw [HKQ.out] at h1
              exact hKQ h1
            rw [HKQ.out]
            have hne : ((KQ : Int) == 3) = false := beq_eq_false_iff_ne.2 (by omega)
            have hne2 : ((KQ : Int) != 3) = true := by rw [bne, hne]; rfl
            have c0 := BR.cell
            have f0 := BR.frozen
            have hkF := ((hkW.setCell (p := ⟨w.heap.size, 0, none⟩) hle (.int .i64 0)).setCell (p := ⟨w.heap.size, 1, none⟩) hle (.slice none 0 0)).setCell (p := ⟨w.heap.size, 2, none⟩) hle (.slice none 0 0)
            have HKF := Lib.hid hkF
            clear hkF HC HC2 B0 hk0 hkr hka hkb hkR hwM
            go_wp2_with fail
            refine bodyPost_ret (v := .tuple #[.agg #[.int .i64 0, .slice none 0 0, .slice none 0 0], .bool false]) (by simp [results, Tryd.results33, go_sem, c0]) rfl ?_
            exact ⟨_, rfl, staskQ_no HN.out, HKF.out⟩
        · have HN : Hid (∀ t, Sp.taskOk t = true → Sp.taskText t ≠ s) := fun t ht hs => by
            have h1 := congrArg List.length (HPQ.out t ht hs)
            rw [HKP.out] at h1
            exact hKP h1
          have hne : ((KP : Int) == 2) = false := beq_eq_false_iff_ne.2 (by omega)
          have hne2 : ((KP : Int) != 2) = true := by rw [bne, hne]; rfl
          have c0 := BR.cell
          have f0 := BR.frozen
          have hkF := ((hkW.setCell (p := ⟨w.heap.size, 0, none⟩) hle (.int .i64 0)).setCell (p := ⟨w.heap.size, 1, none⟩) hle (.slice none 0 0)).setCell (p := ⟨w.heap.size, 2, none⟩) hle (.slice none 0 0)
          have HKF := Lib.hid hkF
          clear hkF HC HC2 B0 hk0 hkr hka hkb hkR hwM
          go_wp2_with fail
          refine bodyPost_ret (v := .tuple #[.agg #[.int .i64 0, .slice none 0 0, .slice none 0 0], .bool false]) (by simp [results, Tryd.results33, go_sem, c0]) rfl ?_
          exact ⟨_, rfl, staskQ_no HN.out, HKF.out⟩
      · obtain rfl : k = K := by omega
        have TV : TaskV wr (.agg #[.int .i64 y, .slice A n c, .slice A2 j c2]) ⟨y, l, ds⟩ :=
          ⟨A, n, c, A2, j, c2, rfl, own_ints2 (by omega) HGo.out (nine_in HQ.out.2.1), HDo.out.deeds (by have := Hkj.out; omega), by show Sp.inI y; unfold Sp.inI; omega⟩
        have c0E := BE.cell 0
        have c1E := BE.cell 1
        have c2E := BE.cell 2
        have HIS : Hid (∀ t, Sp.taskOk t = true → Sp.taskText t = s → (⟨y, l, ds⟩ : Sp.Task) = t) := fun t ht hs => by
          obtain ⟨e1, e2, e3, e4⟩ := HSo.out t ht hs
          have h1 := congrArg List.length e1
          have h2 := Hkj.out
          rw [HK.out] at h1
          simp only [List.length_cons, List.length_map] at h1
          rw [List.take_of_length_le (by omega)] at e4
          cases t
          simp only at e2 e3 e4
          rw [e2, e3, e4]
        obtain ⟨t, HTt⟩ : ∃ t : Sp.Task, Hid ((⟨y, l, ds⟩ : Sp.Task) = t) := ⟨_, rfl⟩
        rw [HTt.out] at TV HIS
        have BR := B0.kept hkr
        have hkW := hk0.trans hkr
        clear HSo hlt
        by_cases hs0 : s = []
        · have HN : Hid (∀ t, Sp.taskOk t = true → Sp.taskText t ≠ s) := fun t ht hs => taskText_ne ht (hs.trans hs0)
          have heq0 : (s == []) = true := beq_iff_eq.2 hs0
          have hem : s.isEmpty = true := by rw [hs0]; rfl
          clear hs0
          have c0 := BR.cell
          have f0 := BR.frozen
          have hkF := ((hkW.setCell (p := ⟨w.heap.size, 0, none⟩) hle (.int .i64 0)).setCell (p := ⟨w.heap.size, 1, none⟩) hle (.slice none 0 0)).setCell (p := ⟨w.heap.size, 2, none⟩) hle (.slice none 0 0)
          have HKF := Lib.hid hkF
          clear hkF HC HC2 B0 hk0 hkr BE HQ HDo HGo TV HIS
          go_wp2_with fail
          refine bodyPost_ret (v := .tuple #[.agg #[.int .i64 0, .slice none 0 0, .slice none 0 0], .bool false]) (by simp [results, Tryd.results33, go_sem, c0]) rfl ?_
          exact ⟨_, rfl, staskQ_no HN.out, HKF.out⟩
        · have heq0 : (s == []) = false := beq_eq_false_iff_ne.2 hs0
          have hem : s.isEmpty = false := by
            cases s with
            | nil => exact absurd rfl hs0
            | cons a b => rfl
          have HS0 := Lib.hid hs0
          go_wp2_with fail
          refine (c_sTaskText _ _ _ TV).mono ?_; rintro e w8 ⟨rfl, hk8⟩
          have BE8 := BE.kept hk8
          have hkr8 := hkr.trans hk8
          clear c0E c1E c2E
          obtain ⟨u, HU⟩ : ∃ u, Hid (Sp.taskText t = u) := ⟨_, rfl⟩
          rw [HU.out]
          by_cases hus : u = s
          · have HUS := Lib.hid hus
            have heq : (u == s) = true := beq_iff_eq.2 hus
            have BR := B0.kept hkr8
            have hkR := hk0.trans hkr8
            have c0E := BE8.cell 0
            have c1E := BE8.cell 1
            have c2E := BE8.cell 2
            have c0 := BR.cell
            have f0 := BR.frozen
            have HG8 := own_keep HGo.out hk8
            have HD8 := HDo.out.kept (RowsKept.of_kept hk8) hk8.size
            have b1 := BR.set_ 0 (.int .i64 y)
            have b2 := b1.set_ 1 (.slice A n c)
            have HGf := Lib.hid (own_farT (by decide) b2 (own_farT (by decide) b1 (own_farT (by decide) BR HG8 0 (.int .i64 y)) 1 (.slice A n c)) 2 (.slice A2 j c2))
            have krF := ((RowsKept.set (X := w2.heap.size) BR (by decide) (by decide) 0 (.int .i64 y)).trans (RowsKept.set b1 (by decide) (by decide) 1 (.slice A n c))).trans (RowsKept.set b2 (by decide) (by decide) 2 (.slice A2 j c2))
            have HDf := Lib.hid (HD8.kept krF (by simp))
            have HKF := Lib.hid (((hkR.setCell (p := ⟨w.heap.size, 0, none⟩) hle (.int .i64 y)).setCell (p := ⟨w.heap.size, 1, none⟩) hle (.slice A n c)).setCell (p := ⟨w.heap.size, 2, none⟩) hle (.slice A2 j c2))
            clear hus b1 b2 krF hkR BE8 BE hkr hkr8 hk8 TV HG8 HD8 hkW
            go_wp2_with fail
            refine bodyPost_ret (v := .tuple #[.agg #[.int .i64 y, .slice A n c, .slice A2 j c2], .bool true]) (by simp [results, Tryd.results33, go_sem, c0]) rfl ?_
            have hTt := HTt.out
            have hok : Sp.taskOk t = true := by
              cases h : Sp.taskOk t
              · have := HU.out
                rw [taskText_no h] at this
                exact absurd (HUS.out ▸ this).symm HS0.out
              · rfl
            refine ⟨_, rfl, ⟨t, true, _, rfl, ?_, (fun _ => ⟨hok, by rw [HU.out, HUS.out]⟩), (fun h => by cases h), fun t' h1 h2 => ⟨rfl, HIS.out t' h1 h2⟩⟩, HKF.out⟩
            rw [← hTt]
            exact ⟨A, n, c, A2, j, c2, rfl, own_ints2 (by omega) HGf.out (nine_in HQ.out.2.1), HDf.out.deeds (by have := Hkj.out; omega), by show Sp.inI y; unfold Sp.inI; omega⟩
          · have hne : (u == s) = false := beq_eq_false_iff_ne.2 hus
            have hne2 : (u != s) = true := by rw [bne, hne]; rfl
            have HN : Hid (∀ t', Sp.taskOk t' = true → Sp.taskText t' ≠ s) := fun t' ht' hs => by
              have := HIS.out t' ht' hs
              rw [← this, HU.out] at hs
              exact hus hs
            have BR := B0.kept hkr8
            have hkR := hk0.trans hkr8
            clear hus
            have c0 := BR.cell
            have f0 := BR.frozen
            have hkF := ((hkR.setCell (p := ⟨w.heap.size, 0, none⟩) hle (.int .i64 0)).setCell (p := ⟨w.heap.size, 1, none⟩) hle (.slice none 0 0)).setCell (p := ⟨w.heap.size, 2, none⟩) hle (.slice none 0 0)
            have HKF := Lib.hid hkF
            clear hkF HC HC2 B0 hk0 hkr8 hkr BE BE8 HQ HDo HGo TV HIS
            go_wp2_with fail
            refine bodyPost_ret (v := .tuple #[.agg #[.int .i64 0, .slice none 0 0, .slice none 0 0], .bool false]) (by simp [results, Tryd.results33, go_sem, c0]) rfl ?_
            exact ⟨_, rfl, staskQ_no HN.out, HKF.out⟩
  · have HN : Hid (∀ t, Sp.taskOk t = true → Sp.taskText t ≠ s) := fun t ht hs => by
      have h1 := congrArg List.length (HC2.out t ht hs)
      rw [HKH.out] at h1
      exact hKH h1
    have hne : ((KH : Int) == 2) = false := beq_eq_false_iff_ne.2 (by omega)
    have hne2 : ((KH : Int) != 2) = true := by rw [bne, hne]; rfl
    have c0 := B0.cell
    have f0 := B0.frozen
    have hkF := ((hk0.setCell (p := ⟨w.heap.size, 0, none⟩) hle (.int .i64 0)).setCell (p := ⟨w.heap.size, 1, none⟩) hle (.slice none 0 0)).setCell (p := ⟨w.heap.size, 2, none⟩) hle (.slice none 0 0)
    have HKF := Lib.hid hkF
    clear hkF HC HC2
    go_wp2_with fail
    refine bodyPost_ret (v := .tuple #[.agg #[.int .i64 0, .slice none 0 0, .slice none 0 0], .bool false]) (by simp [results, Tryd.results33, go_sem, c0]) rfl ?_
    exact ⟨_, rfl, staskQ_no HN.out, HKF.out⟩

end Go.Proofs.YtphdojebdclonaaDoor
