/- Joined texts. No condition. -/
import Derived.Test.YtphdojebdclonaaGreatDoorQ42
/- The program's readNumber and readPlan. No condition. -/
namespace Go.Proofs.YtphdojebdclonaaGreatDoor
set_option linter.unusedSimpArgs false
set_option linter.unusedVariables false
open Go.RowKit

theorem numV_no {m : Nat} {s : List UInt8} (h : Sp.numB m s = false) : Hid (Sp.numV m s = 0) ∧ Hid (Sp.numB m s = false) := ⟨(by show _ = _; unfold Sp.numV; rw [h]; rfl), h⟩
theorem numV_yes {m : Nat} {s : List UInt8} (h : Sp.numB m s = true) : Hid (Sp.numV m s = (Sp.numN s : Int)) ∧ Hid (Sp.numB m s = true) := ⟨(by show _ = _; unfold Sp.numV; rw [if_pos h]), h⟩

set_option maxHeartbeats 4000000 in
set_option maxRecDepth 100000 in
theorem c_readNumber (s : List UInt8) (d : Nat) (w : World) (hs : s.length ≤ 1048576) (hd : d ≤ 10) : Calls Tryz.prog 45 #[.string ⟨s.toArray⟩, .int .i64 (d : Int)] w (RetK (.tuple #[.int .i64 (Sp.numV d s), .bool (Sp.numB d s)]) w) := by
  by_cases he : s = []
  · subst he
    obtain ⟨HV, HB⟩ := numV_no (numB_len (m := d) (s := []) (by simp))
    go_enter Tryz.func45, Tryz.ntmps45
    go_wp2_with fail
    go_ret2
    exact ⟨by rw [HV.out, HB.out]; rfl, Kept.refl _⟩
  have hl1 : 1 ≤ s.length := List.length_pos_iff.2 he
  have hef : (s == []) = false := beq_eq_false_iff_ne.2 he
  by_cases hl2 : s.length ≤ d
  · have hli : ¬ (d : Int) < (s.length : Int) := by omega
    obtain ⟨q0, hq0⟩ : ∃ q : Nat, ((⟨s.toArray⟩ : ByteArray)[0]'(by simpa [ByteArray.size] using Nat.lt_of_lt_of_le Nat.zero_lt_one hl1)).toNat = q := ⟨_, rfl⟩
    have HQ0 : Hid ((s.headD 0).toNat = q0) := by
      show _ = _
      rw [← hq0]
      cases s with
      | nil => simp at hl1
      | cons a r => rfl
    by_cases hz : 1 < s.length ∧ q0 = 48
    · obtain ⟨HV, HB⟩ := numV_no (numB_zero (m := d) hz.1 (UInt8.toNat_inj.1 (by rw [HQ0.out, hz.2]; rfl)))
      obtain ⟨hz1, rfl⟩ := hz
      have h1i : (1 : Int) < (s.length : Int) := by omega
      clear he
      go_enter Tryz.func45, Tryz.ntmps45
      go_wp2_with fail
      go_ret2
      exact ⟨by rw [HV.out, HB.out]; rfl, Kept.refl _⟩
    · have HZ : Hid (1 < s.length → s.headD 0 ≠ 48) := fun h e => hz ⟨h, by rw [← HQ0.out, e]; rfl⟩
      by_cases hq : q0 = 48
      · have h1 : ¬ (1 : Int) < (s.length : Int) := fun h => hz ⟨by omega, hq⟩
        subst hq
        clear hz he
        go_enter Tryz.func45, Tryz.ntmps45
        go_wp2_with fail
        go_loopw [6, 7, 28] (fun a _ b wr => ∃ k : Nat, k ≤ s.length ∧ a = .int .i64 ((Sp.numN (s.take k) : Nat) : Int) ∧ b = .int .i64 (k : Int) ∧ Hid (Sp.digs s k) ∧ Kept w wr) (fun _ _ b _ => s.length - (intOf b).toNat)
        case atStart => exact ⟨0, Nat.zero_le _, rfl, rfl, (fun j hj => absurd hj (by omega)), Kept.refl _⟩
        case round =>
          obtain ⟨k, hk, rfl, rfl, HD, hkp⟩ := hrel
          by_cases hlt : k < s.length
          · obtain ⟨q, hq⟩ : ∃ q : Nat, ((⟨s.toArray⟩ : ByteArray)[k]'(by simpa [ByteArray.size] using hlt)).toNat = q := ⟨_, rfl⟩
            have hgt : s.getD k 0 = s[k] := by rw [List.getD_eq_getElem?_getD, List.getElem?_eq_getElem hlt]; rfl
            have HQ : Hid ((s.getD k 0).toNat = q) := by show _ = _; rw [hgt]; exact hq
            clear hgt
            obtain ⟨X, HX⟩ : ∃ X, Hid (Sp.numN (s.take k) = X) := ⟨_, rfl⟩
            have hXl : X < 10000000000 := by rw [← HX.out]; exact digs_lt HD.out (by omega)
            rw [HX.out]
            have hki : (k : Int) < (s.length : Int) := by omega
            by_cases ha : q < 48
            · obtain ⟨HV, HB⟩ := numV_no (numB_dig (m := d) hlt (digB_no (by rw [HQ.out]; omega)))
              have hai : (q : Int) < 48 := by omega
              clear ha
              go_wp2_with fail
              go_ret2
              exact ⟨by rw [HV.out, HB.out]; rfl, hkp⟩
            · by_cases hb : 57 < q
              · obtain ⟨HV, HB⟩ := numV_no (numB_dig (m := d) hlt (digB_no (by rw [HQ.out]; omega)))
                have hai : ¬ (q : Int) < 48 := by omega
                have hbi : (57 : Int) < (q : Int) := by omega
                clear ha hb
                go_wp2_with fail
                go_ret2
                exact ⟨by rw [HV.out, HB.out]; rfl, hkp⟩
              · have HD2 : Hid (Sp.digs s (k + 1)) := digs_succ HD.out (digB_yes (by rw [HQ.out]; omega))
                obtain ⟨r, HRr⟩ : ∃ r : Nat, Hid (q - 48 = r) := ⟨_, rfl⟩
                have HS : Hid (Sp.numN (s.take (k + 1)) = 10 * X + r) := by show _ = _; rw [numN_take hlt, HX.out, HQ.out, HRr.out]
                have hai : ¬ (q : Int) < 48 := by omega
                have hbi : ¬ (57 : Int) < (q : Int) := by omega
                have hr10 : r < 10 := by rw [← HRr.out]; omega
                have hw8 : IntKind.u8.wrap ((q : Int) - 48) = (r : Int) := by rw [← HRr.out]; simp [IntKind.wrap, IntKind.bits, IntKind.signed]; omega
                clear ha hb
                go_wp2_with fail
                exact ⟨⟨k + 1, by omega, by rw [HS.out]; go_num, by go_num, HD2, hkp⟩, by simp [intOf]; omega⟩
          · obtain rfl : k = s.length := by omega
            have HT : Hid (s.take s.length = s) := List.take_length
            obtain ⟨HV, HB⟩ := numV_yes (numB_ok (m := d) hl1 hl2 HZ.out HD.out)
            rw [HT.out]
            clear hlt
            go_wp2_with fail
            go_ret2
            exact ⟨by rw [HV.out, HB.out]; rfl, hkp⟩
      · have hqi : ¬ (q0 : Int) = 48 := by omega
        have hqf : ((q0 : Int) == 48) = false := beq_eq_false_iff_ne.2 hqi
        clear hz he hq
        go_enter Tryz.func45, Tryz.ntmps45
        go_wp2_with fail
        go_loopw [6, 7, 28] (fun a _ b wr => ∃ k : Nat, k ≤ s.length ∧ a = .int .i64 ((Sp.numN (s.take k) : Nat) : Int) ∧ b = .int .i64 (k : Int) ∧ Hid (Sp.digs s k) ∧ Kept w wr) (fun _ _ b _ => s.length - (intOf b).toNat)
        case atStart => exact ⟨0, Nat.zero_le _, rfl, rfl, (fun j hj => absurd hj (by omega)), Kept.refl _⟩
        case round =>
          obtain ⟨k, hk, rfl, rfl, HD, hkp⟩ := hrel
          by_cases hlt : k < s.length
          · obtain ⟨q, hq⟩ : ∃ q : Nat, ((⟨s.toArray⟩ : ByteArray)[k]'(by simpa [ByteArray.size] using hlt)).toNat = q := ⟨_, rfl⟩
            have hgt : s.getD k 0 = s[k] := by rw [List.getD_eq_getElem?_getD, List.getElem?_eq_getElem hlt]; rfl
            have HQ : Hid ((s.getD k 0).toNat = q) := by show _ = _; rw [hgt]; exact hq
            clear hgt
            obtain ⟨X, HX⟩ : ∃ X, Hid (Sp.numN (s.take k) = X) := ⟨_, rfl⟩
            have hXl : X < 10000000000 := by rw [← HX.out]; exact digs_lt HD.out (by omega)
            rw [HX.out]
            have hki : (k : Int) < (s.length : Int) := by omega
            by_cases ha : q < 48
            · obtain ⟨HV, HB⟩ := numV_no (numB_dig (m := d) hlt (digB_no (by rw [HQ.out]; omega)))
              have hai : (q : Int) < 48 := by omega
              clear ha
              go_wp2_with fail
              go_ret2
              exact ⟨by rw [HV.out, HB.out]; rfl, hkp⟩
            · by_cases hb : 57 < q
              · obtain ⟨HV, HB⟩ := numV_no (numB_dig (m := d) hlt (digB_no (by rw [HQ.out]; omega)))
                have hai : ¬ (q : Int) < 48 := by omega
                have hbi : (57 : Int) < (q : Int) := by omega
                clear ha hb
                go_wp2_with fail
                go_ret2
                exact ⟨by rw [HV.out, HB.out]; rfl, hkp⟩
              · have HD2 : Hid (Sp.digs s (k + 1)) := digs_succ HD.out (digB_yes (by rw [HQ.out]; omega))
                obtain ⟨r, HRr⟩ : ∃ r : Nat, Hid (q - 48 = r) := ⟨_, rfl⟩
                have HS : Hid (Sp.numN (s.take (k + 1)) = 10 * X + r) := by show _ = _; rw [numN_take hlt, HX.out, HQ.out, HRr.out]
                have hai : ¬ (q : Int) < 48 := by omega
                have hbi : ¬ (57 : Int) < (q : Int) := by omega
                have hr10 : r < 10 := by rw [← HRr.out]; omega
                have hw8 : IntKind.u8.wrap ((q : Int) - 48) = (r : Int) := by rw [← HRr.out]; simp [IntKind.wrap, IntKind.bits, IntKind.signed]; omega
                clear ha hb
                go_wp2_with fail
                exact ⟨⟨k + 1, by omega, by rw [HS.out]; go_num, by go_num, HD2, hkp⟩, by simp [intOf]; omega⟩
          · obtain rfl : k = s.length := by omega
            have HT : Hid (s.take s.length = s) := List.take_length
            obtain ⟨HV, HB⟩ := numV_yes (numB_ok (m := d) hl1 hl2 HZ.out HD.out)
            rw [HT.out]
            clear hlt
            go_wp2_with fail
            go_ret2
            exact ⟨by rw [HV.out, HB.out]; rfl, hkp⟩
  · obtain ⟨HV, HB⟩ := numV_no (numB_len (m := d) (s := s) (by omega))
    have hli : (d : Int) < (s.length : Int) := by omega
    clear hl2 he
    go_enter Tryz.func45, Tryz.ntmps45
    go_wp2_with fail
    go_ret2
    exact ⟨by rw [HV.out, HB.out]; rfl, Kept.refl _⟩

theorem numV_bd (m : Nat) (s : List UInt8) (hm : m ≤ 10) : 0 ≤ Sp.numV m s ∧ Sp.numV m s < 10000000000 := by
  unfold Sp.numV
  split
  · rename_i h
    obtain ⟨h1, h2, h3, h4⟩ := numB_parts h
    have h5 := numN_lt h4
    have h6 : 10 ^ s.length ≤ 10 ^ 10 := Nat.pow_le_pow_right (by omega) (by omega)
    omega
  · omega
theorem ints_nil (w : World) : Ints w none 0 [] := own_ints2 (X := 0) (c := 0) (by omega) (World.ownsRow_nil _ _ _ _) (fun x hx => by cases hx)
/-- what a reading of a plan gives -/
def RPlanQ (r : List UInt8) (more : Bool) (v : Value) (w' : World) : Prop :=
  ∃ (A : Option Addr) (n c : Nat) (l : List Int) (b : Bool), v = .tuple #[.slice A n c, .bool b] ∧ Ints w' A n l ∧
    Hid ((more = false → b = true ∧ l = []) ∧ (more = true → b = Sp.planRead (Sp.cutB 32 r) ∧ (b = true → l = (Sp.cutB 32 r).map (Sp.numV 2))))
theorem rplanQ_no {r : List UInt8} {w : World} (h : Sp.planRead (Sp.cutB 32 r) = false) : RPlanQ r true (.tuple #[.slice none 0 0, .bool false]) w :=
  ⟨none, 0, 0, [], false, rfl, ints_nil w, ⟨fun h => (by cases h), fun _ => ⟨h.symm, fun h => by cases h⟩⟩⟩
theorem planRead_big {l : List (List UInt8)} (h : ¬ l.length ≤ 40) : Sp.planRead l = false := by unfold Sp.planRead; rw [decide_eq_false h]; rfl
theorem planRead_bad {l : List (List UInt8)} {k : Nat} (hk : k < l.length) (h : Sp.numB 2 (l.getD k []) = false) : Sp.planRead l = false := by
  unfold Sp.planRead
  have : l.all (Sp.numB 2) = false := by
    cases ha : l.all (Sp.numB 2) with
    | false => rfl
    | true =>
      have := List.all_eq_true.1 ha _ (List.getElem_mem hk)
      rw [List.getD_eq_getElem?_getD, List.getElem?_eq_getElem hk] at h
      simp only [Option.getD_some] at h
      rw [h] at this; cases this
  rw [this, Bool.and_false]
theorem planRead_good {l : List (List UInt8)} (h1 : l.length ≤ 40) (h : ∀ j, j < l.length → Sp.numB 2 (l.getD j []) = true) : Sp.planRead l = true := by
  unfold Sp.planRead
  rw [decide_eq_true h1, Bool.true_and]
  refine List.all_eq_true.2 (fun x hx => ?_)
  obtain ⟨j, hj, rfl⟩ := List.getElem_of_mem hx
  have := h j hj
  rw [List.getD_eq_getElem?_getD, List.getElem?_eq_getElem hj] at this
  exact this
theorem map_snoc (l : List (List UInt8)) (f : List UInt8 → Int) {k : Nat} (h : k < l.length) : (l.take (k + 1)).map f = (l.take k).map f ++ [f (l.getD k [])] := by
  rw [List.take_succ_eq_append_getElem h, List.map_append, List.getD_eq_getElem?_getD, List.getElem?_eq_getElem h]; rfl

set_option maxHeartbeats 4000000 in
set_option maxRecDepth 100000 in
theorem c_readPlan (s : List UInt8) (more : Bool) (m : Int) (w : World) (hs20 : s.length ≤ 1048576) (hm0 : w.cell? ⟨1, 0, none⟩ = some (.int .i64 m)) :
    Calls Tryz.prog 43 #[.string ⟨s.toArray⟩, .bool more] w (RetS (RPlanQ s more) w) := by
  obtain ⟨i0, hi0, hz0, hz1, hz2⟩ := info_parts info_int
  have HI := Lib.hid (And.intro hi0 (And.intro hz0 (And.intro hz1 hz2)))
  clear hi0 hz0 hz1 hz2
  cases more
  · go_enter Tryz.func43, Tryz.ntmps43
    go_wp2_with fail
    go_ret2
    exact ⟨_, rfl, ⟨none, 0, 0, [], true, rfl, ints_nil w, ⟨fun _ => ⟨rfl, rfl⟩, fun h => by cases h⟩⟩, Kept.refl _⟩
  go_enter Tryz.func43, Tryz.ntmps43
  go_wp2_with fail
  refine (c_Split s 32 m _ hs20 hm0).mono ?_; rintro e w2 ⟨v, rfl, ⟨AL, cL, rfl, hcL, hT⟩, hk2⟩
  have HP := Lib.hid (cutB_part 32 s)
  obtain ⟨L, HL⟩ : ∃ L, Hid (Sp.cutB 32 s = L) := ⟨_, rfl⟩
  rw [HL.out] at hT hcL HP
  rw [HL.out]
  by_cases hbig : L.length ≤ 40
  · obtain ⟨n, HN⟩ : ∃ n, Hid (L.length = n) := ⟨_, rfl⟩
    rw [HN.out] at hT hcL hbig
    rw [HN.out]
    have hbi : ¬ (40 : Int) < (n : Int) := by omega
    have HT := Lib.hid hT
    have hsz := hk2.size
    clear hT hcL
    go_wp2_with fail
    go_loopw [7, 9, 10, 11, 21] (fun p _ _ _ i wr => ∃ k : Nat, k ≤ n ∧ i = .int .i64 (k : Int) ∧ wr.ownsRow w2.heap.size 3 1 p k (((L.take k).map (Sp.numV 2)).map (Value.int .i64)) ∧ Kept w2 wr ∧ Hid (∀ j, j < k → Sp.numB 2 (L.getD j []) = true)) (fun _ _ _ _ i _ => n - (intOf i).toNat)
    case atStart => exact ⟨0, Nat.zero_le _, rfl, World.ownsRow_nil _ _ _ _, Kept.refl _, fun j hj => absurd hj (by omega)⟩
    case round =>
      obtain ⟨k, hk, rfl, hown, hkr, HB⟩ := hrel
      obtain ⟨A, c, rfl⟩ := own_form hown
      by_cases hkn : k < n
      · obtain ⟨tb, toff, rfl, htb, htc⟩ := (HT.out.keep hkr).at_ hkn
        have hxl := HP.out k
        obtain ⟨x, HX⟩ : ∃ x, Hid (L.getD k [] = x) := ⟨_, rfl⟩
        rw [HX.out] at htc hxl
        have hki : (k : Int) < (n : Int) := by omega
        go_wp2_with fail
        refine (c_readNumber x 2 _ (by omega) (by omega)).mono ?_; rintro e w3 ⟨rfl, hk3⟩
        have HMS : Hid ((L.take (k + 1)).map (Sp.numV 2) = (L.take k).map (Sp.numV 2) ++ [Sp.numV 2 x]) := by show _ = _; rw [map_snoc L _ (by rw [HN.out]; exact hkn), HX.out]
        have hkp := hkr.trans hk3
        have hsz3 := hkp.size
        replace hown := own_keep hown hk3
        obtain ⟨y, HY⟩ : ∃ y, Hid (Sp.numV 2 x = y) := ⟨_, rfl⟩
        rw [HY.out] at HMS
        rw [HY.out]
        cases hb : Sp.numB 2 x
        · have HN2 := Lib.hid (planRead_bad (l := L) (k := k) (by rw [HN.out]; exact hkn) (by rw [HX.out]; exact hb))
          clear hb
          go_wp2_with fail
          go_ret2
          exact ⟨_, rfl, by rw [← HL.out] at HN2; exact rplanQ_no HN2.out, hk2.trans hkp⟩
        · have HB2 : Hid (∀ j, j < k + 1 → Sp.numB 2 (L.getD j []) = true) := fun j hj => by
            by_cases e : j = k
            · subst e; rw [HX.out]; exact hb
            · exact HB.out j (by omega)
          clear hb
          go_wp2_with (first | (at_builtin; refine wpList_append_own _ rfl (.tmp 32) (.tmp 34) 23 rfl (w2.heap.size) 3 i0 (.int .i64 0) 1 8 Tryz.underlying23 HI.out.1 HI.out.2.1 HI.out.2.2.1 HI.out.2.2.2 rfl (by decide) (.slice A k c) k _ rfl (hown.alloc _) ⟨w3.heap.size, 0, none⟩ 1 1 [.int .i64 (y)] rfl rfl (one_new _ _ _) (by simp [Value.oneCell']) (by unfold maxLen; omega) (by omega) (by simp; omega) ?_; intro v' wapp hown2 hg2 _))
          have hk4 : Kept w2 wapp := (hkp.alloc _).grown hg2 (fun k e => (World.ownsRow.lt hown k e).1)
          go_wp2_with fail
          exact ⟨⟨k + 1, by omega, by go_num, by rw [HMS.out]; simpa using hown2, hk4, HB2⟩, by simp [intOf]; omega⟩
      · obtain rfl : k = n := by omega
        have HG := Lib.hid (planRead_good (l := L) (by rw [HN.out]; exact hbig) (by rw [HN.out]; exact HB.out))
        have hTk : L.take k = L := by rw [← HN.out]; exact List.take_length
        rw [hTk] at hown
        clear hTk
        have HO := Lib.hid hown
        clear hown hkn
        go_wp2_with fail
        go_ret2
        refine ⟨_, rfl, ⟨A, k, c, L.map (Sp.numV 2), true, rfl, ?_, ⟨fun h => (by cases h), fun _ => ⟨by rw [HL.out, HG.out], fun _ => by rw [HL.out]⟩⟩⟩, hk2.trans hkr⟩
        exact own_ints2 (by omega) HO.out (fun x hx => by obtain ⟨p, _, rfl⟩ := List.mem_map.1 hx; have := numV_bd 2 p (by omega); unfold Sp.inI; omega)
  · have HN := Lib.hid (planRead_big hbig)
    obtain ⟨K, HK⟩ : ∃ K, Hid (L.length = K) := ⟨_, rfl⟩
    rw [HK.out] at hbig
    rw [HK.out]
    have hbi : (40 : Int) < (K : Int) := by omega
    clear hbig
    go_wp2_with fail
    go_ret2
    exact ⟨_, rfl, by rw [← HL.out] at HN; exact rplanQ_no HN.out, hk2⟩

end Go.Proofs.YtphdojebdclonaaGreatDoor
