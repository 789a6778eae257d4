/- The text of a task: plain, and the program's. The text of a task: the reference's. No sign of a canonical part is one that parts. Plain. No condition. -/
import Derived.Test.YtphdojebdclonaaDoorT4
import Derived.Test.YtphdojebdclonaaDoorT6
import Derived.Test.YtphdojebdclonaaDoorT9
import Derived.Test.YtphdojebdclonaaDoorT10
namespace Go.Proofs.YtphdojebdclonaaDoor
set_option linter.unusedSimpArgs false
set_option linter.unusedVariables false
open Go.RowKit

def Sp.deedTail (d : Sp.Deed) : List UInt8 := 59 :: (Sp.codeText d.need ++ 58 :: (Sp.letters d.on ++ 44 :: (Sp.letters d.off ++ 44 :: Sp.letters d.flip)))
def Sp.textUp (t : Sp.Task) (k : Nat) : List UInt8 := Sp.letters t.start ++ 62 :: (Sp.codeText t.goal ++ (t.deeds.take k).flatMap Sp.deedTail)
def Sp.taskText (t : Sp.Task) : List UInt8 := if Sp.taskOk t = true then Sp.textUp t t.deeds.length else []
theorem letters_len (x : Int) : (Sp.letters x).length ≤ 5 := by
  unfold Sp.letters
  split
  · simp
  · exact lets_len _ 5
theorem deedTail_len (d : Sp.Deed) : (Sp.deedTail d).length ≤ 140 := by
  have h1 := codeText_len d.need
  have h2 := letters_len d.on
  have h3 := letters_len d.off
  have h4 := letters_len d.flip
  unfold Sp.deedTail
  simp only [List.length_cons, List.length_append]
  omega
theorem flat_len (l : List Sp.Deed) : (l.flatMap Sp.deedTail).length ≤ 140 * l.length := by
  induction l with
  | nil => simp
  | cons d l ih =>
    have := deedTail_len d
    simp only [List.flatMap_cons, List.length_append, List.length_cons]
    omega
theorem textUp_len (t : Sp.Task) (k : Nat) : (Sp.textUp t k).length ≤ 126 + 140 * k := by
  have h1 := codeText_len t.goal
  have h2 := letters_len t.start
  have h3 := flat_len (t.deeds.take k)
  have h4 : (t.deeds.take k).length ≤ k := by rw [List.length_take]; omega
  unfold Sp.textUp
  simp only [List.length_cons, List.length_append]
  omega
theorem textUp_zero (t : Sp.Task) : Sp.textUp t 0 = Sp.letters t.start ++ [62] ++ Sp.codeText t.goal := by simp [Sp.textUp]
theorem textUp_succ (t : Sp.Task) (k : Nat) (h : k < t.deeds.length) : Sp.textUp t (k + 1) = Sp.textUp t k ++ Sp.deedTail (t.deeds.getD k default) := by
  unfold Sp.textUp
  rw [List.take_succ_eq_append_getElem h, List.flatMap_append]
  simp [List.getElem?_eq_getElem h]
theorem textUp_ne (t : Sp.Task) (k : Nat) : Sp.textUp t k ≠ [] := by unfold Sp.textUp; simp
theorem taskText_no {t : Sp.Task} (h : Sp.taskOk t = false) : Sp.taskText t = [] := by unfold Sp.taskText; rw [if_neg (by rw [h]; decide)]
theorem taskText_yes {t : Sp.Task} (h : Sp.taskOk t = true) : Sp.taskText t = Sp.textUp t t.deeds.length := by unfold Sp.taskText; rw [if_pos h]

theorem Kept.beside {W0 wr w' : World} {b : Nat} (h : Kept W0 wr) (hb : Beside W0.heap.size b wr w') : Kept W0 w' := Below.trans h hb.1
theorem c_WriteB (B b : Nat) (l : List UInt8) (u : UInt8) (x : Int) (hx : x = (u.toNat : Int)) (w : World) (h : Bld w B b l) (hlen : l.length + 1 ≤ 1048576) (hBw : B ≤ w.heap.size) :
    Calls Tryd.prog 72 #[.pointer (some ⟨b, 0, none⟩), .int .u8 x] w (fun e w' => e = .returned .nilIface ∧ Bld w' B b (l ++ [u]) ∧ Beside B b w w') := by
  subst hx
  exact (c_WriteByte B b l u w h hlen hBw).mono fun _ _ h => ⟨h.1, .inr h.2.1, h.2.2⟩
theorem c_WriteS (B b : Nat) (l m : List UInt8) (w : World) (h : Bld w B b l) (hlen : l.length + m.length ≤ 1048576) (hBw : B ≤ w.heap.size) :
    Calls Tryd.prog 70 #[.pointer (some ⟨b, 0, none⟩), .string ⟨m.toArray⟩] w (fun e w' => e = .returned (.tuple #[.int .i64 (m.length : Nat), .nilIface]) ∧ Bld w' B b (l ++ m) ∧ Beside B b w w') :=
  (c_WriteString B b l m w h hlen hBw).mono fun _ _ h => ⟨h.1, .inr h.2.1, h.2.2⟩

set_option maxHeartbeats 4000000 in
set_option maxRecDepth 100000 in
theorem c_iTaskText (v : Value) (t : Sp.Task) (w : World) (h : TaskV w v t) : Calls Tryd.prog 28 #[v] w (RetK (.string ⟨(Sp.taskText t).toArray⟩) w) := by
  obtain ⟨A, n, c, A', n', c', rfl⟩ := h.form
  have hk0 := (Kept.refl w).alloc (.cells #[.int .i64 t.start, .slice A n c, .slice A' n' c'] 26)
  have B0 := Blk.new w 26 #[.int .i64 t.start, .slice A n c, .slice A' n' c']
  have hT := h.keep hk0
  go_enter Tryd.func28, Tryd.ntmps28
  go_wp2_with fail
  refine (c_iTaskValid _ t _ hT).mono ?_; rintro e w2 ⟨rfl, hk2⟩
  replace hk0 := hk0.trans hk2
  replace B0 := B0.kept hk2
  replace hT := hT.keep hk2
  clear hk2 h
  have c0 := B0.cell
  cases ht : Sp.taskOk t
  · have HE := Lib.hid (taskText_no ht)
    clear ht
    go_wp2_with fail
    go_ret
    exact ⟨by rw [HE.out]; rfl, hk0⟩
  have HK := Lib.hid ht
  have HE := Lib.hid (taskText_yes ht)
  obtain ⟨hs0, hs1⟩ := Sp.taskOk_start ht
  have hn6 := Sp.taskOk_len ht
  clear ht
  obtain ⟨_, _, _, _, _, _, e, hI, hD, _⟩ := hT
  injection e with e
  simp only [Array.mk.injEq, List.cons.injEq, Value.slice.injEq, and_true] at e
  obtain ⟨_, ⟨rfl, rfl, rfl⟩, ⟨rfl, rfl, rfl⟩⟩ := e
  have HL := Lib.hid hD.len
  rw [hD.len] at hn6 HE
  -- the builder
  have hB1 : Bld (w2.alloc (.cells #[.pointer none, .slice none 0 0] 100)) w2.heap.size w2.heap.size [] := Lib.fresh_isBuilder _ _ w2
  have hk1 := (Kept.refl w2).alloc (.cells #[.pointer none, .slice none 0 0] 100)
  obtain ⟨w3, HW3⟩ : ∃ x, Hid (w2.alloc (.cells #[.pointer none, .slice none 0 0] 100) = x) := ⟨_, rfl⟩
  rw [HW3.out] at hB1 hk1
  have HS : Hid (∀ w', Kept w2 w' → (w'.cell? ⟨w.heap.size, 0, none⟩ = some (.int .i64 t.start) ∧ w'.cell? ⟨w.heap.size, 1, none⟩ = some (.slice A n c) ∧ w'.cell? ⟨w.heap.size, 2, none⟩ = some (.slice A' n' c'))) :=
    fun w' hk => ⟨(B0.kept hk).cell 0, (B0.kept hk).cell 1, (B0.kept hk).cell 2⟩
  clear c0
  go_upto_region 4 with fail
  rw [HW3.out]
  obtain ⟨a0, a1, a2⟩ := HS.out _ hk1
  go_wp2_with fail
  clear a0 a1 a2
  refine (c_iLetters t.start _ hs0 hs1).mono ?_; rintro e w4 ⟨rfl, hk4⟩
  have hl1 := letters_len t.start
  have hl2 := codeText_len t.goal
  have H0 := Lib.hid (textUp_zero t)
  replace hB1 := hB1.keep hk4
  replace hk1 := hk1.trans hk4
  go_wp2_with fail
  refine (c_WriteS _ _ [] (Sp.letters t.start) _ hB1 (by simp; omega) hk1.size).mono ?_; rintro e w5 ⟨rfl, hB2, hs2⟩
  have hk5 := hk1.beside hs2
  rw [List.nil_append] at hB2
  go_wp2_with fail
  refine (c_WriteB _ _ (Sp.letters t.start) 62 62 rfl _ hB2 (by omega) hk5.size).mono ?_; rintro e w6 ⟨rfl, hB3, hs3⟩
  have hk6 := hk5.beside hs3
  obtain ⟨a0, a1, a2⟩ := HS.out _ hk6
  go_wp2_with fail
  clear a0 a1 a2
  refine (c_iCodeText A n c t.goal _ (hI.keep hk6)).mono ?_; rintro e w7 ⟨rfl, hk7⟩
  replace hB3 := hB3.keep hk7
  replace hk7 := hk6.trans hk7
  go_wp2_with fail
  refine (c_WriteS _ _ (Sp.letters t.start ++ [62]) (Sp.codeText t.goal) _ hB3 (by simp; omega) hk7.size).mono ?_; rintro e w8 ⟨rfl, hB4, hs4⟩
  have hk8 := hk7.beside hs4
  rw [← H0.out] at hB4
  clear hB1 hB2 hB3 hk1 hk4 hk5 hk6 hk7 hs2 hs3 hs4 H0
  obtain ⟨a0, a1, a2⟩ := HS.out _ hk8
  go_wp2_with fail
  clear a0 a1 a2
  go_loopw [5, 21] (fun _ i wr => ∃ k : Nat, k ≤ n' ∧ i = .int .i64 k ∧ Bld wr w2.heap.size w2.heap.size (Sp.textUp t k) ∧ Kept w2 wr) (fun _ i _ => n' - (intOf i).toNat)
  case atStart => exact ⟨0, Nat.zero_le _, rfl, hB4, hk8⟩
  case round =>
    clear hB4 hk8
    obtain ⟨k, hk, rfl, hB, hkr⟩ := hrel
    by_cases hlt : k < n'
    · have hlk := textUp_len t k
      have HT1 := Lib.hid (textUp_succ t k (by rw [HL.out]; exact hlt))
      have HDo := Lib.hid (Sp.taskOk_deed HK.out (k := k) (by rw [HL.out]; exact hlt))
      obtain ⟨b, off, rfl, hb, hc⟩ := hD.at hlt
      generalize t.deeds.getD k default = d at *
      obtain ⟨A2, n2, c2, hc0, hN, hc1, hc2, hc3, _⟩ := hc
      replace hc0 := hkr.at_ hc0
      replace hc1 := hkr.at_ hc1
      replace hc2 := hkr.at_ hc2
      replace hc3 := hkr.at_ hc3
      obtain ⟨o0, o1⟩ := deedOk_on HDo.out
      obtain ⟨f0, f1⟩ := deedOk_off HDo.out
      obtain ⟨p0, p1⟩ := deedOk_flip HDo.out
      have l1 := codeText_len d.need
      have l2 := letters_len d.on
      have l3 := letters_len d.off
      have l4 := letters_len d.flip
      have hkb := (Kept.refl wr).alloc (.cells #[.slice A2 n2 c2, .int .i64 d.on, .int .i64 d.off, .int .i64 d.flip] 72)
      have BX := Blk.new wr 72 #[.slice A2 n2 c2, .int .i64 d.on, .int .i64 d.off, .int .i64 d.flip]
      have hX : wr.heap.size ≠ w2.heap.size := fun e => by have := hB.lt; omega
      obtain ⟨X, HX⟩ : ∃ x, Hid (wr.heap.size = x) := ⟨_, rfl⟩
      obtain ⟨wa, HWa⟩ : ∃ x, Hid (wr.alloc (.cells #[.slice A2 n2 c2, .int .i64 d.on, .int .i64 d.off, .int .i64 d.flip] 72) = x) := ⟨_, rfl⟩
      rw [HX.out, HWa.out] at BX
      rw [HX.out] at hX
      rw [HWa.out] at hkb
      replace hB := hB.keep hkb
      replace hkr := hkr.trans hkb
      go_upto_region 10 with fail
      rw [HX.out, HWa.out]
      clear hc0 hc1 hc2 hc3 hkb
      go_wp2_with fail
      refine (c_WriteB _ _ (Sp.textUp t k) 59 59 rfl _ hB (by simp; omega) hkr.size).mono ?_; rintro e w11 ⟨rfl, hB11, hs11⟩
      have hk11 := hkr.beside hs11
      have BX11 := hs11.blk BX hX (by decide)
      have cX := BX11.cell
      go_wp2_with fail
      clear cX
      refine (c_iCodeText A2 n2 c2 d.need _ (hN.keep hk11)).mono ?_; rintro e v12 ⟨rfl, hv12⟩
      have hBv12 := hB11.keep hv12
      have hkv12 := hk11.trans hv12
      have BXv12 := BX11.kept hv12
      go_wp2_with fail
      refine (c_WriteS _ _ ((Sp.textUp t k) ++ [59]) (Sp.codeText d.need) _ hBv12 (by simp; omega) hkv12.size).mono ?_; rintro e w12 ⟨rfl, hB12, hs12⟩
      have hk12 := hkv12.beside hs12
      have BX12 := hs12.blk BXv12 hX (by decide)
      go_wp2_with fail
      refine (c_WriteB _ _ (((Sp.textUp t k) ++ [59]) ++ (Sp.codeText d.need)) 58 58 rfl _ hB12 (by simp; omega) hk12.size).mono ?_; rintro e w13 ⟨rfl, hB13, hs13⟩
      have hk13 := hk12.beside hs13
      have BX13 := hs13.blk BX12 hX (by decide)
      have cX := BX13.cell
      go_wp2_with fail
      clear cX
      refine (c_iLetters d.on _ o0 o1).mono ?_; rintro e v14 ⟨rfl, hv14⟩
      have hBv14 := hB13.keep hv14
      have hkv14 := hk13.trans hv14
      have BXv14 := BX13.kept hv14
      go_wp2_with fail
      refine (c_WriteS _ _ ((((Sp.textUp t k) ++ [59]) ++ (Sp.codeText d.need)) ++ [58]) (Sp.letters d.on) _ hBv14 (by simp; omega) hkv14.size).mono ?_; rintro e w14 ⟨rfl, hB14, hs14⟩
      have hk14 := hkv14.beside hs14
      have BX14 := hs14.blk BXv14 hX (by decide)
      go_wp2_with fail
      refine (c_WriteB _ _ (((((Sp.textUp t k) ++ [59]) ++ (Sp.codeText d.need)) ++ [58]) ++ (Sp.letters d.on)) 44 44 rfl _ hB14 (by simp; omega) hk14.size).mono ?_; rintro e w15 ⟨rfl, hB15, hs15⟩
      have hk15 := hk14.beside hs15
      have BX15 := hs15.blk BX14 hX (by decide)
      have cX := BX15.cell
      go_wp2_with fail
      clear cX
      refine (c_iLetters d.off _ f0 f1).mono ?_; rintro e v16 ⟨rfl, hv16⟩
      have hBv16 := hB15.keep hv16
      have hkv16 := hk15.trans hv16
      have BXv16 := BX15.kept hv16
      go_wp2_with fail
      refine (c_WriteS _ _ ((((((Sp.textUp t k) ++ [59]) ++ (Sp.codeText d.need)) ++ [58]) ++ (Sp.letters d.on)) ++ [44]) (Sp.letters d.off) _ hBv16 (by simp; omega) hkv16.size).mono ?_; rintro e w16 ⟨rfl, hB16, hs16⟩
      have hk16 := hkv16.beside hs16
      have BX16 := hs16.blk BXv16 hX (by decide)
      go_wp2_with fail
      refine (c_WriteB _ _ (((((((Sp.textUp t k) ++ [59]) ++ (Sp.codeText d.need)) ++ [58]) ++ (Sp.letters d.on)) ++ [44]) ++ (Sp.letters d.off)) 44 44 rfl _ hB16 (by simp; omega) hk16.size).mono ?_; rintro e w17 ⟨rfl, hB17, hs17⟩
      have hk17 := hk16.beside hs17
      have BX17 := hs17.blk BX16 hX (by decide)
      have cX := BX17.cell
      go_wp2_with fail
      clear cX
      refine (c_iLetters d.flip _ p0 p1).mono ?_; rintro e v18 ⟨rfl, hv18⟩
      have hBv18 := hB17.keep hv18
      have hkv18 := hk17.trans hv18
      have BXv18 := BX17.kept hv18
      go_wp2_with fail
      refine (c_WriteS _ _ ((((((((Sp.textUp t k) ++ [59]) ++ (Sp.codeText d.need)) ++ [58]) ++ (Sp.letters d.on)) ++ [44]) ++ (Sp.letters d.off)) ++ [44]) (Sp.letters d.flip) _ hBv18 (by simp; omega) hkv18.size).mono ?_; rintro e w18 ⟨rfl, hB18, hs18⟩
      have hk18 := hkv18.beside hs18
      have BX18 := hs18.blk BXv18 hX (by decide)
      have HF : Hid ((((((((((Sp.textUp t k) ++ [59]) ++ (Sp.codeText d.need)) ++ [58]) ++ (Sp.letters d.on)) ++ [44]) ++ (Sp.letters d.off)) ++ [44]) ++ (Sp.letters d.flip)) = Sp.textUp t (k + 1)) := by show _ = _; rw [HT1.out]; simp [Sp.deedTail]
      rw [HF.out] at hB18
      have HB := Lib.hid hB18
      have hkz := hk18
      go_wp2_with fail
      exact ⟨⟨k + 1, by omega, by go_num, HB.out, hkz⟩, by simp [intOf]; omega⟩
    · obtain rfl : k = n' := by omega
      go_wp2_with fail
      refine (c_bString _ _ _ _ hB (textUp_ne t k)).mono ?_; rintro e w9 ⟨rfl, hb9⟩
      go_wp2_with fail
      go_ret
      exact ⟨by rw [HE.out]; rfl, hk0.trans (Below.trans hkr hb9)⟩

end Go.Proofs.YtphdojebdclonaaDoor

namespace Go.Proofs.YtphdojebdclonaaDoor
set_option linter.unusedSimpArgs false
set_option linter.unusedVariables false
open Go.RowKit

theorem str_tail (x a b c d : List UInt8) : ((⟨x.toArray⟩ : ByteArray) ++ ⟨#[59]⟩ ++ ⟨a.toArray⟩ ++ ⟨#[58]⟩ ++ ⟨b.toArray⟩ ++ ⟨#[44]⟩ ++ ⟨c.toArray⟩ ++ ⟨#[44]⟩ ++ ⟨d.toArray⟩) = ⟨(x ++ 59 :: (a ++ 58 :: (b ++ 44 :: (c ++ 44 :: d)))).toArray⟩ := by
  rw [str_add1, str_add, str_add1, str_add, str_add1, str_add, str_add1, str_add]; simp

set_option maxHeartbeats 4000000 in
set_option maxRecDepth 100000 in
theorem c_sTaskText (v : Value) (t : Sp.Task) (w : World) (h : TaskV w v t) : Calls Tryd.prog 29 #[v] w (RetK (.string ⟨(Sp.taskText t).toArray⟩) w) := by
  obtain ⟨A, n, c, A', n', c', rfl⟩ := h.form
  have hk0 := (Kept.refl w).alloc (.cells #[.int .i64 t.start, .slice A n c, .slice A' n' c'] 26)
  have B0 := Blk.new w 26 #[.int .i64 t.start, .slice A n c, .slice A' n' c']
  have hT := h.keep hk0
  go_enter Tryd.func29, Tryd.ntmps29
  go_wp2_with fail
  obtain ⟨B, HB⟩ : ∃ x, Hid (w.heap.size = x) := ⟨_, rfl⟩
  refine (c_sTaskValid _ t _ hT).mono ?_; rintro e w2 ⟨rfl, hk2⟩
  replace hk0 := hk0.trans hk2
  replace B0 := B0.kept hk2
  replace hT := hT.keep hk2
  clear hk2 h
  rw [HB.out] at B0 ⊢
  cases ht : Sp.taskOk t
  · have HE := Lib.hid (taskText_no ht)
    clear ht
    go_wp2_with fail
    go_ret
    exact ⟨by rw [HE.out]; rfl, hk0⟩
  have HK := Lib.hid ht
  have HE := Lib.hid (taskText_yes ht)
  obtain ⟨hs0, hs1⟩ := Sp.taskOk_start ht
  have hn6 := Sp.taskOk_len ht
  clear ht
  obtain ⟨_, _, _, _, _, _, e, hI, hD, _⟩ := hT
  injection e with e
  simp only [Array.mk.injEq, List.cons.injEq, Value.slice.injEq, and_true] at e
  obtain ⟨_, ⟨rfl, rfl, rfl⟩, ⟨rfl, rfl, rfl⟩⟩ := e
  have HL := Lib.hid hD.len
  rw [hD.len] at hn6 HE
  have H0 := Lib.hid (textUp_zero t)
  have hl1 := letters_len t.start
  have hl2 := codeText_len t.goal
  go_wp2_with fail
  have hkd := (Kept.refl w2).drew
  have B1 := B0.kept hkd
  refine wp_region_held_drew (S := (fun w' => w'.cell? ⟨B, 0, none⟩ = some (.int .i64 t.start) ∧ w'.cell? ⟨B, 1, none⟩ = some (.slice A n c) ∧ w'.cell? ⟨B, 2, none⟩ = some (.slice A' n' c'))) (by kernel_rfl) ⟨B1.cell 0, B1.cell 1, B1.cell 2⟩ (fun hHeld => ?_)
  (refine take_val (i := 0) (v := .pointer (some ⟨B, 0, none⟩)) rfl rfl (by kernel_rfl) (by kernel_rfl) (by kernel_rfl) (fun _ _ _ h => h) rfl (by intro wq hq; (try go_split_ands); go_simp; try with_reducible rfl) (hHeld) ?_; try simp only [List.setIfInBounds_toArray, List.set_cons_zero, List.set_cons_succ])
  (refine take_val (i := 1) (v := .int .i64 t.start) rfl rfl (by kernel_rfl) (by kernel_rfl) (by kernel_rfl) (fun _ _ _ h => h) rfl (by intro wq hq; (try go_split_ands); go_simp; try with_reducible rfl) (hHeld) ?_; try simp only [List.setIfInBounds_toArray, List.set_cons_zero, List.set_cons_succ])
  (refine take_val (i := 4) (v := .pointer (some ⟨B, 1, none⟩)) rfl rfl (by kernel_rfl) (by kernel_rfl) (by kernel_rfl) (fun _ _ _ h => h) rfl (by intro wq hq; (try go_split_ands); go_simp; try with_reducible rfl) (hHeld) ?_; try simp only [List.setIfInBounds_toArray, List.set_cons_zero, List.set_cons_succ])
  (refine take_val (i := 5) (v := .slice A n c) rfl rfl (by kernel_rfl) (by kernel_rfl) (by kernel_rfl) (fun _ _ _ h => h) rfl (by intro wq hq; (try go_split_ands); go_simp; try with_reducible rfl) (hHeld) ?_; try simp only [List.setIfInBounds_toArray, List.set_cons_zero, List.set_cons_succ])
  (refine wpAnyH_ready (rs := [2]) (by kernel_rfl) (by simp) ?_; refine AllReadyH.cons rfl (fun K hK => ?_) AllReadyH.nil; go_simp)
  refine (c_sLetters t.start _ hs0 hs1).mono ?_; rintro e w4 ⟨rfl, hk4⟩
  have B2 := B1.kept hk4
  replace hk4 := hkd.trans hk4
  generalize Sp.letters t.start = ls at *
  (refine hK.out _ _ (⟨B2.cell 0, B2.cell 1, B2.cell 2⟩) (fun _ => ?_); clear hK K; try simp only [Act.put, List.setIfInBounds_toArray, List.set_cons_zero, List.set_cons_succ])
  (refine take_val (i := 3) (v := .string (⟨ls.toArray⟩ ++ ⟨#[62]⟩)) rfl rfl (by kernel_rfl) (by kernel_rfl) (by kernel_rfl) (fun _ _ _ h => h) rfl (by intro wq hq; (try go_split_ands); go_simp; (try with_reducible rfl); (try omega)) (⟨B2.cell 0, B2.cell 1, B2.cell 2⟩) ?_; try simp only [List.setIfInBounds_toArray, List.set_cons_zero, List.set_cons_succ])
  (refine wpAnyH_ready (rs := [6]) (by kernel_rfl) (by simp) ?_; refine AllReadyH.cons rfl (fun K hK => ?_) AllReadyH.nil; go_simp)
  refine (c_sCodeText A n c t.goal _ (hI.keep hk4)).mono ?_; rintro e w5 ⟨rfl, hk5⟩
  have B3 := B2.kept hk5
  replace hk5 := hk4.trans hk5
  generalize Sp.codeText t.goal = lg at *
  (refine hK.out _ _ (⟨B3.cell 0, B3.cell 1, B3.cell 2⟩) (fun _ => ?_); clear hK K; try simp only [Act.put, List.setIfInBounds_toArray, List.set_cons_zero, List.set_cons_succ])
  (refine take_val (i := 7) (v := .string (⟨ls.toArray⟩ ++ ⟨#[62]⟩ ++ ⟨lg.toArray⟩)) rfl rfl (by kernel_rfl) (by kernel_rfl) (by kernel_rfl) (fun _ _ _ h => h) rfl (by intro wq hq; (try go_split_ands); go_simp; (try with_reducible rfl); (try omega)) (⟨B3.cell 0, B3.cell 1, B3.cell 2⟩) ?_; try simp only [List.setIfInBounds_toArray, List.set_cons_zero, List.set_cons_succ])
  (refine take_val (i := 8) (v := .string (⟨ls.toArray⟩ ++ ⟨#[62]⟩ ++ ⟨lg.toArray⟩)) rfl rfl (by kernel_rfl) (by kernel_rfl) (by kernel_rfl) (fun _ _ _ h => h) rfl (by intro wq hq; (try go_split_ands); go_simp; (try with_reducible rfl); (try omega)) (⟨B3.cell 0, B3.cell 1, B3.cell 2⟩) ?_; try simp only [List.setIfInBounds_toArray, List.set_cons_zero, List.set_cons_succ])
  refine wpAnyH_done (by kernel_rfl) ?_ _
  have HJ : Hid ((⟨ls.toArray⟩ : ByteArray) ++ ⟨#[62]⟩ ++ ⟨lg.toArray⟩ = ⟨(Sp.textUp t 0).toArray⟩) := by
    show _ = _
    rw [H0.out, str_add1, str_add]
  clear hHeld B1 B2 hkd hk4
  go_wp2_with fail
  go_loopw [3, 4, 5] (fun x i _ wr => ∃ k : Nat, k ≤ n' ∧ i = .int .i64 k ∧ x = .string ⟨(Sp.textUp t k).toArray⟩ ∧ Kept w2 wr) (fun _ i _ _ => n' - (intOf i).toNat)
  case atStart => exact ⟨0, Nat.zero_le _, rfl, by rw [HJ.out], hk5⟩
  case round =>
    clear hk5 B3
    obtain ⟨k, hk, rfl, rfl, hkr⟩ := hrel
    have BR := B0.kept hkr
    have cR := BR.cell
    by_cases hlt : k < n'
    · have hlk := textUp_len t k
      have HT1 := Lib.hid (textUp_succ t k (by rw [HL.out]; exact hlt))
      have HDo := Lib.hid (Sp.taskOk_deed HK.out (k := k) (by rw [HL.out]; exact hlt))
      obtain ⟨b, off, rfl, hb, hc⟩ := hD.at hlt
      generalize t.deeds.getD k default = d at *
      obtain ⟨A2, n2, c2, hc0, hN, hc1, hc2, hc3, _⟩ := hc
      replace hc0 := hkr.at_ hc0
      replace hc1 := hkr.at_ hc1
      replace hc2 := hkr.at_ hc2
      replace hc3 := hkr.at_ hc3
      obtain ⟨o0, o1⟩ := deedOk_on HDo.out
      obtain ⟨f0, f1⟩ := deedOk_off HDo.out
      obtain ⟨p0, p1⟩ := deedOk_flip HDo.out
      have l1 := codeText_len d.need
      have l2 := letters_len d.on
      have l3 := letters_len d.off
      have l4 := letters_len d.flip
      have hkb := (Kept.refl wr).alloc (.cells #[.slice A2 n2 c2, .int .i64 d.on, .int .i64 d.off, .int .i64 d.flip] 72)
      have BX := Blk.new wr 72 #[.slice A2 n2 c2, .int .i64 d.on, .int .i64 d.off, .int .i64 d.flip]
      obtain ⟨X, HX⟩ : ∃ x, Hid (wr.heap.size = x) := ⟨_, rfl⟩
      obtain ⟨wa, HWa⟩ : ∃ x, Hid (wr.alloc (.cells #[.slice A2 n2 c2, .int .i64 d.on, .int .i64 d.off, .int .i64 d.flip] 72) = x) := ⟨_, rfl⟩
      rw [HX.out, HWa.out] at BX
      rw [HWa.out] at hkb
      replace hkr := hkr.trans hkb
      go_wp2_with fail
      rw [HX.out, HWa.out]
      clear hc0 hc1 hc2 hc3 hkb cR BR
      have hkd := hkr.drew
      have BX1 := BX.kept (Kept.refl wa).drew
      have HF : Hid (Sp.textUp t (k + 1) = Sp.textUp t k ++ 59 :: (Sp.codeText d.need ++ 58 :: (Sp.letters d.on ++ 44 :: (Sp.letters d.off ++ 44 :: Sp.letters d.flip)))) := by show _ = _; rw [HT1.out]; rfl
      generalize Sp.textUp t k = tx at *
      refine wp_region_held_drew (S := (fun w' => w'.cell? ⟨X, 0, none⟩ = some (.slice A2 n2 c2) ∧ w'.cell? ⟨X, 1, none⟩ = some (.int .i64 d.on) ∧ w'.cell? ⟨X, 2, none⟩ = some (.int .i64 d.off) ∧ w'.cell? ⟨X, 3, none⟩ = some (.int .i64 d.flip))) (by kernel_rfl) ⟨BX1.cell 0, BX1.cell 1, BX1.cell 2, BX1.cell 3⟩ (fun hHeld => ?_)
      (refine take_val (i := 0) (v := .string ⟨tx.toArray⟩) rfl rfl (by kernel_rfl) (by kernel_rfl) (by kernel_rfl) (fun _ _ _ h => h) rfl (by intro wq hq; (try go_split_ands); go_simp; (try with_reducible rfl); (try omega)) (hHeld) ?_; try simp only [List.setIfInBounds_toArray, List.set_cons_zero, List.set_cons_succ])
      (refine take_val (i := 1) (v := .string (⟨tx.toArray⟩ ++ ⟨#[59]⟩)) rfl rfl (by kernel_rfl) (by kernel_rfl) (by kernel_rfl) (fun _ _ _ h => h) rfl (by intro wq hq; (try go_split_ands); go_simp; (try with_reducible rfl); (try omega)) (hHeld) ?_; try simp only [List.setIfInBounds_toArray, List.set_cons_zero, List.set_cons_succ])
      (refine take_val (i := 2) (v := .pointer (some ⟨X, 0, none⟩)) rfl rfl (by kernel_rfl) (by kernel_rfl) (by kernel_rfl) (fun _ _ _ h => h) rfl (by intro wq hq; (try go_split_ands); go_simp; try with_reducible rfl) (hHeld) ?_; try simp only [List.setIfInBounds_toArray, List.set_cons_zero, List.set_cons_succ])
      (refine take_val (i := 3) (v := .slice A2 n2 c2) rfl rfl (by kernel_rfl) (by kernel_rfl) (by kernel_rfl) (fun _ _ _ h => h) rfl (by intro wq hq; (try go_split_ands); go_simp; try with_reducible rfl) (hHeld) ?_; try simp only [List.setIfInBounds_toArray, List.set_cons_zero, List.set_cons_succ])
      (refine take_val (i := 7) (v := .pointer (some ⟨X, 1, none⟩)) rfl rfl (by kernel_rfl) (by kernel_rfl) (by kernel_rfl) (fun _ _ _ h => h) rfl (by intro wq hq; (try go_split_ands); go_simp; try with_reducible rfl) (hHeld) ?_; try simp only [List.setIfInBounds_toArray, List.set_cons_zero, List.set_cons_succ])
      (refine take_val (i := 8) (v := .int .i64 d.on) rfl rfl (by kernel_rfl) (by kernel_rfl) (by kernel_rfl) (fun _ _ _ h => h) rfl (by intro wq hq; (try go_split_ands); go_simp; try with_reducible rfl) (hHeld) ?_; try simp only [List.setIfInBounds_toArray, List.set_cons_zero, List.set_cons_succ])
      (refine take_val (i := 12) (v := .pointer (some ⟨X, 2, none⟩)) rfl rfl (by kernel_rfl) (by kernel_rfl) (by kernel_rfl) (fun _ _ _ h => h) rfl (by intro wq hq; (try go_split_ands); go_simp; try with_reducible rfl) (hHeld) ?_; try simp only [List.setIfInBounds_toArray, List.set_cons_zero, List.set_cons_succ])
      (refine take_val (i := 13) (v := .int .i64 d.off) rfl rfl (by kernel_rfl) (by kernel_rfl) (by kernel_rfl) (fun _ _ _ h => h) rfl (by intro wq hq; (try go_split_ands); go_simp; try with_reducible rfl) (hHeld) ?_; try simp only [List.setIfInBounds_toArray, List.set_cons_zero, List.set_cons_succ])
      (refine take_val (i := 17) (v := .pointer (some ⟨X, 3, none⟩)) rfl rfl (by kernel_rfl) (by kernel_rfl) (by kernel_rfl) (fun _ _ _ h => h) rfl (by intro wq hq; (try go_split_ands); go_simp; try with_reducible rfl) (hHeld) ?_; try simp only [List.setIfInBounds_toArray, List.set_cons_zero, List.set_cons_succ])
      (refine take_val (i := 18) (v := .int .i64 d.flip) rfl rfl (by kernel_rfl) (by kernel_rfl) (by kernel_rfl) (fun _ _ _ h => h) rfl (by intro wq hq; (try go_split_ands); go_simp; try with_reducible rfl) (hHeld) ?_; try simp only [List.setIfInBounds_toArray, List.set_cons_zero, List.set_cons_succ])
      (refine wpAnyH_ready (rs := [4]) (by kernel_rfl) (by simp) ?_; refine AllReadyH.cons rfl (fun K hK => ?_) AllReadyH.nil; go_simp)
      refine (c_sCodeText A2 n2 c2 d.need _ (hN.keep hkd)).mono ?_; rintro e v0 ⟨rfl, hv0⟩
      have BY0 := BX1.kept hv0
      have hy0 := hkd.trans hv0
      generalize Sp.codeText d.need = ta at *
      (refine hK.out _ _ (⟨BY0.cell 0, BY0.cell 1, BY0.cell 2, BY0.cell 3⟩) (fun _ => ?_); clear hK K; try simp only [Act.put, List.setIfInBounds_toArray, List.set_cons_zero, List.set_cons_succ])
      (refine take_val (i := 5) (v := .string (⟨tx.toArray⟩ ++ ⟨#[59]⟩ ++ ⟨ta.toArray⟩)) rfl rfl (by kernel_rfl) (by kernel_rfl) (by kernel_rfl) (fun _ _ _ h => h) rfl (by intro wq hq; (try go_split_ands); go_simp; (try with_reducible rfl); (try omega)) (⟨BY0.cell 0, BY0.cell 1, BY0.cell 2, BY0.cell 3⟩) ?_; try simp only [List.setIfInBounds_toArray, List.set_cons_zero, List.set_cons_succ])
      (refine take_val (i := 6) (v := .string (⟨tx.toArray⟩ ++ ⟨#[59]⟩ ++ ⟨ta.toArray⟩ ++ ⟨#[58]⟩)) rfl rfl (by kernel_rfl) (by kernel_rfl) (by kernel_rfl) (fun _ _ _ h => h) rfl (by intro wq hq; (try go_split_ands); go_simp; (try with_reducible rfl); (try omega)) (⟨BY0.cell 0, BY0.cell 1, BY0.cell 2, BY0.cell 3⟩) ?_; try simp only [List.setIfInBounds_toArray, List.set_cons_zero, List.set_cons_succ])
      (refine wpAnyH_ready (rs := [9]) (by kernel_rfl) (by simp) ?_; refine AllReadyH.cons rfl (fun K hK => ?_) AllReadyH.nil; go_simp)
      refine (c_sLetters d.on _ o0 o1).mono ?_; rintro e v1 ⟨rfl, hv1⟩
      have BY1 := BY0.kept hv1
      have hy1 := hy0.trans hv1
      generalize Sp.letters d.on = tb at *
      (refine hK.out _ _ (⟨BY1.cell 0, BY1.cell 1, BY1.cell 2, BY1.cell 3⟩) (fun _ => ?_); clear hK K; try simp only [Act.put, List.setIfInBounds_toArray, List.set_cons_zero, List.set_cons_succ])
      (refine take_val (i := 10) (v := .string (⟨tx.toArray⟩ ++ ⟨#[59]⟩ ++ ⟨ta.toArray⟩ ++ ⟨#[58]⟩ ++ ⟨tb.toArray⟩)) rfl rfl (by kernel_rfl) (by kernel_rfl) (by kernel_rfl) (fun _ _ _ h => h) rfl (by intro wq hq; (try go_split_ands); go_simp; (try with_reducible rfl); (try omega)) (⟨BY1.cell 0, BY1.cell 1, BY1.cell 2, BY1.cell 3⟩) ?_; try simp only [List.setIfInBounds_toArray, List.set_cons_zero, List.set_cons_succ])
      (refine take_val (i := 11) (v := .string (⟨tx.toArray⟩ ++ ⟨#[59]⟩ ++ ⟨ta.toArray⟩ ++ ⟨#[58]⟩ ++ ⟨tb.toArray⟩ ++ ⟨#[44]⟩)) rfl rfl (by kernel_rfl) (by kernel_rfl) (by kernel_rfl) (fun _ _ _ h => h) rfl (by intro wq hq; (try go_split_ands); go_simp; (try with_reducible rfl); (try omega)) (⟨BY1.cell 0, BY1.cell 1, BY1.cell 2, BY1.cell 3⟩) ?_; try simp only [List.setIfInBounds_toArray, List.set_cons_zero, List.set_cons_succ])
      (refine wpAnyH_ready (rs := [14]) (by kernel_rfl) (by simp) ?_; refine AllReadyH.cons rfl (fun K hK => ?_) AllReadyH.nil; go_simp)
      refine (c_sLetters d.off _ f0 f1).mono ?_; rintro e v2 ⟨rfl, hv2⟩
      have BY2 := BY1.kept hv2
      have hy2 := hy1.trans hv2
      generalize Sp.letters d.off = tc at *
      (refine hK.out _ _ (⟨BY2.cell 0, BY2.cell 1, BY2.cell 2, BY2.cell 3⟩) (fun _ => ?_); clear hK K; try simp only [Act.put, List.setIfInBounds_toArray, List.set_cons_zero, List.set_cons_succ])
      (refine take_val (i := 15) (v := .string (⟨tx.toArray⟩ ++ ⟨#[59]⟩ ++ ⟨ta.toArray⟩ ++ ⟨#[58]⟩ ++ ⟨tb.toArray⟩ ++ ⟨#[44]⟩ ++ ⟨tc.toArray⟩)) rfl rfl (by kernel_rfl) (by kernel_rfl) (by kernel_rfl) (fun _ _ _ h => h) rfl (by intro wq hq; (try go_split_ands); go_simp; (try with_reducible rfl); (try omega)) (⟨BY2.cell 0, BY2.cell 1, BY2.cell 2, BY2.cell 3⟩) ?_; try simp only [List.setIfInBounds_toArray, List.set_cons_zero, List.set_cons_succ])
      (refine take_val (i := 16) (v := .string (⟨tx.toArray⟩ ++ ⟨#[59]⟩ ++ ⟨ta.toArray⟩ ++ ⟨#[58]⟩ ++ ⟨tb.toArray⟩ ++ ⟨#[44]⟩ ++ ⟨tc.toArray⟩ ++ ⟨#[44]⟩)) rfl rfl (by kernel_rfl) (by kernel_rfl) (by kernel_rfl) (fun _ _ _ h => h) rfl (by intro wq hq; (try go_split_ands); go_simp; (try with_reducible rfl); (try omega)) (⟨BY2.cell 0, BY2.cell 1, BY2.cell 2, BY2.cell 3⟩) ?_; try simp only [List.setIfInBounds_toArray, List.set_cons_zero, List.set_cons_succ])
      (refine wpAnyH_ready (rs := [19]) (by kernel_rfl) (by simp) ?_; refine AllReadyH.cons rfl (fun K hK => ?_) AllReadyH.nil; go_simp)
      refine (c_sLetters d.flip _ p0 p1).mono ?_; rintro e v3 ⟨rfl, hv3⟩
      have BY3 := BY2.kept hv3
      have hy3 := hy2.trans hv3
      generalize Sp.letters d.flip = td at *
      (refine hK.out _ _ (⟨BY3.cell 0, BY3.cell 1, BY3.cell 2, BY3.cell 3⟩) (fun _ => ?_); clear hK K; try simp only [Act.put, List.setIfInBounds_toArray, List.set_cons_zero, List.set_cons_succ])
      (refine take_val (i := 20) (v := .string (⟨tx.toArray⟩ ++ ⟨#[59]⟩ ++ ⟨ta.toArray⟩ ++ ⟨#[58]⟩ ++ ⟨tb.toArray⟩ ++ ⟨#[44]⟩ ++ ⟨tc.toArray⟩ ++ ⟨#[44]⟩ ++ ⟨td.toArray⟩)) rfl rfl (by kernel_rfl) (by kernel_rfl) (by kernel_rfl) (fun _ _ _ h => h) rfl (by intro wq hq; (try go_split_ands); go_simp; (try with_reducible rfl); (try omega)) (⟨BY3.cell 0, BY3.cell 1, BY3.cell 2, BY3.cell 3⟩) ?_; try simp only [List.setIfInBounds_toArray, List.set_cons_zero, List.set_cons_succ])
      (refine take_val (i := 21) (v := .string (⟨tx.toArray⟩ ++ ⟨#[59]⟩ ++ ⟨ta.toArray⟩ ++ ⟨#[58]⟩ ++ ⟨tb.toArray⟩ ++ ⟨#[44]⟩ ++ ⟨tc.toArray⟩ ++ ⟨#[44]⟩ ++ ⟨td.toArray⟩)) rfl rfl (by kernel_rfl) (by kernel_rfl) (by kernel_rfl) (fun _ _ _ h => h) rfl (by intro wq hq; (try go_split_ands); go_simp; (try with_reducible rfl); (try omega)) (⟨BY3.cell 0, BY3.cell 1, BY3.cell 2, BY3.cell 3⟩) ?_; try simp only [List.setIfInBounds_toArray, List.set_cons_zero, List.set_cons_succ])
      refine wpAnyH_done (by kernel_rfl) ?_ _
      have HJ2 := Lib.hid (str_tail tx ta tb tc td)
      have hkz := hy3
      clear hHeld
      go_wp2_with fail
      exact ⟨⟨k + 1, by omega, by go_num, by rw [HJ2.out, HF.out], hkz⟩, by simp [intOf]; omega⟩
    · obtain rfl : k = n' := by omega
      go_wp2_with fail
      go_ret
      exact ⟨by rw [HE.out]; rfl, hk0.trans hkr⟩

end Go.Proofs.YtphdojebdclonaaDoor

namespace Go.Proofs.YtphdojebdclonaaDoor
set_option linter.unusedSimpArgs false
set_option linter.unusedVariables false

/-- the signs of codes and of letters -/
def Sp.inner (x : UInt8) : Prop := x ≠ 59 ∧ x ≠ 58 ∧ x ≠ 44 ∧ x ≠ 62 ∧ x ≠ 32
theorem letters_fin : ∀ s : Fin 32, ∀ x ∈ Sp.letters ((s.val : Nat) : Int), x ≠ 59 ∧ x ≠ 58 ∧ x ≠ 44 ∧ x ≠ 62 ∧ x ≠ 32 := by decide +kernel
theorem letters_inner {s : Int} (h0 : 0 ≤ s) (h1 : s ≤ 31) : ∀ x ∈ Sp.letters s, Sp.inner x := by
  obtain ⟨k, rfl⟩ := Int.eq_ofNat_of_zero_le h0
  exact letters_fin ⟨k, by omega⟩
theorem sgn_fin : ∀ s : Fin 7, Sp.sgn ((s.val : Nat) : Int) ≠ 59 ∧ Sp.sgn ((s.val : Nat) : Int) ≠ 58 ∧ Sp.sgn ((s.val : Nat) : Int) ≠ 44 ∧ Sp.sgn ((s.val : Nat) : Int) ≠ 62 ∧ Sp.sgn ((s.val : Nat) : Int) ≠ 32 := by decide +kernel
theorem brk_inner {b : Bool} {l : List UInt8} (h : ∀ x ∈ l, Sp.inner x) : ∀ x ∈ Sp.brk b l, Sp.inner x := by
  intro x hx
  unfold Sp.brk at hx
  split at hx
  · rcases List.mem_cons.1 hx with rfl | hx
    · unfold Sp.inner; decide
    · rcases List.mem_append.1 hx with hx | hx
      · exact h x hx
      · obtain rfl := List.mem_singleton.1 hx
        unfold Sp.inner; decide
  · exact h x hx
theorem txt_inner {c : Sp.Cond} (hc : c.ok) : ∀ x ∈ c.txt, Sp.inner x := by
  induction c with
  | one s =>
    obtain ⟨h0, h6⟩ := hc
    obtain ⟨k, rfl⟩ := Int.eq_ofNat_of_zero_le h0
    intro x hx
    obtain rfl := List.mem_singleton.1 hx
    exact sgn_fin ⟨k, by omega⟩
  | neg c ih =>
    intro x hx
    rcases List.mem_cons.1 hx with rfl | hx
    · unfold Sp.inner; decide
    · exact brk_inner (ih hc) x hx
  | two s l h ihl ihh =>
    obtain ⟨_, h1, h2⟩ := hc
    intro x hx
    simp only [Sp.Cond.txt] at hx
    split at hx
    all_goals
      rcases List.mem_append.1 hx with hx | hx
      · exact brk_inner (ihl h1) x hx
      · rcases List.mem_cons.1 hx with rfl | hx
        · unfold Sp.inner; decide
        · exact brk_inner (ihh h2) x hx
theorem codeText_inner (l : List Int) : ∀ x ∈ Sp.codeText l, Sp.inner x := by
  cases h : Sp.codeOk l
  · rw [codeText_no h]; simp
  · rw [codeText_yes h]
    unfold Sp.Cond.text
    exact brk_inner (txt_inner (tree_code h).2.1)
/-- a deed's part of a text, without the sign ahead -/
def Sp.deedText (d : Sp.Deed) : List UInt8 := Sp.codeText d.need ++ 58 :: (Sp.letters d.on ++ 44 :: (Sp.letters d.off ++ 44 :: Sp.letters d.flip))
theorem deedText_noSemi {d : Sp.Deed} (h : Sp.deedOk d = true) : ∀ x ∈ Sp.deedText d, x ≠ 59 := by
  obtain ⟨o0, o1⟩ := deedOk_on h
  obtain ⟨f0, f1⟩ := deedOk_off h
  obtain ⟨p0, p1⟩ := deedOk_flip h
  intro x hx
  unfold Sp.deedText at hx
  rcases List.mem_append.1 hx with hx | hx
  · exact (codeText_inner _ x hx).1
  rcases List.mem_cons.1 hx with rfl | hx
  · decide
  rcases List.mem_append.1 hx with hx | hx
  · exact (letters_inner o0 o1 x hx).1
  rcases List.mem_cons.1 hx with rfl | hx
  · decide
  rcases List.mem_append.1 hx with hx | hx
  · exact (letters_inner f0 f1 x hx).1
  rcases List.mem_cons.1 hx with rfl | hx
  · decide
  exact (letters_inner p0 p1 x hx).1
/-- the parts of a valid task's text -/
theorem flat_cut (ds : List Sp.Deed) (h : ∀ d ∈ ds, Sp.deedOk d = true) (p : List UInt8) (hp : ∀ x ∈ p, x ≠ 59) : Sp.cutB 59 (p ++ ds.flatMap Sp.deedTail) = p :: ds.map Sp.deedText := by
  induction ds generalizing p with
  | nil => rw [List.flatMap_nil, List.append_nil, cutB_none _ _ hp]; rfl
  | cons d ds ih =>
    have hd := h d (by simp)
    rw [List.flatMap_cons]
    show Sp.cutB 59 (p ++ (59 :: Sp.deedText d ++ ds.flatMap Sp.deedTail)) = _
    rw [List.cons_append, cutB_app _ _ _ hp, ih (fun e he => h e (by simp [he])) _ (deedText_noSemi hd)]
    rfl

def Sp.headText (t : Sp.Task) : List UInt8 := Sp.letters t.start ++ 62 :: Sp.codeText t.goal
theorem headText_noSemi {t : Sp.Task} (h : Sp.taskOk t = true) : ∀ x ∈ Sp.headText t, x ≠ 59 := by
  obtain ⟨h0, h1⟩ := Sp.taskOk_start h
  intro x hx
  unfold Sp.headText at hx
  rcases List.mem_append.1 hx with hx | hx
  · exact (letters_inner h0 h1 x hx).1
  rcases List.mem_cons.1 hx with rfl | hx
  · decide
  exact (codeText_inner _ x hx).1
theorem taskText_form {t : Sp.Task} (h : Sp.taskOk t = true) : Sp.taskText t = Sp.headText t ++ t.deeds.flatMap Sp.deedTail := by
  rw [taskText_yes h]
  unfold Sp.textUp Sp.headText
  rw [List.take_length]; simp
theorem deeds_ok {t : Sp.Task} (h : Sp.taskOk t = true) : ∀ d ∈ t.deeds, Sp.deedOk d = true := by
  unfold Sp.taskOk at h
  simp only [Bool.and_eq_true, List.all_eq_true] at h
  exact h.2
theorem taskText_cut {t : Sp.Task} (h : Sp.taskOk t = true) : Sp.cutB 59 (Sp.taskText t) = Sp.headText t :: t.deeds.map Sp.deedText := by
  rw [taskText_form h, flat_cut _ (deeds_ok h) _ (headText_noSemi h)]
theorem head_cut {t : Sp.Task} (h : Sp.taskOk t = true) : Sp.cutB 62 (Sp.headText t) = [Sp.letters t.start, Sp.codeText t.goal] := by
  obtain ⟨h0, h1⟩ := Sp.taskOk_start h
  unfold Sp.headText
  rw [cutB_app _ _ _ (fun x hx => (letters_inner h0 h1 x hx).2.2.2.1), cutB_none _ _ (fun x hx => (codeText_inner _ x hx).2.2.2.1)]
theorem head_cut2 {t : Sp.Task} (h : Sp.taskOk t = true) : Lib.cut (Sp.headText t) [62] = (Sp.letters t.start, Sp.codeText t.goal, true) := by
  obtain ⟨h0, h1⟩ := Sp.taskOk_start h
  exact cut_hit _ _ _ (fun x hx => (letters_inner h0 h1 x hx).2.2.2.1)
/-- the three sets of a deed -/
def Sp.setsText (d : Sp.Deed) : List UInt8 := Sp.letters d.on ++ 44 :: (Sp.letters d.off ++ 44 :: Sp.letters d.flip)
theorem deed_cut2 (d : Sp.Deed) : Lib.cut (Sp.deedText d) [58] = (Sp.codeText d.need, Sp.setsText d, true) := cut_hit _ _ _ (fun x hx => (codeText_inner _ x hx).2.1)
theorem sets_noColon {d : Sp.Deed} (h : Sp.deedOk d = true) : ∀ x ∈ Sp.setsText d, x ≠ 58 := by
  obtain ⟨o0, o1⟩ := deedOk_on h
  obtain ⟨f0, f1⟩ := deedOk_off h
  obtain ⟨p0, p1⟩ := deedOk_flip h
  intro x hx
  unfold Sp.setsText at hx
  rcases List.mem_append.1 hx with hx | hx
  · exact (letters_inner o0 o1 x hx).2.1
  rcases List.mem_cons.1 hx with rfl | hx
  · decide
  rcases List.mem_append.1 hx with hx | hx
  · exact (letters_inner f0 f1 x hx).2.1
  rcases List.mem_cons.1 hx with rfl | hx
  · decide
  exact (letters_inner p0 p1 x hx).2.1
theorem deed_cut {d : Sp.Deed} (h : Sp.deedOk d = true) : Sp.cutB 58 (Sp.deedText d) = [Sp.codeText d.need, Sp.setsText d] := by
  show Sp.cutB 58 (Sp.codeText d.need ++ 58 :: Sp.setsText d) = _
  rw [cutB_app _ _ _ (fun x hx => (codeText_inner _ x hx).2.1), cutB_none _ _ (sets_noColon h)]
theorem sets_cut {d : Sp.Deed} (h : Sp.deedOk d = true) : Sp.cutB 44 (Sp.setsText d) = [Sp.letters d.on, Sp.letters d.off, Sp.letters d.flip] := by
  obtain ⟨o0, o1⟩ := deedOk_on h
  obtain ⟨f0, f1⟩ := deedOk_off h
  obtain ⟨p0, p1⟩ := deedOk_flip h
  unfold Sp.setsText
  rw [cutB_app _ _ _ (fun x hx => (letters_inner o0 o1 x hx).2.2.1), cutB_app _ _ _ (fun x hx => (letters_inner f0 f1 x hx).2.2.1), cutB_none _ _ (fun x hx => (letters_inner p0 p1 x hx).2.2.1)]

end Go.Proofs.YtphdojebdclonaaDoor
