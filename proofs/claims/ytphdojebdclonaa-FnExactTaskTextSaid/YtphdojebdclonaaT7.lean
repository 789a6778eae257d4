/- The text of a task: plain, and the program's. -/
import Derived.Test.YtphdojebdclonaaT5
import Derived.Test.YtphdojebdclonaaT6
namespace Go.Proofs.Ytphdojebdclonaa
open Go.RowKit

def Sp.deedTail (d : Sp.Deed) : List UInt8 := 59 :: (Sp.codeText d.need ++ 58 :: (Sp.letters d.on ++ 44 :: (Sp.letters d.off ++ 44 :: Sp.letters d.flip)))
def Sp.textUp (t : Sp.Task) (k : Nat) : List UInt8 := Sp.letters t.start ++ 62 :: (Sp.codeText t.goal ++ (t.deeds.take k).flatMap Sp.deedTail)
def Sp.taskText (t : Sp.Task) : List UInt8 := if Sp.taskOk t = true then Sp.textUp t t.deeds.length else []
theorem letters_len (x : Int) : (Sp.letters x).length ≤ 5 := by
  unfold Sp.letters
  split
  · simp
  · exact lets_len _ 5
theorem deedTail_len (d : Sp.Deed) : (Sp.deedTail d).length ≤ 140 := by
  have h1 := codeText_len d.need
  have h2 := letters_len d.on
  have h3 := letters_len d.off
  have h4 := letters_len d.flip
  unfold Sp.deedTail
  simp only [List.length_cons, List.length_append]
  omega
theorem flat_len (l : List Sp.Deed) : (l.flatMap Sp.deedTail).length ≤ 140 * l.length := by
  induction l with
  | nil => simp
  | cons d l ih =>
    have := deedTail_len d
    simp only [List.flatMap_cons, List.length_append, List.length_cons]
    omega
theorem textUp_len (t : Sp.Task) (k : Nat) : (Sp.textUp t k).length ≤ 126 + 140 * k := by
  have h1 := codeText_len t.goal
  have h2 := letters_len t.start
  have h3 := flat_len (t.deeds.take k)
  have h4 : (t.deeds.take k).length ≤ k := by rw [List.length_take]; omega
  unfold Sp.textUp
  simp only [List.length_cons, List.length_append]
  omega
theorem textUp_zero (t : Sp.Task) : Sp.textUp t 0 = Sp.letters t.start ++ [62] ++ Sp.codeText t.goal := by simp [Sp.textUp]
theorem textUp_succ (t : Sp.Task) (k : Nat) (h : k < t.deeds.length) : Sp.textUp t (k + 1) = Sp.textUp t k ++ Sp.deedTail (t.deeds.getD k default) := by
  unfold Sp.textUp
  rw [List.take_succ_eq_append_getElem h, List.flatMap_append]
  simp [List.getElem?_eq_getElem h]
theorem textUp_ne (t : Sp.Task) (k : Nat) : Sp.textUp t k ≠ [] := by unfold Sp.textUp; simp
theorem taskText_no {t : Sp.Task} (h : Sp.taskOk t = false) : Sp.taskText t = [] := by unfold Sp.taskText; rw [if_neg (by rw [h]; decide)]
theorem taskText_yes {t : Sp.Task} (h : Sp.taskOk t = true) : Sp.taskText t = Sp.textUp t t.deeds.length := by unfold Sp.taskText; rw [if_pos h]

theorem Kept.beside {W0 wr w' : World} {b : Nat} (h : Kept W0 wr) (hb : Beside W0.heap.size b wr w') : Kept W0 w' := Below.trans h hb.1
theorem c_WriteB (B b : Nat) (l : List UInt8) (u : UInt8) (x : Int) (hx : x = (u.toNat : Int)) (w : World) (h : Bld w B b l) (hlen : l.length + 1 ≤ 1048576) (hBw : B ≤ w.heap.size) :
    Calls Try.prog 63 #[.pointer (some ⟨b, 0, none⟩), .int .u8 x] w (fun e w' => e = .returned .nilIface ∧ Bld w' B b (l ++ [u]) ∧ Beside B b w w') := by
  subst hx
  exact (c_WriteByte B b l u w h hlen hBw).mono fun _ _ h => ⟨h.1, .inr h.2.1, h.2.2⟩
theorem c_WriteS (B b : Nat) (l m : List UInt8) (w : World) (h : Bld w B b l) (hlen : l.length + m.length ≤ 1048576) (hBw : B ≤ w.heap.size) :
    Calls Try.prog 61 #[.pointer (some ⟨b, 0, none⟩), .string ⟨m.toArray⟩] w (fun e w' => e = .returned (.tuple #[.int .i64 (m.length : Nat), .nilIface]) ∧ Bld w' B b (l ++ m) ∧ Beside B b w w') :=
  (c_WriteString B b l m w h hlen hBw).mono fun _ _ h => ⟨h.1, .inr h.2.1, h.2.2⟩

set_option maxHeartbeats 4000000 in
set_option maxRecDepth 100000 in
theorem c_iTaskText (v : Value) (t : Sp.Task) (w : World) (h : TaskV w v t) : Calls Try.prog 32 #[v] w (RetK (.string ⟨(Sp.taskText t).toArray⟩) w) := by
  obtain ⟨A, n, c, A', n', c', rfl⟩ := h.form
  have hk0 := (Kept.refl w).alloc (.cells #[.int .i64 t.start, .slice A n c, .slice A' n' c'] 30)
  have B0 := Blk.new w 30 #[.int .i64 t.start, .slice A n c, .slice A' n' c']
  have hT := h.keep hk0
  go_enter Try.func32, Try.ntmps32
  go_wp2_with fail
  refine (c_iTaskValid _ t _ hT).mono ?_; rintro e w2 ⟨rfl, hk2⟩
  replace hk0 := hk0.trans hk2
  replace B0 := B0.kept hk2
  replace hT := hT.keep hk2
  clear hk2 h
  have c0 := B0.cell
  cases ht : Sp.taskOk t
  · have HE := Lib.hid (taskText_no ht)
    clear ht
    go_wp2_with fail
    go_ret
    exact ⟨by rw [HE.out]; rfl, hk0⟩
  have HK := Lib.hid ht
  have HE := Lib.hid (taskText_yes ht)
  obtain ⟨hs0, hs1⟩ := Sp.taskOk_start ht
  have hn6 := Sp.taskOk_len ht
  clear ht
  obtain ⟨_, _, _, _, _, _, e, hI, hD, _⟩ := hT
  injection e with e
  simp only [Array.mk.injEq, List.cons.injEq, Value.slice.injEq, and_true] at e
  obtain ⟨_, ⟨rfl, rfl, rfl⟩, ⟨rfl, rfl, rfl⟩⟩ := e
  have HL := Lib.hid hD.len
  rw [hD.len] at hn6 HE
  -- the builder
  have hB1 : Bld (w2.alloc (.cells #[.pointer none, .slice none 0 0] 84)) w2.heap.size w2.heap.size [] := Lib.fresh_isBuilder _ _ w2
  have hk1 := (Kept.refl w2).alloc (.cells #[.pointer none, .slice none 0 0] 84)
  obtain ⟨w3, HW3⟩ : ∃ x, Hid (w2.alloc (.cells #[.pointer none, .slice none 0 0] 84) = x) := ⟨_, rfl⟩
  rw [HW3.out] at hB1 hk1
  have HS : Hid (∀ w', Kept w2 w' → (w'.cell? ⟨w.heap.size, 0, none⟩ = some (.int .i64 t.start) ∧ w'.cell? ⟨w.heap.size, 1, none⟩ = some (.slice A n c) ∧ w'.cell? ⟨w.heap.size, 2, none⟩ = some (.slice A' n' c'))) :=
    fun w' hk => ⟨(B0.kept hk).cell 0, (B0.kept hk).cell 1, (B0.kept hk).cell 2⟩
  clear c0
  go_upto_region 4 with fail
  rw [HW3.out]
  obtain ⟨a0, a1, a2⟩ := HS.out _ hk1
  go_wp2_with fail
  clear a0 a1 a2
  refine (c_iLetters t.start _ hs0 hs1).mono ?_; rintro e w4 ⟨rfl, hk4⟩
  have hl1 := letters_len t.start
  have hl2 := codeText_len t.goal
  have H0 := Lib.hid (textUp_zero t)
  replace hB1 := hB1.keep hk4
  replace hk1 := hk1.trans hk4
  go_wp2_with fail
  refine (c_WriteS _ _ [] (Sp.letters t.start) _ hB1 (by simp; omega) hk1.size).mono ?_; rintro e w5 ⟨rfl, hB2, hs2⟩
  have hk5 := hk1.beside hs2
  rw [List.nil_append] at hB2
  go_wp2_with fail
  refine (c_WriteB _ _ (Sp.letters t.start) 62 62 rfl _ hB2 (by omega) hk5.size).mono ?_; rintro e w6 ⟨rfl, hB3, hs3⟩
  have hk6 := hk5.beside hs3
  obtain ⟨a0, a1, a2⟩ := HS.out _ hk6
  go_wp2_with fail
  clear a0 a1 a2
  refine (c_iCodeText A n c t.goal _ (hI.keep hk6)).mono ?_; rintro e w7 ⟨rfl, hk7⟩
  replace hB3 := hB3.keep hk7
  replace hk7 := hk6.trans hk7
  go_wp2_with fail
  refine (c_WriteS _ _ (Sp.letters t.start ++ [62]) (Sp.codeText t.goal) _ hB3 (by simp; omega) hk7.size).mono ?_; rintro e w8 ⟨rfl, hB4, hs4⟩
  have hk8 := hk7.beside hs4
  rw [← H0.out] at hB4
  clear hB1 hB2 hB3 hk1 hk4 hk5 hk6 hk7 hs2 hs3 hs4 H0
  obtain ⟨a0, a1, a2⟩ := HS.out _ hk8
  go_wp2_with fail
  clear a0 a1 a2
  go_loopw [5, 21] (fun _ i wr => ∃ k : Nat, k ≤ n' ∧ i = .int .i64 k ∧ Bld wr w2.heap.size w2.heap.size (Sp.textUp t k) ∧ Kept w2 wr) (fun _ i _ => n' - (intOf i).toNat)
  case atStart => exact ⟨0, Nat.zero_le _, rfl, hB4, hk8⟩
  case round =>
    clear hB4 hk8
    obtain ⟨k, hk, rfl, hB, hkr⟩ := hrel
    by_cases hlt : k < n'
    · have hlk := textUp_len t k
      have HT1 := Lib.hid (textUp_succ t k (by rw [HL.out]; exact hlt))
      have HDo := Lib.hid (Sp.taskOk_deed HK.out (k := k) (by rw [HL.out]; exact hlt))
      obtain ⟨b, off, rfl, hb, hc⟩ := hD.at hlt
      generalize t.deeds.getD k default = d at *
      obtain ⟨A2, n2, c2, hc0, hN, hc1, hc2, hc3, _⟩ := hc
      replace hc0 := hkr.at_ hc0
      replace hc1 := hkr.at_ hc1
      replace hc2 := hkr.at_ hc2
      replace hc3 := hkr.at_ hc3
      obtain ⟨o0, o1⟩ := deedOk_on HDo.out
      obtain ⟨f0, f1⟩ := deedOk_off HDo.out
      obtain ⟨p0, p1⟩ := deedOk_flip HDo.out
      have l1 := codeText_len d.need
      have l2 := letters_len d.on
      have l3 := letters_len d.off
      have l4 := letters_len d.flip
      have hkb := (Kept.refl wr).alloc (.cells #[.slice A2 n2 c2, .int .i64 d.on, .int .i64 d.off, .int .i64 d.flip] 43)
      have BX := Blk.new wr 43 #[.slice A2 n2 c2, .int .i64 d.on, .int .i64 d.off, .int .i64 d.flip]
      have hX : wr.heap.size ≠ w2.heap.size := fun e => by have := hB.lt; omega
      obtain ⟨X, HX⟩ : ∃ x, Hid (wr.heap.size = x) := ⟨_, rfl⟩
      obtain ⟨wa, HWa⟩ : ∃ x, Hid (wr.alloc (.cells #[.slice A2 n2 c2, .int .i64 d.on, .int .i64 d.off, .int .i64 d.flip] 43) = x) := ⟨_, rfl⟩
      rw [HX.out, HWa.out] at BX
      rw [HX.out] at hX
      rw [HWa.out] at hkb
      replace hB := hB.keep hkb
      replace hkr := hkr.trans hkb
      go_upto_region 10 with fail
      rw [HX.out, HWa.out]
      clear hc0 hc1 hc2 hc3 hkb
      go_wp2_with fail
      refine (c_WriteB _ _ (Sp.textUp t k) 59 59 rfl _ hB (by simp; omega) hkr.size).mono ?_; rintro e w11 ⟨rfl, hB11, hs11⟩
      have hk11 := hkr.beside hs11
      have BX11 := hs11.blk BX hX (by decide)
      have cX := BX11.cell
      go_wp2_with fail
      clear cX
      refine (c_iCodeText A2 n2 c2 d.need _ (hN.keep hk11)).mono ?_; rintro e v12 ⟨rfl, hv12⟩
      have hBv12 := hB11.keep hv12
      have hkv12 := hk11.trans hv12
      have BXv12 := BX11.kept hv12
      go_wp2_with fail
      refine (c_WriteS _ _ ((Sp.textUp t k) ++ [59]) (Sp.codeText d.need) _ hBv12 (by simp; omega) hkv12.size).mono ?_; rintro e w12 ⟨rfl, hB12, hs12⟩
      have hk12 := hkv12.beside hs12
      have BX12 := hs12.blk BXv12 hX (by decide)
      go_wp2_with fail
      refine (c_WriteB _ _ (((Sp.textUp t k) ++ [59]) ++ (Sp.codeText d.need)) 58 58 rfl _ hB12 (by simp; omega) hk12.size).mono ?_; rintro e w13 ⟨rfl, hB13, hs13⟩
      have hk13 := hk12.beside hs13
      have BX13 := hs13.blk BX12 hX (by decide)
      have cX := BX13.cell
      go_wp2_with fail
      clear cX
      refine (c_iLetters d.on _ o0 o1).mono ?_; rintro e v14 ⟨rfl, hv14⟩
      have hBv14 := hB13.keep hv14
      have hkv14 := hk13.trans hv14
      have BXv14 := BX13.kept hv14
      go_wp2_with fail
      refine (c_WriteS _ _ ((((Sp.textUp t k) ++ [59]) ++ (Sp.codeText d.need)) ++ [58]) (Sp.letters d.on) _ hBv14 (by simp; omega) hkv14.size).mono ?_; rintro e w14 ⟨rfl, hB14, hs14⟩
      have hk14 := hkv14.beside hs14
      have BX14 := hs14.blk BXv14 hX (by decide)
      go_wp2_with fail
      refine (c_WriteB _ _ (((((Sp.textUp t k) ++ [59]) ++ (Sp.codeText d.need)) ++ [58]) ++ (Sp.letters d.on)) 44 44 rfl _ hB14 (by simp; omega) hk14.size).mono ?_; rintro e w15 ⟨rfl, hB15, hs15⟩
      have hk15 := hk14.beside hs15
      have BX15 := hs15.blk BX14 hX (by decide)
      have cX := BX15.cell
      go_wp2_with fail
      clear cX
      refine (c_iLetters d.off _ f0 f1).mono ?_; rintro e v16 ⟨rfl, hv16⟩
      have hBv16 := hB15.keep hv16
      have hkv16 := hk15.trans hv16
      have BXv16 := BX15.kept hv16
      go_wp2_with fail
      refine (c_WriteS _ _ ((((((Sp.textUp t k) ++ [59]) ++ (Sp.codeText d.need)) ++ [58]) ++ (Sp.letters d.on)) ++ [44]) (Sp.letters d.off) _ hBv16 (by simp; omega) hkv16.size).mono ?_; rintro e w16 ⟨rfl, hB16, hs16⟩
      have hk16 := hkv16.beside hs16
      have BX16 := hs16.blk BXv16 hX (by decide)
      go_wp2_with fail
      refine (c_WriteB _ _ (((((((Sp.textUp t k) ++ [59]) ++ (Sp.codeText d.need)) ++ [58]) ++ (Sp.letters d.on)) ++ [44]) ++ (Sp.letters d.off)) 44 44 rfl _ hB16 (by simp; omega) hk16.size).mono ?_; rintro e w17 ⟨rfl, hB17, hs17⟩
      have hk17 := hk16.beside hs17
      have BX17 := hs17.blk BX16 hX (by decide)
      have cX := BX17.cell
      go_wp2_with fail
      clear cX
      refine (c_iLetters d.flip _ p0 p1).mono ?_; rintro e v18 ⟨rfl, hv18⟩
      have hBv18 := hB17.keep hv18
      have hkv18 := hk17.trans hv18
      have BXv18 := BX17.kept hv18
      go_wp2_with fail
      refine (c_WriteS _ _ ((((((((Sp.textUp t k) ++ [59]) ++ (Sp.codeText d.need)) ++ [58]) ++ (Sp.letters d.on)) ++ [44]) ++ (Sp.letters d.off)) ++ [44]) (Sp.letters d.flip) _ hBv18 (by simp; omega) hkv18.size).mono ?_; rintro e w18 ⟨rfl, hB18, hs18⟩
      have hk18 := hkv18.beside hs18
      have BX18 := hs18.blk BXv18 hX (by decide)
      have HF : Hid ((((((((((Sp.textUp t k) ++ [59]) ++ (Sp.codeText d.need)) ++ [58]) ++ (Sp.letters d.on)) ++ [44]) ++ (Sp.letters d.off)) ++ [44]) ++ (Sp.letters d.flip)) = Sp.textUp t (k + 1)) := by show _ = _; rw [HT1.out]; simp [Sp.deedTail]
      rw [HF.out] at hB18
      have HB := Lib.hid hB18
      have hkz := hk18
      go_wp2_with fail
      exact ⟨⟨k + 1, by omega, by go_num, HB.out, hkz⟩, by simp [intOf]; omega⟩
    · obtain rfl : k = n' := by omega
      go_wp2_with fail
      refine (c_bString _ _ _ _ hB (textUp_ne t k)).mono ?_; rintro e w9 ⟨rfl, hb9⟩
      go_wp2_with fail
      go_ret
      exact ⟨by rw [HE.out]; rfl, hk0.trans (Below.trans hkr hb9)⟩

end Go.Proofs.Ytphdojebdclonaa
