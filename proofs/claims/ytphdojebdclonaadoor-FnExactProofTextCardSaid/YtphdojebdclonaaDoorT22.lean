/- Walks: ReadCode, both. Walks: the program's readDeed. Rows of deeds of one's own, told deed by deed; a task of one's own that may be marked. Walks: the program's ReadTask. No condition. -/
import Derived.Test.YtphdojebdclonaaDoorT16
import Derived.Test.YtphdojebdclonaaDoorT20
import Derived.Test.YtphdojebdclonaaDoorT1
import Derived.Test.YtphdojebdclonaaDoorT10
import Derived.Test.YtphdojebdclonaaDoorT7
import Derived.Test.YtphdojebdclonaaDoorD4
import Derived.Test.YtphdojebdclonaaDoorHarT
namespace Go.Proofs.YtphdojebdclonaaDoor
set_option linter.unusedSimpArgs false
set_option linter.unusedVariables false
open Go.RowKit

/-- what a reading of a code gives: it reads the text of each valid code as this code -/
def CodeQ (X : Nat) (s : List UInt8) (v : Value) (w' : World) : Prop :=
  ∃ (A : Option Addr) (n c : Nat) (l : List Int) (b : Bool), v = .tuple #[.slice A n c, .bool b] ∧ w'.ownsRow X 3 1 (.slice A n c) n (l.map (Value.int .i64)) ∧
    Hid (n ≤ 199 ∧ (∀ x ∈ l, 0 ≤ x ∧ x ≤ 9) ∧ ∀ d, Sp.codeOk d = true → s = Sp.codeText d → b = true ∧ l = d)
theorem codeQ_no {s : List UInt8} {l : List Int} {q : Nat} (hR : s.length ≤ 190 → Sp.Rds 1 (s.drop 0) false l (s.drop q)) : ∀ d, Sp.codeOk d = true → s = Sp.codeText d → false = true ∧ ([] : List Int) = d := by
  intro d hd hs
  have hl := codeText_len d
  have h := (hR (by rw [hs]; omega) d []).1 (by rw [List.drop_zero, hs]; exact codeText_rds hd)
  exact absurd h.1 (by decide)
theorem codeQ_far {s : List UInt8} {l : List Int} {q : Nat} {b : Bool} (hq : q < s.length) (hR : s.length ≤ 190 → Sp.Rds 1 (s.drop 0) b l (s.drop q)) : ∀ d, Sp.codeOk d = true → s = Sp.codeText d → false = true ∧ ([] : List Int) = d := by
  intro d hd hs
  have hl := codeText_len d
  have h := (hR (by rw [hs]; omega) d []).1 (by rw [List.drop_zero, hs]; exact codeText_rds hd)
  have h2 := congrArg List.length h.2.2
  rw [List.length_drop, List.length_nil] at h2
  omega
theorem codeQ_is {s : List UInt8} {l : List Int} {q : Nat} {b : Bool} (hR : s.length ≤ 190 → Sp.Rds 1 (s.drop 0) b l (s.drop q)) : ∀ d, Sp.codeOk d = true → s = Sp.codeText d → b = true ∧ l = d := by
  intro d hd hs
  have hl := codeText_len d
  have h := (hR (by rw [hs]; omega) d []).1 (by rw [List.drop_zero, hs]; exact codeText_rds hd)
  exact ⟨h.1, h.2.1.symm⟩
theorem codeQ_bad {s : List UInt8} {l : List Int} {q : Nat} {b : Bool} (hl : Sp.codeOk l = false) (hR : s.length ≤ 190 → Sp.Rds 1 (s.drop 0) b l (s.drop q)) : ∀ d, Sp.codeOk d = true → s = Sp.codeText d → false = true ∧ ([] : List Int) = d := by
  intro d hd hs
  obtain ⟨_, rfl⟩ := codeQ_is hR d hd hs
  rw [hd] at hl; cases hl

set_option maxHeartbeats 4000000 in
set_option maxRecDepth 100000 in
theorem c_iReadCode (s : List UInt8) (w : World) (hs20 : s.length ≤ 1048576) : Calls Tryd.prog 82 #[.string ⟨s.toArray⟩] w (RetS (CodeQ w.heap.size s) w) := by
  have nl : ∀ x ∈ ([] : List Int), 0 ≤ x ∧ x ≤ 9 := fun x hx => by cases hx
  have HNL := Lib.hid nl
  clear nl
  by_cases hlong : (199 : Int) < (s.length : Int)
  · have HN : Hid (∀ d, Sp.codeOk d = true → s = Sp.codeText d → false = true ∧ ([] : List Int) = d) := fun d _ hs => by
      have := codeText_len d
      rw [← hs] at this
      omega
    go_enter Tryd.func82, Tryd.ntmps82
    go_wp2_with fail
    go_ret2
    exact ⟨_, rfl, ⟨none, 0, 0, [], false, rfl, World.ownsRow_nil _ _ _ _, by omega, HNL.out, HN.out⟩, Kept.refl _⟩
  · have hs : s.length ≤ 199 := by omega
    have hk0 := (Kept.refl w).alloc (.cells #[.string ⟨s.toArray⟩, .int .i64 0] 161)
    have hR0 : RdB (w.alloc (.cells #[.string ⟨s.toArray⟩, .int .i64 0] 161)) w.heap.size s 0 := Blk.new w _ _
    have HC := Lib.hid ((c_readers w.heap.size s hs _ 0 (Nat.lt_succ_self _) (Nat.zero_le _)).2.2.2 _ hR0)
    clear hR0
    go_enter Tryd.func82, Tryd.ntmps82
    go_wp2_with fail
    refine HC.out.mono ?_; rintro e w1 ⟨A, n, c, l, b, q, rfl, hown, hR, hb, h1, h2, h3, h4, hg⟩
    replace hk0 := hb.kept hk0 (Nat.le_refl _)
    replace hown := ownsRow_mono hown (X := w.heap.size) (by simp)
    have HG := Lib.hid (fun (_ : s.length ≤ 190) => hg)
    have H4 := Lib.hid h4
    clear hb hg h4 HC
    cases b
    · have HN := Lib.hid (codeQ_no HG.out)
      clear HG
      go_wp2_with fail
      go_ret2
      exact ⟨_, rfl, ⟨none, 0, 0, [], false, rfl, World.ownsRow_nil _ _ _ _, by omega, HNL.out, HN.out⟩, hk0⟩
    · have c1 := hR.cell 1
      by_cases hq : (q : Int) < (s.length : Int)
      · have HN := Lib.hid (codeQ_far (by omega) HG.out)
        clear HG
        go_wp2_with fail
        go_ret2
        exact ⟨_, rfl, ⟨none, 0, 0, [], false, rfl, World.ownsRow_nil _ _ _ _, by omega, HNL.out, HN.out⟩, hk0⟩
      · have hI := own_ints2 (by omega) hown (fun x hx => by have := H4.out x hx; unfold Sp.inI; omega)
        cases hv : Sp.codeOk l
        · have HN := Lib.hid (codeQ_bad hv HG.out)
          have HV := Lib.hid hv
          clear HG hv
          go_wp2_with fail
          refine (c_iCodeValid A n c l _ hI).mono ?_; rintro e w2 ⟨rfl, rfl⟩
          rw [HV.out]
          go_wp2_with fail
          go_ret2
          exact ⟨_, rfl, ⟨none, 0, 0, [], false, rfl, World.ownsRow_nil _ _ _ _, by omega, HNL.out, HN.out⟩, hk0⟩
        · have HN := Lib.hid (codeQ_is HG.out)
          have HV := Lib.hid hv
          clear HG hv
          go_wp2_with fail
          refine (c_iCodeValid A n c l _ hI).mono ?_; rintro e w2 ⟨rfl, rfl⟩
          rw [HV.out]
          go_wp2_with fail
          go_ret2
          exact ⟨_, rfl, ⟨A, n, c, l, true, rfl, hown, by omega, H4.out, fun d h1 h2 => ⟨rfl, (HN.out d h1 h2).2⟩⟩, hk0⟩

set_option maxHeartbeats 4000000 in
set_option maxRecDepth 100000 in
theorem c_sReadCode (s : List UInt8) (w : World) (hs20 : s.length ≤ 1048576) : Calls Tryd.prog 87 #[.string ⟨s.toArray⟩] w (RetS (CodeQ w.heap.size s) w) := by
  have nl : ∀ x ∈ ([] : List Int), 0 ≤ x ∧ x ≤ 9 := fun x hx => by cases hx
  have HNL := Lib.hid nl
  clear nl
  by_cases hlong : (199 : Int) < (s.length : Int)
  · have HN : Hid (∀ d, Sp.codeOk d = true → s = Sp.codeText d → false = true ∧ ([] : List Int) = d) := fun d _ hs => by
      have := codeText_len d
      rw [← hs] at this
      omega
    have hO0 := own_empty (Nat.le_refl w.heap.size)
    go_enter Tryd.func87, Tryd.ntmps87
    go_wp2_with fail
    go_ret2
    exact ⟨_, rfl, ⟨_, 0, _, [], false, rfl, hO0, by omega, HNL.out, HN.out⟩, (Kept.refl _).alloc _⟩
  · have hs : s.length ≤ 199 := by omega
    have HC := Lib.hid ((c_sreaders s hs _ 0 (Nat.lt_succ_self _) (Nat.zero_le _) 0 (Int.le_refl _) (Int.le_refl _)).2.2.2 w)
    go_enter Tryd.func87, Tryd.ntmps87
    go_wp2_with fail
    refine HC.out.mono ?_; rintro e w1 ⟨A, n, c, l, b, q, rfl, hown, hk0, h1, h2, h3, h4, hg⟩
    have HG := Lib.hid hg
    have H4 := Lib.hid h4
    have hO1 := own_empty hk0.size
    have hk1 := hk0.alloc (.cells #[] 3)
    clear hg h4 HC
    cases b
    · have HN := Lib.hid (codeQ_no HG.out)
      clear HG
      go_wp2_with fail
      go_ret2
      exact ⟨_, rfl, ⟨_, 0, _, [], false, rfl, hO1, by omega, HNL.out, HN.out⟩, hk1⟩
    · by_cases hq : (q : Int) = (s.length : Int)
      · have hI := own_ints2 (by omega) hown (fun x hx => by have := H4.out x hx; unfold Sp.inI; omega)
        cases hv : Sp.codeOk l
        · have HN := Lib.hid (codeQ_bad hv HG.out)
          have HV := Lib.hid hv
          clear HG hv
          go_wp2_with fail
          refine (c_sCodeValid A n c l _ hI).mono ?_; rintro e w2 ⟨rfl, rfl⟩
          rw [HV.out]
          go_wp2_with fail
          go_ret2
          exact ⟨_, rfl, ⟨_, 0, _, [], false, rfl, hO1, by omega, HNL.out, HN.out⟩, hk1⟩
        · have HN := Lib.hid (codeQ_is HG.out)
          have HV := Lib.hid hv
          clear HG hv
          go_wp2_with fail
          refine (c_sCodeValid A n c l _ hI).mono ?_; rintro e w2 ⟨rfl, rfl⟩
          rw [HV.out]
          go_wp2_with fail
          go_ret2
          exact ⟨_, rfl, ⟨A, n, c, l, true, rfl, hown, by omega, H4.out, fun d h1 h2 => ⟨rfl, (HN.out d h1 h2).2⟩⟩, hk0⟩
      · have hne : ((q : Int) == (s.length : Int)) = false := beq_eq_false_iff_ne.2 hq
        have HN := Lib.hid (codeQ_far (by omega) HG.out)
        clear HG
        go_wp2_with fail
        go_ret2
        exact ⟨_, rfl, ⟨_, 0, _, [], false, rfl, hO1, by omega, HNL.out, HN.out⟩, hk1⟩

end Go.Proofs.YtphdojebdclonaaDoor

namespace Go.Proofs.YtphdojebdclonaaDoor
set_option linter.unusedSimpArgs false
set_option linter.unusedVariables false
open Go.RowKit

/-- what a reading of a deed gives: it reads the text of each valid deed as this deed -/
def RDeedQ (X : Nat) (s : List UInt8) (v : Value) (w' : World) : Prop :=
  ∃ (A : Option Addr) (n c : Nat) (l : List Int) (on off flip : Int) (b : Bool), v = .tuple #[.agg #[.slice A n c, .int .i64 on, .int .i64 off, .int .i64 flip], .bool b] ∧ w'.ownsRow X 3 1 (.slice A n c) n (l.map (Value.int .i64)) ∧
    Hid (n ≤ 199 ∧ (∀ x ∈ l, 0 ≤ x ∧ x ≤ 9) ∧ (0 ≤ on ∧ on ≤ 31) ∧ (0 ≤ off ∧ off ≤ 31) ∧ (0 ≤ flip ∧ flip ≤ 31) ∧ ∀ d, Sp.deedOk d = true → s = Sp.deedText d → b = true ∧ l = d.need ∧ on = d.on ∧ off = d.off ∧ flip = d.flip)
theorem rdeedQ_no {X : Nat} {s : List UInt8} {w : World} (h : ∀ d, Sp.deedOk d = true → s ≠ Sp.deedText d) : RDeedQ X s (.tuple #[.agg #[.slice none 0 0, .int .i64 0, .int .i64 0, .int .i64 0], .bool false]) w :=
  ⟨none, 0, 0, [], 0, 0, 0, false, rfl, World.ownsRow_nil _ _ _ _, by omega, (fun x hx => by cases hx), by omega, by omega, by omega, fun d hd hs => absurd hs (h d hd)⟩
theorem readSetV_bd (s : List UInt8) : 0 ≤ Sp.readSetV s ∧ Sp.readSetV s ≤ 31 := by
  have := readSet_bd s
  unfold Sp.readSetV
  split <;> omega
theorem readSetV_letters {x : Int} (h0 : 0 ≤ x) (h1 : x ≤ 31) : Sp.readSetV (Sp.letters x) = x ∧ Sp.readSetB (Sp.letters x) = true := by
  have h := readSet_letters h0 h1
  unfold Sp.readSetV Sp.readSetB
  rw [h]
  exact ⟨if_neg (by omega), decide_eq_true (by omega)⟩
theorem Txts.at_ {w : World} {A : Option Addr} {n : Nat} {l : List (List UInt8)} (h : Txts w A n l) {k : Nat} (hk : k < n) : ∃ b off, A = some ⟨b, off, none⟩ ∧ b < w.heap.size ∧ w.cell? ⟨b, off + k, none⟩ = some (.string ⟨(l.getD k []).toArray⟩) := by
  obtain ⟨b, off, e, hb, hc⟩ := h.2 (by omega)
  exact ⟨b, off, e, hb, hc k hk⟩
/-- the three cells of the sets that have been read -/
def fcells (k : Nat) (y0 y1 y2 : Int) : Array Value := #[.int .i64 (if 0 < k then y0 else 0), .int .i64 (if 1 < k then y1 else 0), .int .i64 (if 2 < k then y2 else 0)]

set_option maxHeartbeats 4000000 in
set_option maxRecDepth 100000 in
theorem c_readDeed (s : List UInt8) (m : Int) (w : World) (hs20 : s.length ≤ 1048576) (hm0 : w.cell? ⟨1, 0, none⟩ = some (.int .i64 m)) :
    Calls Tryd.prog 83 #[.string ⟨s.toArray⟩] w (RetS (RDeedQ w.heap.size s) w) := by
  have hk0 := (Kept.refl w).alloc (.cells #[.slice none 0 0, .int .i64 0, .int .i64 0, .int .i64 0] 72)
  have B0 := Blk.new w 72 #[.slice none 0 0, .int .i64 0, .int .i64 0, .int .i64 0]
  have hm1 := hk0.at_ hm0
  have hle := Nat.le_refl w.heap.size
  obtain ⟨a, r, bb, HA⟩ : ∃ a r bb, Hid (Lib.cut s [58] = (a, r, bb)) := ⟨_, _, _, rfl⟩
  have hbd := cut_bd s 58
  rw [HA.out] at hbd
  simp only at hbd
  have HC : Hid (∀ d, Sp.deedOk d = true → s = Sp.deedText d → bb = true ∧ a = Sp.codeText d.need ∧ r = Sp.setsText d) := by
    intro d _ hs
    have := HA.out
    rw [hs, deed_cut2] at this
    injection this with e1 e2
    injection e2 with e2 e3
    exact ⟨e3.symm, e1.symm, e2.symm⟩
  go_enter Tryd.func83, Tryd.ntmps83
  go_wp2_with fail
  refine (c_Cut s 58 m _ hs20 hm1).mono ?_; rintro e w1 ⟨rfl, hk1⟩
  rw [HA.out]
  replace B0 := B0.kept hk1
  replace hk0 := hk0.trans hk1
  clear hk1 hm1
  cases bb
  · have HN : Hid (∀ d, Sp.deedOk d = true → s ≠ Sp.deedText d) := fun d hd hs => by have := (HC.out d hd hs).1; cases this
    have c0 := B0.cell
    have f0 := B0.frozen
    have hkF := (((hk0.setCell (p := ⟨w.heap.size, 0, none⟩) hle (.slice none 0 0)).setCell (p := ⟨w.heap.size, 1, none⟩) hle (.int .i64 0)).setCell (p := ⟨w.heap.size, 2, none⟩) hle (.int .i64 0)).setCell (p := ⟨w.heap.size, 3, none⟩) hle (.int .i64 0)
    have HKF := Lib.hid hkF
    clear HC hkF
    go_wp2_with fail
    refine bodyPost_ret (v := .tuple #[.agg #[.slice none 0 0, .int .i64 0, .int .i64 0, .int .i64 0], .bool false]) (by simp [results, Tryd.results83, go_sem, c0]) rfl ?_
    exact ⟨_, rfl, rdeedQ_no HN.out, HKF.out⟩
  have hm2 := hk0.at_ hm0
  go_wp2_with fail
  refine (c_Split r 44 m _ (by omega) hm2).mono ?_; rintro e w2 ⟨v, rfl, ⟨AL, cL, rfl, hcL, hT⟩, hk2⟩
  replace B0 := B0.kept hk2
  replace hk0 := hk0.trans hk2
  obtain ⟨L, HL⟩ : ∃ L, Hid (Sp.cutB 44 r = L) := ⟨_, rfl⟩
  rw [HL.out] at hT hcL
  rw [HL.out]
  have HCL : Hid (∀ d, Sp.deedOk d = true → s = Sp.deedText d → L = [Sp.letters d.on, Sp.letters d.off, Sp.letters d.flip]) := fun d hd hs => by
    rw [← HL.out, (HC.out d hd hs).2.2, sets_cut hd]
  clear hk2 hm2
  by_cases h3 : L.length = 3
  · rw [h3] at hT hcL
    rw [h3]
    have hkF0 := hk0.alloc (.cells #[.int .i64 0, .int .i64 0, .int .i64 0] 163)
    have BF0 := Blk.new w2 163 #[.int .i64 0, .int .i64 0, .int .i64 0]
    have hk20 := (Kept.refl w2).alloc (.cells #[.int .i64 0, .int .i64 0, .int .i64 0] 163)
    have hEF := B0.lt
    obtain ⟨F, HF⟩ : ∃ F, Hid (w2.heap.size = F) := ⟨_, rfl⟩
    have hFl : w2.heap.size ≤ F := by rw [HF.out]; exact Nat.le_refl _
    rw [HF.out] at BF0 hEF
    obtain ⟨y0, HY0⟩ : ∃ y, Hid (Sp.readSetV (L.getD 0 []) = y) := ⟨_, rfl⟩
    obtain ⟨y1, HY1⟩ : ∃ y, Hid (Sp.readSetV (L.getD 1 []) = y) := ⟨_, rfl⟩
    obtain ⟨y2, HY2⟩ : ∃ y, Hid (Sp.readSetV (L.getD 2 []) = y) := ⟨_, rfl⟩
    have HT := Lib.hid hT
    clear h3 hT
    go_wp2_with fail
    rw [HF.out]
    go_loopw [6, 9, 10, 29] (fun o _ _ i wr => ∃ k : Nat, k ≤ 3 ∧ o = .bool true ∧ i = .int .i64 k ∧ Blk wr F 163 (fcells k y0 y1 y2) ∧ Kept w2 wr ∧ Hid (∀ j, j < k → Sp.readSetB (L.getD j []) = true)) (fun _ _ _ i _ => 3 - (intOf i).toNat)
    case atStart => exact ⟨0, Nat.zero_le _, rfl, rfl, BF0, hk20, fun j hj => by omega⟩
    case round =>
      clear BF0 hk20 hkF0
      obtain ⟨k, hk, rfl, rfl, BF, hkr, HB⟩ := hrel
      have hkw := hk0.trans hkr
      by_cases hk3 : k < 3
      · obtain ⟨tb, toff, rfl, htb, htc⟩ := (HT.out.keep hkr).at_ hk3
        obtain ⟨x, HX⟩ : ∃ x, Hid (L.getD k [] = x) := ⟨_, rfl⟩
        rw [HX.out] at htc
        have hk3i : (k : Int) < 3 := by omega
        go_wp2_with fail
        refine (c_readLetters x _).mono ?_; rintro e w3 ⟨rfl, hk4⟩
        replace BF := BF.kept hk4
        replace hkr := hkr.trans hk4
        replace hkw := hkw.trans hk4
        have BE := (B0.kept hkr)
        obtain ⟨y, HY⟩ : ∃ y, Hid (Sp.readSetV x = y) := ⟨_, rfl⟩
        rw [HY.out]
        have cF : ∃ z, w3.cell? ⟨F, k, none⟩ = some (.int .i64 z) := by
          rw [BF.cell]
          rcases (by omega : k = 0 ∨ k = 1 ∨ k = 2) with rfl | rfl | rfl <;> exact ⟨_, rfl⟩
        obtain ⟨z, cF⟩ := cF
        have fF := BF.frozen k
        have BF2 := BF.set_ k (.int .i64 y)
        have hset : (fcells k y0 y1 y2).setIfInBounds k (.int .i64 y) = fcells (k + 1) y0 y1 y2 := by
          rcases (by omega : k = 0 ∨ k = 1 ∨ k = 2) with rfl | rfl | rfl
          · rw [← HY.out, ← HX.out, HY0.out]; simp [fcells]
          · rw [← HY.out, ← HX.out, HY1.out]; simp [fcells]
          · rw [← HY.out, ← HX.out, HY2.out]; simp [fcells]
        rw [hset] at BF2
        have hkr2 := hkr.setCell (p := ⟨F, k, none⟩) hFl (.int .i64 y)
        have hkw2 := hkw.setCell (p := ⟨F, k, none⟩) (by show w.heap.size ≤ F; omega) (.int .i64 y)
        clear hset BF htc
        cases hb : Sp.readSetB x
        · have HN : Hid (∀ d, Sp.deedOk d = true → s ≠ Sp.deedText d) := fun d hd hs => by
            have hL := HCL.out d hd hs
            obtain ⟨o0, o1⟩ := deedOk_on hd
            obtain ⟨p0, p1⟩ := deedOk_off hd
            obtain ⟨q0, q1⟩ := deedOk_flip hd
            rw [← HX.out, hL] at hb
            rcases (by omega : k = 0 ∨ k = 1 ∨ k = 2) with rfl | rfl | rfl
            · have := (readSetV_letters o0 o1).2
              rw [show [Sp.letters d.on, Sp.letters d.off, Sp.letters d.flip].getD 0 [] = Sp.letters d.on from rfl, this] at hb; cases hb
            · have := (readSetV_letters p0 p1).2
              rw [show [Sp.letters d.on, Sp.letters d.off, Sp.letters d.flip].getD 1 [] = Sp.letters d.off from rfl, this] at hb; cases hb
            · have := (readSetV_letters q0 q1).2
              rw [show [Sp.letters d.on, Sp.letters d.off, Sp.letters d.flip].getD 2 [] = Sp.letters d.flip from rfl, this] at hb; cases hb
          have B0' : Blk (w3.setCell ⟨F, k, none⟩ (.int .i64 y)) w.heap.size 72 #[.slice none 0 0, .int .i64 0, .int .i64 0, .int .i64 0] := BE.far (p := ⟨F, k, none⟩) (by show w.heap.size ≠ F; omega) _
          clear hb BE BF2 hkr hkr2 hkw
          have c0 := B0'.cell
          have f0 := B0'.frozen
          have HKF := Lib.hid ((((hkw2.setCell (p := ⟨w.heap.size, 0, none⟩) hle (.slice none 0 0)).setCell (p := ⟨w.heap.size, 1, none⟩) hle (.int .i64 0)).setCell (p := ⟨w.heap.size, 2, none⟩) hle (.int .i64 0)).setCell (p := ⟨w.heap.size, 3, none⟩) hle (.int .i64 0))
          clear hkw2
          go_wp2_with fail
          refine bodyPost_ret (v := .tuple #[.agg #[.slice none 0 0, .int .i64 0, .int .i64 0, .int .i64 0], .bool false]) (by simp [results, Tryd.results83, go_sem, c0]) rfl ?_
          exact ⟨_, rfl, rdeedQ_no HN.out, HKF.out⟩
        · have HB2 : Hid (∀ j, j < k + 1 → Sp.readSetB (L.getD j []) = true) := fun j hj => by
            by_cases e : j = k
            · rw [e, HX.out]; exact hb
            · exact HB.out j (by omega)
          clear hb BE hkr hkw2 hkw
          go_wp2_with fail
          exact ⟨⟨k + 1, by omega, rfl, by go_num, BF2, hkr2, HB2⟩, by simp [intOf]; omega⟩
      · obtain rfl : k = 3 := by omega
        have hf3 : fcells 3 y0 y1 y2 = #[.int .i64 y0, .int .i64 y1, .int .i64 y2] := by simp [fcells]
        rw [hf3] at BF
        have BE := B0.kept hkr
        clear hf3
        go_wp2_with fail
        refine (c_iReadCode a _ (by omega)).mono ?_; rintro e w3 ⟨v, rfl, ⟨A, n, c, l, b, rfl, hown, HQ⟩, hk4⟩
        have BF3 := BF.kept hk4
        have BE3 := BE.kept hk4
        have hkw3 := hkw.trans hk4
        replace hown := ownsRow_mono hown hkw.size
        have hy0 : 0 ≤ y0 ∧ y0 ≤ 31 := by rw [← HY0.out]; exact readSetV_bd _
        have hy1 : 0 ≤ y1 ∧ y1 ≤ 31 := by rw [← HY1.out]; exact readSetV_bd _
        have hy2 : 0 ≤ y2 ∧ y2 ≤ 31 := by rw [← HY2.out]; exact readSetV_bd _
        have HN : Hid (n ≤ 199 ∧ (∀ x ∈ l, 0 ≤ x ∧ x ≤ 9) ∧ (0 ≤ y0 ∧ y0 ≤ 31) ∧ (0 ≤ y1 ∧ y1 ≤ 31) ∧ (0 ≤ y2 ∧ y2 ≤ 31) ∧ ∀ d, Sp.deedOk d = true → s = Sp.deedText d → b = true ∧ l = d.need ∧ y0 = d.on ∧ y1 = d.off ∧ y2 = d.flip) := by
          refine ⟨HQ.out.1, HQ.out.2.1, hy0, hy1, hy2, fun d hd hs => ?_⟩
          have hL := HCL.out d hd hs
          obtain ⟨o0, o1⟩ := deedOk_on hd
          obtain ⟨p0, p1⟩ := deedOk_off hd
          obtain ⟨q0, q1⟩ := deedOk_flip hd
          obtain ⟨e1, e2⟩ := HQ.out.2.2 d.need (deedOk_need hd) (HC.out d hd hs).2.1
          refine ⟨e1, e2, ?_, ?_, ?_⟩
          · rw [← HY0.out, hL]; exact (readSetV_letters o0 o1).1
          · rw [← HY1.out, hL]; exact (readSetV_letters p0 p1).1
          · rw [← HY2.out, hL]; exact (readSetV_letters q0 q1).1
        have r0 := BF3.cell 0
        have r1 := BF3.cell 1
        have r2 := BF3.cell 2
        have c0 := BE3.cell
        have f0 := BE3.frozen
        have b1 := BE3.set_ 0 (.slice A n c)
        have b2 := b1.set_ 1 (.int .i64 y0)
        have b3 := b2.set_ 2 (.int .i64 y1)
        have HO := Lib.hid (own_farT (by decide) b3 (own_farT (by decide) b2 (own_farT (by decide) b1 (own_farT (by decide) BE3 hown 0 (.slice A n c)) 1 (.int .i64 y0)) 2 (.int .i64 y1)) 3 (.int .i64 y2))
        have HKF := Lib.hid ((((hkw3.setCell (p := ⟨w.heap.size, 0, none⟩) hle (.slice A n c)).setCell (p := ⟨w.heap.size, 1, none⟩) hle (.int .i64 y0)).setCell (p := ⟨w.heap.size, 2, none⟩) hle (.int .i64 y1)).setCell (p := ⟨w.heap.size, 3, none⟩) hle (.int .i64 y2))
        clear b1 b2 b3 HC hown hkw3 hkr hkw hk4 BF BE hy0 hy1 hy2 HQ
        go_wp2_with fail
        refine bodyPost_ret (v := .tuple #[.agg #[.slice A n c, .int .i64 y0, .int .i64 y1, .int .i64 y2], .bool b]) (by simp [results, Tryd.results83, go_sem, c0]) rfl ?_
        exact ⟨_, rfl, ⟨A, n, c, l, y0, y1, y2, b, rfl, HO.out, HN.out⟩, HKF.out⟩
  · have HN : Hid (∀ d, Sp.deedOk d = true → s ≠ Sp.deedText d) := fun d hd hs => h3 (by rw [HCL.out d hd hs]; rfl)
    obtain ⟨K, HK⟩ : ∃ K, Hid (L.length = K) := ⟨_, rfl⟩
    rw [HK.out] at h3
    rw [HK.out]
    have hne : ((K : Int) == 3) = false := beq_eq_false_iff_ne.2 (by omega)
    have hne2 : ((K : Int) != 3) = true := by rw [bne, hne]; rfl
    have c0 := B0.cell
    have f0 := B0.frozen
    have hkF := (((hk0.setCell (p := ⟨w.heap.size, 0, none⟩) hle (.slice none 0 0)).setCell (p := ⟨w.heap.size, 1, none⟩) hle (.int .i64 0)).setCell (p := ⟨w.heap.size, 2, none⟩) hle (.int .i64 0)).setCell (p := ⟨w.heap.size, 3, none⟩) hle (.int .i64 0)
    have HKF := Lib.hid hkF
    clear HC hkF
    go_wp2_with fail
    refine bodyPost_ret (v := .tuple #[.agg #[.slice none 0 0, .int .i64 0, .int .i64 0, .int .i64 0], .bool false]) (by simp [results, Tryd.results83, go_sem, c0]) rfl ?_
    exact ⟨_, rfl, rdeedQ_no HN.out, HKF.out⟩

end Go.Proofs.YtphdojebdclonaaDoor

namespace Go.Proofs.YtphdojebdclonaaDoor
set_option linter.unusedSimpArgs false
set_option linter.unusedVariables false
open Go.RowKit

theorem cutB_parts (c : UInt8) (s : List UInt8) : ∀ p ∈ Sp.cutB c s, p.length ≤ s.length := by
  induction s with
  | nil => intro p hp; simp [Sp.cutB] at hp; subst hp; simp
  | cons x xs ih =>
    intro p hp
    unfold Sp.cutB at hp
    split at hp
    · rcases List.mem_cons.1 hp with rfl | hp
      · simp
      · have := ih p hp; simp; omega
    · rcases List.mem_cons.1 hp with rfl | hp
      · cases hc : Sp.cutB c xs with
        | nil => exact absurd hc (cutB_ne c xs)
        | cons a l =>
          have := ih a (by rw [hc]; simp)
          simp; omega
      · have := ih p (List.mem_of_mem_tail hp); simp; omega
theorem cutB_part (c : UInt8) (s : List UInt8) (k : Nat) : ((Sp.cutB c s).getD k []).length ≤ s.length := by
  by_cases hk : k < (Sp.cutB c s).length
  · rw [List.getD_eq_getElem?_getD, List.getElem?_eq_getElem hk]
    exact cutB_parts c s _ (List.getElem_mem hk)
  · rw [List.getD_eq_getElem?_getD, List.getElem?_eq_none (by omega)]; simp

/-- the four cells of the deed d with a row of its own, in block a -/
def DV (X : Nat) (w : World) (d : Sp.Deed) (a : Nat) (v0 v1 v2 v3 : Value) : Prop :=
  ∃ (A : Option Addr) (n c : Nat), v0 = .slice A n c ∧ v1 = .int .i64 d.on ∧ v2 = .int .i64 d.off ∧ v3 = .int .i64 d.flip ∧ n ≤ 199 ∧ w.ownsRow X 3 1 (.slice A n c) n (d.need.map (Value.int .i64)) ∧
    (∀ x ∈ d.need, 0 ≤ x ∧ x ≤ 9) ∧ (-1 ≤ d.on ∧ d.on ≤ 31) ∧ (-1 ≤ d.off ∧ d.off ≤ 31) ∧ (-1 ≤ d.flip ∧ d.flip ≤ 31) ∧ (A = some ⟨a, 0, none⟩ ∨ n = 0)
/-- a row of one's own with the deeds ds, whose rows lie in the blocks gs, one behind the other -/
def DRowL (X : Nat) (w : World) (A : Option Addr) (n c : Nat) (ds : List Sp.Deed) (gs : Nat → Nat) : Prop :=
  ds.length = n ∧ (∃ xs : List Value, w.ownsRow X 72 4 (.slice A n c) n xs ∧ ∀ k, k < n → ∃ v0 v1 v2 v3, xs[k * 4]? = some v0 ∧ xs[k * 4 + 1]? = some v1 ∧ xs[k * 4 + 2]? = some v2 ∧ xs[k * 4 + 3]? = some v3 ∧ DV X w (ds.getD k default) (gs k) v0 v1 v2 v3) ∧
    (∀ k, k < n → X ≤ gs k ∧ gs k < w.heap.size) ∧ ∀ j k, j < k → k < n → gs j < gs k
section
variable {X : Nat} {w w' : World}
theorem DV.kept {d : Sp.Deed} {a : Nat} {v0 v1 v2 v3 : Value} (h : DV X w d a v0 v1 v2 v3) (hk : IntsKept X w w') : DV X w' d a v0 v1 v2 v3 := by
  obtain ⟨A, n, c, e0, e1, e2, e3, hn, ho, rest⟩ := h
  exact ⟨A, n, c, e0, e1, e2, e3, hn, hk _ _ _ _ ho, rest⟩
theorem DRowL.kept {A : Option Addr} {n c : Nat} {ds : List Sp.Deed} {gs : Nat → Nat} (h : DRowL X w A n c ds gs) (hk : RowsKept X w w') (hs : w.heap.size ≤ w'.heap.size) : DRowL X w' A n c ds gs := by
  obtain ⟨hl, ⟨xs, ho, hv⟩, h1, h2⟩ := h
  refine ⟨hl, ⟨xs, hk _ _ _ _ _ (.inr rfl) ho, fun k hkn => ?_⟩, fun k hkn => ⟨(h1 k hkn).1, by have := (h1 k hkn).2; omega⟩, h2⟩
  obtain ⟨v0, v1, v2, v3, g0, g1, g2, g3, hd⟩ := hv k hkn
  exact ⟨v0, v1, v2, v3, g0, g1, g2, g3, hd.kept hk.ints⟩
theorem DRowL.none_ (X : Nat) (w : World) (gs : Nat → Nat) : DRowL X w none 0 0 [] gs := ⟨rfl, ⟨[], World.ownsRow_nil _ _ _ _, fun k hk => by omega⟩, fun k hk => by omega, fun j k _ hk => by omega⟩
theorem DRowL.made {A : Option Addr} {c : Nat} (gs : Nat → Nat) (h : w.ownsRow X 72 4 (.slice A 0 c) 0 []) : DRowL X w A 0 c [] gs := ⟨rfl, ⟨[], h, fun k hk => by omega⟩, fun k hk => by omega, fun j k _ hk => by omega⟩
theorem nine_in {l : List Int} (h : ∀ x ∈ l, 0 ≤ x ∧ x ≤ 9) : ∀ x ∈ l, Sp.inI x := fun x hx => by have := h x hx; unfold Sp.inI; omega
theorem DRowL.deeds {A : Option Addr} {n c : Nat} {ds : List Sp.Deed} {gs : Nat → Nat} (h : DRowL X w A n c ds gs) (hn : n ≤ 1048577) : Deeds w A n ds := by
  obtain ⟨hl, ⟨xs, ho, hv⟩, _, _⟩ := h
  refine ⟨hl, by unfold maxLen; omega, fun h0 => ?_⟩
  obtain ⟨_, g, rfl, hg, hgl, _, _⟩ := own_some ho h0
  have hc : ∀ j u, xs[j]? = some u → w.cell? ⟨g, j, none⟩ = some u := fun j u hu => by
    rw [ho.cellAt j (by have := ho.1; have := (List.getElem?_eq_some_iff.1 hu).1; omega)]
    exact hu
  refine ⟨g, 0, rfl, hgl, fun k hk => ?_⟩
  obtain ⟨v0, v1, v2, v3, h0, h1, h2, h3, A, m, c, rfl, rfl, rfl, rfl, hm, hr, hi, i1, i2, i3, _⟩ := hv k hk
  rw [Nat.zero_add]
  exact ⟨A, m, c, hc _ _ h0, own_ints2 (by omega) hr (nine_in hi), hc _ _ h1, hc _ _ h2, hc _ _ h3, by unfold Sp.inI; omega, by unfold Sp.inI; omega, by unfold Sp.inI; omega⟩
end
theorem DRowL.push {X n c c2 a : Nat} {w w2 : World} {o : Obj} {A A2 : Option Addr} {xs : List Value} {ds : List Sp.Deed} {d : Sp.Deed} {gs : Nat → Nat} {v0 v1 v2 v3 : Value} (hl : ds.length = n) (ho : w.ownsRow X 72 4 (.slice A n c) n xs)
    (hv : ∀ k, k < n → ∃ v0 v1 v2 v3, xs[k * 4]? = some v0 ∧ xs[k * 4 + 1]? = some v1 ∧ xs[k * 4 + 2]? = some v2 ∧ xs[k * 4 + 3]? = some v3 ∧ DV X w (ds.getD k default) (gs k) v0 v1 v2 v3)
    (h1 : ∀ k, k < n → X ≤ gs k ∧ gs k < w.heap.size) (h2 : ∀ j k, j < k → k < n → gs j < gs k) (ha : X ≤ a ∧ a < w.heap.size) (ha2 : ∀ k, k < n → gs k < a)
    (hg : (w.alloc o).grownBy w2 (Value.slice A n c).ownBlock) (ho2 : w2.ownsRow X 72 4 (.slice A2 (n + 1) c2) (n + 1) (xs ++ [v0, v1, v2, v3])) (hd : DV X w d a v0 v1 v2 v3) :
    DRowL X w2 A2 (n + 1) c2 (ds ++ [d]) (fun j => if j = n then a else gs j) ∧ IntsKept X w w2 := by
  have hI : IntsKept X w w2 := fun sz v m ys h => (h.alloc o).kept hg (own_apart (h.alloc o) (ho.alloc o) (by decide))
  have hxl : xs.length = n * 4 := ho.1
  have hsz : w.heap.size ≤ w2.heap.size := by have := hg.size; simp at this; omega
  refine ⟨⟨by rw [List.length_append, hl]; rfl, ⟨xs ++ [v0, v1, v2, v3], ho2, fun k hk => ?_⟩, fun k hk => ?_, fun j k hjk hk => ?_⟩, hI⟩
  · by_cases e : k = n
    · subst e
      refine ⟨v0, v1, v2, v3, ?_, ?_, ?_, ?_, ?_⟩
      · rw [List.getElem?_append_right (by omega), hxl]; simp
      · rw [List.getElem?_append_right (by omega), hxl, show k * 4 + 1 - k * 4 = 1 by omega]; rfl
      · rw [List.getElem?_append_right (by omega), hxl, show k * 4 + 2 - k * 4 = 2 by omega]; rfl
      · rw [List.getElem?_append_right (by omega), hxl, show k * 4 + 3 - k * 4 = 3 by omega]; rfl
      · show DV X w2 _ (if k = k then a else gs k) _ _ _ _
        rw [if_pos rfl, List.getD_eq_getElem?_getD, List.getElem?_append_right (by omega), hl, Nat.sub_self]
        exact hd.kept hI
    · obtain ⟨u0, u1, u2, u3, g0, g1, g2, g3, h4⟩ := hv k (by omega)
      refine ⟨u0, u1, u2, u3, ?_, ?_, ?_, ?_, ?_⟩
      · rw [List.getElem?_append_left (by omega)]; exact g0
      · rw [List.getElem?_append_left (by omega)]; exact g1
      · rw [List.getElem?_append_left (by omega)]; exact g2
      · rw [List.getElem?_append_left (by omega)]; exact g3
      · show DV X w2 _ (if k = n then a else gs k) _ _ _ _
        rw [if_neg e, List.getD_eq_getElem?_getD, List.getElem?_append_left (by omega), ← List.getD_eq_getElem?_getD]
        exact h4.kept hI
  · show X ≤ (if k = n then a else gs k) ∧ (if k = n then a else gs k) < _
    by_cases e : k = n
    · rw [if_pos e]; omega
    · rw [if_neg e]; have := h1 k (by omega); omega
  · show (if j = n then a else gs j) < (if k = n then a else gs k)
    rw [if_neg (by omega)]
    by_cases e : k = n
    · rw [if_pos e]; exact ha2 j (by omega)
    · rw [if_neg e]; exact h2 j k hjk (by omega)

theorem own_sh {X n c a : Nat} {w : World} {l : List Int} (h : w.ownsRow X 3 1 (.slice (some ⟨a, 0, none⟩) n c) n (l.map (Value.int .i64))) (hl : n = l.length) : Sh a (a + 1) w (some ⟨a, 0, none⟩) n := by
  intro hn
  obtain ⟨cur, hB⟩ := own_blk h
  refine ⟨a, 0, rfl, Nat.le_refl _, Nat.lt_succ_self _, hB.lt, fun k hk => ⟨⟨l[k]'(by omega), ?_⟩, hB.frozen _⟩⟩
  rw [Nat.zero_add, h.cellAt k (by omega)]
  simp [List.getElem?_eq_getElem (show k < l.length by omega)]
theorem DRowL.od {X B C n c g : Nat} {w : World} {ds : List Sp.Deed} {gs : Nat → Nat} (h : DRowL X w (some ⟨g, 0, none⟩) n c ds gs) (hB : B ≤ X) (hC : w.heap.size ≤ C) (hne : ∀ d ∈ ds, 1 ≤ d.need.length ∧ d.need.length ≤ 64) (h0 : 0 < n) :
    OD B C w g n gs (fun k => (ds.getD k default).need.length) := by
  obtain ⟨hl, ⟨xs, ho, hv⟩, h1, h2⟩ := h
  obtain ⟨_, g', e, hg, hgl, _, _⟩ := own_some ho h0
  simp only [Option.some.injEq, Addr.mk.injEq] at e
  obtain ⟨rfl, _⟩ := e
  obtain ⟨cur, hBk⟩ := own_blk ho
  have hc : ∀ j u, xs[j]? = some u → w.cell? ⟨g, j, none⟩ = some u := fun j u hu => by
    rw [ho.cellAt j (by have := ho.1; have := (List.getElem?_eq_some_iff.1 hu).1; omega)]
    exact hu
  refine ⟨by omega, by omega, hgl, hBk.frozen, fun k hk => ?_, fun j k hj hk hjk => ?_⟩
  · obtain ⟨v0, v1, v2, v3, g0, g1, g2, g3, A, m, c, rfl, rfl, rfl, rfl, hm, hr, hi, i1, i2, i3, hA⟩ := hv k hk
    have hd : ds.getD k default ∈ ds := by
      rw [List.getD_eq_getElem?_getD, List.getElem?_eq_getElem (by omega)]
      exact List.getElem_mem _
    obtain ⟨l1, l2⟩ := hne _ hd
    have hml : m = (ds.getD k default).need.length := by have := hr.1; rw [List.length_map] at this; omega
    subst hml
    rcases hA with rfl | hA
    · refine ⟨c, hc _ _ g0, l2, ?_, by have := h1 k hk; omega, by have := h1 k hk; omega, (h1 k hk).2, own_sh hr rfl, fun i hi => ?_⟩
      · rcases own_apart hr ho (by decide) with e | e
        · cases e
        · intro e2; apply e; rw [e2]; rfl
      · match i, hi with
        | 0, _ => exact ⟨_, hc _ _ g1⟩
        | 1, _ => exact ⟨_, hc _ _ g2⟩
        | 2, _ => exact ⟨_, hc _ _ g3⟩
    · omega
  · rcases Nat.lt_or_gt_of_ne hjk with e | e
    · exact Nat.ne_of_lt (h2 j k e hk)
    · exact Nat.ne_of_gt (h2 k j e hj)

/-- a task value that may be marked -/
def MT (X : Nat) (w : World) (v : Value) : Prop :=
  ∃ (x : Int) (AG : Option Addr) (nG cG gG : Nat) (A : Option Addr) (n c g : Nat) (gs ms : Nat → Nat), v = .agg #[.int .i64 x, .slice AG nG cG, .slice A n c] ∧ nG ≤ 64 ∧ n ≤ 8 ∧ (AG = some ⟨gG, 0, none⟩ ∨ nG = 0) ∧ X ≤ gG ∧ gG < w.heap.size ∧
    Sh gG (gG + 1) w AG nG ∧ (0 < n → A = some ⟨g, 0, none⟩) ∧ (0 < n → OD X w.heap.size w g n gs ms) ∧ (0 < n → gG ≠ g) ∧ (∀ j, j < n → gG ≠ gs j) ∧ ∀ j, j < n → ms j ≤ 64
theorem MT.zero {X : Nat} {w : World} (hX : X < w.heap.size) : MT X w (.agg #[.int .i64 0, .slice none 0 0, .slice none 0 0]) :=
  ⟨0, none, 0, 0, X, none, 0, 0, 0, fun _ => 0, fun _ => 0, rfl, by omega, by omega, .inr rfl, Nat.le_refl _, hX, fun h => by omega, fun h => by omega, fun h => by omega, fun h => by omega, fun j hj => by omega, fun j hj => by omega⟩
theorem MT.task {X nG cG gG n c : Nat} {x : Int} {w : World} {AG A : Option Addr} {goal : List Int} {ds : List Sp.Deed} {gs : Nat → Nat} (hG : w.ownsRow X 3 1 (.slice AG nG cG) nG (goal.map (Value.int .i64))) (hA : AG = some ⟨gG, 0, none⟩ ∨ nG = 0)
    (hX : X ≤ gG) (hGs : gG < w.heap.size) (hg : goal.length ≤ 64) (hD : DRowL X w A n c ds gs) (hn : n ≤ 8) (hne : ∀ d ∈ ds, 1 ≤ d.need.length ∧ d.need.length ≤ 64) (hlt : ∀ k, k < n → gG < gs k) (hg1 : 1 ≤ goal.length) :
    MT X w (.agg #[.int .i64 x, .slice AG nG cG, .slice A n c]) := by
  have hnG : nG = goal.length := by have := hG.1; rw [List.length_map] at this; omega
  obtain rfl : AG = some ⟨gG, 0, none⟩ := hA.resolve_right (by omega)
  have hms : ∀ j, j < n → (ds.getD j default).need.length ≤ 64 := fun j hj => by
    have hl := hD.1
    have hd : ds.getD j default ∈ ds := by
      rw [List.getD_eq_getElem?_getD, List.getElem?_eq_getElem (by omega)]
      exact List.getElem_mem _
    exact (hne _ hd).2
  by_cases h0 : 0 < n
  · obtain ⟨xs, ho, _⟩ := hD.2.1
    obtain ⟨_, g, rfl, _⟩ := own_some ho h0
    refine ⟨x, _, nG, cG, gG, _, n, c, g, gs, _, rfl, by omega, hn, .inl rfl, hX, hGs, own_sh hG hnG, fun _ => rfl, fun _ => hD.od (Nat.le_refl _) (Nat.le_refl _) hne h0, fun _ => ?_, fun j hj => Nat.ne_of_lt (hlt j hj), hms⟩
    rcases own_apart hG ho (by decide) with e | e
    · cases e
    · intro e2; apply e; rw [e2]; rfl
  · exact ⟨x, _, nG, cG, gG, A, n, c, 0, gs, _, rfl, by omega, hn, .inl rfl, hX, hGs, own_sh hG hnG, fun h => absurd h h0, fun h => absurd h h0, fun h => absurd h h0, fun j hj => Nat.ne_of_lt (hlt j hj), hms⟩

/-- what a reading of a task gives -/
def RTaskQ (X : Nat) (s : List UInt8) (v : Value) (w' : World) : Prop :=
  ∃ (t : Sp.Task) (b : Bool) (tv : Value), v = .tuple #[tv, .bool b] ∧ TaskV w' tv t ∧ MT X w' tv ∧
    Hid ((b = true → Sp.taskOk t = true ∧ Sp.taskText t = s) ∧ (b = false → t = ⟨0, [], []⟩ ∧ tv = .agg #[.int .i64 0, .slice none 0 0, .slice none 0 0]) ∧ ∀ t', Sp.taskOk t' = true → Sp.taskText t' = s → b = true ∧ t = t')
theorem task_zero (w : World) : TaskV w (.agg #[.int .i64 0, .slice none 0 0, .slice none 0 0]) ⟨0, [], []⟩ :=
  ⟨none, 0, 0, none, 0, 0, rfl, ⟨rfl, by unfold maxLen; omega, (fun x hx => by cases hx), fun h => by omega⟩, ⟨rfl, by unfold maxLen; omega, fun h => by omega⟩, by show Sp.inI 0; unfold Sp.inI; omega⟩
theorem rtaskQ_no {X : Nat} {s : List UInt8} {w : World} (h : ∀ t, Sp.taskOk t = true → Sp.taskText t ≠ s) (hX : X < w.heap.size) : RTaskQ X s (.tuple #[.agg #[.int .i64 0, .slice none 0 0, .slice none 0 0], .bool false]) w :=
  ⟨⟨0, [], []⟩, false, _, rfl, task_zero w, MT.zero hX, (fun h => by cases h), (fun _ => ⟨rfl, rfl⟩), fun t ht hs => absurd hs (h t ht)⟩

end Go.Proofs.YtphdojebdclonaaDoor

namespace Go.Proofs.YtphdojebdclonaaDoor
set_option linter.unusedSimpArgs false
set_option linter.unusedVariables false
open Go.RowKit

theorem taskOk_len {t : Sp.Task} (h : Sp.taskOk t = true) : t.deeds.length ≤ 6 := by
  unfold Sp.taskOk at h
  simp only [Bool.and_eq_true, decide_eq_true_eq] at h
  exact h.1.2
theorem codeOk_bd {l : List Int} (h : Sp.codeOk l = true) : 1 ≤ l.length ∧ l.length ≤ 64 := by
  obtain ⟨p, _, _, h1, h2⟩ := (Sp.codeOk_iff l).1 h
  omega
theorem deeds_bd {t : Sp.Task} (h : Sp.taskOk t = true) : ∀ d ∈ t.deeds, 1 ≤ d.need.length ∧ d.need.length ≤ 64 := fun d hd => codeOk_bd (deedOk_need (deeds_ok h d hd))
theorem DRowL.mono {X Y n c : Nat} {w : World} {A : Option Addr} {ds : List Sp.Deed} {gs : Nat → Nat} (h : DRowL X w A n c ds gs) (hY : Y ≤ X) : DRowL Y w A n c ds gs := by
  obtain ⟨hl, ⟨xs, ho, hv⟩, h1, h2⟩ := h
  refine ⟨hl, ⟨xs, ownsRow_mono ho hY, fun k hk => ?_⟩, fun k hk => ⟨Nat.le_trans hY (h1 k hk).1, (h1 k hk).2⟩, h2⟩
  obtain ⟨v0, v1, v2, v3, g0, g1, g2, g3, A, m, c, e0, e1, e2, e3, hm, hr, rest⟩ := hv k hk
  exact ⟨v0, v1, v2, v3, g0, g1, g2, g3, A, m, c, e0, e1, e2, e3, hm, ownsRow_mono hr hY, rest⟩
/-- what has been read so far -/
def Sofar (s : List UInt8) (L : List (List UInt8)) (start : Int) (goal : List Int) (ds : List Sp.Deed) (k : Nat) : Prop :=
  ∀ t, Sp.taskOk t = true → Sp.taskText t = s → L = Sp.headText t :: t.deeds.map Sp.deedText ∧ start = t.start ∧ goal = t.goal ∧ ds = t.deeds.take k
theorem sofar_piece {L : List (List UInt8)} {t : Sp.Task} {k : Nat} (h : L = Sp.headText t :: t.deeds.map Sp.deedText) (hk : k + 1 < L.length) : L.getD (k + 1) [] = Sp.deedText (t.deeds.getD k default) ∧ k < t.deeds.length ∧ t.deeds.getD k default ∈ t.deeds := by
  subst h
  simp only [List.length_cons, List.length_map] at hk
  have h1 : k < t.deeds.length := by omega
  refine ⟨?_, h1, ?_⟩
  · simp [List.getD, List.getElem?_map, List.getElem?_eq_getElem h1]
  · rw [List.getD_eq_getElem?_getD, List.getElem?_eq_getElem h1]; exact List.getElem_mem _

set_option maxHeartbeats 8000000 in
set_option maxRecDepth 100000 in
theorem c_iReadTask (s : List UInt8) (m : Int) (w : World) (hs20 : s.length ≤ 1048576) (hm0 : w.cell? ⟨1, 0, none⟩ = some (.int .i64 m)) :
    Calls Tryd.prog 31 #[.string ⟨s.toArray⟩] w (RetS (RTaskQ w.heap.size s) w) := by
  obtain ⟨i0, hi0, hz0, hz1, hz2⟩ := info_parts info_deed
  have HI := Lib.hid (And.intro hi0 (And.intro hz0 (And.intro hz1 hz2)))
  clear hi0 hz0 hz1 hz2
  have hk0 := (Kept.refl w).alloc (.cells #[.int .i64 0, .slice none 0 0, .slice none 0 0] 26)
  have B0 := Blk.new w 26 #[.int .i64 0, .slice none 0 0, .slice none 0 0]
  have hm1 := hk0.at_ hm0
  have hle := Nat.le_refl w.heap.size
  obtain ⟨L, HL⟩ : ∃ L, Hid (Sp.cutB 59 s = L) := ⟨_, rfl⟩
  have HP : Hid (∀ k, (L.getD k []).length ≤ 1048576) := fun k => by rw [← HL.out]; have := cutB_part 59 s k; omega
  have hL1 : 1 ≤ L.length := by rw [← HL.out]; exact List.length_pos_iff.2 (cutB_ne 59 s)
  have hL2 : L.length ≤ 1048577 := by rw [← HL.out]; have := cutB_len 59 s; omega
  have HC : Hid (∀ t, Sp.taskOk t = true → Sp.taskText t = s → L = Sp.headText t :: t.deeds.map Sp.deedText) := fun t ht hs => by rw [← HL.out, ← hs, taskText_cut ht]
  go_enter Tryd.func31, Tryd.ntmps31
  go_wp2_with fail
  refine (c_Split s 59 m _ hs20 hm1).mono ?_; rintro e w1 ⟨v, rfl, ⟨AL, cL, rfl, hcL, hT⟩, hk1⟩
  rw [HL.out] at hT hcL
  rw [HL.out]
  replace B0 := B0.kept hk1
  replace hk0 := hk0.trans hk1
  obtain ⟨K, HK⟩ : ∃ K, Hid (L.length = K) := ⟨_, rfl⟩
  rw [HK.out] at hT hcL hL1 hL2
  rw [HK.out]
  clear hk1 hm1
  by_cases hK7 : (7 : Int) < (K : Int)
  · have HN : Hid (∀ t, Sp.taskOk t = true → Sp.taskText t ≠ s) := fun t ht hs => by
      have h1 := congrArg List.length (HC.out t ht hs)
      have h2 := taskOk_len ht
      rw [HK.out] at h1
      simp only [List.length_cons, List.length_map] at h1
      omega
    have c0 := B0.cell
    have f0 := B0.frozen
    have hkF := ((hk0.setCell (p := ⟨w.heap.size, 0, none⟩) hle (.int .i64 0)).setCell (p := ⟨w.heap.size, 1, none⟩) hle (.slice none 0 0)).setCell (p := ⟨w.heap.size, 2, none⟩) hle (.slice none 0 0)
    have hzF := (((B0.set_ 0 (.int .i64 0)).set_ 1 (.slice none 0 0)).set_ 2 (.slice none 0 0)).lt
    have HKF := Lib.hid (And.intro hkF hzF)
    clear hkF hzF HC 
    go_wp2_with fail
    refine bodyPost_ret (v := .tuple #[.agg #[.int .i64 0, .slice none 0 0, .slice none 0 0], .bool false]) (by simp [results, Tryd.results31, go_sem, c0]) rfl ?_
    exact ⟨_, rfl, rtaskQ_no HN.out HKF.out.2, HKF.out.1⟩
  have hK1 : (0 : Int) < (K : Int) := by omega
  obtain ⟨tb, toff, rfl, htb, htc⟩ := hT.at_ (show 0 < K by omega)
  have HT := Lib.hid hT
  obtain ⟨x, HX⟩ : ∃ x, Hid (L.getD 0 [] = x) := ⟨_, rfl⟩
  rw [HX.out] at htc
  have hx20 : x.length ≤ 1048576 := by rw [← HX.out]; exact HP.out 0
  have hm2 := hk0.at_ hm0
  rw [Nat.add_zero] at htc
  obtain ⟨a, r, bb, HA⟩ : ∃ a r bb, Hid (Lib.cut x [62] = (a, r, bb)) := ⟨_, _, _, rfl⟩
  have hbd := cut_bd x 62
  rw [HA.out] at hbd
  simp only at hbd
  have HC2 : Hid (∀ t, Sp.taskOk t = true → Sp.taskText t = s → bb = true ∧ a = Sp.letters t.start ∧ r = Sp.codeText t.goal) := by
    intro t ht hs
    have h1 : x = Sp.headText t := by rw [← HX.out, HC.out t ht hs]; rfl
    have := HA.out
    rw [h1, head_cut2 ht] at this
    injection this with e1 e2
    injection e2 with e2 e3
    exact ⟨e3.symm, e1.symm, e2.symm⟩
  clear hT
  go_wp2_with fail
  refine (c_Cut x 62 m _ hx20 hm2).mono ?_; rintro e w2 ⟨rfl, hk2⟩
  rw [HA.out]
  replace B0 := B0.kept hk2
  replace hk0 := hk0.trans hk2
  have HT2 : Hid (Txts w2 (some ⟨tb, toff, none⟩) K L) := HT.out.keep hk2
  clear hk2 hm2 htc
  cases bb
  · have HN : Hid (∀ t, Sp.taskOk t = true → Sp.taskText t ≠ s) := fun t ht hs => by have := (HC2.out t ht hs).1; cases this
    have c0 := B0.cell
    have f0 := B0.frozen
    have hkF := ((hk0.setCell (p := ⟨w.heap.size, 0, none⟩) hle (.int .i64 0)).setCell (p := ⟨w.heap.size, 1, none⟩) hle (.slice none 0 0)).setCell (p := ⟨w.heap.size, 2, none⟩) hle (.slice none 0 0)
    have hzF := (((B0.set_ 0 (.int .i64 0)).set_ 1 (.slice none 0 0)).set_ 2 (.slice none 0 0)).lt
    have HKF := Lib.hid (And.intro hkF hzF)
    clear hkF hzF HC HC2
    go_wp2_with fail
    refine bodyPost_ret (v := .tuple #[.agg #[.int .i64 0, .slice none 0 0, .slice none 0 0], .bool false]) (by simp [results, Tryd.results31, go_sem, c0]) rfl ?_
    exact ⟨_, rfl, rtaskQ_no HN.out HKF.out.2, HKF.out.1⟩
  have hkE := (Kept.refl w2).alloc (.cells #[.int .i64 0, .slice none 0 0, .slice none 0 0] 26)
  have BE := Blk.new w2 26 #[.int .i64 0, .slice none 0 0, .slice none 0 0]
  have hEw := B0.lt
  obtain ⟨E, HE⟩ : ∃ E, Hid (w2.heap.size = E) := ⟨_, rfl⟩
  have hEge : w2.heap.size ≤ E := by rw [HE.out]; exact Nat.le_refl _
  have hEw2 : w.heap.size < E := by rw [← HE.out]; exact hEw
  obtain ⟨wE, HWE⟩ : ∃ x, Hid (w2.alloc (.cells #[.int .i64 0, .slice none 0 0, .slice none 0 0] 26) = x) := ⟨_, rfl⟩
  rw [HWE.out] at hkE BE
  rw [HE.out] at BE
  obtain ⟨y, HY⟩ : ∃ y, Hid (Sp.readSetV a = y) := ⟨_, rfl⟩
  have hyb : 0 ≤ y ∧ y ≤ 31 := by rw [← HY.out]; exact readSetV_bd _
  obtain ⟨K', rfl⟩ : ∃ K', K = K' + 1 := ⟨K - 1, by omega⟩
  clear HT
  go_wp2_with fail
  rw [HWE.out, HE.out]
  refine (c_readLetters a _).mono ?_; rintro e w3 ⟨rfl, hk3⟩
  rw [HY.out]
  replace BE := BE.kept hk3
  replace hkE := hkE.trans hk3
  have ce := BE.cell 0
  have fe := BE.frozen 0
  have BE2 := BE.set_ 0 (.int .i64 y)
  have hkE2 := hkE.setCell (p := ⟨E, 0, none⟩) hEge (.int .i64 y)
  simp only [List.setIfInBounds_toArray, List.set_cons_zero] at BE2
  clear hk3 BE hkE
  cases hra : Sp.readSetB a
  · have HN : Hid (∀ t, Sp.taskOk t = true → Sp.taskText t ≠ s) := fun t ht hs => by
      obtain ⟨h0, h1⟩ := Sp.taskOk_start ht
      have h2 := (readSetV_letters h0 h1).2
      rw [← (HC2.out t ht hs).2.1, hra] at h2
      cases h2
    have BR := B0.kept hkE2
    have hkR := hk0.trans hkE2
    clear hra
    have c0 := BR.cell
    have f0 := BR.frozen
    have hkF := ((hkR.setCell (p := ⟨w.heap.size, 0, none⟩) hle (.int .i64 0)).setCell (p := ⟨w.heap.size, 1, none⟩) hle (.slice none 0 0)).setCell (p := ⟨w.heap.size, 2, none⟩) hle (.slice none 0 0)
    have hzF := (((BR.set_ 0 (.int .i64 0)).set_ 1 (.slice none 0 0)).set_ 2 (.slice none 0 0)).lt
    have HKF := Lib.hid (And.intro hkF hzF)
    clear hkF hzF HC HC2 B0 hk0 hkE2 BE2
    go_wp2_with fail
    refine bodyPost_ret (v := .tuple #[.agg #[.int .i64 0, .slice none 0 0, .slice none 0 0], .bool false]) (by simp [results, Tryd.results31, go_sem, c0]) rfl ?_
    exact ⟨_, rfl, rtaskQ_no HN.out HKF.out.2, HKF.out.1⟩
  clear hra
  obtain ⟨w4, HW4⟩ : ∃ x, Hid (w3.setCell ⟨E, 0, none⟩ (.int .i64 y) = x) := ⟨_, rfl⟩
  rw [HW4.out] at BE2 hkE2
  go_upto_region 11 with fail
  rw [HW4.out]
  clear ce fe
  go_wp2_with fail
  refine (c_iReadCode r _ (by omega)).mono ?_; rintro e w5 ⟨v, rfl, ⟨A, n, c, l, b, rfl, hown, HQ⟩, hk5⟩
  have hown2 := ownsRow_mono hown (hk0.trans hkE2).size
  replace BE2 := BE2.kept hk5
  replace hkE2 := hkE2.trans hk5
  have hEl := BE2.lt
  obtain ⟨gG, hgA, hgX, hgl⟩ : ∃ gG, (A = some ⟨gG, 0, none⟩ ∨ n = 0) ∧ w.heap.size ≤ gG ∧ gG < w5.heap.size := by
    by_cases hn0 : 0 < n
    · obtain ⟨_, g, rfl, hg, hgl, _⟩ := own_some hown2 hn0
      exact ⟨g, .inl rfl, hg, hgl⟩
    · exact ⟨w.heap.size, .inr (by omega), Nat.le_refl _, by omega⟩
  have ce := BE2.cell 1
  have fe := BE2.frozen 1
  have HG5 : Hid ((w5.setCell ⟨E, 1, none⟩ (.slice A n c)).ownsRow w.heap.size 3 1 (.slice A n c) n (l.map (Value.int .i64))) := own_farT (by decide) BE2 hown2 1 (.slice A n c)
  have BE3 := BE2.set_ 1 (.slice A n c)
  have hkE3 := hkE2.setCell (p := ⟨E, 1, none⟩) hEge (.slice A n c)
  simp only [List.setIfInBounds_toArray, List.set_cons_zero, List.set_cons_succ] at BE3
  have HQn := HQ.out.1
  clear hk5 BE2 hkE2 hown hown2
  cases b
  · have HN : Hid (∀ t, Sp.taskOk t = true → Sp.taskText t ≠ s) := fun t ht hs => by
      have := (HQ.out.2.2 t.goal (Sp.taskOk_goal ht) (HC2.out t ht hs).2.2).1
      cases this
    have BR := B0.kept hkE3
    have hkR := hk0.trans hkE3
    have c0 := BR.cell
    have f0 := BR.frozen
    have hkF := ((hkR.setCell (p := ⟨w.heap.size, 0, none⟩) hle (.int .i64 0)).setCell (p := ⟨w.heap.size, 1, none⟩) hle (.slice none 0 0)).setCell (p := ⟨w.heap.size, 2, none⟩) hle (.slice none 0 0)
    have hzF := (((BR.set_ 0 (.int .i64 0)).set_ 1 (.slice none 0 0)).set_ 2 (.slice none 0 0)).lt
    have HKF := Lib.hid (And.intro hkF hzF)
    clear hkF hzF HC HC2 B0 hk0 hkE3 BE3 HG5 HQ
    go_wp2_with fail
    refine bodyPost_ret (v := .tuple #[.agg #[.int .i64 0, .slice none 0 0, .slice none 0 0], .bool false]) (by simp [results, Tryd.results31, go_sem, c0]) rfl ?_
    exact ⟨_, rfl, rtaskQ_no HN.out HKF.out.2, HKF.out.1⟩
  obtain ⟨w6, HW6⟩ : ∃ x, Hid (w5.setCell ⟨E, 1, none⟩ (.slice A n c) = x) := ⟨_, rfl⟩
  have hsz6 : w6.heap.size = w5.heap.size := by rw [← HW6.out]; simp
  rw [HW6.out] at BE3 hkE3 HG5
  have hgl6 : gG < w6.heap.size := by omega
  have HS0 : Hid (Sofar s L y l [] 0) := fun t ht hs => by
    obtain ⟨h0, h1⟩ := Sp.taskOk_start ht
    refine ⟨HC.out t ht hs, ?_, (HQ.out.2.2 t.goal (Sp.taskOk_goal ht) (HC2.out t ht hs).2.2).2, by simp⟩
    rw [← HY.out, (HC2.out t ht hs).2.1]
    exact (readSetV_letters h0 h1).1
  have hw7 : IntKind.i64.wrap ((K' : Int) + 1) = (K' : Int) + 1 := by rw [IntKind.wrap_i64]; omega
  clear hsz6 hgl
  go_upto_region 14 with fail
  rw [HW6.out]
  clear ce fe HW6
  go_cut [49, 50, 51] from 48 (fun v n i w' => ∃ tf cf : Nat, v = .slice (some ⟨tb, tf, none⟩) K' cf ∧ (0 < K' → tf = toff + 1) ∧ n = .int .i64 (K' : Int) ∧ i = .int .i64 0 ∧ w' = w6)
  case first =>
    by_cases hc1 : cL = 1
    · obtain rfl : K' = 0 := by omega
      subst hc1
      go_wp2_with fail
      go_meet
      case rel => exact ⟨toff, 0, rfl, fun h => by omega, rfl, rfl, rfl⟩
    · go_wp2_with fail
      all_goals go_meet
      all_goals exact ⟨_, _, rfl, fun _ => rfl, rfl, rfl, rfl⟩
  case rest =>
  obtain ⟨tf, cf, rfl, htf, rfl, rfl, rfl⟩ := hcut
  go_wp2_with fail
  go_loopw [10, 11, 12, 51] (fun _ _ _ i wr => ∃ (k c2 : Nat) (A2 : Option Addr) (ds : List Sp.Deed) (gs : Nat → Nat), i = .int .i64 (k : Int) ∧ k ≤ K' ∧ Blk wr E 26 #[.int .i64 y, .slice A n c, .slice A2 k c2] ∧ Hid (wr.ownsRow w.heap.size 3 1 (.slice A n c) n (l.map (Value.int .i64))) ∧ Hid (DRowL w2.heap.size wr A2 k c2 ds gs) ∧ Kept w2 wr ∧ gG < wr.heap.size ∧ Hid (∀ j, j < k → gG < gs j) ∧ Hid (Sofar s L y l ds k)) (fun _ _ _ i _ => K' - (intOf i).toNat)
  case atStart => exact ⟨0, 0, none, [], fun _ => 0, rfl, Nat.zero_le _, BE3, HG5.out, DRowL.none_ _ _ _, hkE3, hgl6, fun j hj => by omega, HS0.out⟩
  case round =>
    clear BE3 HG5 hkE3 hgl6 HS0
    obtain ⟨k, c2, A2, ds, gs, rfl, hkK, BE, HGo, HDo, hkr, hgr, Hgs, HSo⟩ := hrel
    by_cases hlt : k < K'
    · obtain ⟨tb2, toff2, e2, htb2, htc⟩ := (HT2.out.keep hkr).at_ (show k + 1 < K' + 1 by omega)
      obtain ⟨z, HZ⟩ : ∃ z, Hid (L.getD (k + 1) [] = z) := ⟨_, rfl⟩
      simp only [Option.some.injEq, Addr.mk.injEq] at e2
      obtain ⟨rfl, rfl, _⟩ := e2
      rw [HZ.out, show toff + (k + 1) = tf + k by have := htf (by omega); omega] at htc
      have hz20 : z.length ≤ 1048576 := by rw [← HZ.out]; exact HP.out _
      have hmr := (hk0.trans hkr).at_ hm0
      have hlti : (k : Int) < (K' : Int) := by omega
      go_wp2_with fail
      refine (c_readDeed z m _ hz20 hmr).mono ?_; rintro e wD ⟨v, rfl, ⟨Ad, nd, cd, ld, on, off, flip, bd, rfl, hownd, HQd⟩, hkd⟩
      have hkA := (Kept.refl wD).alloc (.cells #[.slice Ad nd cd, .int .i64 on, .int .i64 off, .int .i64 flip] 72)
      have BD := Blk.new wD 72 #[.slice Ad nd cd, .int .i64 on, .int .i64 off, .int .i64 flip]
      have hsA : (wD.alloc (.cells #[.slice Ad nd cd, .int .i64 on, .int .i64 off, .int .i64 flip] 72)).heap.size = wD.heap.size + 1 := by simp
      obtain ⟨DB, HDB⟩ : ∃ x, Hid (wD.heap.size = x) := ⟨_, rfl⟩
      obtain ⟨wF, HWF⟩ : ∃ x, Hid (wD.alloc (.cells #[.slice Ad nd cd, .int .i64 on, .int .i64 off, .int .i64 flip] 72) = x) := ⟨_, rfl⟩
      rw [HWF.out] at hkA BD hsA
      have hszD := hkd.size
      have hkF : Kept wr wF := hkd.trans hkA
      have hszr := (hkr).size
      have hownF := ownsRow_mono (own_keep hownd hkA) hszr
      obtain ⟨gd, hgdA, hgd1, hgd2⟩ : ∃ gd, (Ad = some ⟨gd, 0, none⟩ ∨ nd = 0) ∧ wr.heap.size ≤ gd ∧ gd < wF.heap.size := by
        by_cases hn0 : 0 < nd
        · obtain ⟨_, g, rfl, hg, hgl, _⟩ := own_some hownd hn0
          exact ⟨g, .inl rfl, hg, by omega⟩
        · exact ⟨wr.heap.size, .inr (by omega), Nat.le_refl _, by omega⟩
      rw [HDB.out] at BD
      clear hsA hszD hkA hkd hownd
      go_upto_region 18 with fail
      rw [HWF.out, HDB.out]
      replace BE := BE.kept hkF
      have hkr5 := hkr.trans hkF
      clear htc HWF HDB
      cases bd
      · have HN : Hid (∀ t, Sp.taskOk t = true → Sp.taskText t ≠ s) := fun t ht hs => by
          obtain ⟨e1, _⟩ := HSo.out t ht hs
          obtain ⟨p1, _, p3⟩ := sofar_piece (k := k) e1 (by rw [HK.out]; omega)
          have := (HQd.out.2.2.2.2.2 _ (deeds_ok ht _ p3) (by rw [← HZ.out, p1])).1
          cases this
        have BR := B0.kept hkr5
        have hkR := hk0.trans hkr5
        have c0 := BR.cell
        have f0 := BR.frozen
        have hkF := ((hkR.setCell (p := ⟨w.heap.size, 0, none⟩) hle (.int .i64 0)).setCell (p := ⟨w.heap.size, 1, none⟩) hle (.slice none 0 0)).setCell (p := ⟨w.heap.size, 2, none⟩) hle (.slice none 0 0)
        have hzF := (((BR.set_ 0 (.int .i64 0)).set_ 1 (.slice none 0 0)).set_ 2 (.slice none 0 0)).lt
        have HKF := Lib.hid (And.intro hkF hzF)
        clear hkF hzF HC HC2 B0 hk0 hkr5 hkr BE BD hownF HQ HQd HSo HDo HGo
        go_wp2_with fail
        refine bodyPost_ret (v := .tuple #[.agg #[.int .i64 0, .slice none 0 0, .slice none 0 0], .bool false]) (by simp [results, Tryd.results31, go_sem, c0]) rfl ?_
        exact ⟨_, rfl, rtaskQ_no HN.out HKF.out.2, HKF.out.1⟩
      · obtain ⟨hdl, ⟨xs, hxs, hxv⟩, hd1, hd2⟩ := HDo.out.kept (RowsKept.of_kept hkF) hkF.size
        have HGF := own_keep HGo.out hkF
        have hHd : DV w2.heap.size wF ⟨ld, on, off, flip⟩ gd (.slice Ad nd cd) (.int .i64 on) (.int .i64 off) (.int .i64 flip) :=
          ⟨Ad, nd, cd, rfl, rfl, rfl, rfl, HQd.out.1, hownF, HQd.out.2.1, by have := HQd.out.2.2.1; show -1 ≤ on ∧ on ≤ 31; omega, by have := HQd.out.2.2.2.1; show -1 ≤ off ∧ off ≤ 31; omega, by have := HQd.out.2.2.2.2.1; show -1 ≤ flip ∧ flip ≤ 31; omega, hgdA⟩
        have hgsr : ∀ j, j < k → gs j < wr.heap.size := fun j hj => (HDo.out.2.2.1 j hj).2
        have HX1 := Lib.hid (And.intro hdl (And.intro hxv (And.intro hd1 (And.intro hd2 (And.intro hHd hgsr)))))
        have HS2 : Hid (Sofar s L y l (ds ++ [⟨ld, on, off, flip⟩]) (k + 1)) := fun t ht hs => by
          obtain ⟨e1, e2, e3, e4⟩ := HSo.out t ht hs
          obtain ⟨p1, p2, p3⟩ := sofar_piece (k := k) e1 (by rw [HK.out]; omega)
          obtain ⟨_, q1, q2, q3, q4⟩ := HQd.out.2.2.2.2.2 _ (deeds_ok ht _ p3) (by rw [← HZ.out, p1])
          refine ⟨e1, e2, e3, ?_⟩
          rw [e4, List.take_succ_eq_append_getElem p2]
          have hg : t.deeds.getD k default = t.deeds[k] := by rw [List.getD_eq_getElem?_getD, List.getElem?_eq_getElem p2]; rfl
          rw [hg] at q1 q2 q3 q4
          rw [q1, q2, q3, q4]
        have c2E := BE.cell 2
        have dB0 := BD.cell 0
        have dB1 := BD.cell 1
        have dB2 := BD.cell 2
        have dB3 := BD.cell 3
        have hszF := hkr5.size
        have hxsA := hxs.alloc (.cells #[.slice Ad nd cd, .int .i64 on, .int .i64 off, .int .i64 flip] 72)
        have BEA := BE.alloc (.cells #[.slice Ad nd cd, .int .i64 on, .int .i64 off, .int .i64 flip] 72)
        have HNE := Lib.hid (own_ne_blk hxsA BEA (by decide))
        have HXSA := Lib.hid hxsA
        have HBEA := Lib.hid BEA
        have hn6 : k ≤ 6 := by omega
        clear hxsA BEA
        clear hdl hxv hd1 hd2 hHd hgsr hownF HSo HQd
        go_wp2_with (at_builtin; refine wpList_append_own _ rfl (.tmp 64) (.tmp 66) 24 rfl w2.heap.size 72 i0 (.agg #[.slice none 0 0, .int .i64 0, .int .i64 0, .int .i64 0]) 4 48 Tryd.underlying24 HI.out.1 HI.out.2.1 HI.out.2.2.1 HI.out.2.2.2 rfl (by decide) (.slice A2 k c2) k xs rfl HXSA.out ⟨wF.heap.size, 0, none⟩ 1 1 [.slice Ad nd cd, .int .i64 on, .int .i64 off, .int .i64 flip] rfl rfl (list_new _ _ _) (by simp [Value.oneCell']) (by unfold maxLen; omega) (by omega) (by simp; omega) ?_; intro v' w8 hown8 hgrow _; obtain ⟨A3, c3, rfl⟩ := own_form hown8; have hBE8 := Blk.grown HBEA.out hgrow HNE.out; have d8 := hBE8.cell 2; have f8 := hBE8.frozen 2)
        obtain ⟨HD8, _⟩ := DRowL.push HX1.out.1 hxs HX1.out.2.1 HX1.out.2.2.1 HX1.out.2.2.2.1 (a := gd) ⟨by omega, hgd2⟩ (fun j hj => by have := HX1.out.2.2.2.2.2 j hj; omega) hgrow hown8 HX1.out.2.2.2.2.1
        have HG8 := (HGF.alloc (.cells #[.slice Ad nd cd, .int .i64 on, .int .i64 off, .int .i64 flip] 72)).kept hgrow (own_apart (HGF.alloc (.cells #[.slice Ad nd cd, .int .i64 on, .int .i64 off, .int .i64 flip] 72)) HXSA.out (by decide))
        have hk8 := (hkr5.alloc (.cells #[.slice Ad nd cd, .int .i64 on, .int .i64 off, .int .i64 flip] 72)).grown hgrow (fun j e => (World.ownsRow.lt HXSA.out j e).1)
        have hsz8 := hk8.size
        have hsg := hgrow.size
        have hge8 : gG < w8.heap.size := by have := hkF.size; simp at hsg; omega
        have B9 := hBE8.set_ 2 (.slice A3 (k + 1) c3)
        simp only [List.setIfInBounds_toArray, List.set_cons_zero, List.set_cons_succ] at B9
        have HG9 := own_farT (by decide) hBE8 HG8 2 (.slice A3 (k + 1) c3)
        have HD9 := HD8.kept (RowsKept.set hBE8 (by decide) (by decide) 2 (.slice A3 (k + 1) c3)) (by simp)
        have hk9 := hk8.setCell (p := ⟨E, 2, none⟩) hEge (.slice A3 (k + 1) c3)
        exact ⟨⟨k + 1, c3, A3, _, _, by go_num, by omega, B9, HG9, HD9, hk9, by simpa using hge8, fun j hj => by
          show gG < (if j = k then gd else gs j)
          by_cases e : j = k
          · rw [if_pos e]; omega
          · rw [if_neg e]; exact Hgs.out j (by omega), HS2.out⟩, by simp [intOf]; omega⟩
    · obtain rfl : k = K' := by omega
      have TV : TaskV wr (.agg #[.int .i64 y, .slice A n c, .slice A2 k c2]) ⟨y, l, ds⟩ :=
        ⟨A, n, c, A2, k, c2, rfl, own_ints2 (by omega) HGo.out (nine_in HQ.out.2.1), HDo.out.deeds (by omega), by show Sp.inI y; unfold Sp.inI; omega⟩
      have c0E := BE.cell 0
      have c1E := BE.cell 1
      have c2E := BE.cell 2
      have HIS : Hid (∀ t, Sp.taskOk t = true → Sp.taskText t = s → (⟨y, l, ds⟩ : Sp.Task) = t) := fun t ht hs => by
        obtain ⟨e1, e2, e3, e4⟩ := HSo.out t ht hs
        have h1 := congrArg List.length e1
        rw [HK.out] at h1
        simp only [List.length_cons, List.length_map] at h1
        rw [List.take_of_length_le (by omega)] at e4
        cases t
        simp only at e2 e3 e4
        rw [e2, e3, e4]
      obtain ⟨t, HTt⟩ : ∃ t : Sp.Task, Hid ((⟨y, l, ds⟩ : Sp.Task) = t) := ⟨_, rfl⟩
      rw [HTt.out] at TV HIS
      have hkB := hk0.trans hkr
      clear HSo hlt
      go_wp2_with fail
      refine (c_iTaskValid _ _ _ TV).mono ?_; rintro e w7 ⟨rfl, hk7⟩
      have BE7 := BE.kept hk7
      have hkr7 := hkr.trans hk7
      clear c0E c1E c2E
      cases ht : Sp.taskOk t
      · have HN : Hid (∀ t', Sp.taskOk t' = true → Sp.taskText t' ≠ s) := fun t' ht' hs => by
          have := HIS.out t' ht' hs
          rw [this, ht'] at ht; cases ht
        have BR := B0.kept hkr7
        have hkR := hk0.trans hkr7
        clear ht
        have c0 := BR.cell
        have f0 := BR.frozen
        have hkF := ((hkR.setCell (p := ⟨w.heap.size, 0, none⟩) hle (.int .i64 0)).setCell (p := ⟨w.heap.size, 1, none⟩) hle (.slice none 0 0)).setCell (p := ⟨w.heap.size, 2, none⟩) hle (.slice none 0 0)
        have hzF := (((BR.set_ 0 (.int .i64 0)).set_ 1 (.slice none 0 0)).set_ 2 (.slice none 0 0)).lt
        have HKF := Lib.hid (And.intro hkF hzF)
        clear hkF hzF HC HC2 B0 hk0 hkr7 hkr BE BE7 HQ HDo HGo TV
        go_wp2_with fail
        refine bodyPost_ret (v := .tuple #[.agg #[.int .i64 0, .slice none 0 0, .slice none 0 0], .bool false]) (by simp [results, Tryd.results31, go_sem, c0]) rfl ?_
        exact ⟨_, rfl, rtaskQ_no HN.out HKF.out.2, HKF.out.1⟩
      · have HOK := Lib.hid ht
        have TV7 := TV.keep hk7
        have c0E := BE7.cell 0
        have c1E := BE7.cell 1
        have c2E := BE7.cell 2
        clear ht TV
        go_wp2_with fail
        refine (c_iTaskText _ _ _ TV7).mono ?_; rintro e w8 ⟨rfl, hk8⟩
        have BE8 := BE7.kept hk8
        have hkr8 := hkr7.trans hk8
        have hk78 := hk7.trans hk8
        clear c0E c1E c2E
        obtain ⟨u, HU⟩ : ∃ u, Hid (Sp.taskText t = u) := ⟨_, rfl⟩
        rw [HU.out]
        by_cases hus : u = s
        · have HUS := Lib.hid hus
          have heq : (u == s) = true := beq_iff_eq.2 hus
          have BR := B0.kept hkr8
          have hkR := hk0.trans hkr8
          have HG8 := own_keep HGo.out hk78
          have HD8 := HDo.out.kept (RowsKept.of_kept hk78) hk78.size
          have hg8 : gG < w8.heap.size := Nat.lt_of_lt_of_le hgr hk78.size
          have c0E := BE8.cell 0
          have c1E := BE8.cell 1
          have c2E := BE8.cell 2
          have c0 := BR.cell
          have f0 := BR.frozen
          have b1 := BR.set_ 0 (.int .i64 y)
          have b2 := b1.set_ 1 (.slice A n c)
          have HGf := Lib.hid (own_farT (by decide) b2 (own_farT (by decide) b1 (own_farT (by decide) BR HG8 0 (.int .i64 y)) 1 (.slice A n c)) 2 (.slice A2 k c2))
          have krF := ((RowsKept.set (X := w2.heap.size) BR (by decide) (by decide) 0 (.int .i64 y)).trans (RowsKept.set b1 (by decide) (by decide) 1 (.slice A n c))).trans (RowsKept.set b2 (by decide) (by decide) 2 (.slice A2 k c2))
          have HDf := Lib.hid ((HD8.kept krF (by simp)).mono (Nat.le_of_lt hEw))
          have hkF := ((hkR.setCell (p := ⟨w.heap.size, 0, none⟩) hle (.int .i64 y)).setCell (p := ⟨w.heap.size, 1, none⟩) hle (.slice A n c)).setCell (p := ⟨w.heap.size, 2, none⟩) hle (.slice A2 k c2)
          have HKF := Lib.hid hkF
          have hgF : gG < (((w8.setCell ⟨w.heap.size, 0, none⟩ (.int .i64 y)).setCell ⟨w.heap.size, 1, none⟩ (.slice A n c)).setCell ⟨w.heap.size, 2, none⟩ (.slice A2 k c2)).heap.size := by simpa using hg8
          clear hus b1 b2 krF hkF hkR BE7 BE8 BE hkr hkr7 hkr8 hk7 hk8 hk78 TV7 HG8 HD8 hkB
          go_wp2_with fail
          refine bodyPost_ret (v := .tuple #[.agg #[.int .i64 y, .slice A n c, .slice A2 k c2], .bool true]) (by simp [results, Tryd.results31, go_sem, c0]) rfl ?_
          have hTt := HTt.out
          have hok := HOK.out
          have hgl : l.length ≤ 64 ∧ 1 ≤ l.length := by
            have h1 := codeOk_bd (Sp.taskOk_goal hok)
            rw [← hTt] at h1
            exact ⟨h1.2, h1.1⟩
          have hds : ∀ d ∈ ds, 1 ≤ d.need.length ∧ d.need.length ≤ 64 := by
            have h1 := deeds_bd hok
            rw [← hTt] at h1
            exact h1
          refine ⟨_, rfl, ⟨t, true, _, rfl, ?_, MT.task HGf.out hgA hgX hgF hgl.1 HDf.out (by omega) hds Hgs.out hgl.2, (fun _ => ⟨hok, by rw [HU.out, HUS.out]⟩), (fun h => by cases h), fun t' h1 h2 => ⟨rfl, HIS.out t' h1 h2⟩⟩, HKF.out⟩
          rw [← hTt]
          exact ⟨A, n, c, A2, k, c2, rfl, own_ints2 (by omega) HGf.out (nine_in HQ.out.2.1), HDf.out.deeds (by omega), by show Sp.inI y; unfold Sp.inI; omega⟩
        · have hne : (u == s) = false := beq_eq_false_iff_ne.2 hus
          have hne2 : (u != s) = true := by rw [bne, hne]; rfl
          have HN : Hid (∀ t', Sp.taskOk t' = true → Sp.taskText t' ≠ s) := fun t' ht' hs => by
            have := HIS.out t' ht' hs
            rw [← this, HU.out] at hs
            exact hus hs
          have BR := B0.kept hkr8
          have hkR := hk0.trans hkr8
          clear hus
          have c0 := BR.cell
          have f0 := BR.frozen
          have hkF := ((hkR.setCell (p := ⟨w.heap.size, 0, none⟩) hle (.int .i64 0)).setCell (p := ⟨w.heap.size, 1, none⟩) hle (.slice none 0 0)).setCell (p := ⟨w.heap.size, 2, none⟩) hle (.slice none 0 0)
          have hzF := (((BR.set_ 0 (.int .i64 0)).set_ 1 (.slice none 0 0)).set_ 2 (.slice none 0 0)).lt
          have HKF := Lib.hid (And.intro hkF hzF)
          clear hkF hzF HC HC2 B0 hk0 hkr8 hkr7 hkr BE BE7 BE8 HQ HDo HGo TV7
          go_wp2_with fail
          refine bodyPost_ret (v := .tuple #[.agg #[.int .i64 0, .slice none 0 0, .slice none 0 0], .bool false]) (by simp [results, Tryd.results31, go_sem, c0]) rfl ?_
          exact ⟨_, rfl, rtaskQ_no HN.out HKF.out.2, HKF.out.1⟩

end Go.Proofs.YtphdojebdclonaaDoor
