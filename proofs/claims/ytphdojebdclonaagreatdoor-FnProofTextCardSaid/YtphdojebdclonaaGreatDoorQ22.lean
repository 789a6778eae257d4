/- Joined texts. No condition. -/
import Derived.Maps.AppendAt
import Derived.Deep.RegionHeld3
import Derived.Test.YtphdojebdclonaaGreatDoorQ21
import Derived.Test.YtphdojebdclonaaGreatDoorQ8
import Derived.Test.YtphdojebdclonaaGreatDoorQ12
import Derived.Test.YtphdojebdclonaaGreatDoorQ10
import Derived.Test.YtphdojebdclonaaGreatDoorQ13
import Derived.Test.YtphdojebdclonaaGreatDoorQ4
/- Walks: agreeing; the program's ShadowSteps. No condition. -/
namespace Go.Proofs.YtphdojebdclonaaGreatDoor
set_option linter.unusedSimpArgs false
set_option linter.unusedVariables false
open Go.RowKit

theorem To_round {q : Nat → Nat → Prop} {m T : Nat} (h : Sp.To q m T) {m' : Nat} (e : m = m') : Sp.To q m' T := e ▸ h























































































































































































































































end Go.Proofs.YtphdojebdclonaaGreatDoor
/- Walks: the reference's ShadowSteps. No condition. -/
namespace Go.Proofs.YtphdojebdclonaaGreatDoor
set_option linter.unusedSimpArgs false
set_option linter.unusedVariables false
open Go.RowKit

theorem c_bothN (a b : Nat) (w : World) (ha : a < 4294967296) (hb : b < 4294967296) : Calls Tryz.prog 76 #[.int .i64 (a : Int), .int .i64 (b : Int)] w (Ret (.int .i64 ((a &&& b : Nat) : Int)) w) := by
  have := c_l1Both (a : Int) (b : Int) w (by omega) (by omega) (by omega) (by omega)
  rwa [Int.toNat_natCast, Int.toNat_natCast] at this

/-- whether a state is among the wide ones, by the first o others -/
def Sp.wideBy (q T s o : Nat) (d : Int) : Bool := Sp.ex o (fun x => T.testBit x && ((s &&& q) == (x &&& q))) && decide (d < 0)
theorem wideBy_zero (q T s : Nat) (d : Int) : Sp.wideBy q T s 0 d = false := rfl
theorem wideBy_succ (q T s o : Nat) (d : Int) : Sp.wideBy q T s (o + 1) d = ((Sp.ex o (fun x => T.testBit x && ((s &&& q) == (x &&& q))) || (T.testBit o && ((s &&& q) == (o &&& q)))) && decide (d < 0)) := rfl
theorem wideBy_on {q T s o : Nat} {d : Int} (h : Sp.wideBy q T s o d = true) : Sp.wideBy q T s (o + 1) d = true := by
  unfold Sp.wideBy at *
  simp only [Sp.ex, Bool.and_eq_true, Bool.or_eq_true] at *
  exact ⟨.inl h.1, h.2⟩
theorem wideBy_off {q T s o : Nat} {d : Int} (h : Sp.wideBy q T s o d = false) (h2 : (T.testBit o && ((s &&& q) == (o &&& q))) = false ∨ ¬ d < 0) : Sp.wideBy q T s (o + 1) d = false := by
  rw [wideBy_succ]
  unfold Sp.wideBy at h
  rcases h2 with h2 | h2
  · rw [h2, Bool.or_false]; exact h
  · rw [decide_eq_false h2, Bool.and_false]
theorem wideBy_new {q T s o : Nat} {d : Int} (h1 : T.testBit o = true) (h2 : (s &&& q) = (o &&& q)) (h3 : d < 0) : Sp.wideBy q T s (o + 1) d = true := by
  rw [wideBy_succ, h1, h2, decide_eq_true h3]; simp
theorem setOf_self {F : Nat} (hF : F < 2 ^ 32) : Sp.setOf 32 (fun s => F.testBit s) = F := by
  refine Sp.set_ext (Sp.setOf_lt _ _) hF fun s hs => ?_
  rw [Sp.testBit_setOf]
  simp [hs]

/-- a row between two states of knowledge -/
def Sp.mid (D D' : Nat → Int) (j s : Nat) : Int := if s < j then D' s else D s
theorem mid_zero (D D' : Nat → Int) (s : Nat) : Sp.mid D D' 0 s = D s := by unfold Sp.mid; rw [if_neg (by omega)]
theorem mid_at (D D' : Nat → Int) (j : Nat) : Sp.mid D D' j j = D j := by unfold Sp.mid; rw [if_neg (by omega)]
theorem mid_keep {D D' : Nat → Int} {j : Nat} (h : D' j = D j) (s : Nat) : Sp.mid D D' j s = Sp.mid D D' (j + 1) s := by
  unfold Sp.mid
  by_cases e : s = j
  · subst e; rw [if_neg (by omega), if_pos (by omega), h]
  · by_cases e2 : s < j
    · rw [if_pos e2, if_pos (by omega)]
    · rw [if_neg e2, if_neg (by omega)]
theorem mid_set {D D' : Nat → Int} {j : Nat} {x : Int} (h : D' j = x) (s : Nat) : (if s = j then x else Sp.mid D D' j s) = Sp.mid D D' (j + 1) s := by
  unfold Sp.mid
  by_cases e : s = j
  · subst e; rw [if_pos rfl, if_pos (by omega), h]
  · rw [if_neg e]
    by_cases e2 : s < j
    · rw [if_pos e2, if_pos (by omega)]
    · rw [if_neg e2, if_neg (by omega)]
theorem mid_end (D D' : Nat → Int) {j s : Nat} (h : s < j) : Sp.mid D D' j s = D' s := by unfold Sp.mid; rw [if_pos h]











































































































































































































































end Go.Proofs.YtphdojebdclonaaGreatDoor
/- Walks: NumbersFor. No condition. -/
namespace Go.Proofs.YtphdojebdclonaaGreatDoor
set_option linter.unusedSimpArgs false
set_option linter.unusedVariables false
open Go.RowKit

/-- 40 in place of none -/
def Sp.big (x : Int) : Int := if x < 0 then 40 else x
theorem big_in {x : Int} (h : Sp.inI x) : Sp.inI (Sp.big x) := by unfold Sp.big Sp.inI at *; split <;> omega
def Sp.numbersFor (t : Sp.Task) : List Int := (Sp.stepsLeast t).map Sp.big
theorem numbersFor_len (t : Sp.Task) : (Sp.numbersFor t).length ≤ 1073741824 := by unfold Sp.numbersFor; rw [List.length_map]; exact stepsLeast_len t

theorem Own.row {w : World} {g n : Nat} {l : List Int} (h : Own w g n l) (hn : 0 < n) : IntRow w g n (fun s => l.getD s default) := by
  refine ⟨h.1, h.2.1, fun s hs => ?_⟩
  obtain ⟨b, o, e, _, hc⟩ := h.2.2.2.2.2 hn
  simp only [Option.some.injEq, Addr.mk.injEq] at e
  obtain ⟨rfl, rfl, _⟩ := e
  have := hc s hs
  rwa [Nat.zero_add] at this



































































theorem stepsLeast_in (t : Sp.Task) : ∀ x ∈ Sp.stepsLeast t, Sp.inI x := by
  intro x hx
  unfold Sp.stepsLeast at hx
  split at hx
  · exact distList_in _ _ (truth_bd _) x hx
  · cases hx

theorem IntRow.grown {w w2 : World} {g n : Nat} {f : Nat → Int} {o : Obj} {row : Option Nat} (h : IntRow w g n f) (hg : (w.alloc o).grownBy w2 row) (hr : row ≠ some g) : IntRow w2 g n f := by
  have h' := h.keep ((Kept.refl w).alloc o)
  have hb := hg.block g h'.1 (fun e => hr e.symm)
  refine ⟨Nat.lt_of_lt_of_le h'.1 hg.size, fun i => ?_, fun s hs => ?_⟩
  · have := h'.2.1 i
    unfold World.frozen? at this ⊢
    rw [hb]; exact this
  · rw [World.cell?_of_block (a := ⟨g, s, none⟩) hb]; exact h'.2.2 s hs
theorem row_off {w : World} {A A' : Option Addr} {k c k' c' G : Nat} {o : Obj} (h : (Value.slice A k c).ownBlock ≠ some G) (hat : (Value.slice A' k' c').ownBlock = (Value.slice A k c).ownBlock ∨ (Value.slice A' k' c').ownBlock = some (w.alloc o).heap.size) (hG : G < w.heap.size) :
    Hid ((Value.slice A' k' c').ownBlock ≠ some G) := by
  show _ ≠ _
  rcases hat with e | e
  · rw [e]; exact h
  · rw [e]; simp; omega
theorem outInts_own {w w1 wr : World} {A : Option Addr} {l : List Int} {n c : Nat} (hn : n = l.length) (h : wr.ownsRow w1.heap.size 3 1 (.slice A n c) n ((l.take n).map (Value.int .i64))) (hm : n ≤ maxLen) (hw : w.heap.size ≤ w1.heap.size) (hi : ∀ x ∈ l.take n, Sp.inI x) :
    OutInts w (l.take n) (.slice A n c) wr := by
  subst hn
  rw [List.take_length] at h hi ⊢
  refine ⟨A, c, rfl, ?_⟩
  by_cases h0 : l.length = 0
  · have : l = [] := List.length_eq_zero_iff.1 h0
    subst this
    exact ⟨⟨rfl, Nat.zero_le _, fun x hx => (by cases hx), fun h => absurd h (Nat.lt_irrefl 0)⟩, fun h => absurd h (Nat.lt_irrefl 0)⟩
  · obtain ⟨_, g, rfl, hg, _, hR⟩ := own_row h (by omega)
    have := hR.own rfl hm hi (fun _ _ => rfl)
    exact ⟨this.ints, fun _ => ⟨g, rfl, by omega, this.1, this⟩⟩











































































































end Go.Proofs.YtphdojebdclonaaGreatDoor
/- Walks: ShadowNumbers, ShadowBound. Walks: ShadowBound. Walks: OnWay. No condition. -/
namespace Go.Proofs.YtphdojebdclonaaGreatDoor
set_option linter.unusedSimpArgs false
set_option linter.unusedVariables false
open Go.RowKit

def Sp.shadowNumbers (t : Sp.Task) (q : Int) : List Int := (Sp.shadowSteps t q).map Sp.big
theorem shadowNumbers_len (t : Sp.Task) (q : Int) : (Sp.shadowNumbers t q).length ≤ 1073741824 := by unfold Sp.shadowNumbers; rw [List.length_map]; exact shadowSteps_len t q
theorem shadowSteps_in (t : Sp.Task) (q : Int) : ∀ x ∈ Sp.shadowSteps t q, Sp.inI x := by
  intro x hx
  unfold Sp.shadowSteps at hx
  split at hx
  · exact distList_in _ _ (endS_lt _ _) x hx
  · cases hx
theorem outInts_up {w w1 w2 : World} {l : List Int} {v : Value} (h : OutInts w1 l v w2) (hk : w.heap.size ≤ w1.heap.size) : OutInts w l v w2 := by
  obtain ⟨A, c, rfl, hI, hO⟩ := h
  exact ⟨A, c, rfl, hI, fun h0 => by obtain ⟨g, h1, h2, h3⟩ := hO h0; exact ⟨g, h1, Nat.le_trans hk h2, h3⟩⟩




























































































end Go.Proofs.YtphdojebdclonaaGreatDoor

namespace Go.Proofs.YtphdojebdclonaaGreatDoor
set_option linter.unusedSimpArgs false
set_option linter.unusedVariables false
open Go.RowKit

def Sp.shadowBound (t : Sp.Task) (q : Int) : Int := if Sp.taskOk t = true ∧ Sp.stOk q = true then Sp.dist (Sp.relS t q.toNat) (Sp.endS t q.toNat) t.start.toNat else -1
theorem shadowSteps_yes {t : Sp.Task} {q : Int} (h1 : Sp.taskOk t = true) (h2 : Sp.stOk q = true) : (Sp.shadowSteps t q).length = 32 ∧ (Sp.shadowSteps t q).getD t.start.toNat default = Sp.shadowBound t q := by
  obtain ⟨hs0, hs1⟩ := Sp.taskOk_start h1
  unfold Sp.shadowSteps Sp.shadowBound
  rw [if_pos ⟨h1, h2⟩, if_pos ⟨h1, h2⟩, distList_at _ _ _ (by omega)]
  exact ⟨distList_len _ _, rfl⟩
/-- a cell of a list that a call made -/
theorem OI.cell {B C : Nat} {w : World} {A : Option Addr} {l : List Int} (h : OI B C w A l) {k : Nat} (hk : k < l.length) : ∃ g, A = some ⟨g, 0, none⟩ ∧ w.cell? ⟨g, k, none⟩ = some (.int .i64 (l.getD k default)) := by
  obtain ⟨g, e, _, _, hw⟩ := h.2 (by omega)
  exact ⟨g, e, (hw.row (by omega)).2.2 k hk⟩


































































































end Go.Proofs.YtphdojebdclonaaGreatDoor

namespace Go.Proofs.YtphdojebdclonaaGreatDoor
set_option linter.unusedSimpArgs false
set_option linter.unusedVariables false
open Go.RowKit

/-- how far a state is from the Start -/
def Sp.gone (t : Sp.Task) (s : Nat) : Int := Sp.dist (Sp.rel t) (2 ^ t.start.toNat) s
theorem gone_bd {t : Sp.Task} (hok : Sp.taskOk t = true) {s : Nat} (hs : s < 32) : -1 ≤ Sp.gone t s ∧ Sp.gone t s ≤ 31 := by
  obtain ⟨h0, h1⟩ := Sp.taskOk_start hok
  exact dist_bd (Nat.pow_lt_pow_right (by decide) (by omega)) s hs
def Sp.wayB (t : Sp.Task) (s : Nat) : Bool := decide (0 ≤ Sp.gone t s) && decide (0 ≤ Sp.toGo t s) && (Sp.gone t s + Sp.toGo t s == Sp.toGo t t.start.toNat)
def Sp.onWay (t : Sp.Task) : Int := if Sp.taskOk t = true then (Sp.setOf 32 (Sp.wayB t) : Nat) else -1
theorem stepsFrom_yes {t : Sp.Task} (h : Sp.taskOk t = true) : (Sp.stepsFrom t).length = 32 ∧ ∀ s, s < 32 → (Sp.stepsFrom t).getD s default = Sp.gone t s := by
  unfold Sp.stepsFrom
  rw [if_pos h]
  exact ⟨distList_len _ _, fun s hs => distList_at _ _ s hs⟩
theorem stepsLeast_yes {t : Sp.Task} (h : Sp.taskOk t = true) : (Sp.stepsLeast t).length = 32 ∧ ∀ s, s < 32 → (Sp.stepsLeast t).getD s default = Sp.toGo t s := by
  unfold Sp.stepsLeast
  rw [if_pos h]
  exact ⟨distList_len _ _, fun s hs => distList_at _ _ s hs⟩
/-- a list of 32 integers that a call made, as a row -/
theorem OI.row32 {B C : Nat} {w : World} {A : Option Addr} {l : List Int} {f : Nat → Int} (h : OI B C w A l) (hl : l.length = 32) (hf : ∀ s, s < 32 → l.getD s default = f s) : ∃ g, A = some ⟨g, 0, none⟩ ∧ B ≤ g ∧ IntRow w g 32 f := by
  obtain ⟨g, e, h1, _, hw⟩ := h.2 (by omega)
  have := hw.row (by omega)
  rw [hl] at this
  exact ⟨g, e, h1, this.congr hf⟩


































































































































































































end Go.Proofs.YtphdojebdclonaaGreatDoor
/- Walks: the law's own equality of lists; CodeRun of the program. No condition. -/
namespace Go.Proofs.YtphdojebdclonaaGreatDoor
set_option linter.unusedSimpArgs false
set_option linter.unusedVariables false
open Go.RowKit


























theorem c_iCodeRun (A : Option Addr) (n c : Nat) (l : List Int) (s : Nat) (w : World) (h : Ints w A n l) (hok : Sp.codeOk l = true) (hs : s < 32) :
    Calls Tryz.prog 86 #[.slice A n c, .int .i64 (s : Int)] w (RetK (.bool (Sp.run l s)) w) := by
  have hst : Hid (Sp.stOk (s : Int) = true) := by show _ = _; unfold Sp.stOk; simp; omega
  have HK := Lib.hid hok
  clear hok
  go_enter Tryz.func86, Tryz.ntmps86
  go_wp2_with fail
  refine (c_iCodeValid A n c l _ h).mono ?_; rintro e w2 ⟨rfl, rfl⟩
  rw [HK.out]
  go_wp2_with (first | (go_at_call 66; refine (c_stateOk (s : Int) _).mono ?_; rintro e w3 ⟨rfl, rfl⟩; rw [hst.out]))
  refine (c_runCode A n c l (s : Int) _ h HK.out (by omega) (by omega)).mono ?_; rintro e w4 ⟨rfl, hk4⟩
  rw [Int.toNat_natCast]
  go_wp2_with fail
  go_ret
  exact ⟨rfl, hk4⟩

/-- what a call gave, where it is a list of 32 -/
theorem outInts_row {w w' : World} {l : List Int} {v : Value} (h : OutInts w l v w') (hl : l.length = 32) : ∃ g c, v = .slice (some ⟨g, 0, none⟩) 32 c ∧ w.heap.size ≤ g ∧ Own w' g 32 l := by
  obtain ⟨A, c, rfl, h1, h2⟩ := h
  obtain ⟨g, rfl, h3, _, h4⟩ := h2 (by omega)
  rw [hl] at h4 ⊢
  exact ⟨g, c, rfl, h3, h4⟩
theorem Own.dist {w : World} {g : Nat} {rel : Nat → Nat → Bool} {S : Nat} (h : Own w g 32 (Sp.distList rel S)) : IntRow w g 32 (Sp.dist rel S) := by
  have := h.row (by omega)
  exact this.congr fun s hs => distList_at _ _ s hs
theorem stepsLeast_ok {t : Sp.Task} (h : Sp.taskOk t = true) : Sp.stepsLeast t = Sp.distList (Sp.relB t) (Sp.truth t.goal) := by unfold Sp.stepsLeast; rw [if_pos h]
theorem stepsLeast_no {t : Sp.Task} (h : Sp.taskOk t = false) : Sp.stepsLeast t = [] := by unfold Sp.stepsLeast; rw [h]; rfl
theorem stepsFrom_ok {t : Sp.Task} (h : Sp.taskOk t = true) : Sp.stepsFrom t = Sp.distList (Sp.rel t) (2 ^ t.start.toNat) := by unfold Sp.stepsFrom; rw [if_pos h]
theorem stepsFrom_no {t : Sp.Task} (h : Sp.taskOk t = false) : Sp.stepsFrom t = [] := by unfold Sp.stepsFrom; rw [h]; rfl
theorem Own.toGo {w : World} {g : Nat} {t : Sp.Task} (h : Sp.taskOk t = true) (ho : Own w g 32 (Sp.stepsLeast t)) : IntRow w g 32 (Sp.dist (Sp.relB t) (Sp.truth t.goal)) := by
  rw [stepsLeast_ok h] at ho
  exact ho.dist

end Go.Proofs.YtphdojebdclonaaGreatDoor
/- Walks: plans as they run. No condition. -/
namespace Go.Proofs.YtphdojebdclonaaGreatDoor
set_option linter.unusedSimpArgs false
set_option linter.unusedVariables false
open Go.RowKit

set_option maxHeartbeats 4000000 in
set_option maxRecDepth 100000 in
theorem c_iPlanRun (v : Value) (t : Sp.Task) (s : Int) (A2 : Option Addr) (n2 c2 : Nat) (l : List Int) (w : World) (h : TaskV w v t) (hP : Ints w A2 n2 l) : Calls Tryz.prog 85 #[v, .int .i64 s, .slice A2 n2 c2] w (RetK (.int .i64 (Sp.planRun t s l)) w) := by
  obtain ⟨A, n, c, A', n', c', rfl⟩ := h.form
  have hk0 := (Kept.refl w).alloc (.cells #[.int .i64 t.start, .slice A n c, .slice A' n' c'] 26)
  have B0 := Blk.new w 26 #[.int .i64 t.start, .slice A n c, .slice A' n' c']
  have hT := h.keep hk0
  go_enter Tryz.func85, Tryz.ntmps85
  go_wp2_with fail
  refine (c_iTaskValid _ t _ hT).mono ?_; rintro e w2 ⟨rfl, hk2⟩
  replace hk0 := hk0.trans hk2
  replace B0 := B0.kept hk2
  replace hT := hT.keep hk2
  clear hk2
  have c0 := B0.cell
  cases ht : Sp.taskOk t
  · have HE : Hid (Sp.planRun t s l = -1) := by show _ = _; unfold Sp.planRun; rw [ht]; simp
    clear ht
    go_wp2_with fail
    go_ret
    exact ⟨ret_int HE.out.symm, hk0⟩
  have HK := Lib.hid ht
  cases hq : Sp.stOk s
  · have HE : Hid (Sp.planRun t s l = -1) := by show _ = _; unfold Sp.planRun; rw [hq]; simp
    have HQ := Lib.hid hq
    clear ht hq
    go_wp2_with (first | (go_at_call 66; refine (c_stateOk s _).mono ?_; rintro e w3 ⟨rfl, rfl⟩; rw [HQ.out]))
    go_ret
    exact ⟨ret_int HE.out.symm, hk0⟩
  have HQ := Lib.hid hq
  have HLn := Lib.hid hP.len
  by_cases h40 : 40 < n2
  · have HE : Hid (Sp.planRun t s l = -1) := by show _ = _; unfold Sp.planRun; rw [if_neg]; rw [HLn.out]; omega
    have h41 : (40 : Int) < (n2 : Int) := by omega
    clear ht hq
    go_wp2_with (first | (go_at_call 66; refine (c_stateOk s _).mono ?_; rintro e w3 ⟨rfl, rfl⟩; rw [HQ.out]))
    go_ret
    exact ⟨ret_int HE.out.symm, hk0⟩
  have HE : Hid (Sp.planRun t s l = Sp.goOn t s.toNat l) := by show _ = _; unfold Sp.planRun; rw [if_pos ⟨ht, hq, by rw [HLn.out]; omega⟩]
  have h41 : ¬ (40 : Int) < (n2 : Int) := by omega
  have hq2 := hq
  unfold Sp.stOk at hq2
  simp only [decide_eq_true_eq] at hq2
  obtain ⟨s0, rfl⟩ := Int.eq_ofNat_of_zero_le hq2.1
  have hs0 : s0 < 32 := by omega
  have HLd := Lib.hid hT.deeds.len
  have hnl := hT.deeds.le
  clear ht hq hq2
  go_wp2_with (first | (go_at_call 66; refine (c_stateOk (s0 : Int) _).mono ?_; rintro e w3 ⟨rfl, rfl⟩; rw [HQ.out]))
  rw [Int.toNat_natCast] at HE
  clear c0
  go_loopw [24, 1] (fun i v wr => ∃ k u : Nat, k ≤ n2 ∧ i = .int .i64 k ∧ v = .int .i64 u ∧ u < 32 ∧ Hid (Sp.goOn t s0 (l.take k) = (u : Int)) ∧ Kept w2 wr) (fun i _ _ => n2 - (intOf i).toNat)
  case atStart => exact ⟨0, s0, by omega, rfl, rfl, hs0, by show Sp.goOn t s0 [] = _; rfl, Kept.refl _⟩
  case round =>
    obtain ⟨k, u, hk, rfl, rfl, hu, HG, hkp⟩ := hrel
    have c0 := (B0.kept hkp).cell
    by_cases hlt : k < n2
    · obtain ⟨b, off, rfl, hb, hc, hi⟩ := ((hP.keep hk0).keep hkp).at hlt
      have HN := Lib.hid (goOn_next (t := t) (s := s0) (i := k) (u := u) (by rw [HLn.out]; exact hlt) HG.out)
      have HBad := Lib.hid (@goOn_bad t s0 l (k + 1))
      obtain ⟨q, Hq⟩ : ∃ q, Hid (l.getD k default = q) := ⟨_, rfl⟩
      rw [Hq.out] at hc HN hi
      unfold Sp.inI at hi
      by_cases hq0 : q < 0
      · have HX : Hid (Sp.goOn t s0 l = -1) := HBad.out (by rw [HN.out, if_neg (by omega)]; omega)
        clear HN HBad
        go_wp2_with fail
        go_ret
        exact ⟨ret_int (by rw [HE.out, HX.out]), hk0.trans hkp⟩
      · obtain ⟨q, rfl⟩ := Int.eq_ofNat_of_zero_le (show 0 ≤ q by omega)
        rw [Int.toNat_natCast, HLd.out] at HN
        by_cases hqn : q < n'
        · have hkl : q < t.deeds.length := by rw [HLd.out]; exact hqn
          obtain ⟨b2, off2, rfl, hb2, hd⟩ := (hT.keep hkp).deeds.at hqn
          have HDo := Lib.hid (Sp.taskOk_deed HK.out hkl)
          have hbd := stepI_bd (d := t.deeds.getD q default) hu HDo.out
          generalize t.deeds.getD q default = d at *
          obtain ⟨A5, n5, c5, hc0, hc1, hc2, hc3, hdv⟩ := hd.v
          have HDv := Lib.hid hdv
          clear hdv hd
          have hqn2 : ¬ (n' : Int) ≤ (q : Int) := by omega
          go_wp2_with fail
          refine (c_behindDeed _ d (u : Int) _ HDv.out HDo.out (by omega) (by omega)).mono ?_; rintro e w7 ⟨rfl, hk7⟩
          rw [Int.toNat_natCast]
          replace hkp := hkp.trans hk7
          clear hk7 c0 hc0 hc1 hc2 hc3 HDv hc
          obtain ⟨y, HY⟩ : ∃ y, Hid (Sp.stepI d u = y) := ⟨_, rfl⟩
          rw [HY.out] at hbd HN ⊢
          by_cases hy : y < 0
          · have HX : Hid (Sp.goOn t s0 l = -1) := HBad.out (by rw [HN.out, if_neg (by omega)]; omega)
            clear HN HBad
            go_wp2_with fail
            go_ret
            exact ⟨ret_int (by rw [HE.out, HX.out]), hk0.trans hkp⟩
          · obtain ⟨u2, rfl⟩ := Int.eq_ofNat_of_zero_le (show 0 ≤ y by omega)
            have HX : Hid (Sp.goOn t s0 (l.take (k + 1)) = (u2 : Int)) := by show _ = _; rw [HN.out, if_pos ⟨by omega, by omega, by omega⟩]
            clear HN HBad
            go_wp2_with fail
            exact ⟨⟨k + 1, u2, by omega, by go_num, rfl, by omega, HX, hkp⟩, by simp [intOf]; omega⟩
        · have HX : Hid (Sp.goOn t s0 l = -1) := HBad.out (by rw [HN.out, if_neg (by omega)]; omega)
          have hqn2 : (n' : Int) ≤ (q : Int) := by omega
          clear HN HBad
          go_wp2_with fail
          go_ret
          exact ⟨ret_int (by rw [HE.out, HX.out]), hk0.trans hkp⟩
    · obtain rfl : k = n2 := by omega
      have HX : Hid (Sp.goOn t s0 l = (u : Int)) := by show _ = _; rw [← HG.out, List.take_of_length_le (by rw [HLn.out]; omega)]
      go_wp2_with fail
      go_ret
      exact ⟨ret_int (by rw [HE.out, HX.out]), hk0.trans hkp⟩

theorem c_iPlanOk (v : Value) (t : Sp.Task) (A2 : Option Addr) (n2 c2 : Nat) (l : List Int) (w : World) (h : TaskV w v t) (hP : Ints w A2 n2 l) : Calls Tryz.prog 44 #[v, .slice A2 n2 c2] w (RetK (.bool (Sp.planOk t l)) w) := by
  obtain ⟨A, n, c, A', n', c', rfl⟩ := h.form
  have hk0 := (Kept.refl w).alloc (.cells #[.int .i64 t.start, .slice A n c, .slice A' n' c'] 26)
  have B0 := Blk.new w 26 #[.int .i64 t.start, .slice A n c, .slice A' n' c']
  have hT := h.keep hk0
  have c0 := B0.cell
  go_enter Tryz.func44, Tryz.ntmps44
  go_wp2_with fail
  refine (c_iPlanRun _ t t.start A2 n2 c2 l _ hT (hP.keep hk0)).mono ?_; rintro e w2 ⟨rfl, hk2⟩
  replace hk0 := hk0.trans hk2
  replace B0 := B0.kept hk2
  replace hT := hT.keep hk2
  clear hk2 c0
  have c0 := B0.cell
  have hb := planRun_bd t t.start l
  have HO : Hid (Sp.planOk t l = (decide (0 ≤ Sp.planRun t t.start l) && Sp.run t.goal (Sp.planRun t t.start l).toNat)) := rfl
  have HKx : Hid (0 ≤ Sp.planRun t t.start l → Sp.codeOk t.goal = true) := fun h0 => by
    unfold Sp.planRun at h0
    split at h0
    · rename_i hc; exact Sp.taskOk_goal hc.1
    · omega
  generalize Sp.planRun t t.start l = x at *
  by_cases hx : 0 ≤ x
  · obtain ⟨x, rfl⟩ := Int.eq_ofNat_of_zero_le hx
    rw [Int.toNat_natCast, decide_eq_true hx, Bool.true_and] at HO
    have HG := Lib.hid (HKx.out hx)
    go_wp2_with fail
    refine (c_iCodeRun _ _ _ _ x _ hT.goal HG.out (by omega)).mono ?_; rintro e w3 ⟨rfl, hk3⟩
    go_wp2_with fail
    go_ret
    exact ⟨ret_bool (by rw [HO.out]), hk0.trans hk3⟩
  · rw [decide_eq_false hx, Bool.false_and] at HO
    have hx2 : ¬ 0 ≤ x := hx
    go_wp2_with fail
    go_ret
    exact ⟨ret_bool (by rw [HO.out]), hk0⟩

end Go.Proofs.YtphdojebdclonaaGreatDoor
