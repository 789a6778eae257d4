/- The letters of a set of facts: plain, and the walks of both. -/
import Derived.Test.YtphdojebdclonaaT1
import Derived.Test.YtphdojebdclonaaG6
import Derived.Laws.IdiomStrings
import Derived.Lib.UnsafeStr
import Derived.Lib.Builder
import Derived.Laws.Concat
namespace Go.Proofs.Ytphdojebdclonaa
open Go.RowKit

/-- the letters of the facts below k -/
def Sp.lets (s : Nat) : Nat → List UInt8
  | 0 => []
  | k + 1 => Sp.lets s k ++ (if s.testBit k = true then [UInt8.ofNat (97 + k)] else [])
def Sp.letters (x : Int) : List UInt8 := if x = 0 then [45] else Sp.lets x.toNat 5
theorem lets_none : ∀ s : Fin 32, Sp.lets s.val 5 = [] ↔ s.val = 0 := by decide +kernel
theorem lets_len (s k : Nat) : (Sp.lets s k).length ≤ k := by
  induction k with
  | zero => simp [Sp.lets]
  | succ k ih => simp only [Sp.lets, List.length_append]; split <;> simp <;> omega
/-- one byte made a string -/
theorem run_byte_string (w : World) (c : Nat) (hc : c < 256) : (convert 37 9 (.slice (some ⟨w.heap.size, 0, none⟩) 1 1)).run Try.prog (w.alloc (.cells #[.int .u8 (c : Int)] 5)) = .ok (.string ⟨#[UInt8.ofNat c]⟩) (w.alloc (.cells #[.int .u8 (c : Int)] 5)) := by
  have h := run_convert_bytes_back (P := Try.prog) (w.alloc (.cells #[.int .u8 (c : Int)] 5)) 37 9 5 ⟨w.heap.size, 0, none⟩ 1 [UInt8.ofNat c] Try.underlying37 Try.underlying5 Try.underlying9 (by
    intro j hj
    have : j = 0 := by simpa using hj
    subst this
    rw [show (⟨w.heap.size, 0, none⟩ : Addr).add 0 = ⟨w.heap.size, 0, none⟩ from rfl, World.cell?_alloc_new]
    simp
    omega)
  exact h

theorem str_add (x y : List UInt8) : ((⟨x.toArray⟩ : ByteArray) ++ ⟨y.toArray⟩) = ⟨(x ++ y).toArray⟩ := ByteArray.mk_append_mk x y
theorem str_add1 (x : List UInt8) (u : UInt8) : ((⟨x.toArray⟩ : ByteArray) ++ ⟨#[u]⟩) = ⟨(x ++ [u]).toArray⟩ := ByteArray.mk_append_mk x [u]

set_option maxHeartbeats 1000000 in
theorem c_sLetters (x : Int) (w : World) (h0 : 0 ≤ x) (h1 : x ≤ 31) : Calls Try.prog 59 #[.int .i64 x] w (RetK (.string ⟨(Sp.letters x).toArray⟩) w) := by
  obtain ⟨s, rfl⟩ := Int.eq_ofNat_of_zero_le h0
  have HE := Lib.hid (lets_none ⟨s, by omega⟩)
  go_enter Try.func59, Try.ntmps59
  go_wp2_with fail
  go_loopw [3, 4] (fun x i wr => ∃ k : Nat, k ≤ 5 ∧ i = .int .i64 k ∧ x = .string ⟨(Sp.lets s k).toArray⟩ ∧ Kept w wr) (fun x i _ => 5 - (intOf i).toNat)
  case atStart => exact ⟨0, Nat.zero_le _, rfl, rfl, Kept.refl _⟩
  case round =>
    obtain ⟨k, hk, rfl, rfl, hkp⟩ := hrel
    by_cases hlt : k < 5
    · have hll := lets_len s k
      clear HE
      obtain ⟨c, HC⟩ : ∃ c : Nat, Hid (c = 97 + k) := ⟨_, rfl⟩
      have hw : IntKind.i64.wrap (97 + (k : Int)) = (c : Int) := by rw [HC.out, IntKind.wrap_i64]; omega
      have hw8 : IntKind.u8.wrap (c : Int) = (c : Int) := by rw [HC.out]; simp [IntKind.wrap, IntKind.bits, IntKind.signed]; omega
      go_wp2_with fail
      refine (c_l1Bit (s : Int) (k : Int) _ (by omega) (by omega) (by omega) (by omega)).mono ?_; rintro e w2 ⟨rfl, rfl⟩
      rw [Int.toNat_natCast, Int.toNat_natCast]
      have hl1 : Sp.lets s (k + 1) = Sp.lets s k ++ (if s.testBit k = true then [UInt8.ofNat (97 + k)] else []) := rfl
      have HL := Lib.hid hl1
      clear hl1
      cases hb : s.testBit k
      · rw [hb] at HL
        have HL2 : Hid (Sp.lets s (k + 1) = Sp.lets s k) := by show _ = _; rw [HL.out]; simp
        clear hb hll hw hw8
        go_wp2_with fail
        exact ⟨⟨k + 1, by omega, by go_num, by rw [HL2.out], hkp⟩, by simp [intOf]; omega⟩
      · rw [hb] at HL
        have HL2 : Hid (Sp.lets s (k + 1) = Sp.lets s k ++ [UInt8.ofNat c]) := by show _ = _; rw [HL.out, HC.out]; simp
        clear hb
        have hcv := run_byte_string wr c (by rw [HC.out]; omega)
        obtain ⟨u, HU⟩ : ∃ u, Hid (UInt8.ofNat c = u) := ⟨_, rfl⟩
        rw [HU.out] at HL2 hcv
        go_wp2_with fail
        exact ⟨⟨k + 1, by omega, by go_num, by rw [HL2.out, str_add1], hkp.alloc _⟩, by simp [intOf]; omega⟩
    · obtain rfl : k = 5 := by omega
      clear hlt
      by_cases hz : s = 0
      · subst hz
        have HZ : Hid (Sp.letters ((0 : Nat) : Int) = [45]) := rfl
        have hE : (Sp.lets 0 5).isEmpty = true := rfl
        go_wp2_with fail
        all_goals (go_ret; exact ⟨by rfl, hkp⟩)
      · have HZ : Hid (Sp.letters (s : Int) = Sp.lets s 5) := by show _ = _; unfold Sp.letters; rw [if_neg (by omega), Int.toNat_natCast]
        have hE : (Sp.lets s 5).isEmpty = false := by
          cases e : Sp.lets s 5 with
          | nil => exact absurd (HE.out.1 e) hz
          | cons a l => rfl
        generalize Sp.lets s 5 = l at *
        go_wp2_with fail
        go_ret
        exact ⟨by rw [HZ.out]; rfl, hkp⟩

theorem info_u8 : (Try.prog.info? 5).map (fun i => (i.zero, i.size, i.bytes)) = some (some (.int .u8 0), 1, 1) := by kernel_rfl
/-- a row of bytes of the call's own -/
def OwnB (w : World) (B : Nat) (v : Value) (l : List UInt8) : Prop := w.ownsRow B 5 1 v l.length (Lib.byteCells l)
theorem OwnB.form {w : World} {B : Nat} {v : Value} {l : List UInt8} (h : OwnB w B v l) : ∃ A c, v = .slice A l.length c := own_form h
theorem OwnB.nil (w : World) (B : Nat) : OwnB w B (.slice none 0 0) [] := World.ownsRow_nil _ _ _ _
theorem OwnB.keep {w w' : World} {B : Nat} {v : Value} {l : List UInt8} (h : OwnB w B v l) (hk : Kept w w') : OwnB w' B v l := own_keep h hk
theorem OwnB.cells {w : World} {B : Nat} {A : Option Addr} {m c : Nat} {l : List UInt8} (h : OwnB w B (.slice A m c) l) (hl : l ≠ []) :
    ∃ g, A = some ⟨g, 0, none⟩ ∧ m = l.length ∧ B ≤ g ∧ g < w.heap.size ∧ ∀ j (hj : j < l.length), w.cell? ⟨g, j, none⟩ = some (.int .u8 (l[j].toNat : Int)) := by
  have hp : 0 < l.length := List.length_pos_iff.2 hl
  rcases h.2 with ⟨_, h0⟩ | ⟨g, cap, cur, e, hg, hh, h1, _, hc, ht⟩
  · omega
  · injection e with e1 e2 e3
    subst e1 e2 e3
    refine ⟨g, rfl, rfl, hg, ?_, fun j hj => ?_⟩
    · rcases Nat.lt_or_ge g w.heap.size with h' | h'
      · exact h'
      · simp [Array.getElem?_eq_none h'] at hh
    · rw [Lib.cell_of_heap hh]
      have h2 : (Lib.byteCells l)[j]? = some (.int .u8 (l[j].toNat : Int)) := by simp [Lib.byteCells, List.getElem?_eq_getElem hj]
      rw [← ht, List.getElem?_take] at h2
      split at h2
      · rw [Array.getElem?_toList] at h2; exact h2
      · cases h2
theorem OwnB.str {w : World} {B : Nat} {A : Option Addr} {m c : Nat} {l : List UInt8} (h : OwnB w B (.slice A m c) l) (hl : l ≠ []) :
    (convert 37 9 (.slice A m c)).run Try.prog w = .ok (.string ⟨l.toArray⟩) w := by
  obtain ⟨g, rfl, rfl, _, _, hc⟩ := h.cells hl
  exact run_convert_bytes_back (P := Try.prog) w 37 9 5 ⟨g, 0, none⟩ c l Try.underlying37 Try.underlying5 Try.underlying9 (fun j hj => by
    rw [show (⟨g, 0, none⟩ : Addr).add j = ⟨g, j, none⟩ by cases j <;> simp [Addr.add]]
    exact hc j hj)
theorem own_bytes {w : World} {B : Nat} {v : Value} {l m : List UInt8} {n : Nat} (h : w.ownsRow B 5 1 v n (Lib.byteCells l ++ Lib.byteCells m)) (hn : n = l.length + m.length) : OwnB w B v (l ++ m) := by
  subst hn
  rw [← Lib.byteCells_append, ← List.length_append] at h
  exact h

set_option maxHeartbeats 1000000 in
theorem c_iLetters (x : Int) (w : World) (h0 : 0 ≤ x) (h1 : x ≤ 31) : Calls Try.prog 62 #[.int .i64 x] w (RetK (.string ⟨(Sp.letters x).toArray⟩) w) := by
  obtain ⟨s, rfl⟩ := Int.eq_ofNat_of_zero_le h0
  obtain ⟨i0, hi0, hz0, hz1, hz2⟩ := info_parts info_u8
  have HI := Lib.hid (And.intro hi0 (And.intro hz0 (And.intro hz1 hz2)))
  clear hi0 hz0 hz1 hz2
  by_cases hs : s = 0
  · subst hs
    go_enter Try.func62, Try.ntmps62
    go_wp2_with fail
    go_ret
    exact ⟨rfl, Kept.refl _⟩
  have HE := Lib.hid (lets_none ⟨s, by omega⟩)
  have HS := Lib.hid hs
  have hs1 : ¬ ((s : Int) = 0) := by omega
  have HZ : Hid (Sp.letters (s : Int) = Sp.lets s 5) := by show _ = _; unfold Sp.letters; rw [if_neg (by omega), Int.toNat_natCast]
  clear hs
  go_enter Try.func62, Try.ntmps62
  go_wp2_with fail
  go_loopw [3, 4, 7] (fun v _ i wr => ∃ k : Nat, k ≤ 5 ∧ i = .int .i64 k ∧ OwnB wr w.heap.size v (Sp.lets s k) ∧ Kept w wr) (fun _ _ i _ => 5 - (intOf i).toNat)
  case atStart => exact ⟨0, Nat.zero_le _, rfl, OwnB.nil _ _, Kept.refl _⟩
  case round =>
    obtain ⟨k, hk, rfl, hO, hkp⟩ := hrel
    obtain ⟨A, cp, rfl⟩ := hO.form
    have HO := Lib.hid hO
    by_cases hlt : k < 5
    · have HLN := Lib.hid (lets_len s k)
      obtain ⟨c, HC⟩ : ∃ c : Nat, Hid (c = 97 + k) := ⟨_, rfl⟩
      have hw : IntKind.i64.wrap (97 + (k : Int)) = (c : Int) := by rw [HC.out, IntKind.wrap_i64]; omega
      have hw8 : IntKind.u8.wrap (c : Int) = (c : Int) := by rw [HC.out]; simp [IntKind.wrap, IntKind.bits, IntKind.signed]; omega
      have hbt := and_bit s k (by omega)
      have hl1 : Sp.lets s (k + 1) = Sp.lets s k ++ (if s.testBit k = true then [UInt8.ofNat (97 + k)] else []) := rfl
      have HL := Lib.hid hl1
      clear hO hl1
      cases hb : s.testBit k
      · rw [hb] at HL hbt
        have HL2 : Hid (Sp.lets s (k + 1) = Sp.lets s k) := by show _ = _; rw [HL.out]; simp
        clear hb hw hw8
        go_wp2_with fail
        refine ⟨⟨k + 1, by omega, by go_num, by rw [HL2.out]; exact HO.out, hkp⟩, by simp [intOf]; omega⟩
      · rw [hb] at HL hbt
        have HL2 : Hid (Sp.lets s (k + 1) = Sp.lets s k ++ [UInt8.ofNat c]) := by show _ = _; rw [HL.out, HC.out]; simp
        have HB : Hid (Lib.byteCells [UInt8.ofNat c] = [.int .u8 (c : Int)]) := by
          show _ = _
          have : (UInt8.ofNat c).toNat = c := by simp [UInt8.toNat_ofNat']; rw [HC.out]; omega
          simp only [Lib.byteCells, List.map_cons, List.map_nil, this]
        clear hb
        go_wp2_with (at_builtin; refine wpList_append_own _ rfl (.tmp 15) (.tmp 19) 37 rfl (w.heap.size) 5 i0 (.int .u8 0) 1 1 Try.underlying37 HI.out.1 HI.out.2.1 HI.out.2.2.1 HI.out.2.2.2 rfl (by decide) (.slice A (Sp.lets s k).length cp) (Sp.lets s k).length _ rfl (World.ownsRow.alloc HO.out _) ⟨wr.heap.size, 0, none⟩ 1 1 [.int .u8 ((c : Int))] rfl rfl (one_new _ _ _) (by simp [Value.oneCell']) (by have := HLN.out; unfold maxLen; omega) (by have := HLN.out; omega) (by have := hkp.size; simp; omega) ?_; intro v' wapp hown2 hg2 _)
        have HO2 : OwnB wapp w.heap.size v' (Sp.lets s k ++ [UInt8.ofNat c]) := own_bytes (by rw [HB.out]; exact hown2) rfl
        have hk2 : Kept w wapp := (hkp.alloc _).grown hg2 (fun k e => (HO.out.lt k e).1)
        go_wp2_with fail
        refine ⟨⟨k + 1, by omega, by go_num, by rw [HL2.out]; exact HO2, hk2⟩, by simp [intOf]; omega⟩
    · obtain rfl : k = 5 := by omega
      have hcv := hO.str (fun e => HS.out (HE.out.1 e))
      clear hlt
      go_wp2_with fail
      go_ret
      exact ⟨by rw [HZ.out]; rfl, hkp⟩

end Go.Proofs.Ytphdojebdclonaa
