/- Joined texts. No condition. -/
import Derived.Lib.Strings
import Derived.Lib.SplitLaws
import Derived.Lib.IndexMore
import Derived.Test.YtphdojebdclonaaGreatDoorQ31
import Derived.Test.YtphdojebdclonaaGreatDoorQ29
import Derived.Test.YtphdojebdclonaaGreatDoorQ19
/- A text cut at a byte: plain, and the reference's l1Cut. The library's Split and Cut at one byte, in plain words. strings.Split and strings.Cut at one byte, as the walks meet them. No condition. -/
namespace Go.Proofs.YtphdojebdclonaaGreatDoor
set_option linter.unusedSimpArgs false
set_option linter.unusedVariables false
open Go.RowKit

def Sp.cutB (c : UInt8) : List UInt8 → List (List UInt8)
  | [] => [[]]
  | x :: xs => if x = c then [] :: Sp.cutB c xs else (x :: (Sp.cutB c xs).headD []) :: (Sp.cutB c xs).tail
/-- what stands ahead of the first part -/
def Sp.onto (p : List UInt8) (l : List (List UInt8)) : List (List UInt8) := (p ++ l.headD []) :: l.tail
theorem cutB_ne (c : UInt8) (s : List UInt8) : Sp.cutB c s ≠ [] := by
  cases s with
  | nil => simp [Sp.cutB]
  | cons x xs => unfold Sp.cutB; split <;> simp
theorem onto_hit (c : UInt8) (p s : List UInt8) : Sp.onto p (Sp.cutB c (c :: s)) = p :: Sp.onto [] (Sp.cutB c s) := by
  have h : Sp.cutB c (c :: s) = [] :: Sp.cutB c s := by rw [Sp.cutB, if_pos rfl]
  rw [h]
  cases hc : Sp.cutB c s with
  | nil => exact absurd hc (cutB_ne c s)
  | cons a l => simp [Sp.onto]
theorem onto_miss (c : UInt8) (p s : List UInt8) (x : UInt8) (h : x ≠ c) : Sp.onto p (Sp.cutB c (x :: s)) = Sp.onto (p ++ [x]) (Sp.cutB c s) := by
  have h : Sp.cutB c (x :: s) = (x :: (Sp.cutB c s).headD []) :: (Sp.cutB c s).tail := by rw [Sp.cutB, if_neg h]
  rw [h]; simp [Sp.onto]
theorem onto_nil (c : UInt8) (s : List UInt8) : Sp.onto [] (Sp.cutB c s) = Sp.cutB c s := by
  cases hc : Sp.cutB c s with
  | nil => exact absurd hc (cutB_ne c s)
  | cons a l => simp [Sp.onto]
theorem cutB_len (c : UInt8) (s : List UInt8) : (Sp.cutB c s).length ≤ s.length + 1 := by
  induction s with
  | nil => simp [Sp.cutB]
  | cons x xs ih =>
    unfold Sp.cutB
    split
    · simp; omega
    · simp; omega
def strV (l : List UInt8) : Value := .string ⟨l.toArray⟩
theorem info_str : (Tryz.prog.info? 9).map (fun i => (i.zero, i.size, i.bytes)) = some (some (.string ⟨#[]⟩), 1, 16) := by kernel_rfl
/-- a row of texts of the call's own -/
def OwnT (w : World) (B : Nat) (v : Value) (l : List (List UInt8)) : Prop := w.ownsRow B 9 1 v l.length (l.map strV)
theorem OwnT.keep {w w' : World} {B : Nat} {v : Value} {l : List (List UInt8)} (h : OwnT w B v l) (hk : Kept w w') : OwnT w' B v l := own_keep h hk
theorem ownT_snoc {w : World} {B : Nat} {v : Value} {l : List (List UInt8)} {s : List UInt8} (h : w.ownsRow B 9 1 v (l.length + 1) (l.map strV ++ [.string ⟨s.toArray⟩])) : OwnT w B v (l ++ [s]) := by
  unfold OwnT
  rw [List.length_append, List.map_append]; exact h
theorem ext_take (s : List UInt8) (a b : Nat) : (⟨s.toArray⟩ : ByteArray).extract a b = ⟨((s.drop a).take (b - a)).toArray⟩ := by
  have := Lib.extract_eq (⟨s.toArray⟩ : ByteArray) a b
  simpa using this

set_option maxHeartbeats 2000000 in
set_option maxRecDepth 100000 in
theorem c_l1Cut (s : List UInt8) (c : UInt8) (w : World) (hs : s.length ≤ 1048576) : Calls Tryz.prog 51 #[.string ⟨s.toArray⟩, .int .u8 (c.toNat : Int)] w (RetS (fun v w' => OwnT w' w.heap.size v (Sp.cutB c s)) w) := by
  obtain ⟨i0, hi0, hz0, hz1, hz2⟩ := info_parts info_str
  have HI := Lib.hid (And.intro hi0 (And.intro hz0 (And.intro hz1 hz2)))
  clear hi0 hz0 hz1 hz2
  have HN := Lib.hid hs
  have hO0 := World.ownsRow_made (base := w.heap.size) (e := 9) (size := 1) w #[] 0 (Nat.le_refl _) (by unfold maxLen; omega) rfl
  have hk0 := (Kept.refl w).alloc (.cells #[] 9)
  obtain ⟨g0, HG0⟩ : ∃ x, Hid (w.heap.size = x) := ⟨_, rfl⟩
  obtain ⟨w1, HW1⟩ : ∃ x, Hid (w.alloc (.cells #[] 9) = x) := ⟨_, rfl⟩
  rw [HW1.out] at hk0
  go_enter Tryz.func51, Tryz.ntmps51
  go_upto_region 2 with fail
  have hO1 : OwnT w1 w.heap.size (.slice (some ⟨g0, 0, none⟩) 0 0) [] := by rw [← HW1.out, ← HG0.out]; exact hO0
  rw [HG0.out, HW1.out]
  have H0 : Hid (Sp.cutB c s = [] ++ Sp.onto ((s.drop 0).take (0 - 0)) (Sp.cutB c (s.drop 0))) := by show _ = _; simp [onto_nil]
  clear hO0 hs
  go_wp2_with fail
  go_loopw [5, 6, 7] (fun v a b wr => ∃ (ps : List (List UInt8)) (f i : Nat), a = .int .i64 f ∧ b = .int .i64 i ∧ i ≤ s.length ∧ f ≤ i ∧ ps.length ≤ i ∧ OwnT wr w.heap.size v ps ∧ Hid (Sp.cutB c s = ps ++ Sp.onto ((s.drop f).take (i - f)) (Sp.cutB c (s.drop i))) ∧ Kept w wr) (fun _ _ b _ => s.length - (intOf b).toNat)
  case atStart => exact ⟨[], 0, 0, rfl, rfl, Nat.zero_le _, Nat.le_refl _, Nat.le_refl _, hO1, H0, hk0⟩
  case round =>
    clear hO1 H0 hk0
    obtain ⟨ps, f, i, rfl, rfl, hi, hf, hp, hO, HC, hkp⟩ := hrel
    obtain ⟨A, cp, rfl⟩ := own_form hO
    have HO := Lib.hid hO
    clear hO
    by_cases hlt : i < s.length
    · have hi20 : i < 1048576 := Nat.lt_of_lt_of_le hlt HN.out
      have hgx : (⟨s.toArray⟩ : ByteArray)[i]'(by simpa [ByteArray.size] using hlt) = s[i] := rfl
      obtain ⟨x, hx⟩ : ∃ x, s[i] = x := ⟨_, rfl⟩
      have HD : Hid (s.drop i = x :: s.drop (i + 1)) := by show _ = _; rw [← hx]; exact List.drop_eq_getElem_cons hlt
      have HTk : Hid ((s.drop f).take (i + 1 - f) = (s.drop f).take (i - f) ++ [x]) := by
        show _ = _
        have h1 : i - f < (s.drop f).length := by rw [List.length_drop]; omega
        rw [show i + 1 - f = (i - f) + 1 by omega, List.take_succ_eq_append_getElem h1]
        congr 1
        rw [List.getElem_drop, ← hx]
        simp only [show f + (i - f) = i by omega]
      rw [hx] at hgx
      by_cases hxc : x = c
      · have he : (((⟨s.toArray⟩ : ByteArray)[i]'(by simpa [ByteArray.size] using hlt)).toNat : Int) = (c.toNat : Int) := by rw [hgx, hxc]
        have HC2 : Hid (Sp.cutB c s = (ps ++ [(s.drop f).take (i - f)]) ++ Sp.onto ((s.drop (i + 1)).take (i + 1 - (i + 1))) (Sp.cutB c (s.drop (i + 1)))) := by
          show _ = _
          rw [HC.out, HD.out, hxc, onto_hit, Nat.sub_self, List.take_zero]; simp
        clear hx hgx hxc
        go_wp2_with (at_builtin; refine wpList_append_own _ rfl (.tmp 20) (.tmp 25) 84 rfl w.heap.size 9 i0 (.string ⟨#[]⟩) 1 16 Tryz.underlying84 HI.out.1 HI.out.2.1 HI.out.2.2.1 HI.out.2.2.2 rfl (by decide) (.slice A ps.length cp) ps.length _ rfl (World.ownsRow.alloc HO.out _) ⟨wr.heap.size, 0, none⟩ 1 1 [.string ((⟨s.toArray⟩ : ByteArray).extract f i)] rfl rfl (one_new _ _ _) (by simp [Value.oneCell']) (by have := HN.out; unfold maxLen; omega) (by have := HN.out; omega) (by have := hkp.size; simp; omega) ?_; intro v' wapp hown2 hg2 _)
        have HO2 : OwnT wapp w.heap.size v' (ps ++ [(s.drop f).take (i - f)]) := ownT_snoc (by rw [← ext_take]; exact hown2)
        have hk2 : Kept w wapp := (hkp.alloc _).grown hg2 (fun k e => (World.ownsRow.lt HO.out k e).1)
        go_wp2_with fail
        exact ⟨⟨ps ++ [(s.drop f).take (i - f)], i + 1, i + 1, by go_num, by go_num, by omega, by omega, by simp; omega, HO2, HC2, hk2⟩, by simp [intOf]; omega⟩
      · have he : ¬ (((⟨s.toArray⟩ : ByteArray)[i]'(by simpa [ByteArray.size] using hlt)).toNat : Int) = (c.toNat : Int) := by
          rw [hgx]; intro h; exact hxc (UInt8.toNat_inj.1 (by omega))
        have hef : ((((⟨s.toArray⟩ : ByteArray)[i]'(by simpa [ByteArray.size] using hlt)).toNat : Int) == (c.toNat : Int)) = false := beq_eq_false_iff_ne.2 he
        have HC2 : Hid (Sp.cutB c s = ps ++ Sp.onto ((s.drop f).take (i + 1 - f)) (Sp.cutB c (s.drop (i + 1)))) := by
          show _ = _
          rw [HC.out, HD.out, onto_miss c _ _ x hxc, HTk.out]
        clear hx hgx hxc he
        go_wp2_with fail
        exact ⟨⟨ps, f, i + 1, rfl, by go_num, by omega, by omega, by omega, HO.out, HC2, hkp⟩, by simp [intOf]; omega⟩
    · obtain rfl : i = s.length := by omega
      have HC2 : Hid (Sp.cutB c s = ps ++ [(s.drop f).take (s.length - f)]) := by
        show _ = _
        rw [HC.out, List.drop_length]; simp [Sp.cutB, Sp.onto]
      clear hlt
      go_wp2_with (at_builtin; refine wpList_append_own _ rfl (.tmp 29) (.tmp 33) 84 rfl w.heap.size 9 i0 (.string ⟨#[]⟩) 1 16 Tryz.underlying84 HI.out.1 HI.out.2.1 HI.out.2.2.1 HI.out.2.2.2 rfl (by decide) (.slice A ps.length cp) ps.length _ rfl (World.ownsRow.alloc HO.out _) ⟨wr.heap.size, 0, none⟩ 1 1 [.string ((⟨s.toArray⟩ : ByteArray).extract f s.length)] rfl rfl (one_new _ _ _) (by simp [Value.oneCell']) (by have := HN.out; unfold maxLen; omega) (by have := HN.out; omega) (by have := hkp.size; simp; omega) ?_; intro v' wapp hown2 hg2 _)
      have HO2 : OwnT wapp w.heap.size v' (ps ++ [(s.drop f).take (s.length - f)]) := ownT_snoc (by rw [← ext_take]; exact hown2)
      have hk2 : Kept w wapp := (hkp.alloc _).grown hg2 (fun k e => (World.ownsRow.lt HO.out k e).1)
      go_wp2_with fail
      go_ret
      exact ⟨_, rfl, by rw [HC2.out]; exact HO2, hk2⟩

end Go.Proofs.YtphdojebdclonaaGreatDoor

namespace Go.Proofs.YtphdojebdclonaaGreatDoor
set_option linter.unusedSimpArgs false
set_option linter.unusedVariables false

theorem cutB_none (c : UInt8) (p : List UInt8) (h : ∀ x ∈ p, x ≠ c) : Sp.cutB c p = [p] := by
  induction p with
  | nil => rfl
  | cons x p ih =>
    rw [Sp.cutB, if_neg (h x (by simp)), ih (fun y hy => h y (by simp [hy]))]; rfl
theorem cutB_app (c : UInt8) (p q : List UInt8) (h : ∀ x ∈ p, x ≠ c) : Sp.cutB c (p ++ c :: q) = p :: Sp.cutB c q := by
  induction p with
  | nil => rw [List.nil_append, Sp.cutB, if_pos rfl]
  | cons x p ih =>
    rw [List.cons_append, Sp.cutB, if_neg (h x (by simp)), ih (fun y hy => h y (by simp [hy]))]; rfl
theorem indexByte_none {c : UInt8} {s : List UInt8} (h : Lib.indexByte s c = -1) : ∀ x ∈ s, x ≠ c := by
  induction s with
  | nil => simp
  | cons b l ih =>
    rw [Lib.indexByte] at h
    have hge := Lib.indexByte_ge l c
    by_cases hb : b = c
    · simp [hb] at h
    · rw [if_neg (by simpa using hb)] at h
      have hl : Lib.indexByte l c = -1 := by
        by_cases e : Lib.indexByte l c = -1
        · exact e
        · rw [if_neg (by simpa using e)] at h; omega
      intro x hx
      rcases List.mem_cons.1 hx with rfl | hx
      · exact hb
      · exact ih hl x hx
theorem indexByte_hit {c : UInt8} {s : List UInt8} {j : Nat} (h : Lib.indexByte s c = (j : Int)) : s = s.take j ++ c :: s.drop (j + 1) ∧ (∀ x ∈ s.take j, x ≠ c) ∧ j < s.length := by
  induction s generalizing j with
  | nil => simp [Lib.indexByte] at h
  | cons b l ih =>
    rw [Lib.indexByte] at h
    have hge := Lib.indexByte_ge l c
    by_cases hb : b = c
    · rw [if_pos (by simpa using hb)] at h
      obtain rfl : j = 0 := by omega
      subst hb
      simp
    · rw [if_neg (by simpa using hb)] at h
      have e : ¬ Lib.indexByte l c = -1 := fun e => by rw [if_pos (by simpa using e)] at h; omega
      rw [if_neg (by simpa using e)] at h
      obtain ⟨k, rfl⟩ : ∃ k, j = k + 1 := ⟨j - 1, by omega⟩
      obtain ⟨h1, h2, h3⟩ := ih (j := k) (by omega)
      refine ⟨by rw [List.take_succ_cons, List.drop_succ_cons, List.cons_append, ← h1], fun x hx => ?_, by simp; omega⟩
      rw [List.take_succ_cons] at hx
      rcases List.mem_cons.1 hx with rfl | hx
      · exact hb
      · exact h2 x hx
/-- strings.Split at one byte -/
theorem split_one (c : UInt8) : ∀ (n : Nat) (s : List UInt8), s.length ≤ n → Lib.splitB ⟨#[c]⟩ 0 (Lib.countB ⟨s.toArray⟩ ⟨#[c]⟩) ⟨s.toArray⟩ = (Sp.cutB c s).map (fun l => (⟨l.toArray⟩ : ByteArray))
  | n, s, hn => by
    have hidx : Lib.indexB ⟨s.toArray⟩ ⟨#[c]⟩ = Lib.indexByte s c := by
      show Lib.index (⟨s.toArray⟩ : ByteArray).data.toList [c] = _
      rw [Lib.index_one]
    by_cases h : Lib.indexByte s c = -1
    · rw [Lib.countB_miss _ _ (hidx.trans h), cutB_none c s (indexByte_none h)]
      rfl
    · have hge := Lib.indexByte_ge s c
      obtain ⟨j, hj⟩ : ∃ j : Nat, Lib.indexByte s c = j := ⟨(Lib.indexByte s c).toNat, by omega⟩
      obtain ⟨h1, h2, h3⟩ := indexByte_hit hj
      have hcut : Sp.cutB c s = s.take j :: Sp.cutB c (s.drop (j + 1)) := by
        have := cutB_app c (s.take j) (s.drop (j + 1)) h2
        rw [← h1] at this; exact this
      have hex : (⟨s.toArray⟩ : ByteArray).extract (j + (⟨#[c]⟩ : ByteArray).size) (⟨s.toArray⟩ : ByteArray).size = ⟨(s.drop (j + 1)).toArray⟩ := by
        rw [ext_take]
        have : (⟨s.toArray⟩ : ByteArray).size = s.length := by simp [ByteArray.size]
        rw [this]
        show (⟨((s.drop (j + 1)).take (s.length - (j + 1))).toArray⟩ : ByteArray) = _
        rw [List.take_of_length_le (by rw [List.length_drop]; exact Nat.le_refl _)]
      have hcnt := Lib.countB_hit ⟨s.toArray⟩ ⟨#[c]⟩ j (Nat.le_refl 1) (hidx.trans hj)
      rw [hex] at hcnt
      match n with
      | 0 => omega
      | n + 1 =>
        have ih := split_one c n (s.drop (j + 1)) (by rw [List.length_drop]; omega)
        rw [hcnt, Nat.add_comm 1, Lib.splitB_hit _ _ _ _ j (hidx.trans hj), hex, ih, hcut, List.map_cons, ext_take]
        simp
/-- strings.Cut at one byte -/
theorem cut_hit (c : UInt8) (p q : List UInt8) (h : ∀ x ∈ p, x ≠ c) : Lib.cut (p ++ c :: q) [c] = (p, q, true) := by
  have hi : Lib.index (p ++ c :: q) [c] = (p.length : Nat) := by
    rw [Lib.index_one]
    induction p with
    | nil => simp [Lib.indexByte]
    | cons x p ih =>
      rw [List.cons_append, Lib.indexByte, if_neg (by simpa using h x (by simp)), ih (fun y hy => h y (by simp [hy])), if_neg (by simp)]
      simp
  unfold Lib.cut
  rw [hi, if_pos (by omega)]
  simp
theorem cut_bd (s : List UInt8) (c : UInt8) : (Lib.cut s [c]).1.length ≤ s.length ∧ (Lib.cut s [c]).2.1.length ≤ s.length := by
  unfold Lib.cut
  split
  · simp; omega
  · simp

end Go.Proofs.YtphdojebdclonaaGreatDoor

namespace Go.Proofs.YtphdojebdclonaaGreatDoor
set_option linter.unusedSimpArgs false
set_option linter.unusedVariables false
open Go.RowKit

/-- a row of texts, to be read -/
def Txts (w : World) (A : Option Addr) (n : Nat) (l : List (List UInt8)) : Prop :=
  l.length = n ∧ (0 < n → ∃ b off, A = some ⟨b, off, none⟩ ∧ b < w.heap.size ∧ ∀ k, k < n → w.cell? ⟨b, off + k, none⟩ = some (strV (l.getD k [])))
theorem Txts.keep {w w' : World} {A : Option Addr} {n : Nat} {l : List (List UInt8)} (h : Txts w A n l) (hk : Kept w w') : Txts w' A n l := by
  refine ⟨h.1, fun hn => ?_⟩
  obtain ⟨b, off, e, hb, hc⟩ := h.2 hn
  exact ⟨b, off, e, Nat.lt_of_lt_of_le hb hk.size, fun k hkn => by rw [hk.cell hb]; exact hc k hkn⟩
def TxtsQ (l : List (List UInt8)) (v : Value) (w' : World) : Prop := ∃ A c, v = .slice A l.length c ∧ l.length ≤ c ∧ Txts w' A l.length l
theorem OwnT.txts {w : World} {B : Nat} {v : Value} {l : List (List UInt8)} (h : OwnT w B v l) (hl : l ≠ []) : TxtsQ l v w := by
  obtain ⟨A, c, rfl⟩ := own_form h
  have hp : 0 < l.length := List.length_pos_iff.2 hl
  rcases h.2 with ⟨_, h0⟩ | ⟨g, cap, cur, e, hg, hh, h1, h2, hc, ht⟩
  · omega
  · injection e with e1 e2 e3
    subst e1 e3
    refine ⟨_, _, rfl, h1, rfl, fun _ => ⟨g, 0, rfl, ?_, fun k hk => ?_⟩⟩
    · rcases Nat.lt_or_ge g w.heap.size with h' | h'
      · exact h'
      · simp [Array.getElem?_eq_none h'] at hh
    · rw [Nat.zero_add, Lib.cell_of_heap hh]
      have h3 : (l.map strV)[k]? = some (strV (l.getD k [])) := by simp [List.getElem?_eq_getElem hk]
      rw [← ht, List.getElem?_take, if_pos (by omega), Array.getElem?_toList] at h3
      exact h3

theorem c_Split (s : List UInt8) (c : UInt8) (m : Int) (w : World) (hs : s.length ≤ 1048576) (hm : w.cell? ⟨1, 0, none⟩ = some (.int .i64 m)) :
    Calls Tryz.prog 84 #[.string ⟨s.toArray⟩, .string ⟨#[c]⟩] w (RetS (TxtsQ (Sp.cutB c s)) w) := by
  have hsz : (⟨s.toArray⟩ : ByteArray).size = s.length := by simp [ByteArray.size]
  refine (Tryz.strings_Split ⟨s.toArray⟩ ⟨#[c]⟩ m w (by rw [hsz]; omega) hm (Nat.le_refl 1)).mono ?_
  rintro e w' ⟨rfl, rfl⟩
  have hsp := split_one c s.length s (Nat.le_refl _)
  have hln : Lib.countB ⟨s.toArray⟩ ⟨#[c]⟩ + 1 = (Sp.cutB c s).length := by
    have := Lib.splitB_all ⟨#[c]⟩ (Nat.le_refl 1) 0 _ ⟨s.toArray⟩ rfl
    rw [hsp, List.length_map] at this
    exact this.symm
  rw [hsp, hln]
  refine ⟨_, rfl, ⟨_, _, rfl, Nat.le_refl _, rfl, fun _ => ⟨w.heap.size, 0, rfl, by simp, fun k hk => ?_⟩⟩, (Kept.refl w).alloc _⟩
  rw [Nat.zero_add, World.cell?_alloc_new]
  simp [strV, List.getElem?_eq_getElem hk]
theorem c_Cut (s : List UInt8) (c : UInt8) (m : Int) (w : World) (hs : s.length ≤ 1048576) (hm : w.cell? ⟨1, 0, none⟩ = some (.int .i64 m)) :
    Calls Tryz.prog 42 #[.string ⟨s.toArray⟩, .string ⟨#[c]⟩] w (RetK (.tuple #[.string ⟨(Lib.cut s [c]).1.toArray⟩, .string ⟨(Lib.cut s [c]).2.1.toArray⟩, .bool (Lib.cut s [c]).2.2]) w) := by
  have hsz : (⟨s.toArray⟩ : ByteArray).size = s.length := by simp [ByteArray.size]
  refine (Tryz.strings_Cut ⟨s.toArray⟩ ⟨#[c]⟩ m w (by rw [hsz]; omega) hm).mono ?_
  rintro e w' ⟨rfl, n, rfl⟩
  exact ⟨rfl, (Kept.refl w).drewN n⟩

end Go.Proofs.YtphdojebdclonaaGreatDoor
