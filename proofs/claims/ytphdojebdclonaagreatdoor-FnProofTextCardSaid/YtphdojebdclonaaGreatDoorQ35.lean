/- Joined texts. No condition. -/
import Derived.Test.YtphdojebdclonaaGreatDoorQ30
import Derived.Test.YtphdojebdclonaaGreatDoorQ11
import Derived.Test.YtphdojebdclonaaGreatDoorQ32
import Derived.Test.YtphdojebdclonaaGreatDoorQ33
import Derived.Test.YtphdojebdclonaaGreatDoorQ15
import Derived.Test.YtphdojebdclonaaGreatDoorQ34
/- Walks: ReadCode, both. Walks: the program's readDeed. Rows of deeds of one's own, told deed by deed; a task of one's own that may be marked. Walks: the program's ReadTask. No condition. -/
namespace Go.Proofs.YtphdojebdclonaaGreatDoor
set_option linter.unusedSimpArgs false
set_option linter.unusedVariables false
open Go.RowKit

/-- what a reading of a code gives: it reads the text of each valid code as this code -/
def CodeQ (X : Nat) (s : List UInt8) (v : Value) (w' : World) : Prop :=
  ∃ (A : Option Addr) (n c : Nat) (l : List Int) (b : Bool), v = .tuple #[.slice A n c, .bool b] ∧ w'.ownsRow X 3 1 (.slice A n c) n (l.map (Value.int .i64)) ∧
    Hid (n ≤ 199 ∧ (∀ x ∈ l, 0 ≤ x ∧ x ≤ 9) ∧ ∀ d, Sp.codeOk d = true → s = Sp.codeText d → b = true ∧ l = d)
theorem codeQ_no {s : List UInt8} {l : List Int} {q : Nat} (hR : s.length ≤ 190 → Sp.Rds 1 (s.drop 0) false l (s.drop q)) : ∀ d, Sp.codeOk d = true → s = Sp.codeText d → false = true ∧ ([] : List Int) = d := by
  intro d hd hs
  have hl := codeText_len d
  have h := (hR (by rw [hs]; omega) d []).1 (by rw [List.drop_zero, hs]; exact codeText_rds hd)
  exact absurd h.1 (by decide)
theorem codeQ_far {s : List UInt8} {l : List Int} {q : Nat} {b : Bool} (hq : q < s.length) (hR : s.length ≤ 190 → Sp.Rds 1 (s.drop 0) b l (s.drop q)) : ∀ d, Sp.codeOk d = true → s = Sp.codeText d → false = true ∧ ([] : List Int) = d := by
  intro d hd hs
  have hl := codeText_len d
  have h := (hR (by rw [hs]; omega) d []).1 (by rw [List.drop_zero, hs]; exact codeText_rds hd)
  have h2 := congrArg List.length h.2.2
  rw [List.length_drop, List.length_nil] at h2
  omega
theorem codeQ_is {s : List UInt8} {l : List Int} {q : Nat} {b : Bool} (hR : s.length ≤ 190 → Sp.Rds 1 (s.drop 0) b l (s.drop q)) : ∀ d, Sp.codeOk d = true → s = Sp.codeText d → b = true ∧ l = d := by
  intro d hd hs
  have hl := codeText_len d
  have h := (hR (by rw [hs]; omega) d []).1 (by rw [List.drop_zero, hs]; exact codeText_rds hd)
  exact ⟨h.1, h.2.1.symm⟩
theorem codeQ_bad {s : List UInt8} {l : List Int} {q : Nat} {b : Bool} (hl : Sp.codeOk l = false) (hR : s.length ≤ 190 → Sp.Rds 1 (s.drop 0) b l (s.drop q)) : ∀ d, Sp.codeOk d = true → s = Sp.codeText d → false = true ∧ ([] : List Int) = d := by
  intro d hd hs
  obtain ⟨_, rfl⟩ := codeQ_is hR d hd hs
  rw [hd] at hl; cases hl



























































































































end Go.Proofs.YtphdojebdclonaaGreatDoor

namespace Go.Proofs.YtphdojebdclonaaGreatDoor
set_option linter.unusedSimpArgs false
set_option linter.unusedVariables false
open Go.RowKit

/-- what a reading of a deed gives: it reads the text of each valid deed as this deed -/
def RDeedQ (X : Nat) (s : List UInt8) (v : Value) (w' : World) : Prop :=
  ∃ (A : Option Addr) (n c : Nat) (l : List Int) (on off flip : Int) (b : Bool), v = .tuple #[.agg #[.slice A n c, .int .i64 on, .int .i64 off, .int .i64 flip], .bool b] ∧ w'.ownsRow X 3 1 (.slice A n c) n (l.map (Value.int .i64)) ∧
    Hid (n ≤ 199 ∧ (∀ x ∈ l, 0 ≤ x ∧ x ≤ 9) ∧ (0 ≤ on ∧ on ≤ 31) ∧ (0 ≤ off ∧ off ≤ 31) ∧ (0 ≤ flip ∧ flip ≤ 31) ∧ ∀ d, Sp.deedOk d = true → s = Sp.deedText d → b = true ∧ l = d.need ∧ on = d.on ∧ off = d.off ∧ flip = d.flip)
theorem rdeedQ_no {X : Nat} {s : List UInt8} {w : World} (h : ∀ d, Sp.deedOk d = true → s ≠ Sp.deedText d) : RDeedQ X s (.tuple #[.agg #[.slice none 0 0, .int .i64 0, .int .i64 0, .int .i64 0], .bool false]) w :=
  ⟨none, 0, 0, [], 0, 0, 0, false, rfl, World.ownsRow_nil _ _ _ _, by omega, (fun x hx => by cases hx), by omega, by omega, by omega, fun d hd hs => absurd hs (h d hd)⟩
theorem readSetV_bd (s : List UInt8) : 0 ≤ Sp.readSetV s ∧ Sp.readSetV s ≤ 31 := by
  have := readSet_bd s
  unfold Sp.readSetV
  split <;> omega
theorem readSetV_letters {x : Int} (h0 : 0 ≤ x) (h1 : x ≤ 31) : Sp.readSetV (Sp.letters x) = x ∧ Sp.readSetB (Sp.letters x) = true := by
  have h := readSet_letters h0 h1
  unfold Sp.readSetV Sp.readSetB
  rw [h]
  exact ⟨if_neg (by omega), decide_eq_true (by omega)⟩
theorem Txts.at_ {w : World} {A : Option Addr} {n : Nat} {l : List (List UInt8)} (h : Txts w A n l) {k : Nat} (hk : k < n) : ∃ b off, A = some ⟨b, off, none⟩ ∧ b < w.heap.size ∧ w.cell? ⟨b, off + k, none⟩ = some (.string ⟨(l.getD k []).toArray⟩) := by
  obtain ⟨b, off, e, hb, hc⟩ := h.2 (by omega)
  exact ⟨b, off, e, hb, hc k hk⟩
/-- the three cells of the sets that have been read -/
def fcells (k : Nat) (y0 y1 y2 : Int) : Array Value := #[.int .i64 (if 0 < k then y0 else 0), .int .i64 (if 1 < k then y1 else 0), .int .i64 (if 2 < k then y2 else 0)]























































































































































































end Go.Proofs.YtphdojebdclonaaGreatDoor

namespace Go.Proofs.YtphdojebdclonaaGreatDoor
set_option linter.unusedSimpArgs false
set_option linter.unusedVariables false
open Go.RowKit

theorem cutB_parts (c : UInt8) (s : List UInt8) : ∀ p ∈ Sp.cutB c s, p.length ≤ s.length := by
  induction s with
  | nil => intro p hp; simp [Sp.cutB] at hp; subst hp; simp
  | cons x xs ih =>
    intro p hp
    unfold Sp.cutB at hp
    split at hp
    · rcases List.mem_cons.1 hp with rfl | hp
      · simp
      · have := ih p hp; simp; omega
    · rcases List.mem_cons.1 hp with rfl | hp
      · cases hc : Sp.cutB c xs with
        | nil => exact absurd hc (cutB_ne c xs)
        | cons a l =>
          have := ih a (by rw [hc]; simp)
          simp; omega
      · have := ih p (List.mem_of_mem_tail hp); simp; omega
theorem cutB_part (c : UInt8) (s : List UInt8) (k : Nat) : ((Sp.cutB c s).getD k []).length ≤ s.length := by
  by_cases hk : k < (Sp.cutB c s).length
  · rw [List.getD_eq_getElem?_getD, List.getElem?_eq_getElem hk]
    exact cutB_parts c s _ (List.getElem_mem hk)
  · rw [List.getD_eq_getElem?_getD, List.getElem?_eq_none (by omega)]; simp

/-- the four cells of the deed d with a row of its own, in block a -/
def DV (X : Nat) (w : World) (d : Sp.Deed) (a : Nat) (v0 v1 v2 v3 : Value) : Prop :=
  ∃ (A : Option Addr) (n c : Nat), v0 = .slice A n c ∧ v1 = .int .i64 d.on ∧ v2 = .int .i64 d.off ∧ v3 = .int .i64 d.flip ∧ n ≤ 199 ∧ w.ownsRow X 3 1 (.slice A n c) n (d.need.map (Value.int .i64)) ∧
    (∀ x ∈ d.need, 0 ≤ x ∧ x ≤ 9) ∧ (-1 ≤ d.on ∧ d.on ≤ 31) ∧ (-1 ≤ d.off ∧ d.off ≤ 31) ∧ (-1 ≤ d.flip ∧ d.flip ≤ 31) ∧ (A = some ⟨a, 0, none⟩ ∨ n = 0)
/-- a row of one's own with the deeds ds, whose rows lie in the blocks gs, one behind the other -/
def DRowL (X : Nat) (w : World) (A : Option Addr) (n c : Nat) (ds : List Sp.Deed) (gs : Nat → Nat) : Prop :=
  ds.length = n ∧ (∃ xs : List Value, w.ownsRow X 62 4 (.slice A n c) n xs ∧ ∀ k, k < n → ∃ v0 v1 v2 v3, xs[k * 4]? = some v0 ∧ xs[k * 4 + 1]? = some v1 ∧ xs[k * 4 + 2]? = some v2 ∧ xs[k * 4 + 3]? = some v3 ∧ DV X w (ds.getD k default) (gs k) v0 v1 v2 v3) ∧
    (∀ k, k < n → X ≤ gs k ∧ gs k < w.heap.size) ∧ ∀ j k, j < k → k < n → gs j < gs k
section
variable {X : Nat} {w w' : World}
theorem DV.kept {d : Sp.Deed} {a : Nat} {v0 v1 v2 v3 : Value} (h : DV X w d a v0 v1 v2 v3) (hk : IntsKept X w w') : DV X w' d a v0 v1 v2 v3 := by
  obtain ⟨A, n, c, e0, e1, e2, e3, hn, ho, rest⟩ := h
  exact ⟨A, n, c, e0, e1, e2, e3, hn, hk _ _ _ _ ho, rest⟩
theorem DRowL.kept {A : Option Addr} {n c : Nat} {ds : List Sp.Deed} {gs : Nat → Nat} (h : DRowL X w A n c ds gs) (hk : RowsKept X w w') (hs : w.heap.size ≤ w'.heap.size) : DRowL X w' A n c ds gs := by
  obtain ⟨hl, ⟨xs, ho, hv⟩, h1, h2⟩ := h
  refine ⟨hl, ⟨xs, hk _ _ _ _ _ (.inr rfl) ho, fun k hkn => ?_⟩, fun k hkn => ⟨(h1 k hkn).1, by have := (h1 k hkn).2; omega⟩, h2⟩
  obtain ⟨v0, v1, v2, v3, g0, g1, g2, g3, hd⟩ := hv k hkn
  exact ⟨v0, v1, v2, v3, g0, g1, g2, g3, hd.kept hk.ints⟩
theorem DRowL.none_ (X : Nat) (w : World) (gs : Nat → Nat) : DRowL X w none 0 0 [] gs := ⟨rfl, ⟨[], World.ownsRow_nil _ _ _ _, fun k hk => by omega⟩, fun k hk => by omega, fun j k _ hk => by omega⟩
theorem DRowL.made {A : Option Addr} {c : Nat} (gs : Nat → Nat) (h : w.ownsRow X 62 4 (.slice A 0 c) 0 []) : DRowL X w A 0 c [] gs := ⟨rfl, ⟨[], h, fun k hk => by omega⟩, fun k hk => by omega, fun j k _ hk => by omega⟩
theorem nine_in {l : List Int} (h : ∀ x ∈ l, 0 ≤ x ∧ x ≤ 9) : ∀ x ∈ l, Sp.inI x := fun x hx => by have := h x hx; unfold Sp.inI; omega
theorem DRowL.deeds {A : Option Addr} {n c : Nat} {ds : List Sp.Deed} {gs : Nat → Nat} (h : DRowL X w A n c ds gs) (hn : n ≤ 1048577) : Deeds w A n ds := by
  obtain ⟨hl, ⟨xs, ho, hv⟩, _, _⟩ := h
  refine ⟨hl, by unfold maxLen; omega, fun h0 => ?_⟩
  obtain ⟨_, g, rfl, hg, hgl, _, _⟩ := own_some ho h0
  have hc : ∀ j u, xs[j]? = some u → w.cell? ⟨g, j, none⟩ = some u := fun j u hu => by
    rw [ho.cellAt j (by have := ho.1; have := (List.getElem?_eq_some_iff.1 hu).1; omega)]
    exact hu
  refine ⟨g, 0, rfl, hgl, fun k hk => ?_⟩
  obtain ⟨v0, v1, v2, v3, h0, h1, h2, h3, A, m, c, rfl, rfl, rfl, rfl, hm, hr, hi, i1, i2, i3, _⟩ := hv k hk
  rw [Nat.zero_add]
  exact ⟨A, m, c, hc _ _ h0, own_ints2 (by omega) hr (nine_in hi), hc _ _ h1, hc _ _ h2, hc _ _ h3, by unfold Sp.inI; omega, by unfold Sp.inI; omega, by unfold Sp.inI; omega⟩
end
theorem DRowL.push {X n c c2 a : Nat} {w w2 : World} {o : Obj} {A A2 : Option Addr} {xs : List Value} {ds : List Sp.Deed} {d : Sp.Deed} {gs : Nat → Nat} {v0 v1 v2 v3 : Value} (hl : ds.length = n) (ho : w.ownsRow X 62 4 (.slice A n c) n xs)
    (hv : ∀ k, k < n → ∃ v0 v1 v2 v3, xs[k * 4]? = some v0 ∧ xs[k * 4 + 1]? = some v1 ∧ xs[k * 4 + 2]? = some v2 ∧ xs[k * 4 + 3]? = some v3 ∧ DV X w (ds.getD k default) (gs k) v0 v1 v2 v3)
    (h1 : ∀ k, k < n → X ≤ gs k ∧ gs k < w.heap.size) (h2 : ∀ j k, j < k → k < n → gs j < gs k) (ha : X ≤ a ∧ a < w.heap.size) (ha2 : ∀ k, k < n → gs k < a)
    (hg : (w.alloc o).grownBy w2 (Value.slice A n c).ownBlock) (ho2 : w2.ownsRow X 62 4 (.slice A2 (n + 1) c2) (n + 1) (xs ++ [v0, v1, v2, v3])) (hd : DV X w d a v0 v1 v2 v3) :
    DRowL X w2 A2 (n + 1) c2 (ds ++ [d]) (fun j => if j = n then a else gs j) ∧ IntsKept X w w2 := by
  have hI : IntsKept X w w2 := fun sz v m ys h => (h.alloc o).kept hg (own_apart (h.alloc o) (ho.alloc o) (by decide))
  have hxl : xs.length = n * 4 := ho.1
  have hsz : w.heap.size ≤ w2.heap.size := by have := hg.size; simp at this; omega
  refine ⟨⟨by rw [List.length_append, hl]; rfl, ⟨xs ++ [v0, v1, v2, v3], ho2, fun k hk => ?_⟩, fun k hk => ?_, fun j k hjk hk => ?_⟩, hI⟩
  · by_cases e : k = n
    · subst e
      refine ⟨v0, v1, v2, v3, ?_, ?_, ?_, ?_, ?_⟩
      · rw [List.getElem?_append_right (by omega), hxl]; simp
      · rw [List.getElem?_append_right (by omega), hxl, show k * 4 + 1 - k * 4 = 1 by omega]; rfl
      · rw [List.getElem?_append_right (by omega), hxl, show k * 4 + 2 - k * 4 = 2 by omega]; rfl
      · rw [List.getElem?_append_right (by omega), hxl, show k * 4 + 3 - k * 4 = 3 by omega]; rfl
      · show DV X w2 _ (if k = k then a else gs k) _ _ _ _
        rw [if_pos rfl, List.getD_eq_getElem?_getD, List.getElem?_append_right (by omega), hl, Nat.sub_self]
        exact hd.kept hI
    · obtain ⟨u0, u1, u2, u3, g0, g1, g2, g3, h4⟩ := hv k (by omega)
      refine ⟨u0, u1, u2, u3, ?_, ?_, ?_, ?_, ?_⟩
      · rw [List.getElem?_append_left (by omega)]; exact g0
      · rw [List.getElem?_append_left (by omega)]; exact g1
      · rw [List.getElem?_append_left (by omega)]; exact g2
      · rw [List.getElem?_append_left (by omega)]; exact g3
      · show DV X w2 _ (if k = n then a else gs k) _ _ _ _
        rw [if_neg e, List.getD_eq_getElem?_getD, List.getElem?_append_left (by omega), ← List.getD_eq_getElem?_getD]
        exact h4.kept hI
  · show X ≤ (if k = n then a else gs k) ∧ (if k = n then a else gs k) < _
    by_cases e : k = n
    · rw [if_pos e]; omega
    · rw [if_neg e]; have := h1 k (by omega); omega
  · show (if j = n then a else gs j) < (if k = n then a else gs k)
    rw [if_neg (by omega)]
    by_cases e : k = n
    · rw [if_pos e]; exact ha2 j (by omega)
    · rw [if_neg e]; exact h2 j k hjk (by omega)

theorem own_sh {X n c a : Nat} {w : World} {l : List Int} (h : w.ownsRow X 3 1 (.slice (some ⟨a, 0, none⟩) n c) n (l.map (Value.int .i64))) (hl : n = l.length) : Sh a (a + 1) w (some ⟨a, 0, none⟩) n := by
  intro hn
  obtain ⟨cur, hB⟩ := own_blk h
  refine ⟨a, 0, rfl, Nat.le_refl _, Nat.lt_succ_self _, hB.lt, fun k hk => ⟨⟨l[k]'(by omega), ?_⟩, hB.frozen _⟩⟩
  rw [Nat.zero_add, h.cellAt k (by omega)]
  simp [List.getElem?_eq_getElem (show k < l.length by omega)]
theorem DRowL.od {X B C n c g : Nat} {w : World} {ds : List Sp.Deed} {gs : Nat → Nat} (h : DRowL X w (some ⟨g, 0, none⟩) n c ds gs) (hB : B ≤ X) (hC : w.heap.size ≤ C) (hne : ∀ d ∈ ds, 1 ≤ d.need.length ∧ d.need.length ≤ 64) (h0 : 0 < n) :
    OD B C w g n gs (fun k => (ds.getD k default).need.length) := by
  obtain ⟨hl, ⟨xs, ho, hv⟩, h1, h2⟩ := h
  obtain ⟨_, g', e, hg, hgl, _, _⟩ := own_some ho h0
  simp only [Option.some.injEq, Addr.mk.injEq] at e
  obtain ⟨rfl, _⟩ := e
  obtain ⟨cur, hBk⟩ := own_blk ho
  have hc : ∀ j u, xs[j]? = some u → w.cell? ⟨g, j, none⟩ = some u := fun j u hu => by
    rw [ho.cellAt j (by have := ho.1; have := (List.getElem?_eq_some_iff.1 hu).1; omega)]
    exact hu
  refine ⟨by omega, by omega, hgl, hBk.frozen, fun k hk => ?_, fun j k hj hk hjk => ?_⟩
  · obtain ⟨v0, v1, v2, v3, g0, g1, g2, g3, A, m, c, rfl, rfl, rfl, rfl, hm, hr, hi, i1, i2, i3, hA⟩ := hv k hk
    have hd : ds.getD k default ∈ ds := by
      rw [List.getD_eq_getElem?_getD, List.getElem?_eq_getElem (by omega)]
      exact List.getElem_mem _
    obtain ⟨l1, l2⟩ := hne _ hd
    have hml : m = (ds.getD k default).need.length := by have := hr.1; rw [List.length_map] at this; omega
    subst hml
    rcases hA with rfl | hA
    · refine ⟨c, hc _ _ g0, l2, ?_, by have := h1 k hk; omega, by have := h1 k hk; omega, (h1 k hk).2, own_sh hr rfl, fun i hi => ?_⟩
      · rcases own_apart hr ho (by decide) with e | e
        · cases e
        · intro e2; apply e; rw [e2]; rfl
      · match i, hi with
        | 0, _ => exact ⟨_, hc _ _ g1⟩
        | 1, _ => exact ⟨_, hc _ _ g2⟩
        | 2, _ => exact ⟨_, hc _ _ g3⟩
    · omega
  · rcases Nat.lt_or_gt_of_ne hjk with e | e
    · exact Nat.ne_of_lt (h2 j k e hk)
    · exact Nat.ne_of_gt (h2 k j e hj)

/-- a task value that may be marked -/
def MT (X : Nat) (w : World) (v : Value) : Prop :=
  ∃ (x : Int) (AG : Option Addr) (nG cG gG : Nat) (A : Option Addr) (n c g : Nat) (gs ms : Nat → Nat), v = .agg #[.int .i64 x, .slice AG nG cG, .slice A n c] ∧ nG ≤ 64 ∧ n ≤ 8 ∧ (AG = some ⟨gG, 0, none⟩ ∨ nG = 0) ∧ X ≤ gG ∧ gG < w.heap.size ∧
    Sh gG (gG + 1) w AG nG ∧ (0 < n → A = some ⟨g, 0, none⟩) ∧ (0 < n → OD X w.heap.size w g n gs ms) ∧ (0 < n → gG ≠ g) ∧ (∀ j, j < n → gG ≠ gs j) ∧ ∀ j, j < n → ms j ≤ 64
theorem MT.zero {X : Nat} {w : World} (hX : X < w.heap.size) : MT X w (.agg #[.int .i64 0, .slice none 0 0, .slice none 0 0]) :=
  ⟨0, none, 0, 0, X, none, 0, 0, 0, fun _ => 0, fun _ => 0, rfl, by omega, by omega, .inr rfl, Nat.le_refl _, hX, fun h => by omega, fun h => by omega, fun h => by omega, fun h => by omega, fun j hj => by omega, fun j hj => by omega⟩
theorem MT.task {X nG cG gG n c : Nat} {x : Int} {w : World} {AG A : Option Addr} {goal : List Int} {ds : List Sp.Deed} {gs : Nat → Nat} (hG : w.ownsRow X 3 1 (.slice AG nG cG) nG (goal.map (Value.int .i64))) (hA : AG = some ⟨gG, 0, none⟩ ∨ nG = 0)
    (hX : X ≤ gG) (hGs : gG < w.heap.size) (hg : goal.length ≤ 64) (hD : DRowL X w A n c ds gs) (hn : n ≤ 8) (hne : ∀ d ∈ ds, 1 ≤ d.need.length ∧ d.need.length ≤ 64) (hlt : ∀ k, k < n → gG < gs k) (hg1 : 1 ≤ goal.length) :
    MT X w (.agg #[.int .i64 x, .slice AG nG cG, .slice A n c]) := by
  have hnG : nG = goal.length := by have := hG.1; rw [List.length_map] at this; omega
  obtain rfl : AG = some ⟨gG, 0, none⟩ := hA.resolve_right (by omega)
  have hms : ∀ j, j < n → (ds.getD j default).need.length ≤ 64 := fun j hj => by
    have hl := hD.1
    have hd : ds.getD j default ∈ ds := by
      rw [List.getD_eq_getElem?_getD, List.getElem?_eq_getElem (by omega)]
      exact List.getElem_mem _
    exact (hne _ hd).2
  by_cases h0 : 0 < n
  · obtain ⟨xs, ho, _⟩ := hD.2.1
    obtain ⟨_, g, rfl, _⟩ := own_some ho h0
    refine ⟨x, _, nG, cG, gG, _, n, c, g, gs, _, rfl, by omega, hn, .inl rfl, hX, hGs, own_sh hG hnG, fun _ => rfl, fun _ => hD.od (Nat.le_refl _) (Nat.le_refl _) hne h0, fun _ => ?_, fun j hj => Nat.ne_of_lt (hlt j hj), hms⟩
    rcases own_apart hG ho (by decide) with e | e
    · cases e
    · intro e2; apply e; rw [e2]; rfl
  · exact ⟨x, _, nG, cG, gG, A, n, c, 0, gs, _, rfl, by omega, hn, .inl rfl, hX, hGs, own_sh hG hnG, fun h => absurd h h0, fun h => absurd h h0, fun h => absurd h h0, fun j hj => Nat.ne_of_lt (hlt j hj), hms⟩

/-- what a reading of a task gives -/
def RTaskQ (X : Nat) (s : List UInt8) (v : Value) (w' : World) : Prop :=
  ∃ (t : Sp.Task) (b : Bool) (tv : Value), v = .tuple #[tv, .bool b] ∧ TaskV w' tv t ∧ MT X w' tv ∧
    Hid ((b = true → Sp.taskOk t = true ∧ Sp.taskText t = s) ∧ (b = false → t = ⟨0, [], []⟩ ∧ tv = .agg #[.int .i64 0, .slice none 0 0, .slice none 0 0]) ∧ ∀ t', Sp.taskOk t' = true → Sp.taskText t' = s → b = true ∧ t = t')
theorem task_zero (w : World) : TaskV w (.agg #[.int .i64 0, .slice none 0 0, .slice none 0 0]) ⟨0, [], []⟩ :=
  ⟨none, 0, 0, none, 0, 0, rfl, ⟨rfl, by unfold maxLen; omega, (fun x hx => by cases hx), fun h => by omega⟩, ⟨rfl, by unfold maxLen; omega, fun h => by omega⟩, by show Sp.inI 0; unfold Sp.inI; omega⟩
theorem rtaskQ_no {X : Nat} {s : List UInt8} {w : World} (h : ∀ t, Sp.taskOk t = true → Sp.taskText t ≠ s) (hX : X < w.heap.size) : RTaskQ X s (.tuple #[.agg #[.int .i64 0, .slice none 0 0, .slice none 0 0], .bool false]) w :=
  ⟨⟨0, [], []⟩, false, _, rfl, task_zero w, MT.zero hX, (fun h => by cases h), (fun _ => ⟨rfl, rfl⟩), fun t ht hs => absurd hs (h t ht)⟩

end Go.Proofs.YtphdojebdclonaaGreatDoor

namespace Go.Proofs.YtphdojebdclonaaGreatDoor
set_option linter.unusedSimpArgs false
set_option linter.unusedVariables false
open Go.RowKit

theorem taskOk_len {t : Sp.Task} (h : Sp.taskOk t = true) : t.deeds.length ≤ 6 := by
  unfold Sp.taskOk at h
  simp only [Bool.and_eq_true, decide_eq_true_eq] at h
  exact h.1.2
theorem codeOk_bd {l : List Int} (h : Sp.codeOk l = true) : 1 ≤ l.length ∧ l.length ≤ 64 := by
  obtain ⟨p, _, _, h1, h2⟩ := (Sp.codeOk_iff l).1 h
  omega
theorem deeds_bd {t : Sp.Task} (h : Sp.taskOk t = true) : ∀ d ∈ t.deeds, 1 ≤ d.need.length ∧ d.need.length ≤ 64 := fun d hd => codeOk_bd (deedOk_need (deeds_ok h d hd))
theorem DRowL.mono {X Y n c : Nat} {w : World} {A : Option Addr} {ds : List Sp.Deed} {gs : Nat → Nat} (h : DRowL X w A n c ds gs) (hY : Y ≤ X) : DRowL Y w A n c ds gs := by
  obtain ⟨hl, ⟨xs, ho, hv⟩, h1, h2⟩ := h
  refine ⟨hl, ⟨xs, ownsRow_mono ho hY, fun k hk => ?_⟩, fun k hk => ⟨Nat.le_trans hY (h1 k hk).1, (h1 k hk).2⟩, h2⟩
  obtain ⟨v0, v1, v2, v3, g0, g1, g2, g3, A, m, c, e0, e1, e2, e3, hm, hr, rest⟩ := hv k hk
  exact ⟨v0, v1, v2, v3, g0, g1, g2, g3, A, m, c, e0, e1, e2, e3, hm, ownsRow_mono hr hY, rest⟩
/-- what has been read so far -/
def Sofar (s : List UInt8) (L : List (List UInt8)) (start : Int) (goal : List Int) (ds : List Sp.Deed) (k : Nat) : Prop :=
  ∀ t, Sp.taskOk t = true → Sp.taskText t = s → L = Sp.headText t :: t.deeds.map Sp.deedText ∧ start = t.start ∧ goal = t.goal ∧ ds = t.deeds.take k
theorem sofar_piece {L : List (List UInt8)} {t : Sp.Task} {k : Nat} (h : L = Sp.headText t :: t.deeds.map Sp.deedText) (hk : k + 1 < L.length) : L.getD (k + 1) [] = Sp.deedText (t.deeds.getD k default) ∧ k < t.deeds.length ∧ t.deeds.getD k default ∈ t.deeds := by
  subst h
  simp only [List.length_cons, List.length_map] at hk
  have h1 : k < t.deeds.length := by omega
  refine ⟨?_, h1, ?_⟩
  · simp [List.getD, List.getElem?_map, List.getElem?_eq_getElem h1]
  · rw [List.getD_eq_getElem?_getD, List.getElem?_eq_getElem h1]; exact List.getElem_mem _





















































































































































































































































































































































































































end Go.Proofs.YtphdojebdclonaaGreatDoor
