/- Joined texts. No condition. -/
import Derived.Test.YtphdojebdclonaaDoorQ22
/- The grammar of codes as texts. Plain. The grammar of codes reads in one way alone. Plain. The grammar of codes, said as what a reader does. Plain. No condition. -/
namespace Go.Proofs.YtphdojebdclonaaDoor
set_option linter.unusedSimpArgs false
set_option linter.unusedVariables false

/-- the sign, the step of an operator of level 1, 2 -/
def Sp.opS (m : Nat) : UInt8 := if m = 2 then 38 else 124
def Sp.opC (m : Nat) : Int := if m = 2 then 8 else 9
mutual
/-- at level m the text l begins with what has the code c, and r is left -/
inductive Sp.Gr : Nat → List UInt8 → List Int → List UInt8 → Prop
  | one {s : Int} {r : List UInt8} : 0 ≤ s → s ≤ 6 → Sp.Gr 3 (Sp.sgn s :: r) [s] r
  | neg {l r : List UInt8} {c : List Int} : Sp.Gr 3 l c r → Sp.Gr 3 (33 :: l) (c ++ [7]) r
  | brk {l r : List UInt8} {c : List Int} : Sp.Gr 1 l c (41 :: r) → Sp.Gr 3 (40 :: l) c r
  | up {m : Nat} {l r r' : List UInt8} {c c' : List Int} : m = 1 ∨ m = 2 → Sp.Gr (m + 1) l c r → Sp.GrC m c r c' r' → Sp.Gr m l c' r'
/-- behind the code c at level m: further operands -/
inductive Sp.GrC : Nat → List Int → List UInt8 → List Int → List UInt8 → Prop
  | stop {m : Nat} {c : List Int} {r : List UInt8} : r.head? ≠ some (Sp.opS m) → Sp.GrC m c r c r
  | more {m : Nat} {c c2 c' : List Int} {r0 r1 r' : List UInt8} : Sp.Gr (m + 1) r0 c2 r1 → Sp.GrC m (c ++ c2 ++ [Sp.opC m]) r1 c' r' → Sp.GrC m c (Sp.opS m :: r0) c' r'
end
/-- no operator of level m or more stands ahead -/
def Sp.still (m : Nat) (r : List UInt8) : Prop := ∀ k, m ≤ k → k ≤ 2 → r.head? ≠ some (Sp.opS k)
theorem still_up {m : Nat} {r : List UInt8} (h : Sp.still m r) : Sp.still (m + 1) r := fun k hk => h k (by omega)
theorem gr_lift {l r : List UInt8} {c : List Int} (h : Sp.Gr 3 l c r) : ∀ m, 1 ≤ m → m ≤ 3 → Sp.still m r → Sp.Gr m l c r := by
  intro m h1 h3 hs
  have h2 : Sp.still 2 r → Sp.Gr 2 l c r := fun hs => .up (.inr rfl) h (.stop (hs 2 (by omega) (by omega)))
  match m, h1, h3 with
  | 3, _, _ => exact h
  | 2, _, _ => exact h2 hs
  | 1, _, _ => exact .up (.inl rfl) (h2 (still_up hs)) (.stop (hs 1 (by omega) (by omega)))
theorem gr_lift2 {l r : List UInt8} {c : List Int} (h : Sp.Gr 2 l c r) (hs : Sp.still 1 r) : Sp.Gr 1 l c r := .up (.inl rfl) h (.stop (hs 1 (by omega) (by omega)))

theorem still_three (r : List UInt8) : Sp.still 3 r := fun k h1 h2 => by omega
theorem still_cons {m : Nat} {x : UInt8} {r : List UInt8} (h : ∀ k, m ≤ k → k ≤ 2 → x ≠ Sp.opS k) : Sp.still m (x :: r) := fun k h1 h2 e => h k h1 h2 (by simpa using e)
/-- a canonical text is read -/
def Sp.Reads (d : Sp.Cond) : Prop :=
  (∀ m r, 1 ≤ m → m ≤ 3 → Sp.still m r → Sp.Gr m (d.text m ++ r) d.steps r) ∧
  ∀ k r, k = 1 ∨ k = 2 → Sp.still (k + 1) r → ∃ c0 r0, Sp.Gr (k + 1) (d.text k ++ r) c0 r0 ∧ ∀ c' r', Sp.GrC k d.steps r c' r' → Sp.GrC k c0 r0 c' r'
theorem reads_three {d : Sp.Cond} (h : ∀ m r, m ≤ 3 → Sp.Gr 3 (d.text m ++ r) d.steps r) : Sp.Reads d :=
  ⟨fun m r h1 h3 hs => gr_lift (h m r h3) m h1 h3 hs, fun k r hk hs => ⟨_, _, gr_lift (h k r (by omega)) (k + 1) (by omega) (by omega) hs, fun _ _ h => h⟩⟩
theorem reads_two (k0 : Nat) (hk0 : k0 = 1 ∨ k0 = 2) (d l h : Sp.Cond) (hst : d.steps = l.steps ++ h.steps ++ [Sp.opC k0]) (htx : ∀ m, d.text m = Sp.brk (decide (k0 < m)) (l.text k0 ++ Sp.opS k0 :: h.text (k0 + 1)))
    (ihl : Sp.Reads l) (ihh : Sp.Reads h) : Sp.Reads d := by
  have hop : ∀ r, Sp.still (k0 + 1) (Sp.opS k0 :: r) := fun r => still_cons fun k h1 h2 => by
    rcases hk0 with rfl | rfl
    · obtain rfl : k = 2 := by omega
      decide
    · omega
  have B : ∀ r, Sp.still (k0 + 1) r → ∃ c0 r0, Sp.Gr (k0 + 1) (l.text k0 ++ Sp.opS k0 :: h.text (k0 + 1) ++ r) c0 r0 ∧ ∀ c' r', Sp.GrC k0 d.steps r c' r' → Sp.GrC k0 c0 r0 c' r' := fun r hs => by
    obtain ⟨c0, r0, h1, h2⟩ := ihl.2 k0 (Sp.opS k0 :: (h.text (k0 + 1) ++ r)) hk0 (hop _)
    refine ⟨c0, r0, by simpa using h1, fun c' r' hc => h2 _ _ (.more (ihh.1 (k0 + 1) r (by omega) (by omega) hs) ?_)⟩
    rw [← hst]; exact hc
  have I : ∀ r, Sp.still k0 r → Sp.Gr k0 (l.text k0 ++ Sp.opS k0 :: h.text (k0 + 1) ++ r) d.steps r := fun r hs => by
    obtain ⟨c0, r0, h1, h2⟩ := B r (still_up hs)
    exact .up hk0 h1 (h2 _ _ (.stop (hs k0 (Nat.le_refl _) (by omega))))
  have I1 : ∀ r, Sp.still 1 r → Sp.Gr 1 (l.text k0 ++ Sp.opS k0 :: h.text (k0 + 1) ++ r) d.steps r := fun r hs => by
    rcases hk0 with rfl | rfl
    · exact I r hs
    · exact gr_lift2 (I r (still_up hs)) hs
  have K : ∀ m r, k0 < m → Sp.Gr 3 (d.text m ++ r) d.steps r := fun m r hm => by
    rw [htx, decide_eq_true hm]
    have h1 := I1 (41 :: r) (still_cons fun k h1 h2 => by
      have : k = 1 ∨ k = 2 := by omega
      rcases this with rfl | rfl <;> decide)
    have := Sp.Gr.brk h1
    simpa [Sp.brk] using this
  constructor
  · intro m r h1 h3 hs
    by_cases hm : k0 < m
    · exact gr_lift (K m r hm) m h1 h3 hs
    · rw [htx, decide_eq_false hm]
      show Sp.Gr m (l.text k0 ++ Sp.opS k0 :: h.text (k0 + 1) ++ r) _ _
      by_cases e : m = k0
      · subst e; exact I r hs
      · obtain rfl : m = 1 := by omega
        exact I1 r hs
  · intro k r hk hs
    by_cases hm : k0 < k
    · exact ⟨_, _, gr_lift (K k r hm) (k + 1) (by omega) (by omega) hs, fun _ _ h => h⟩
    · rw [htx, decide_eq_false hm]
      show ∃ c0 r0, Sp.Gr (k + 1) (l.text k0 ++ Sp.opS k0 :: h.text (k0 + 1) ++ r) c0 r0 ∧ _
      by_cases e : k = k0
      · subst e; exact B r hs
      · obtain rfl : k = 1 := by omega
        obtain rfl : k0 = 2 := by omega
        exact ⟨_, _, I r hs, fun _ _ h => h⟩
theorem reads (d : Sp.Cond) (hd : d.ok) : Sp.Reads d := by
  induction d with
  | one s => exact reads_three fun m r hm => by rw [text_one s m hm]; exact .one hd.1 hd.2
  | neg d ih => exact reads_three fun m r hm => by rw [text_neg d m hm]; exact .neg ((ih hd).1 3 r (by omega) (by omega) (still_three r))
  | two s l h ihl ihh =>
    obtain ⟨hs, h1, h2⟩ := hd
    rcases hs with rfl | rfl
    · exact reads_two 2 (.inr rfl) _ l h rfl (fun m => by rw [text_two, if_pos rfl]; rfl) (ihl h1) (ihh h2)
    · exact reads_two 1 (.inl rfl) _ l h rfl (fun m => by rw [text_two, if_neg (by decide)]; rfl) (ihl h1) (ihh h2)

end Go.Proofs.YtphdojebdclonaaDoor

namespace Go.Proofs.YtphdojebdclonaaDoor
set_option linter.unusedSimpArgs false
set_option linter.unusedVariables false

theorem sgn_sep : ∀ s : Fin 7, Sp.sgn ((s.val : Nat) : Int) ≠ 33 ∧ Sp.sgn ((s.val : Nat) : Int) ≠ 40 := by decide +kernel
theorem sgn_inj : ∀ s u : Fin 7, Sp.sgn ((s.val : Nat) : Int) = Sp.sgn ((u.val : Nat) : Int) → s = u := by decide +kernel
theorem sgn_sep' {s : Int} (h0 : 0 ≤ s) (h6 : s ≤ 6) : Sp.sgn s ≠ 33 ∧ Sp.sgn s ≠ 40 := by
  obtain ⟨k, rfl⟩ := Int.eq_ofNat_of_zero_le h0
  exact sgn_sep ⟨k, by omega⟩
theorem sgn_inj' {s u : Int} (h0 : 0 ≤ s) (h6 : s ≤ 6) (g0 : 0 ≤ u) (g6 : u ≤ 6) (h : Sp.sgn s = Sp.sgn u) : s = u := by
  obtain ⟨k, rfl⟩ := Int.eq_ofNat_of_zero_le h0
  obtain ⟨j, rfl⟩ := Int.eq_ofNat_of_zero_le g0
  have := sgn_inj ⟨k, by omega⟩ ⟨j, by omega⟩ h
  simp only [Fin.mk.injEq] at this
  rw [this]
theorem gr_det {m : Nat} {l r : List UInt8} {c : List Int} (h : Sp.Gr m l c r) : ∀ c' r', Sp.Gr m l c' r' → c = c' ∧ r = r' := by
  refine Sp.Gr.rec (motive_1 := fun m l c r _ => ∀ c' r', Sp.Gr m l c' r' → c = c' ∧ r = r') (motive_2 := fun m c r c1 r1 _ => ∀ c' r', Sp.GrC m c r c' r' → c1 = c' ∧ r1 = r') ?_ ?_ ?_ ?_ ?_ ?_ h
  · intro s r h0 h6 c' r' hg
    generalize hl : Sp.sgn s :: r = l at hg
    cases hg with
    | one g0 g6 =>
      injection hl with e1 e2
      exact ⟨by rw [sgn_inj' h0 h6 g0 g6 e1], e2⟩
    | neg _ => injection hl with e1 e2; exact absurd e1 (sgn_sep' h0 h6).1
    | brk _ => injection hl with e1 e2; exact absurd e1 (sgn_sep' h0 h6).2
    | up hm _ _ => omega
  · intro l r c _ ih c' r' hg
    generalize hl : (33 : UInt8) :: l = l' at hg
    cases hg with
    | one g0 g6 => injection hl with e1 e2; exact absurd e1.symm (sgn_sep' g0 g6).1
    | neg hg => injection hl with _ e2; subst e2; obtain ⟨e1, e2⟩ := ih _ _ hg; exact ⟨by rw [e1], e2⟩
    | brk _ => injection hl with e1 e2; exact absurd e1 (by decide)
    | up hm _ _ => omega
  · intro l r c _ ih c' r' hg
    generalize hl : (40 : UInt8) :: l = l' at hg
    cases hg with
    | one g0 g6 => injection hl with e1 e2; exact absurd e1.symm (sgn_sep' g0 g6).2
    | neg _ => injection hl with e1 e2; exact absurd e1 (by decide)
    | brk hg =>
      injection hl with _ e2
      subst e2
      obtain ⟨e1, e2⟩ := ih _ _ hg
      injection e2 with _ e2
      exact ⟨e1, e2⟩
    | up hm _ _ => omega
  · intro m l r r1 c c1 hm _ _ ih1 ih2 c' r' hg
    cases hg with
    | one => omega
    | neg => omega
    | brk => omega
    | up _ hg hc =>
      obtain ⟨e1, e2⟩ := ih1 _ _ hg
      subst e1 e2
      exact ih2 _ _ hc
  · intro m c r hs c' r' hg
    cases hg with
    | stop _ => exact ⟨rfl, rfl⟩
    | more _ _ => simp at hs
  · intro m c c2 c1 r0 r1 r2 _ _ ih1 ih2 c' r' hg
    generalize hl : Sp.opS m :: r0 = l' at hg
    cases hg with
    | stop hs => subst hl; simp at hs
    | more hg hc =>
      injection hl with _ e2
      subst e2
      obtain ⟨e1, e2⟩ := ih1 _ _ hg
      subst e1 e2
      exact ih2 _ _ hc

end Go.Proofs.YtphdojebdclonaaDoor

namespace Go.Proofs.YtphdojebdclonaaDoor
set_option linter.unusedSimpArgs false
set_option linter.unusedVariables false

/-- at level m the text x reads, if b, as l, and leaves y -/
def Sp.Rds (m : Nat) (x : List UInt8) (b : Bool) (l : List Int) (y : List UInt8) : Prop := ∀ c r, Sp.Gr m x c r ↔ b = true ∧ c = l ∧ r = y
/-- so far: at level m the text x reads as what goes on from l and y -/
def Sp.Sofar (m : Nat) (x : List UInt8) (b : Bool) (l : List Int) (y : List UInt8) : Prop := ∀ c r, Sp.Gr m x c r ↔ b = true ∧ Sp.GrC m l y c r
theorem rds_up {m : Nat} {x y : List UInt8} {b : Bool} {l : List Int} (hm : m = 1 ∨ m = 2) (h : Sp.Rds (m + 1) x b l y) : Sp.Sofar m x b l y := by
  intro c r
  constructor
  · intro hg
    cases hg with
    | one => omega
    | neg => omega
    | brk => omega
    | up _ h1 h2 =>
      obtain ⟨hb, rfl, rfl⟩ := (h _ _).1 h1
      exact ⟨hb, h2⟩
  · rintro ⟨hb, hc⟩
    exact .up hm ((h l y).2 ⟨hb, rfl, rfl⟩) hc
theorem sofar_stop {m : Nat} {x y : List UInt8} {b : Bool} {l : List Int} (h : Sp.Sofar m x b l y) (hy : b = true → y.head? ≠ some (Sp.opS m)) : Sp.Rds m x b l y := by
  intro c r
  rw [h c r]
  constructor
  · rintro ⟨hb, hc⟩
    generalize hz : y = z at hc
    cases hc with
    | stop _ => exact ⟨hb, rfl, by first | exact hz.symm | rfl⟩
    | more _ _ => subst hz; exact absurd rfl (hy hb)
  · rintro ⟨hb, rfl, rfl⟩
    exact ⟨hb, .stop (hy hb)⟩
theorem sofar_more {m : Nat} {x y z : List UInt8} {b : Bool} {l l2 : List Int} (h : Sp.Sofar m x true l (Sp.opS m :: y)) (h2 : Sp.Rds (m + 1) y b l2 z) : Sp.Sofar m x b (l ++ l2 ++ [Sp.opC m]) z := by
  intro c r
  rw [h c r]
  constructor
  · rintro ⟨_, hc⟩
    generalize hz : Sp.opS m :: y = z' at hc
    cases hc with
    | stop hs => subst hz; simp at hs
    | more hg hc =>
      injection hz with _ e
      subst e
      obtain ⟨hb, rfl, rfl⟩ := (h2 _ _).1 hg
      exact ⟨hb, hc⟩
  · rintro ⟨hb, hc⟩
    exact ⟨rfl, .more ((h2 _ _).2 ⟨hb, rfl, rfl⟩) hc⟩
theorem rds_nil (y : List UInt8) : Sp.Rds 3 [] false [] y := by
  intro c r
  constructor
  · intro hg
    cases hg with
    | up hm _ _ => omega
  · rintro ⟨hb, _⟩; cases hb
theorem rds_neg {x y : List UInt8} {b : Bool} {l : List Int} (h : Sp.Rds 3 x b l y) : Sp.Rds 3 (33 :: x) b (l ++ [7]) y := by
  intro c r
  constructor
  · intro hg
    generalize hl : (33 : UInt8) :: x = l' at hg
    cases hg with
    | one g0 g6 => injection hl with e1 e2; exact absurd e1.symm (sgn_sep' g0 g6).1
    | neg hg =>
      injection hl with _ e2
      subst e2
      obtain ⟨hb, rfl, rfl⟩ := (h _ _).1 hg
      exact ⟨hb, rfl, rfl⟩
    | brk _ => injection hl with e1 e2; exact absurd e1 (by decide)
    | up hm _ _ => omega
  · rintro ⟨hb, rfl, rfl⟩
    exact .neg ((h _ _).2 ⟨hb, rfl, rfl⟩)
theorem rds_brk {x y : List UInt8} {b : Bool} {l : List Int} (h : Sp.Rds 1 x b l y) (c : List Int) (r : List UInt8) : Sp.Gr 3 (40 :: x) c r ↔ b = true ∧ c = l ∧ y = 41 :: r := by
  constructor
  · intro hg
    generalize hl : (40 : UInt8) :: x = l' at hg
    cases hg with
    | one g0 g6 => injection hl with e1 e2; exact absurd e1.symm (sgn_sep' g0 g6).2
    | neg _ => injection hl with e1 e2; exact absurd e1 (by decide)
    | brk hg =>
      injection hl with _ e2
      subst e2
      obtain ⟨hb, rfl, e⟩ := (h _ _).1 hg
      exact ⟨hb, rfl, e.symm⟩
    | up hm _ _ => omega
  · rintro ⟨hb, rfl, rfl⟩
    exact .brk ((h _ _).2 ⟨hb, rfl, rfl⟩)
theorem rds_brk_no {x y z : List UInt8} {b : Bool} {l l2 : List Int} (h : Sp.Rds 1 x b l y) (hy : b = true → y.head? ≠ some 41) : Sp.Rds 3 (40 :: x) false l2 z := by
  intro c r
  rw [rds_brk h]
  constructor
  · rintro ⟨hb, _, rfl⟩; exact absurd rfl (hy hb)
  · rintro ⟨hb, _⟩; cases hb
theorem rds_brk_yes {x z : List UInt8} {l : List Int} (h : Sp.Rds 1 x true l (41 :: z)) : Sp.Rds 3 (40 :: x) true l z := by
  intro c r
  rw [rds_brk h]
  constructor
  · rintro ⟨_, rfl, e⟩; injection e with _ e; exact ⟨rfl, rfl, e.symm⟩
  · rintro ⟨_, rfl, rfl⟩; exact ⟨rfl, rfl, rfl⟩
theorem rds_one {s : Int} {r0 : List UInt8} (h0 : 0 ≤ s) (h6 : s ≤ 6) : Sp.Rds 3 (Sp.sgn s :: r0) true [s] r0 := by
  intro c r
  constructor
  · intro hg
    obtain ⟨rfl, rfl⟩ := gr_det (Sp.Gr.one (r := r0) h0 h6) _ _ hg
    exact ⟨rfl, rfl, rfl⟩
  · rintro ⟨_, rfl, rfl⟩
    exact .one h0 h6
/-- a sign with which nothing begins -/
def Sp.dull (x : UInt8) : Prop := x ≠ 33 ∧ x ≠ 40 ∧ ∀ s : Int, 0 ≤ s → s ≤ 6 → x ≠ Sp.sgn s
theorem rds_dull {x : UInt8} {r0 z : List UInt8} {l : List Int} (hx : Sp.dull x) : Sp.Rds 3 (x :: r0) false l z := by
  obtain ⟨h1, h2, h3⟩ := hx
  intro c r
  constructor
  · intro hg
    generalize hl : x :: r0 = l' at hg
    cases hg with
    | one g0 g6 => injection hl with e1 e2; exact absurd e1 (h3 _ g0 g6)
    | neg _ => injection hl with e1 e2; exact absurd e1 h1
    | brk _ => injection hl with e1 e2; exact absurd e1 h2
    | up hm _ _ => omega
  · rintro ⟨hb, _⟩; cases hb
theorem dull_of {x : UInt8} (h1 : x ≠ 33) (h2 : x ≠ 40) (h3 : x ≠ 49) (h4 : x ≠ 48) (h5 : ∀ k : Nat, k < 5 → x ≠ UInt8.ofNat (97 + k)) : Sp.dull x := by
  refine ⟨h1, h2, fun s g0 g6 => ?_⟩
  obtain ⟨k, rfl⟩ := Int.eq_ofNat_of_zero_le g0
  unfold Sp.sgn
  by_cases e5 : (k : Int) = 5
  · rw [if_pos e5]; exact h3
  · by_cases e6 : (k : Int) = 6
    · rw [if_neg e5, if_pos e6]; exact h4
    · rw [if_neg e5, if_neg e6, Int.toNat_natCast]; exact h5 k (by omega)
theorem rds_false {m : Nat} {x z z' : List UInt8} {l l' : List Int} (h : Sp.Rds m x false l z) : Sp.Rds m x false l' z' := by
  intro c r
  rw [h c r]
  constructor <;> rintro ⟨hb, _⟩ <;> cases hb
/-- every step of a code that was read -/
theorem gr_els {m : Nat} {l r : List UInt8} {c : List Int} (h : Sp.Gr m l c r) : ∀ x ∈ c, 0 ≤ x ∧ x ≤ 9 := by
  refine Sp.Gr.rec (motive_1 := fun _ _ c _ _ => ∀ x ∈ c, 0 ≤ x ∧ x ≤ 9) (motive_2 := fun m c _ c1 _ _ => (∀ x ∈ c, 0 ≤ x ∧ x ≤ 9) → ∀ x ∈ c1, 0 ≤ x ∧ x ≤ 9) ?_ ?_ ?_ ?_ ?_ ?_ h
  · intro s r h0 h6 x hx
    rw [List.mem_singleton] at hx
    omega
  · intro l r c _ ih x hx
    rw [List.mem_append, List.mem_singleton] at hx
    rcases hx with hx | rfl
    · exact ih x hx
    · omega
  · intro l r c _ ih; exact ih
  · intro m l r r1 c c1 hm _ _ ih1 ih2; exact ih2 ih1
  · intro m c r _ h; exact h
  · intro m c c2 c1 r0 r1 r2 _ _ ih1 ih2 h
    refine ih2 fun x hx => ?_
    simp only [List.mem_append, List.mem_singleton] at hx
    rcases hx with (hx | hx) | hx
    · exact h x hx
    · exact ih1 x hx
    · subst hx; unfold Sp.opC; split <;> omega
/-- the text of a valid code is read -/
theorem codeText_rds {d : List Int} (hd : Sp.codeOk d = true) : Sp.Gr 1 (Sp.codeText d) d [] := by
  obtain ⟨_, hok, hst, _⟩ := tree_code hd
  have h := (reads (Sp.treeOf d) hok).1 1 [] (by omega) (by omega) (fun k _ _ => by simp)
  rw [List.append_nil, hst] at h
  have e : Sp.codeText d = (Sp.treeOf d).text 1 := by
    unfold Sp.codeText
    rw [if_pos hd]
    unfold Sp.Cond.text
    have hm : 1 ≤ (Sp.treeOf d).mine := by
      cases Sp.treeOf d with
      | one s => show 1 ≤ 3; omega
      | neg c => show 1 ≤ 3; omega
      | two s l h => show 1 ≤ (if s = 8 then 2 else 1); split <;> omega
    rw [decide_eq_false (by omega), decide_eq_false (by omega)]
  rw [e]; exact h

end Go.Proofs.YtphdojebdclonaaDoor
