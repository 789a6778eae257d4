/- Walks: the exact laws' own helpers: copies of deeds and tasks. No condition. -/
import Derived.Test.YthkcdjnnacdeoaaHar2
import Derived.Test.YthkcdjnnacdeoaaMem2
namespace Go.Proofs.Ythkcdjnnacdeoaa
open Go.RowKit

def NewDeed (w : World) (d : Sp.Deed) (v : Value) (w' : World) : Prop :=
  ∃ g, v = .agg #[.slice (some ⟨g, 0, none⟩) d.need.length d.need.length, .int .i64 d.on, .int .i64 d.off, .int .i64 d.flip] ∧ w.heap.size ≤ g ∧ Own w' g d.need.length d.need

theorem c_toDeed (v : Value) (d : Sp.Deed) (w : World) (h : DeedV w v d) (hn : d.need.length ≤ 1048576) :
    Calls Try.prog 126 #[v] w (RetS (NewDeed w d) w) := by
  obtain ⟨A, n, c, rfl, hI, h1, h2, h3⟩ := h
  have HL := Lib.hid hI.len
  rw [hI.len] at hn
  have hk := (((Kept.refl w).alloc (.cells #[.slice A n c, .int .i64 d.on, .int .i64 d.off, .int .i64 d.flip] 99)).alloc (.cells #[.slice none 0 0, .int .i64 0, .int .i64 0, .int .i64 0] 39)).alloc (.cells #[.slice none 0 0, .int .i64 0, .int .i64 0, .int .i64 0] 39)
  go_enter Try.func126, Try.ntmps126
  go_wp2_with fail
  refine (c_toIntS _ _ _ _ _ (hI.keep hk) hn).mono ?_; rintro e w2 ⟨v, rfl, ⟨g, rfl, hg, hN⟩, hk2⟩
  have B0 := (((Blk.new w 99 #[.slice A n c, .int .i64 d.on, .int .i64 d.off, .int .i64 d.flip]).alloc (.cells #[.slice none 0 0, .int .i64 0, .int .i64 0, .int .i64 0] 39)).alloc (.cells #[.slice none 0 0, .int .i64 0, .int .i64 0, .int .i64 0] 39)).kept hk2
  have B1 := ((Blk.new (w.alloc (.cells #[.slice A n c, .int .i64 d.on, .int .i64 d.off, .int .i64 d.flip] 99)) 39 #[.slice none 0 0, .int .i64 0, .int .i64 0, .int .i64 0]).alloc (.cells #[.slice none 0 0, .int .i64 0, .int .i64 0, .int .i64 0] 39)).kept hk2
  have B2 := (Blk.new ((w.alloc (.cells #[.slice A n c, .int .i64 d.on, .int .i64 d.off, .int .i64 d.flip] 99)).alloc (.cells #[.slice none 0 0, .int .i64 0, .int .i64 0, .int .i64 0] 39)) 39 #[.slice none 0 0, .int .i64 0, .int .i64 0, .int .i64 0]).kept hk2
  simp only [World.size_alloc] at B1 B2 hg
  have hk' := hk.trans hk2
  clear hk hk2
  have c0 := B0.cell
  have c1 := B1.cell
  have f1 := B1.frozen
  have c2 := B2.cell
  have f2 := B2.frozen
  go_wp2_with fail
  have hp1 : w.heap.size ≤ w.heap.size + 1 := by omega
  have hp2 : w.heap.size ≤ w.heap.size + 1 + 1 := by omega
  refine bodyPost_ret (v := .agg #[.slice (some ⟨g, 0, none⟩) d.need.length d.need.length, .int .i64 d.on, .int .i64 d.off, .int .i64 d.flip]) (by simp [results, Try.results126, go_sem, c1]) rfl ⟨_, rfl, ⟨_, rfl, by omega, ?_⟩, ?_⟩
  · have o1 : Off (w.heap.size + 1) (some ⟨g, 0, none⟩) := by rintro a ⟨⟩; show g ≠ _; omega
    have o2 : Off (w.heap.size + 1 + 1) (some ⟨g, 0, none⟩) := by rintro a ⟨⟩; show g ≠ _; omega
    exact (((((((hN.setCell o2 _).setCell o2 _).setCell o2 _).setCell o2 _).setCell o1 _).setCell o1 _).setCell o1 _).setCell o1 _
  · exact (((((((hk'.setCell hp2 _).setCell hp2 _).setCell hp2 _).setCell hp2 _).setCell hp1 _).setCell hp1 _).setCell hp1 _).setCell hp1 _
/-- element j of a row of deeds that the call itself makes at block g0 -/
def RowAt (w : World) (g0 : Nat) (arr : Array Value) (j : Nat) (d : Sp.Deed) : Prop :=
  ∃ g, g0 < g ∧ arr[j * 4]? = some (.slice (some ⟨g, 0, none⟩) d.need.length d.need.length) ∧ Own w g d.need.length d.need ∧
    arr[j * 4 + 1]? = some (.int .i64 d.on) ∧ arr[j * 4 + 2]? = some (.int .i64 d.off) ∧ arr[j * 4 + 3]? = some (.int .i64 d.flip) ∧ Sp.inI d.on ∧ Sp.inI d.off ∧ Sp.inI d.flip

/-- a row of deeds of its own, with rows of its own, from block B on -/
def ODeeds (B : Nat) (w : World) (g : Nat) (l : List Sp.Deed) : Prop :=
  B ≤ g ∧ g < w.heap.size ∧ (∀ i, w.frozen? ⟨g, i, none⟩ = false) ∧ l.length ≤ maxLen ∧
    ∀ k, k < l.length → ∃ g2, B ≤ g2 ∧ w.cell? ⟨g, k * 4, none⟩ = some (.slice (some ⟨g2, 0, none⟩) (l.getD k default).need.length (l.getD k default).need.length) ∧ Own w g2 (l.getD k default).need.length (l.getD k default).need ∧
      w.cell? ⟨g, k * 4 + 1, none⟩ = some (.int .i64 (l.getD k default).on) ∧ w.cell? ⟨g, k * 4 + 2, none⟩ = some (.int .i64 (l.getD k default).off) ∧ w.cell? ⟨g, k * 4 + 3, none⟩ = some (.int .i64 (l.getD k default).flip) ∧
      Sp.inI (l.getD k default).on ∧ Sp.inI (l.getD k default).off ∧ Sp.inI (l.getD k default).flip
theorem ODeeds.deeds {B : Nat} {w : World} {g : Nat} {l : List Sp.Deed} (h : ODeeds B w g l) : Deeds w (some ⟨g, 0, none⟩) l.length l :=
  ⟨rfl, h.2.2.2.1, fun _ => ⟨g, 0, rfl, h.2.1, fun k hk => by
    obtain ⟨g2, _, h0, hN, h1, h2, h3, h4⟩ := h.2.2.2.2 k hk
    rw [Nat.zero_add]
    exact ⟨_, _, _, h0, hN.ints, h1, h2, h3, h4⟩⟩⟩

theorem ODeeds.more {B B' : Nat} {w : World} {g : Nat} {l : List Sp.Deed} (h : ODeeds B w g l) (hB : B' ≤ B) : ODeeds B' w g l := by
  obtain ⟨h1, h2, h3, h4, h5⟩ := h
  refine ⟨by omega, h2, h3, h4, fun k hk => ?_⟩
  obtain ⟨g2, h6, h7⟩ := h5 k hk
  exact ⟨g2, by omega, h7⟩

def NewDeeds (w : World) (l : List Sp.Deed) (v : Value) (w' : World) : Prop :=
  ∃ g, v = .slice (some ⟨g, 0, none⟩) l.length l.length ∧ w.heap.size ≤ g ∧ Within w.heap.size w'.heap.size w' (fun w' => ODeeds w.heap.size w' g l)

theorem set4 {arr : Array Value} {o : Nat} {v0 v1 v2 v3 : Value} (h : o + 3 < arr.size) :
    let a := (((arr.setIfInBounds o v0).setIfInBounds (o + 1) v1).setIfInBounds (o + 2) v2).setIfInBounds (o + 3) v3
    a.size = arr.size ∧ a[o]? = some v0 ∧ a[o + 1]? = some v1 ∧ a[o + 2]? = some v2 ∧ a[o + 3]? = some v3 ∧ ∀ i, (i < o ∨ o + 3 < i) → a[i]? = arr[i]? := by
  intro a
  refine ⟨by simp [a], ?_, ?_, ?_, ?_, ?_⟩
  · simp [a, Array.getElem?_setIfInBounds]; omega
  · simp [a, Array.getElem?_setIfInBounds]; omega
  · simp [a, Array.getElem?_setIfInBounds]; omega
  · simp [a, Array.getElem?_setIfInBounds]; omega
  · intro i hi
    simp only [a, Array.getElem?_setIfInBounds]
    rw [if_neg (by omega), if_neg (by omega), if_neg (by omega), if_neg (by omega)]

theorem RowAt.keep {w w' : World} {g0 : Nat} {arr arr' : Array Value} {j : Nat} {d : Sp.Deed} (h : RowAt w g0 arr j d)
    (hI : ∀ g n l, g0 < g → Own w g n l → Own w' g n l) (ha : ∀ i, i < 4 → arr'[j * 4 + i]? = arr[j * 4 + i]?) : RowAt w' g0 arr' j d := by
  obtain ⟨g, hg, h0, hN, h1, h2, h3, h4⟩ := h
  exact ⟨g, hg, by have := ha 0 (by omega); rw [Nat.add_zero] at this; rw [this]; exact h0, hI _ _ _ hg hN, by rw [ha 1 (by omega)]; exact h1, by rw [ha 2 (by omega)]; exact h2, by rw [ha 3 (by omega)]; exact h3, h4⟩

theorem ODeeds.of_rows {w : World} {g B : Nat} {T : TypeId} {arr : Array Value} {l : List Sp.Deed} (hB : Blk w g T arr) (hg : B ≤ g) (hm : l.length ≤ maxLen) (h : ∀ j, j < l.length → RowAt w g arr j (l.getD j default)) :
    ODeeds B w g l :=
  ⟨hg, hB.lt, hB.frozen, hm, fun k hk => by
    obtain ⟨g', hg', h0, hN, h1, h2, h3, h4⟩ := h k hk
    exact ⟨g', by omega, by rw [hB.cell]; exact h0, hN, by rw [hB.cell]; exact h1, by rw [hB.cell]; exact h2, by rw [hB.cell]; exact h3, h4⟩⟩

theorem c_toDeedS (A : Option Addr) (n c : Nat) (l : List Sp.Deed) (w : World) (h : Deeds w A n l) (hn : n ≤ 1048576) (hm : ∀ d ∈ l, d.need.length ≤ 1048576) :
    Calls Try.prog 110 #[.slice A n c] w (RetS (NewDeeds w l) w) := by
  have HL := Lib.hid h.len
  have hmk := make_deeds n (by omega)
  go_enter Try.func110, Try.ntmps110
  go_wp2_with fail
  clear hmk
  go_loopw [4] (fun i wr => ∃ (k : Nat) (arr : Array Value), k ≤ n ∧ i = .int .i64 k ∧ Kept w wr ∧ Blk wr w.heap.size 39 arr ∧ Hid (arr.size = n * 4) ∧ Hid (∀ j, j < k → RowAt wr w.heap.size arr j (l.getD j default))) (fun i _ => n - (intOf i).toNat)
  case atStart => exact ⟨0, _, Nat.zero_le _, rfl, (Kept.refl w).alloc _, Blk.new _ _ _, size_madeCells _ _, by show ∀ j, j < 0 → _; omega⟩
  case round =>
    obtain ⟨k, arr, hk, rfl, hkp, hB, HS, HA⟩ := hrel
    by_cases hlt : k < n
    · have hkl : k < l.length := by rw [HL.out]; exact hlt
      obtain ⟨b, off, rfl, hb, hc⟩ := (h.keep hkp).at hlt
      have hml : (l.getD k default).need.length ≤ 1048576 := by
        refine hm _ ?_
        simp only [List.getD_eq_getElem?_getD, List.getElem?_eq_getElem hkl, Option.getD_some]
        exact List.getElem_mem _
      obtain ⟨d, HD⟩ : ∃ d, Hid (l.getD k default = d) := ⟨_, rfl⟩
      rw [HD.out] at hc hml
      obtain ⟨A2, n2, c2, hc0, hc1, hc2, hc3, hdv⟩ := hc.v
      go_wp2_with fail
      refine (c_toDeed _ d _ hdv hml).mono ?_; rintro e w2 ⟨v, rfl, ⟨g, rfl, hg, hN⟩, hk2⟩
      have B2 := hB.kept hk2
      have c0 := B2.cell
      have f0 := B2.frozen
      have hold : ∀ i, i < 4 → ∃ u, arr[k * 4 + i]? = some u := fun i hi => ⟨_, Array.getElem?_eq_getElem (by rw [HS.out]; omega)⟩
      obtain ⟨u0, hu0⟩ := hold 0 (by omega)
      obtain ⟨u1, hu1⟩ := hold 1 (by omega)
      obtain ⟨u2, hu2⟩ := hold 2 (by omega)
      obtain ⟨u3, hu3⟩ := hold 3 (by omega)
      rw [Nat.add_zero] at hu0
      go_wp2_with fail
      have hlt0 : w.heap.size < wr.heap.size := hB.lt
      obtain ⟨s1, s2, s3, s4, s5, s6⟩ := @set4 arr (k * 4) (.slice (some ⟨g, 0, none⟩) d.need.length d.need.length) (.int .i64 d.on) (.int .i64 d.off) (.int .i64 d.flip) (by rw [HS.out]; omega)
      have hoff : ∀ g', w.heap.size < g' → Off w.heap.size (some ⟨g', 0, none⟩) := by rintro g' hg' a ⟨⟩; show g' ≠ _; omega
      have hset : ∀ g' n l, w.heap.size < g' → Own w2 g' n l → Own ((((w2.setCell ⟨w.heap.size, k * 4, none⟩ (.slice (some ⟨g, 0, none⟩) d.need.length d.need.length)).setCell ⟨w.heap.size, k * 4 + 1, none⟩ (.int .i64 d.on)).setCell ⟨w.heap.size, k * 4 + 2, none⟩ (.int .i64 d.off)).setCell ⟨w.heap.size, k * 4 + 3, none⟩ (.int .i64 d.flip)) g' n l :=
        fun g' n l hg' hN' => (((hN'.setCell (hoff g' hg') _).setCell (hoff g' hg') _).setCell (hoff g' hg') _).setCell (hoff g' hg') _
      have hle := Nat.le_refl w.heap.size
      obtain ⟨_, _, _, _, _, i1, i2, i3⟩ := hdv
      refine ⟨⟨k + 1, _, by omega, by go_num, ((((hkp.trans hk2).setCell hle _).setCell hle _).setCell hle _).setCell hle _, (((B2.set_ (k * 4) _).set_ (k * 4 + 1) _).set_ (k * 4 + 2) _).set_ (k * 4 + 3) _, by show _ = n * 4; rw [s1]; exact HS.out, ?_⟩, by simp [intOf]; omega⟩
      intro j hj
      by_cases e : j = k
      · subst e
        rw [HD.out]
        exact ⟨g, by omega, s2, hset g _ _ (by omega) hN, s3, s4, s5, i1, i2, i3⟩
      · exact (HA.out j (by omega)).keep (fun g' n l hg' hN' => hset g' n l hg' (hN'.keep hk2)) (fun i hi => s6 _ (by omega))
    · obtain rfl : k = n := by omega
      go_wp2_with fail
      go_ret
      have hl := HL.out
      subst hl
      refine ⟨_, rfl, ⟨_, rfl, Nat.le_refl _, fun w2 h2 e2 => ?_⟩, hkp⟩
      have hlt := hB.lt
      exact ODeeds.of_rows (hB.same (e2 _ (Nat.le_refl _) hlt)) (Nat.le_refl _) h.2.1 (fun j hj => (HA.out j hj).keep (fun g n l hg hN => hN.same (fun hg' => ⟨e2 g (by omega) hg', by omega⟩)) (fun _ _ => rfl))

def NewTask (w : World) (t : Sp.Task) (v : Value) (w' : World) : Prop :=
  ∃ g g', v = .agg #[.int .i64 t.start, .slice (some ⟨g, 0, none⟩) t.goal.length t.goal.length, .slice (some ⟨g', 0, none⟩) t.deeds.length t.deeds.length] ∧
    (w.heap.size ≤ g ∧ Within w.heap.size w'.heap.size w' (fun w' => Own w' g t.goal.length t.goal ∧ ODeeds w.heap.size w' g' t.deeds)) ∧ w.heap.size ≤ g' ∧ Within w.heap.size w'.heap.size w' (fun w' => TaskV w' v t)

theorem c_toTask (v : Value) (t : Sp.Task) (w : World) (h : TaskV w v t) (hm : ∀ m ∈ lens t, m ≤ 1048576) :
    Calls Try.prog 64 #[v] w (RetS (NewTask w t) w) := by
  obtain ⟨A, n, c, A', n', c', rfl, hI, hD, h1⟩ := h
  have hgl : t.goal.length ≤ 1048576 := hm _ (by simp [lens])
  have hdl : t.deeds.length ≤ 1048576 := hm _ (by simp [lens])
  have hnl : ∀ d ∈ t.deeds, d.need.length ≤ 1048576 := fun d hd => hm _ (by simp only [lens, List.mem_cons]; exact .inr (.inr (List.mem_map.2 ⟨d, hd, rfl⟩)))
  rw [hI.len] at hgl
  rw [hD.len] at hdl
  have HL := Lib.hid hI.len
  have HL' := Lib.hid hD.len
  have hk := (((Kept.refl w).alloc (.cells #[.int .i64 t.start, .slice A n c, .slice A' n' c'] 58)).alloc (.cells #[.int .i64 0, .slice none 0 0, .slice none 0 0] 26)).alloc (.cells #[.int .i64 t.start, .slice none 0 0, .slice none 0 0] 26)
  have B0 := (((Blk.new w 58 #[.int .i64 t.start, .slice A n c, .slice A' n' c']).alloc (.cells #[.int .i64 0, .slice none 0 0, .slice none 0 0] 26)).alloc (.cells #[.int .i64 t.start, .slice none 0 0, .slice none 0 0] 26))
  have B1 := ((Blk.new (w.alloc (.cells #[.int .i64 t.start, .slice A n c, .slice A' n' c'] 58)) 26 #[.int .i64 0, .slice none 0 0, .slice none 0 0]).alloc (.cells #[.int .i64 t.start, .slice none 0 0, .slice none 0 0] 26))
  have B2 := (Blk.new ((w.alloc (.cells #[.int .i64 t.start, .slice A n c, .slice A' n' c'] 58)).alloc (.cells #[.int .i64 0, .slice none 0 0, .slice none 0 0] 26)) 26 #[.int .i64 t.start, .slice none 0 0, .slice none 0 0])
  simp only [World.size_alloc] at B1 B2
  go_enter Try.func64, Try.ntmps64
  go_wp2_with fail
  refine (c_toIntS _ _ _ _ _ (hI.keep hk) hgl).mono ?_; rintro e w2 ⟨v, rfl, ⟨g, rfl, hg, hN⟩, hk2⟩
  replace B0 := B0.kept hk2
  replace B1 := B1.kept hk2
  replace B2 := B2.kept hk2
  simp only [World.size_alloc] at hg
  replace hk := hk.trans hk2
  clear hk2
  have c0 := B0.cell
  have c2 := B2.cell
  have f2 := B2.frozen
  have hp1 : w.heap.size ≤ w.heap.size + 1 := by omega
  have hp2 : w.heap.size ≤ w.heap.size + 1 + 1 := by omega
  have o2 : Off (w.heap.size + 1 + 1) (some ⟨g, 0, none⟩) := by rintro a ⟨⟩; show g ≠ _; omega
  have hk3 := hk.setCell hp2 (p := ⟨w.heap.size + 1 + 1, 1, none⟩) (.slice (some ⟨g, 0, none⟩) t.goal.length t.goal.length)
  have hN3 := hN.setCell (p := ⟨w.heap.size + 1 + 1, 1, none⟩) o2 (.slice (some ⟨g, 0, none⟩) t.goal.length t.goal.length)
  replace B0 := B0.far (p := ⟨w.heap.size + 1 + 1, 1, none⟩) (by show _ ≠ w.heap.size + 1 + 1; omega) (.slice (some ⟨g, 0, none⟩) t.goal.length t.goal.length)
  replace B1 := B1.far (p := ⟨w.heap.size + 1 + 1, 1, none⟩) (by show _ ≠ w.heap.size + 1 + 1; omega) (.slice (some ⟨g, 0, none⟩) t.goal.length t.goal.length)
  replace B2 := B2.set_ 1 (.slice (some ⟨g, 0, none⟩) t.goal.length t.goal.length)
  go_wp2_with fail
  have hlt2 := B2.lt
  refine (c_toDeedS _ _ _ _ _ (hD.keep hk3) hdl hnl).mono ?_; rintro e w4 ⟨v, rfl, ⟨g', rfl, hg', hN'⟩, hk4⟩
  replace B0 := B0.kept hk4
  replace B1 := B1.kept hk4
  replace B2 := B2.kept hk4
  have hg2 : w.heap.size + 1 + 1 < g' := by omega
  have hN4 := (hN3.keep hk4).within (B := w.heap.size + 1 + 1 + 1) hg
  have hD4 := hN'.more (B' := w.heap.size + 1 + 1 + 1) (C' := w4.heap.size) (by omega) (Nat.le_refl _)
  have hk5 := hk3.trans hk4
  have hsz := hk5.size
  clear hk3 hk4 hN' hN3 hN c0 c2 f2 hk
  have c0 := B0.cell
  have c1 := B1.cell
  have f1 := B1.frozen
  have c2 := B2.cell
  have f2 := B2.frozen
  simp only [List.setIfInBounds_toArray, List.set_cons_succ, List.set_cons_zero] at c2
  go_wp2_with fail
  have hlt5 := B2.lt
  refine bodyPost_ret (v := .agg #[.int .i64 t.start, .slice (some ⟨g, 0, none⟩) t.goal.length t.goal.length, .slice (some ⟨g', 0, none⟩) t.deeds.length t.deeds.length])
    (by simp [results, Try.results64, go_sem, c1]) rfl ?_
  refine ⟨_, rfl, ?_, ?_⟩
  · have q1 : w.heap.size + 1 < w.heap.size + 1 + 1 + 1 ∨ w4.heap.size ≤ w.heap.size + 1 := by omega
    have q2 : w.heap.size + 1 + 1 < w.heap.size + 1 + 1 + 1 ∨ w4.heap.size ≤ w.heap.size + 1 + 1 := by omega
    have hl := Nat.le_refl w4.heap.size
    have := ((((hN4.and hD4).setCell (p := ⟨w.heap.size + 1 + 1, 2, none⟩) hl q2 (.slice (some ⟨g', 0, none⟩) t.deeds.length t.deeds.length)).setCell (p := ⟨w.heap.size + 1, 0, none⟩) (by simp) q1 (.int .i64 t.start)).setCell (p := ⟨w.heap.size + 1, 1, none⟩) (by simp) q1 (.slice (some ⟨g, 0, none⟩) t.goal.length t.goal.length)).setCell (p := ⟨w.heap.size + 1, 2, none⟩) (by simp) q1 (.slice (some ⟨g', 0, none⟩) t.deeds.length t.deeds.length)
    exact ⟨_, _, rfl, ⟨by omega, (this.more (by omega) (by simp)).imp (fun w' h => ⟨h.1, ODeeds.more h.2 (by omega)⟩)⟩, by omega, (this.more (by omega) (by simp)).imp (fun w h => ⟨_, _, _, _, _, _, rfl, h.1.ints, h.2.deeds, h1⟩)⟩
  · exact (((hk5.setCell (p := ⟨w.heap.size + 1 + 1, 2, none⟩) hp2 _).setCell (p := ⟨w.heap.size + 1, 0, none⟩) hp1 _).setCell (p := ⟨w.heap.size + 1, 1, none⟩) hp1 _).setCell (p := ⟨w.heap.size + 1, 2, none⟩) hp1 _

end Go.Proofs.Ythkcdjnnacdeoaa
