/- Joined texts. No condition. -/
import Derived.Deep.QuietTactic
import Derived.BigQuiet
import Derived.StillTailTactics
import Derived.Laws.MakeOwn
import Derived.Test.YtphdojebdclonaaDoorQ2
import Derived.Test.YtphdojebdclonaaDoorQ1
/- Walks: the exact laws' own helpers: sizes, copies, equality. Walks: the exact laws' own helpers: copies. Walks: the exact laws' own helpers: copies of deeds and tasks. Walks: the exact laws' own helpers: equality, where both sides are equal. Walks: the exact laws' own helpers: marks. Plain: sums, the only end. Small lemmas for walks. No condition. -/
namespace Go.Proofs.YtphdojebdclonaaDoor
set_option linter.unusedSimpArgs false
set_option linter.unusedVariables false
open Go.RowKit

def SzQ (ns : List Nat) (left : Int) (v : Value) (_w : World) : Prop := ∃ r : Int, v = .int .i64 r ∧ (r = -1 ∨ (0 ≤ r ∧ r ≤ left ∧ ∀ n ∈ ns, (n : Int) ≤ left))

theorem c_szIntS (A : Option Addr) (n c : Nat) (l : List Int) (left : Int) (w : World) (h : Ints w A n l) (h0 : 0 ≤ left) (h1 : left ≤ 1048576) :
    Calls Tryd.prog 55 #[.slice A n c, .int .i64 left] w (RetS (SzQ [n] left) w) := by
  have hn := h.le
  by_cases hlt : left < (n : Int)
  · go_enter Tryd.func55, Tryd.ntmps55
    go_wp2
    go_ret
    exact ⟨_, rfl, ⟨-1, rfl, .inl rfl⟩, Kept.refl _⟩
  · go_enter Tryd.func55, Tryd.ntmps55
    go_wp2
    go_ret
    exact ⟨_, rfl, ⟨left - n, rfl, .inr ⟨by omega, by omega, by simp; omega⟩⟩, Kept.refl _⟩

theorem c_szDeed (v : Value) (d : Sp.Deed) (left : Int) (w : World) (h : DeedV w v d) (h0 : 0 ≤ left) (h1 : left ≤ 1048576) :
    Calls Tryd.prog 116 #[v, .int .i64 left] w (RetS (SzQ [d.need.length] left) w) := by
  obtain ⟨A, n, c, rfl, hI, _, _, _⟩ := h
  have hk := (Kept.refl w).alloc (.cells #[.slice A n c, .int .i64 d.on, .int .i64 d.off, .int .i64 d.flip] 142)
  have hI' := hI.keep hk
  have HL := Lib.hid hI.len
  go_enter Tryd.func116, Tryd.ntmps116
  go_wp2_with fail
  refine (c_szIntS _ _ _ _ _ _ hI' h0 h1).mono ?_; rintro e w2 ⟨v, rfl, ⟨r, rfl, hr⟩, hk2⟩
  have HR := Lib.hid hr
  clear hr
  by_cases hr : r < 0
  · go_wp2
    go_ret
    exact ⟨_, rfl, ⟨-1, rfl, .inl rfl⟩, hk.trans hk2⟩
  · go_wp2
    go_ret
    refine ⟨_, rfl, ⟨r, rfl, ?_⟩, hk.trans hk2⟩
    rw [HL.out]
    exact HR.out

def lens (t : Sp.Task) : List Nat := t.goal.length :: t.deeds.length :: t.deeds.map (fun d => d.need.length)

theorem c_szDeedS (A : Option Addr) (n c : Nat) (l : List Sp.Deed) (left : Int) (w : World) (h : Deeds w A n l) (h0 : 0 ≤ left) (h1 : left ≤ 1048576) :
    Calls Tryd.prog 56 #[.slice A n c, .int .i64 left] w (RetS (SzQ (n :: l.map (fun d => d.need.length)) left) w) := by
  have hn := h.le
  have HL := Lib.hid h.len
  by_cases hlt : left < (n : Int)
  · go_enter Tryd.func56, Tryd.ntmps56
    go_wp2
    go_ret
    exact ⟨_, rfl, ⟨-1, rfl, .inl rfl⟩, Kept.refl _⟩
  · go_enter Tryd.func56, Tryd.ntmps56
    go_wp2_with fail
    go_loopw [1, 5] (fun x i wr => ∃ (k : Nat) (r : Int), k ≤ n ∧ i = .int .i64 k ∧ x = .int .i64 r ∧ 0 ≤ r ∧ r ≤ left ∧ Kept w wr ∧ Hid (∀ d ∈ l.take k, ((d.need.length : Nat) : Int) ≤ left)) (fun _ i _ => n - (intOf i).toNat)
    case atStart => exact ⟨0, left - n, Nat.zero_le _, rfl, rfl, by omega, by omega, Kept.refl _, by show ∀ d ∈ l.take 0, _; simp⟩
    case round =>
      obtain ⟨k, r, hk, rfl, rfl, hr0, hr1, hkp, HA⟩ := hrel
      by_cases hkn : k < n
      · have hkl : k < l.length := by rw [HL.out]; exact hkn
        obtain ⟨b, off, rfl, hb, hc⟩ := (h.keep hkp).at hkn
        have HT : Hid (l.take (k + 1) = l.take k ++ [l.getD k default]) := by
          show _ = _
          rw [List.take_succ_eq_append_getElem hkl]; simp [List.getD, hkl]
        generalize l.getD k default = d at *
        obtain ⟨A2, n2, c2, hc0, hc1, hc2, hc3, hdv⟩ := hc.v
        go_wp2_with fail
        refine (c_szDeed _ d _ _ hdv hr0 (by omega)).mono ?_; rintro e w2 ⟨v, rfl, ⟨r2, rfl, hr⟩, hk2⟩
        have HR := Lib.hid hr
        clear hr
        by_cases hr : r2 < 0
        · go_wp2
          go_ret
          exact ⟨_, rfl, ⟨-1, rfl, .inl rfl⟩, hkp.trans hk2⟩
        · have hR := HR.out
          have hr2 : 0 ≤ r2 ∧ r2 ≤ r := by omega
          have HA' : Hid (∀ d ∈ l.take (k + 1), ((d.need.length : Nat) : Int) ≤ left) := by
            show ∀ d ∈ l.take (k + 1), _
            rw [HT.out]
            intro x hx
            rcases List.mem_append.1 hx with hx | hx
            · exact HA.out x hx
            · rcases hR with hR | hR
              · omega
              · have := hR.2.2 d.need.length (by simp)
                simp only [List.mem_singleton] at hx
                subst hx
                omega
          clear hR HR HT
          go_wp2
          exact ⟨⟨k + 1, r2, by omega, by go_num, rfl, by omega, by omega, hkp.trans hk2, HA'⟩, by simp [intOf]; omega⟩
      · go_wp2
        go_ret
        refine ⟨_, rfl, ⟨r, rfl, .inr ⟨hr0, hr1, ?_⟩⟩, hkp⟩
        have hA := HA.out
        rw [Sp.take_all _ k (by rw [HL.out]; omega)] at hA
        intro m hm
        rcases List.mem_cons.1 hm with rfl | hm
        · omega
        · obtain ⟨d, hd, rfl⟩ := List.mem_map.1 hm
          exact hA d hd

theorem c_szTask (v : Value) (t : Sp.Task) (left : Int) (w : World) (h : TaskV w v t) (h0 : 0 ≤ left) (h1 : left ≤ 1048576) :
    Calls Tryd.prog 16 #[v, .int .i64 left] w (RetS (SzQ (lens t) left) w) := by
  obtain ⟨A, n, c, A', n', c', rfl, hI, hD, _⟩ := h
  have hk := (Kept.refl w).alloc (.cells #[.int .i64 t.start, .slice A n c, .slice A' n' c'] 37)
  have HL := Lib.hid hI.len
  have HL' := Lib.hid hD.len
  go_enter Tryd.func16, Tryd.ntmps16
  go_wp2_with fail
  refine (c_szIntS _ _ _ _ _ _ (hI.keep hk) h0 h1).mono ?_; rintro e w2 ⟨v, rfl, ⟨r, rfl, hr⟩, hk2⟩
  have HR := Lib.hid hr
  clear hr
  by_cases hr : r < 0
  · go_wp2
    go_ret
    exact ⟨_, rfl, ⟨-1, rfl, .inl rfl⟩, hk.trans hk2⟩
  · have hR := HR.out
    have hr2 : 0 ≤ r ∧ r ≤ left := by omega
    have hnl : (n : Int) ≤ left := by
      rcases hR with hR | hR
      · omega
      · exact hR.2.2 n (by simp)
    clear hR HR
    have hb0 := hk2.box 0
    have hb1 := hk2.box 1
    have hb2 := hk2.box 2
    simp only [List.getElem?_toArray, List.getElem?_cons_zero, List.getElem?_cons_succ] at hb0 hb1 hb2
    go_wp2_with fail
    refine (c_szDeedS _ _ _ _ _ _ (hD.keep (hk.trans hk2)) hr2.1 (by omega)).mono ?_; rintro e w3 ⟨v, rfl, ⟨r3, rfl, hr3⟩, hk3⟩
    have HR := Lib.hid hr3
    clear hr3
    by_cases hr3 : r3 < 0
    · go_wp2
      go_ret
      exact ⟨_, rfl, ⟨-1, rfl, .inl rfl⟩, (hk.trans hk2).trans hk3⟩
    · go_wp2
      go_ret
      refine ⟨_, rfl, ⟨r3, rfl, ?_⟩, (hk.trans hk2).trans hk3⟩
      rcases HR.out with h | ⟨h1, h2, h3⟩
      · exact .inl h
      · refine .inr ⟨h1, by omega, fun m hm => ?_⟩
        unfold lens at hm
        rw [HL.out, HL'.out] at hm
        rcases List.mem_cons.1 hm with rfl | hm
        · exact hnl
        · have := h3 m hm; omega

end Go.Proofs.YtphdojebdclonaaDoor

namespace Go.Proofs.YtphdojebdclonaaDoor
set_option linter.unusedSimpArgs false
set_option linter.unusedVariables false
open Go.RowKit

theorem run_make_rowN {P : Program} (t e : TypeId) (i : TypeInfo) (z : Value) (ht : P.underlying t = some (.slice e)) (hi : P.info? e = some i) (hz : i.zero = some z)
    (kl kc : IntKind) (n c : Nat) (hnc : n ≤ c) (hbytes : i.bytes * c ≤ 281474976710656) (h63 : c ≤ 9223372036854775807) (w : World) :
    (Instr.makeSlice t (.int kl (n : Int)) (.int kc (c : Int))).run P w = .ok (.slice (some ⟨w.heap.size, 0, none⟩) n c) (w.alloc (.cells (madeCells z.cells (c * i.size)) e)) := by
  have hb : (i.bytes : Int) * (c : Int) ≤ 281474976710656 := by
    have h : ((i.bytes * c : Nat) : Int) ≤ 281474976710656 := by omega
    rwa [Int.natCast_mul] at h
  have hr := run_make (P := P) w t e i z ht hi hz kl kc n c (by omega) (by omega) hb (by omega)
  simp only [Int.toNat_natCast] at hr
  exact hr

theorem info_int : (Tryd.prog.info? 3).map (fun i => (i.zero, i.size, i.bytes)) = some (some (.int .i64 0), 1, 8) := by kernel_rfl
theorem info_deed : (Tryd.prog.info? 72).map (fun i => (i.zero, i.size, i.bytes)) = some (some (.agg #[.slice none 0 0, .int .i64 0, .int .i64 0, .int .i64 0]), 4, 48) := by kernel_rfl

/-- n integers, each nought: a new row -/
theorem make_ints (n : Nat) (hn : n ≤ 2147483648) (w : World) :
    (Instr.makeSlice 23 (.int .i64 (n : Int)) (.int .i64 (n : Int))).run Tryd.prog w = .ok (.slice (some ⟨w.heap.size, 0, none⟩) n n) (w.alloc (.cells (madeCells #[.int .i64 0] n) 3)) := by
  obtain ⟨i, hi, hz, hs, hb⟩ := info_parts info_int
  have := run_make_rowN (P := Tryd.prog) 23 3 i _ Tryd.underlying23 hi hz .i64 .i64 n n (Nat.le_refl _) (by rw [hb]; omega) (by omega) w
  rw [hs, Nat.mul_one] at this
  exact this

theorem make_deeds (n : Nat) (hn : n ≤ 2147483648) (w : World) :
    (Instr.makeSlice 24 (.int .i64 (n : Int)) (.int .i64 (n : Int))).run Tryd.prog w =
      .ok (.slice (some ⟨w.heap.size, 0, none⟩) n n) (w.alloc (.cells (madeCells #[.slice none 0 0, .int .i64 0, .int .i64 0, .int .i64 0] (n * 4)) 72)) := by
  obtain ⟨i, hi, hz, hs, hb⟩ := info_parts info_deed
  have := run_make_rowN (P := Tryd.prog) 24 72 i _ Tryd.underlying24 hi hz .i64 .i64 n n (Nat.le_refl _) (by rw [hb]; omega) (by omega) w
  rw [hs] at this
  exact this

/-- a row of integers in a block that stands last -/
theorem Ints.last {w : World} {arr : Array Value} {T : TypeId} {n : Nat} {l : List Int} (hl : l.length = n) (hm : n ≤ maxLen) (hi : ∀ x ∈ l, Sp.inI x)
    (h : ∀ j, j < n → arr[j]? = some (.int .i64 (l.getD j default))) : Ints (w.alloc (.cells arr T)) (some ⟨w.heap.size, 0, none⟩) n l :=
  ⟨hl, hm, hi, fun _ => ⟨_, _, rfl, by simp, fun k hk => by rw [Nat.zero_add, World.cell?_alloc_new]; exact h k hk⟩⟩

def NewInts (w : World) (l : List Int) (v : Value) (w' : World) : Prop :=
  ∃ g, v = .slice (some ⟨g, 0, none⟩) l.length l.length ∧ w.heap.size ≤ g ∧ Own w' g l.length l

theorem c_toIntS (A : Option Addr) (n c : Nat) (l : List Int) (w : World) (h : Ints w A n l) (hn : n ≤ 1048576) :
    Calls Tryd.prog 19 #[.slice A n c] w (RetS (NewInts w l) w) := by
  have HL := Lib.hid h.len
  have hmk := make_ints n (by omega)
  go_enter Tryd.func19, Tryd.ntmps19
  go_wp2_with fail
  clear hmk
  go_loopw [4] (fun i wr => ∃ (k : Nat) (arr : Array Value), k ≤ n ∧ i = .int .i64 k ∧ wr = w.alloc (.cells arr 3) ∧ Hid (arr.size = n) ∧ Hid (∀ j, j < k → arr[j]? = some (.int .i64 (l.getD j default)))) (fun i _ => n - (intOf i).toNat)
  case atStart => exact ⟨0, _, Nat.zero_le _, rfl, rfl, size_madeCells _ _, by show ∀ j, j < 0 → _; omega⟩
  case round =>
    obtain ⟨k, arr, hk, rfl, rfl, HS, HA⟩ := hrel
    by_cases hlt : k < n
    · obtain ⟨b, off, rfl, hb, hc, hin⟩ := h.at hlt
      have hc' : (w.alloc (.cells arr 3)).cell? ⟨b, off + k, none⟩ = some (.int .i64 (l.getD k default)) := by rw [World.cell?_alloc_lt _ _ _ hb]; exact hc
      have HX : Hid (∀ j, j < k + 1 → (arr.setIfInBounds k (.int .i64 (l.getD k default)))[j]? = some (.int .i64 (l.getD j default))) := by
        intro j hj
        rw [Array.getElem?_setIfInBounds]
        by_cases e : k = j
        · subst e; rw [if_pos rfl, if_pos (by rw [HS.out]; exact hlt)]
        · rw [if_neg e]; exact HA.out j (by omega)
      have hold : ∃ u, arr[k]? = some u := ⟨_, Array.getElem?_eq_getElem (by rw [HS.out]; exact hlt)⟩
      obtain ⟨u, hu⟩ := hold
      generalize l.getD k default = x at *
      go_wp2_with fail
      exact ⟨⟨k + 1, _, by omega, by go_num, rfl, by show _ = n; rw [Array.size_setIfInBounds]; exact HS.out, HX⟩, by simp [intOf]; omega⟩
    · obtain rfl : k = n := by omega
      go_wp2_with fail
      go_ret
      have hl := HL.out
      subst hl
      exact ⟨_, rfl, ⟨_, rfl, Nat.le_refl _, Own.ofBlk (Blk.new w _ arr) (Ints.last rfl h.2.1 h.2.2.1 HA.out)⟩, (Kept.refl w).alloc _⟩

end Go.Proofs.YtphdojebdclonaaDoor

namespace Go.Proofs.YtphdojebdclonaaDoor
set_option linter.unusedSimpArgs false
set_option linter.unusedVariables false
open Go.RowKit

def NewDeed (w : World) (d : Sp.Deed) (v : Value) (w' : World) : Prop :=
  ∃ g, v = .agg #[.slice (some ⟨g, 0, none⟩) d.need.length d.need.length, .int .i64 d.on, .int .i64 d.off, .int .i64 d.flip] ∧ w.heap.size ≤ g ∧ Own w' g d.need.length d.need

theorem c_toDeed (v : Value) (d : Sp.Deed) (w : World) (h : DeedV w v d) (hn : d.need.length ≤ 1048576) :
    Calls Tryd.prog 117 #[v] w (RetS (NewDeed w d) w) := by
  obtain ⟨A, n, c, rfl, hI, h1, h2, h3⟩ := h
  have HL := Lib.hid hI.len
  rw [hI.len] at hn
  have hk := (((Kept.refl w).alloc (.cells #[.slice A n c, .int .i64 d.on, .int .i64 d.off, .int .i64 d.flip] 142)).alloc (.cells #[.slice none 0 0, .int .i64 0, .int .i64 0, .int .i64 0] 72)).alloc (.cells #[.slice none 0 0, .int .i64 0, .int .i64 0, .int .i64 0] 72)
  go_enter Tryd.func117, Tryd.ntmps117
  go_wp2_with fail
  refine (c_toIntS _ _ _ _ _ (hI.keep hk) hn).mono ?_; rintro e w2 ⟨v, rfl, ⟨g, rfl, hg, hN⟩, hk2⟩
  have B0 := (((Blk.new w 142 #[.slice A n c, .int .i64 d.on, .int .i64 d.off, .int .i64 d.flip]).alloc (.cells #[.slice none 0 0, .int .i64 0, .int .i64 0, .int .i64 0] 72)).alloc (.cells #[.slice none 0 0, .int .i64 0, .int .i64 0, .int .i64 0] 72)).kept hk2
  have B1 := ((Blk.new (w.alloc (.cells #[.slice A n c, .int .i64 d.on, .int .i64 d.off, .int .i64 d.flip] 142)) 72 #[.slice none 0 0, .int .i64 0, .int .i64 0, .int .i64 0]).alloc (.cells #[.slice none 0 0, .int .i64 0, .int .i64 0, .int .i64 0] 72)).kept hk2
  have B2 := (Blk.new ((w.alloc (.cells #[.slice A n c, .int .i64 d.on, .int .i64 d.off, .int .i64 d.flip] 142)).alloc (.cells #[.slice none 0 0, .int .i64 0, .int .i64 0, .int .i64 0] 72)) 72 #[.slice none 0 0, .int .i64 0, .int .i64 0, .int .i64 0]).kept hk2
  simp only [World.size_alloc] at B1 B2 hg
  have hk' := hk.trans hk2
  clear hk hk2
  have c0 := B0.cell
  have c1 := B1.cell
  have f1 := B1.frozen
  have c2 := B2.cell
  have f2 := B2.frozen
  go_wp2_with fail
  have hp1 : w.heap.size ≤ w.heap.size + 1 := by omega
  have hp2 : w.heap.size ≤ w.heap.size + 1 + 1 := by omega
  refine bodyPost_ret (v := .agg #[.slice (some ⟨g, 0, none⟩) d.need.length d.need.length, .int .i64 d.on, .int .i64 d.off, .int .i64 d.flip]) (by simp [results, Tryd.results117, go_sem, c1]) rfl ⟨_, rfl, ⟨_, rfl, by omega, ?_⟩, ?_⟩
  · have o1 : Off (w.heap.size + 1) (some ⟨g, 0, none⟩) := by rintro a ⟨⟩; show g ≠ _; omega
    have o2 : Off (w.heap.size + 1 + 1) (some ⟨g, 0, none⟩) := by rintro a ⟨⟩; show g ≠ _; omega
    exact (((((((hN.setCell o2 _).setCell o2 _).setCell o2 _).setCell o2 _).setCell o1 _).setCell o1 _).setCell o1 _).setCell o1 _
  · exact (((((((hk'.setCell hp2 _).setCell hp2 _).setCell hp2 _).setCell hp2 _).setCell hp1 _).setCell hp1 _).setCell hp1 _).setCell hp1 _
/-- element j of a row of deeds that the call itself makes at block g0 -/
def RowAt (w : World) (g0 : Nat) (arr : Array Value) (j : Nat) (d : Sp.Deed) : Prop :=
  ∃ g, g0 < g ∧ arr[j * 4]? = some (.slice (some ⟨g, 0, none⟩) d.need.length d.need.length) ∧ Own w g d.need.length d.need ∧
    arr[j * 4 + 1]? = some (.int .i64 d.on) ∧ arr[j * 4 + 2]? = some (.int .i64 d.off) ∧ arr[j * 4 + 3]? = some (.int .i64 d.flip) ∧ Sp.inI d.on ∧ Sp.inI d.off ∧ Sp.inI d.flip

/-- a row of deeds of its own, with rows of its own, from block B on -/
def ODeeds (B : Nat) (w : World) (g : Nat) (l : List Sp.Deed) : Prop :=
  B ≤ g ∧ g < w.heap.size ∧ (∀ i, w.frozen? ⟨g, i, none⟩ = false) ∧ l.length ≤ maxLen ∧
    ∀ k, k < l.length → ∃ g2, B ≤ g2 ∧ w.cell? ⟨g, k * 4, none⟩ = some (.slice (some ⟨g2, 0, none⟩) (l.getD k default).need.length (l.getD k default).need.length) ∧ Own w g2 (l.getD k default).need.length (l.getD k default).need ∧
      w.cell? ⟨g, k * 4 + 1, none⟩ = some (.int .i64 (l.getD k default).on) ∧ w.cell? ⟨g, k * 4 + 2, none⟩ = some (.int .i64 (l.getD k default).off) ∧ w.cell? ⟨g, k * 4 + 3, none⟩ = some (.int .i64 (l.getD k default).flip) ∧
      Sp.inI (l.getD k default).on ∧ Sp.inI (l.getD k default).off ∧ Sp.inI (l.getD k default).flip
theorem ODeeds.deeds {B : Nat} {w : World} {g : Nat} {l : List Sp.Deed} (h : ODeeds B w g l) : Deeds w (some ⟨g, 0, none⟩) l.length l :=
  ⟨rfl, h.2.2.2.1, fun _ => ⟨g, 0, rfl, h.2.1, fun k hk => by
    obtain ⟨g2, _, h0, hN, h1, h2, h3, h4⟩ := h.2.2.2.2 k hk
    rw [Nat.zero_add]
    exact ⟨_, _, _, h0, hN.ints, h1, h2, h3, h4⟩⟩⟩

theorem ODeeds.more {B B' : Nat} {w : World} {g : Nat} {l : List Sp.Deed} (h : ODeeds B w g l) (hB : B' ≤ B) : ODeeds B' w g l := by
  obtain ⟨h1, h2, h3, h4, h5⟩ := h
  refine ⟨by omega, h2, h3, h4, fun k hk => ?_⟩
  obtain ⟨g2, h6, h7⟩ := h5 k hk
  exact ⟨g2, by omega, h7⟩

def NewDeeds (w : World) (l : List Sp.Deed) (v : Value) (w' : World) : Prop :=
  ∃ g, v = .slice (some ⟨g, 0, none⟩) l.length l.length ∧ w.heap.size ≤ g ∧ Within w.heap.size w'.heap.size w' (fun w' => ODeeds w.heap.size w' g l)

theorem set4 {arr : Array Value} {o : Nat} {v0 v1 v2 v3 : Value} (h : o + 3 < arr.size) :
    let a := (((arr.setIfInBounds o v0).setIfInBounds (o + 1) v1).setIfInBounds (o + 2) v2).setIfInBounds (o + 3) v3
    a.size = arr.size ∧ a[o]? = some v0 ∧ a[o + 1]? = some v1 ∧ a[o + 2]? = some v2 ∧ a[o + 3]? = some v3 ∧ ∀ i, (i < o ∨ o + 3 < i) → a[i]? = arr[i]? := by
  intro a
  refine ⟨by simp [a], ?_, ?_, ?_, ?_, ?_⟩
  · simp [a, Array.getElem?_setIfInBounds]; omega
  · simp [a, Array.getElem?_setIfInBounds]; omega
  · simp [a, Array.getElem?_setIfInBounds]; omega
  · simp [a, Array.getElem?_setIfInBounds]; omega
  · intro i hi
    simp only [a, Array.getElem?_setIfInBounds]
    rw [if_neg (by omega), if_neg (by omega), if_neg (by omega), if_neg (by omega)]

theorem RowAt.keep {w w' : World} {g0 : Nat} {arr arr' : Array Value} {j : Nat} {d : Sp.Deed} (h : RowAt w g0 arr j d)
    (hI : ∀ g n l, g0 < g → Own w g n l → Own w' g n l) (ha : ∀ i, i < 4 → arr'[j * 4 + i]? = arr[j * 4 + i]?) : RowAt w' g0 arr' j d := by
  obtain ⟨g, hg, h0, hN, h1, h2, h3, h4⟩ := h
  exact ⟨g, hg, by have := ha 0 (by omega); rw [Nat.add_zero] at this; rw [this]; exact h0, hI _ _ _ hg hN, by rw [ha 1 (by omega)]; exact h1, by rw [ha 2 (by omega)]; exact h2, by rw [ha 3 (by omega)]; exact h3, h4⟩

theorem ODeeds.of_rows {w : World} {g B : Nat} {T : TypeId} {arr : Array Value} {l : List Sp.Deed} (hB : Blk w g T arr) (hg : B ≤ g) (hm : l.length ≤ maxLen) (h : ∀ j, j < l.length → RowAt w g arr j (l.getD j default)) :
    ODeeds B w g l :=
  ⟨hg, hB.lt, hB.frozen, hm, fun k hk => by
    obtain ⟨g', hg', h0, hN, h1, h2, h3, h4⟩ := h k hk
    exact ⟨g', by omega, by rw [hB.cell]; exact h0, hN, by rw [hB.cell]; exact h1, by rw [hB.cell]; exact h2, by rw [hB.cell]; exact h3, h4⟩⟩

theorem c_toDeedS (A : Option Addr) (n c : Nat) (l : List Sp.Deed) (w : World) (h : Deeds w A n l) (hn : n ≤ 1048576) (hm : ∀ d ∈ l, d.need.length ≤ 1048576) :
    Calls Tryd.prog 57 #[.slice A n c] w (RetS (NewDeeds w l) w) := by
  have HL := Lib.hid h.len
  have hmk := make_deeds n (by omega)
  go_enter Tryd.func57, Tryd.ntmps57
  go_wp2_with fail
  clear hmk
  go_loopw [4] (fun i wr => ∃ (k : Nat) (arr : Array Value), k ≤ n ∧ i = .int .i64 k ∧ Kept w wr ∧ Blk wr w.heap.size 72 arr ∧ Hid (arr.size = n * 4) ∧ Hid (∀ j, j < k → RowAt wr w.heap.size arr j (l.getD j default))) (fun i _ => n - (intOf i).toNat)
  case atStart => exact ⟨0, _, Nat.zero_le _, rfl, (Kept.refl w).alloc _, Blk.new _ _ _, size_madeCells _ _, by show ∀ j, j < 0 → _; omega⟩
  case round =>
    obtain ⟨k, arr, hk, rfl, hkp, hB, HS, HA⟩ := hrel
    by_cases hlt : k < n
    · have hkl : k < l.length := by rw [HL.out]; exact hlt
      obtain ⟨b, off, rfl, hb, hc⟩ := (h.keep hkp).at hlt
      have hml : (l.getD k default).need.length ≤ 1048576 := by
        refine hm _ ?_
        simp only [List.getD_eq_getElem?_getD, List.getElem?_eq_getElem hkl, Option.getD_some]
        exact List.getElem_mem _
      obtain ⟨d, HD⟩ : ∃ d, Hid (l.getD k default = d) := ⟨_, rfl⟩
      rw [HD.out] at hc hml
      obtain ⟨A2, n2, c2, hc0, hc1, hc2, hc3, hdv⟩ := hc.v
      go_wp2_with fail
      refine (c_toDeed _ d _ hdv hml).mono ?_; rintro e w2 ⟨v, rfl, ⟨g, rfl, hg, hN⟩, hk2⟩
      have B2 := hB.kept hk2
      have c0 := B2.cell
      have f0 := B2.frozen
      have hold : ∀ i, i < 4 → ∃ u, arr[k * 4 + i]? = some u := fun i hi => ⟨_, Array.getElem?_eq_getElem (by rw [HS.out]; omega)⟩
      obtain ⟨u0, hu0⟩ := hold 0 (by omega)
      obtain ⟨u1, hu1⟩ := hold 1 (by omega)
      obtain ⟨u2, hu2⟩ := hold 2 (by omega)
      obtain ⟨u3, hu3⟩ := hold 3 (by omega)
      rw [Nat.add_zero] at hu0
      go_wp2_with fail
      have hlt0 : w.heap.size < wr.heap.size := hB.lt
      obtain ⟨s1, s2, s3, s4, s5, s6⟩ := @set4 arr (k * 4) (.slice (some ⟨g, 0, none⟩) d.need.length d.need.length) (.int .i64 d.on) (.int .i64 d.off) (.int .i64 d.flip) (by rw [HS.out]; omega)
      have hoff : ∀ g', w.heap.size < g' → Off w.heap.size (some ⟨g', 0, none⟩) := by rintro g' hg' a ⟨⟩; show g' ≠ _; omega
      have hset : ∀ g' n l, w.heap.size < g' → Own w2 g' n l → Own ((((w2.setCell ⟨w.heap.size, k * 4, none⟩ (.slice (some ⟨g, 0, none⟩) d.need.length d.need.length)).setCell ⟨w.heap.size, k * 4 + 1, none⟩ (.int .i64 d.on)).setCell ⟨w.heap.size, k * 4 + 2, none⟩ (.int .i64 d.off)).setCell ⟨w.heap.size, k * 4 + 3, none⟩ (.int .i64 d.flip)) g' n l :=
        fun g' n l hg' hN' => (((hN'.setCell (hoff g' hg') _).setCell (hoff g' hg') _).setCell (hoff g' hg') _).setCell (hoff g' hg') _
      have hle := Nat.le_refl w.heap.size
      obtain ⟨_, _, _, _, _, i1, i2, i3⟩ := hdv
      refine ⟨⟨k + 1, _, by omega, by go_num, ((((hkp.trans hk2).setCell hle _).setCell hle _).setCell hle _).setCell hle _, (((B2.set_ (k * 4) _).set_ (k * 4 + 1) _).set_ (k * 4 + 2) _).set_ (k * 4 + 3) _, by show _ = n * 4; rw [s1]; exact HS.out, ?_⟩, by simp [intOf]; omega⟩
      intro j hj
      by_cases e : j = k
      · subst e
        rw [HD.out]
        exact ⟨g, by omega, s2, hset g _ _ (by omega) hN, s3, s4, s5, i1, i2, i3⟩
      · exact (HA.out j (by omega)).keep (fun g' n l hg' hN' => hset g' n l hg' (hN'.keep hk2)) (fun i hi => s6 _ (by omega))
    · obtain rfl : k = n := by omega
      go_wp2_with fail
      go_ret
      have hl := HL.out
      subst hl
      refine ⟨_, rfl, ⟨_, rfl, Nat.le_refl _, fun w2 h2 e2 => ?_⟩, hkp⟩
      have hlt := hB.lt
      exact ODeeds.of_rows (hB.same (e2 _ (Nat.le_refl _) hlt)) (Nat.le_refl _) h.2.1 (fun j hj => (HA.out j hj).keep (fun g n l hg hN => hN.same (fun hg' => ⟨e2 g (by omega) hg', by omega⟩)) (fun _ _ => rfl))

def NewTask (w : World) (t : Sp.Task) (v : Value) (w' : World) : Prop :=
  ∃ g g', v = .agg #[.int .i64 t.start, .slice (some ⟨g, 0, none⟩) t.goal.length t.goal.length, .slice (some ⟨g', 0, none⟩) t.deeds.length t.deeds.length] ∧
    (w.heap.size ≤ g ∧ Within w.heap.size w'.heap.size w' (fun w' => Own w' g t.goal.length t.goal ∧ ODeeds w.heap.size w' g' t.deeds)) ∧ w.heap.size ≤ g' ∧ Within w.heap.size w'.heap.size w' (fun w' => TaskV w' v t)

theorem c_toTask (v : Value) (t : Sp.Task) (w : World) (h : TaskV w v t) (hm : ∀ m ∈ lens t, m ≤ 1048576) :
    Calls Tryd.prog 18 #[v] w (RetS (NewTask w t) w) := by
  obtain ⟨A, n, c, A', n', c', rfl, hI, hD, h1⟩ := h
  have hgl : t.goal.length ≤ 1048576 := hm _ (by simp [lens])
  have hdl : t.deeds.length ≤ 1048576 := hm _ (by simp [lens])
  have hnl : ∀ d ∈ t.deeds, d.need.length ≤ 1048576 := fun d hd => hm _ (by simp only [lens, List.mem_cons]; exact .inr (.inr (List.mem_map.2 ⟨d, hd, rfl⟩)))
  rw [hI.len] at hgl
  rw [hD.len] at hdl
  have HL := Lib.hid hI.len
  have HL' := Lib.hid hD.len
  have hk := (((Kept.refl w).alloc (.cells #[.int .i64 t.start, .slice A n c, .slice A' n' c'] 37)).alloc (.cells #[.int .i64 0, .slice none 0 0, .slice none 0 0] 26)).alloc (.cells #[.int .i64 t.start, .slice none 0 0, .slice none 0 0] 26)
  have B0 := (((Blk.new w 37 #[.int .i64 t.start, .slice A n c, .slice A' n' c']).alloc (.cells #[.int .i64 0, .slice none 0 0, .slice none 0 0] 26)).alloc (.cells #[.int .i64 t.start, .slice none 0 0, .slice none 0 0] 26))
  have B1 := ((Blk.new (w.alloc (.cells #[.int .i64 t.start, .slice A n c, .slice A' n' c'] 37)) 26 #[.int .i64 0, .slice none 0 0, .slice none 0 0]).alloc (.cells #[.int .i64 t.start, .slice none 0 0, .slice none 0 0] 26))
  have B2 := (Blk.new ((w.alloc (.cells #[.int .i64 t.start, .slice A n c, .slice A' n' c'] 37)).alloc (.cells #[.int .i64 0, .slice none 0 0, .slice none 0 0] 26)) 26 #[.int .i64 t.start, .slice none 0 0, .slice none 0 0])
  simp only [World.size_alloc] at B1 B2
  go_enter Tryd.func18, Tryd.ntmps18
  go_wp2_with fail
  refine (c_toIntS _ _ _ _ _ (hI.keep hk) hgl).mono ?_; rintro e w2 ⟨v, rfl, ⟨g, rfl, hg, hN⟩, hk2⟩
  replace B0 := B0.kept hk2
  replace B1 := B1.kept hk2
  replace B2 := B2.kept hk2
  simp only [World.size_alloc] at hg
  replace hk := hk.trans hk2
  clear hk2
  have c0 := B0.cell
  have c2 := B2.cell
  have f2 := B2.frozen
  have hp1 : w.heap.size ≤ w.heap.size + 1 := by omega
  have hp2 : w.heap.size ≤ w.heap.size + 1 + 1 := by omega
  have o2 : Off (w.heap.size + 1 + 1) (some ⟨g, 0, none⟩) := by rintro a ⟨⟩; show g ≠ _; omega
  have hk3 := hk.setCell hp2 (p := ⟨w.heap.size + 1 + 1, 1, none⟩) (.slice (some ⟨g, 0, none⟩) t.goal.length t.goal.length)
  have hN3 := hN.setCell (p := ⟨w.heap.size + 1 + 1, 1, none⟩) o2 (.slice (some ⟨g, 0, none⟩) t.goal.length t.goal.length)
  replace B0 := B0.far (p := ⟨w.heap.size + 1 + 1, 1, none⟩) (by show _ ≠ w.heap.size + 1 + 1; omega) (.slice (some ⟨g, 0, none⟩) t.goal.length t.goal.length)
  replace B1 := B1.far (p := ⟨w.heap.size + 1 + 1, 1, none⟩) (by show _ ≠ w.heap.size + 1 + 1; omega) (.slice (some ⟨g, 0, none⟩) t.goal.length t.goal.length)
  replace B2 := B2.set_ 1 (.slice (some ⟨g, 0, none⟩) t.goal.length t.goal.length)
  go_wp2_with fail
  have hlt2 := B2.lt
  refine (c_toDeedS _ _ _ _ _ (hD.keep hk3) hdl hnl).mono ?_; rintro e w4 ⟨v, rfl, ⟨g', rfl, hg', hN'⟩, hk4⟩
  replace B0 := B0.kept hk4
  replace B1 := B1.kept hk4
  replace B2 := B2.kept hk4
  have hg2 : w.heap.size + 1 + 1 < g' := by omega
  have hN4 := (hN3.keep hk4).within (B := w.heap.size + 1 + 1 + 1) hg
  have hD4 := hN'.more (B' := w.heap.size + 1 + 1 + 1) (C' := w4.heap.size) (by omega) (Nat.le_refl _)
  have hk5 := hk3.trans hk4
  have hsz := hk5.size
  clear hk3 hk4 hN' hN3 hN c0 c2 f2 hk
  have c0 := B0.cell
  have c1 := B1.cell
  have f1 := B1.frozen
  have c2 := B2.cell
  have f2 := B2.frozen
  simp only [List.setIfInBounds_toArray, List.set_cons_succ, List.set_cons_zero] at c2
  go_wp2_with fail
  have hlt5 := B2.lt
  refine bodyPost_ret (v := .agg #[.int .i64 t.start, .slice (some ⟨g, 0, none⟩) t.goal.length t.goal.length, .slice (some ⟨g', 0, none⟩) t.deeds.length t.deeds.length])
    (by simp [results, Tryd.results18, go_sem, c1]) rfl ?_
  refine ⟨_, rfl, ?_, ?_⟩
  · have q1 : w.heap.size + 1 < w.heap.size + 1 + 1 + 1 ∨ w4.heap.size ≤ w.heap.size + 1 := by omega
    have q2 : w.heap.size + 1 + 1 < w.heap.size + 1 + 1 + 1 ∨ w4.heap.size ≤ w.heap.size + 1 + 1 := by omega
    have hl := Nat.le_refl w4.heap.size
    have := ((((hN4.and hD4).setCell (p := ⟨w.heap.size + 1 + 1, 2, none⟩) hl q2 (.slice (some ⟨g', 0, none⟩) t.deeds.length t.deeds.length)).setCell (p := ⟨w.heap.size + 1, 0, none⟩) (by simp) q1 (.int .i64 t.start)).setCell (p := ⟨w.heap.size + 1, 1, none⟩) (by simp) q1 (.slice (some ⟨g, 0, none⟩) t.goal.length t.goal.length)).setCell (p := ⟨w.heap.size + 1, 2, none⟩) (by simp) q1 (.slice (some ⟨g', 0, none⟩) t.deeds.length t.deeds.length)
    exact ⟨_, _, rfl, ⟨by omega, (this.more (by omega) (by simp)).imp (fun w' h => ⟨h.1, ODeeds.more h.2 (by omega)⟩)⟩, by omega, (this.more (by omega) (by simp)).imp (fun w h => ⟨_, _, _, _, _, _, rfl, h.1.ints, h.2.deeds, h1⟩)⟩
  · exact (((hk5.setCell (p := ⟨w.heap.size + 1 + 1, 2, none⟩) hp2 _).setCell (p := ⟨w.heap.size + 1, 0, none⟩) hp1 _).setCell (p := ⟨w.heap.size + 1, 1, none⟩) hp1 _).setCell (p := ⟨w.heap.size + 1, 2, none⟩) hp1 _

end Go.Proofs.YtphdojebdclonaaDoor

namespace Go.Proofs.YtphdojebdclonaaDoor
set_option linter.unusedSimpArgs false
set_option linter.unusedVariables false
open Go.RowKit

theorem c_eqIntS (A A' : Option Addr) (n n' c c' : Nat) (l l' : List Int) (w : World) (h : Ints w A n l) (h' : Ints w A' n' l') (he : l = l') :
    Calls Tryd.prog 22 #[.slice A n c, .slice A' n' c'] w (RetK (.bool true) w) := by
  subst he
  obtain rfl : n = n' := h.len.symm.trans h'.len
  have hn := h.le
  go_enter Tryd.func22, Tryd.ntmps22
  go_wp2_with fail
  go_loopw [5] (fun i wr => ∃ k : Nat, k ≤ n ∧ i = .int .i64 k ∧ Kept w wr) (fun i _ => n - (intOf i).toNat)
  case atStart => exact ⟨0, Nat.zero_le _, rfl, Kept.refl _⟩
  case round =>
    obtain ⟨k, hk, rfl, hkp⟩ := hrel
    by_cases hlt : k < n
    · obtain ⟨b, off, rfl, hb, hc, _⟩ := (h.keep hkp).at hlt
      obtain ⟨b', off', rfl, hb', hc', _⟩ := (h'.keep hkp).at hlt
      generalize l.getD k default = x at *
      have hlt' : (k : Int) < (n : Int) := by omega
      have hk0 : (0 : Int) ≤ (k : Int) := by omega
      go_wp2_with fail
      go_quiet (fail)
      go_wp2_with fail
      exact ⟨⟨k + 1, by omega, by go_num, hkp.drewN _⟩, by simp [intOf]; omega⟩
    · go_wp2_with fail
      go_ret
      exact ⟨rfl, hkp⟩

theorem c_eqDeed (v v' : Value) (d d' : Sp.Deed) (w : World) (h : DeedV w v d) (h' : DeedV w v' d') (he : d = d') :
    Calls Tryd.prog 118 #[v, v'] w (RetK (.bool true) w) := by
  subst he
  obtain ⟨A, n, c, rfl, hI, _, _, _⟩ := h
  obtain ⟨A', n', c', rfl, hI', _, _, _⟩ := h'
  have hk := (((Kept.refl w).alloc (.cells #[.slice A n c, .int .i64 d.on, .int .i64 d.off, .int .i64 d.flip] 72))).alloc (.cells #[.slice A' n' c', .int .i64 d.on, .int .i64 d.off, .int .i64 d.flip] 72)
  have B0 := ((Blk.new w 72 #[.slice A n c, .int .i64 d.on, .int .i64 d.off, .int .i64 d.flip])).alloc (.cells #[.slice A' n' c', .int .i64 d.on, .int .i64 d.off, .int .i64 d.flip] 72)
  have B1 := (Blk.new (w.alloc (.cells #[.slice A n c, .int .i64 d.on, .int .i64 d.off, .int .i64 d.flip] 72)) 72 #[.slice A' n' c', .int .i64 d.on, .int .i64 d.off, .int .i64 d.flip])
  simp only [World.size_alloc] at B1
  go_enter Tryd.func118, Tryd.ntmps118
  go_wp2_with fail
  refine (c_eqIntS _ _ _ _ _ _ _ _ _ (hI.keep hk) (hI'.keep hk) rfl).mono ?_; rintro e w2 ⟨rfl, hk2⟩
  have c0 := (B0.kept hk2).cell
  have c1 := (B1.kept hk2).cell
  go_wp2_with fail
  go_ret
  exact ⟨rfl, hk.trans hk2⟩

set_option maxRecDepth 100000 in
theorem c_eqDeedS (A A' : Option Addr) (n n' c c' : Nat) (l l' : List Sp.Deed) (w : World) (h : Deeds w A n l) (h' : Deeds w A' n' l') (he : l = l') :
    Calls Tryd.prog 60 #[.slice A n c, .slice A' n' c'] w (RetK (.bool true) w) := by
  subst he
  obtain rfl : n = n' := h.len.symm.trans h'.len
  have hn := h.le
  go_enter Tryd.func60, Tryd.ntmps60
  go_wp2_with fail
  go_loopw [5] (fun i wr => ∃ k : Nat, k ≤ n ∧ i = .int .i64 k ∧ Kept w wr) (fun i _ => n - (intOf i).toNat)
  case atStart => exact ⟨0, Nat.zero_le _, rfl, Kept.refl _⟩
  case round =>
    obtain ⟨k, hk, rfl, hkp⟩ := hrel
    by_cases hlt : k < n
    · obtain ⟨b, off, rfl, hb, hc⟩ := (h.keep hkp).at hlt
      obtain ⟨b', off', rfl, hb', hc'⟩ := (h'.keep hkp).at hlt
      generalize l.getD k default = d at *
      obtain ⟨A2, n2, c2, hc0, hc1, hc2, hc3, hdv⟩ := hc.v
      obtain ⟨A3, n3, c3, hd0, hd1, hd2, hd3, hdv'⟩ := hc'.v
      have hlt' : (k : Int) < (n : Int) := by omega
      have hk0 : (0 : Int) ≤ (k : Int) := by omega
      go_wp2_with fail
      go_still_tail 8, (by kernel_rfl)
      change wpList _ _ _ _ _ wr.drew
      have hkd := (Kept.refl wr).drew
      go_wp2_with fail
      refine (c_eqDeed _ _ d d _ (hdv.keep hkd) (hdv'.keep hkd) rfl).mono ?_; rintro e w2 ⟨rfl, hk2⟩
      go_wp2_with fail
      exact ⟨⟨k + 1, by omega, by go_num, hkp.trans (hkd.trans hk2)⟩, by simp [intOf]; omega⟩
    · go_wp2_with fail
      go_ret
      exact ⟨rfl, hkp⟩

theorem c_eqTask (v v' : Value) (t t' : Sp.Task) (w : World) (h : TaskV w v t) (h' : TaskV w v' t') (he : t = t') :
    Calls Tryd.prog 21 #[v, v'] w (RetK (.bool true) w) := by
  subst he
  obtain ⟨A, n, c, A2, n2, c2, rfl, hI, hD, _⟩ := h
  obtain ⟨A', n', c', A2', n2', c2', rfl, hI', hD', _⟩ := h'
  have hk := (((Kept.refl w).alloc (.cells #[.int .i64 t.start, .slice A n c, .slice A2 n2 c2] 26))).alloc (.cells #[.int .i64 t.start, .slice A' n' c', .slice A2' n2' c2'] 26)
  have B0 := ((Blk.new w 26 #[.int .i64 t.start, .slice A n c, .slice A2 n2 c2])).alloc (.cells #[.int .i64 t.start, .slice A' n' c', .slice A2' n2' c2'] 26)
  have B1 := (Blk.new (w.alloc (.cells #[.int .i64 t.start, .slice A n c, .slice A2 n2 c2] 26)) 26 #[.int .i64 t.start, .slice A' n' c', .slice A2' n2' c2'])
  simp only [World.size_alloc] at B1
  go_enter Tryd.func21, Tryd.ntmps21
  go_wp2_with fail
  refine (c_eqIntS _ _ _ _ _ _ _ _ _ (hI.keep hk) (hI'.keep hk) rfl).mono ?_; rintro e w2 ⟨rfl, hk2⟩
  replace B0 := B0.kept hk2
  replace B1 := B1.kept hk2
  replace hk := hk.trans hk2
  have c0 := B0.cell
  have c1 := B1.cell
  go_wp2_with fail
  refine (c_eqDeedS _ _ _ _ _ _ _ _ _ (hD.keep hk) (hD'.keep hk) rfl).mono ?_; rintro e w3 ⟨rfl, hk3⟩
  go_wp2_with fail
  go_ret
  exact ⟨rfl, hk.trans hk3⟩

end Go.Proofs.YtphdojebdclonaaDoor

namespace Go.Proofs.YtphdojebdclonaaDoor
set_option linter.unusedSimpArgs false
set_option linter.unusedVariables false
open Go.RowKit

/-- what has changed lies in the blocks from B to C, and is integers that were integers -/
def But (B C : Nat) (w w' : World) : Prop :=
  (∀ a, Kept a w → a.heap.size ≤ B → Kept a w') ∧ (∀ b, b < w.heap.size → (b < B ∨ C ≤ b) → w'.heap[b]? = w.heap[b]?) ∧ w.heap.size ≤ w'.heap.size ∧
  (∀ p v, w.cell? p = some v → w'.cell? p = some v ∨ ((∃ x, v = .int .i64 x) ∧ ∃ y, w'.cell? p = some (.int .i64 y))) ∧ (∀ p : Addr, p.block < w.heap.size → w'.frozen? p = w.frozen? p)

section
variable {B C : Nat} {w w' w2 : World}
theorem But.of_kept (h : Kept w w') : But B C w w' :=
  ⟨fun _ ha _ => ha.trans h, fun b hb _ => Below.block h b hb, h.size, fun p v hv => .inl (by rw [Below.cell h (World.block_lt_of_cell? _ _ hv)]; exact hv), fun p hp => Below.frozen h hp⟩
theorem But.refl (w : World) : But B C w w := But.of_kept (Kept.refl w)
theorem But.trans (h : But B C w w') (k : But B C w' w2) : But B C w w2 := by
  refine ⟨fun a ha hB => k.1 a (h.1 a ha hB) hB, fun b hb hr => (k.2.1 b (by have := h.2.2.1; omega) hr).trans (h.2.1 b hb hr), Nat.le_trans h.2.2.1 k.2.2.1, fun p v hv => ?_, fun p hp => (k.2.2.2.2 p (by have := h.2.2.1; omega)).trans (h.2.2.2.2 p hp)⟩
  rcases h.2.2.2.1 p v hv with h1 | ⟨⟨x, rfl⟩, y, h1⟩
  · exact k.2.2.2.1 p v h1
  · rcases k.2.2.2.1 p _ h1 with h2 | ⟨_, z, h2⟩
    · exact .inr ⟨⟨x, rfl⟩, y, h2⟩
    · exact .inr ⟨⟨x, rfl⟩, z, h2⟩
theorem But.set (h : But B C w w') {p : Addr} {x : Int} (hc : w'.cell? p = some (.int .i64 x)) (h1 : B ≤ p.block) (h2 : p.block < C) (y : Int) : But B C w (w'.setCell p (.int .i64 y)) := by
  refine h.trans ⟨fun a ha hB => ha.setCell (by omega) _, fun b _ hr => Below.heap_setCell w' p _ b (by omega), by simp, fun q v hv => ?_, fun q _ => by simp⟩
  by_cases e : p = q
  · subst e
    rw [hc] at hv
    cases hv
    exact .inr ⟨⟨x, rfl⟩, y, World.cell?_setCell_same _ _ _ hc⟩
  · exact .inl (by rw [World.cell?_setCell_other _ _ _ _ e]; exact hv)
theorem But.own {g n : Nat} {l : List Int} (h : But B C w w') (hO : Own w g n l) (hg : g < B ∨ C ≤ g) : Own w' g n l :=
  hO.same (fun hb => ⟨h.2.1 g hb hg, by have := h.2.2.1; omega⟩)
theorem But.kept (h : But B C w w') {a : World} (hk : Kept a w) (hB : a.heap.size ≤ B) : Kept a w' := h.1 a hk hB
end

/-- n integers that may be written, in a block from B to C -/
def Sh (B C : Nat) (w : World) (A : Option Addr) (n : Nat) : Prop :=
  0 < n → ∃ b o, A = some ⟨b, o, none⟩ ∧ B ≤ b ∧ b < C ∧ b < w.heap.size ∧ ∀ k, k < n → (∃ x, w.cell? ⟨b, o + k, none⟩ = some (.int .i64 x)) ∧ w.frozen? ⟨b, o + k, none⟩ = false
theorem But.int {B C : Nat} {w w' : World} (h : But B C w w') {p : Addr} (hx : ∃ x, w.cell? p = some (.int .i64 x)) : ∃ x, w'.cell? p = some (.int .i64 x) := by
  obtain ⟨x, hx⟩ := hx
  rcases h.2.2.2.1 p _ hx with h1 | ⟨_, h1⟩
  · exact ⟨x, h1⟩
  · exact h1
theorem But.slice {B C : Nat} {w w' : World} (h : But B C w w') {p : Addr} {A : Option Addr} {n c : Nat} (hx : w.cell? p = some (.slice A n c)) : w'.cell? p = some (.slice A n c) := by
  rcases h.2.2.2.1 p _ hx with h1 | ⟨⟨x, e⟩, _⟩
  · exact h1
  · cases e
theorem Sh.but {B C : Nat} {w w' : World} {A : Option Addr} {n B' C' : Nat} (h : Sh B' C' w A n) (hb : But B C w w') : Sh B' C' w' A n := fun hn => by
  obtain ⟨b, o, e, h1, h2, h3, h4⟩ := h hn
  exact ⟨b, o, e, h1, h2, Nat.lt_of_lt_of_le h3 hb.2.2.1, fun k hk => ⟨hb.int (h4 k hk).1, by rw [hb.2.2.2.2 _ h3]; exact (h4 k hk).2⟩⟩
theorem Own.sh {B C : Nat} {w : World} {g n : Nat} {l : List Int} (h : Own w g n l) (hB : B ≤ g) (hC : g < C) : Sh B C w (some ⟨g, 0, none⟩) n := fun hn => by
  obtain ⟨b, o, e, hb, hc⟩ := h.ints.2.2.2 hn
  simp only [Option.some.injEq, Addr.mk.injEq] at e
  obtain ⟨rfl, rfl, _⟩ := e
  exact ⟨_, _, rfl, hB, hC, h.1, fun k hk => ⟨⟨_, hc k hk⟩, h.2.1 _⟩⟩

def Marked (w : World) (A : Option Addr) (n : Nat) (k : Int) : Prop := 0 < n → ∃ b o, A = some ⟨b, o, none⟩ ∧ b < w.heap.size ∧ ∀ j, j < n → w.cell? ⟨b, o + j, none⟩ = some (.int .i64 (k + j))
theorem Marked.keep {w w' : World} {A : Option Addr} {n : Nat} {k : Int} (h : Marked w A n k) (hk : Kept w w') : Marked w' A n k := fun hn => by
  obtain ⟨b, o, e, hb, hc⟩ := h hn
  exact ⟨b, o, e, Nat.lt_of_lt_of_le hb hk.size, fun j hj => by rw [hk.cell hb]; exact hc j hj⟩

def MarkQ (B C : Nat) (A : Option Addr) (n : Nat) (k : Int) (w : World) (e : Ending) (w' : World) : Prop := e = .returned (.int .i64 (k + n)) ∧ But B C w w' ∧ Marked w' A n k

theorem c_markIntS (B C : Nat) (A : Option Addr) (n c : Nat) (k : Int) (w : World) (h : Sh B C w A n) (hn : n ≤ 1073741824) (h0 : 0 ≤ k) (h1 : k ≤ 2305843009213693952) :
    Calls Tryd.prog 89 #[.slice A n c, .int .i64 k] w (MarkQ B C A n k w) := by
  go_enter Tryd.func89, Tryd.ntmps89
  go_wp2_with fail
  go_loopw [5, 1] (fun i y wr => ∃ j : Nat, j ≤ n ∧ i = .int .i64 j ∧ y = .int .i64 (k + j) ∧ But B C w wr ∧ Hid (∀ b o, A = some ⟨b, o, none⟩ → ∀ i, i < j → wr.cell? ⟨b, o + i, none⟩ = some (.int .i64 (k + i)))) (fun i _ _ => n - (intOf i).toNat)
  case atStart => exact ⟨0, Nat.zero_le _, rfl, by simp, But.refl w, fun b o _ i hi => by omega⟩
  case round =>
    obtain ⟨j, hj, rfl, rfl, hb, HA⟩ := hrel
    by_cases hlt : j < n
    · obtain ⟨b, o, rfl, h2, h3, h4, h5⟩ := h.but hb (by omega)
      obtain ⟨⟨x, hx⟩, hf⟩ := h5 j hlt
      have HB := Lib.hid (hb.set hx h2 h3 (k + j))
      have HX : Hid (∀ b' o', some (⟨b, o, none⟩ : Addr) = some ⟨b', o', none⟩ → ∀ i, i < j + 1 → (wr.setCell ⟨b, o + j, none⟩ (.int .i64 (k + j))).cell? ⟨b', o' + i, none⟩ = some (.int .i64 (k + i))) := by
        rintro b' o' ⟨⟩ i hi
        by_cases e : i = j
        · subst e; exact World.cell?_setCell_same _ _ _ hx
        · rw [World.cell?_setCell_other _ _ _ _ (by intro e2; simp only [Addr.mk.injEq] at e2; omega)]
          exact HA.out _ _ rfl i (by omega)
      clear h5
      go_wp2_with fail
      exact ⟨⟨j + 1, by omega, by go_num, by go_num, HB.out, HX⟩, by simp [intOf]; omega⟩
    · go_wp2_with fail
      go_ret
      obtain rfl : j = n := by omega
      refine ⟨rfl, hb, fun hp => ?_⟩
      obtain ⟨b, o, e, _, _, h3, _⟩ := h.but hb hp
      exact ⟨b, o, e, h3, HA.out b o e⟩

theorem c_heldIntS (A : Option Addr) (n c : Nat) (k : Int) (w : World) (h : Marked w A n k) (hn : n ≤ 1073741824) (h0 : 0 ≤ k) (h1 : k ≤ 2305843009213693952) :
    Calls Tryd.prog 91 #[.slice A n c, .int .i64 k] w (Ret (.int .i64 (k + n)) w) := by
  go_enter Tryd.func91, Tryd.ntmps91
  go_wp2_with fail
  go_loop [5, 1] (fun i y => ∃ j : Nat, j ≤ n ∧ i = .int .i64 j ∧ y = .int .i64 (k + j)) (fun i _ => n - (intOf i).toNat)
  case atStart => exact ⟨0, Nat.zero_le _, rfl, by simp⟩
  case round =>
    obtain ⟨j, hj, rfl, rfl⟩ := hrel
    by_cases hlt : j < n
    · obtain ⟨b, o, rfl, h2, h3⟩ := h (by omega)
      have h4 := h3 j hlt
      clear h3
      go_wp2_with fail
      exact ⟨⟨j + 1, by omega, by go_num, by go_num⟩, by simp [intOf]; omega⟩
    · go_wp2_with fail
      go_ret
      obtain rfl : j = n := by omega
      exact ⟨rfl, rfl⟩

/-- n deeds that may be written, in block g, theirs in blocks from B to C -/
def ShD (B C : Nat) (w : World) (g n : Nat) : Prop :=
  B ≤ g ∧ g < C ∧ g < w.heap.size ∧ (∀ i, w.frozen? ⟨g, i, none⟩ = false) ∧
    ∀ k, k < n → ∃ A m c, w.cell? ⟨g, k * 4, none⟩ = some (.slice A m c) ∧ m ≤ 1048576 ∧ Sh B C w A m ∧ ∀ i, i < 3 → ∃ x, w.cell? ⟨g, k * 4 + (i + 1), none⟩ = some (.int .i64 x)
theorem ShD.but {B C : Nat} {w w' : World} {g n B' C' : Nat} (h : ShD B' C' w g n) (hb : But B C w w') : ShD B' C' w' g n := by
  obtain ⟨h1, h2, h3, h4, h5⟩ := h
  refine ⟨h1, h2, Nat.lt_of_lt_of_le h3 hb.2.2.1, fun i => by rw [hb.2.2.2.2 _ h3]; exact h4 i, fun k hk => ?_⟩
  obtain ⟨A, m, c, h6, h7, h8, h9⟩ := h5 k hk
  exact ⟨A, m, c, hb.slice h6, h7, h8.but hb, fun i hi => hb.int (h9 i hi)⟩
theorem ODeeds.sh {B C : Nat} {w : World} {g : Nat} {l : List Sp.Deed} (h : ODeeds B w g l) (hC : w.heap.size ≤ C) (hm : ∀ d ∈ l, d.need.length ≤ 1048576) : ShD B C w g l.length := by
  obtain ⟨h1, h2, h3, _, h5⟩ := h
  refine ⟨h1, by omega, h2, h3, fun k hk => ?_⟩
  obtain ⟨g2, h6, h7, h8, h9, h10, h11, _⟩ := h5 k hk
  refine ⟨_, _, _, h7, hm _ ?_, h8.sh h6 (by have := h8.1; omega), fun i hi => ?_⟩
  · simp only [List.getD_eq_getElem?_getD, List.getElem?_eq_getElem hk, Option.getD_some]
    exact List.getElem_mem _
  · match i, hi with
    | 0, _ => exact ⟨_, h9⟩
    | 1, _ => exact ⟨_, h10⟩
    | 2, _ => exact ⟨_, h11⟩

def MarkDQ (M : Int) (B C : Nat) (k : Int) (w : World) (e : Ending) (w' : World) : Prop := ∃ k', e = .returned (.int .i64 k') ∧ k ≤ k' ∧ k' ≤ k + M ∧ But B C w w'

theorem c_markDeedS (B C g n c : Nat) (k : Int) (w : World) (h : ShD B C w g n) (hn : n ≤ 1048576) (h0 : 0 ≤ k) (h1 : k ≤ 1125899906842624) :
    Calls Tryd.prog 90 #[.slice (some ⟨g, 0, none⟩) n c, .int .i64 k] w (MarkDQ 1099514773504 B C k w) := by
  go_enter Tryd.func90, Tryd.ntmps90
  go_wp2_with fail
  go_loopw [5, 1] (fun i y wr => ∃ (j : Nat) (k' : Int), j ≤ n ∧ i = .int .i64 j ∧ y = .int .i64 k' ∧ k ≤ k' ∧ k' ≤ k + (j : Int) * 1048579 ∧ But B C w wr) (fun i _ _ => n - (intOf i).toNat)
  case atStart => exact ⟨0, k, Nat.zero_le _, rfl, rfl, Int.le_refl _, by omega, But.refl w⟩
  case round =>
    obtain ⟨j, k', hj, rfl, rfl, hk1, hk2, hb⟩ := hrel
    by_cases hlt : j < n
    · obtain ⟨q1, q2, q3, q4, q5⟩ := h.but hb
      obtain ⟨A, m, c2, h6, h7, h8, h9⟩ := q5 j hlt
      have f0 := fun i => q4 (j * 4 + i)
      clear q4 q5
      have hk3 : k' ≤ 2305843009213693952 := by omega
      go_wp2_with fail
      refine (c_markIntS B C A m c2 k' wr h8 (by omega) (by omega) (by omega)).mono ?_; rintro e w2 ⟨rfl, hb2, _⟩
      have hq3 := hb2.2.2.1
      obtain ⟨x1, e1⟩ := hb2.int (h9 0 (by omega))
      obtain ⟨x2, e2⟩ := hb2.int (h9 1 (by omega))
      obtain ⟨x3, e3⟩ := hb2.int (h9 2 (by omega))
      simp only [Nat.zero_add, Nat.reduceAdd] at e1 e2 e3
      have f1 : ∀ i, w2.frozen? ⟨g, j * 4 + i, none⟩ = false := fun i => by rw [hb2.2.2.2.2 _ q3]; exact f0 i
      have b1 := (hb.trans hb2).set e1 q1 q2 (k' + m)
      have e2' : (w2.setCell ⟨g, j * 4 + 1, none⟩ (.int .i64 (k' + m))).cell? ⟨g, j * 4 + 2, none⟩ = some (.int .i64 x2) := by rw [World.cell?_setCell_other _ _ _ _ (by intro e; simp at e)]; exact e2
      have b2 := b1.set e2' q1 q2 (k' + m + 1)
      have e3' : ((w2.setCell ⟨g, j * 4 + 1, none⟩ (.int .i64 (k' + m))).setCell ⟨g, j * 4 + 2, none⟩ (.int .i64 (k' + m + 1))).cell? ⟨g, j * 4 + 3, none⟩ = some (.int .i64 x3) := by rw [World.cell?_setCell_other _ _ _ _ (by intro e; simp at e), World.cell?_setCell_other _ _ _ _ (by intro e; simp at e)]; exact e3
      have HB := Lib.hid (b2.set e3' q1 q2 (k' + m + 1 + 1))
      clear b1 b2 e2' e3' h6 h9 f0
      go_wp2_with fail
      exact ⟨⟨j + 1, k' + m + 1 + 1 + 1, by omega, by go_num, by go_num, by omega, by omega, HB.out⟩, by simp [intOf]; omega⟩
    · go_wp2_with fail
      go_ret
      exact ⟨k', rfl, hk1, by omega, hb⟩

theorem c_markTask (B C g g' n n' c c' : Nat) (x : Int) (k : Int) (w : World) (hS0 : Sh B C w (some ⟨g, 0, none⟩) n) (hSD0 : ShD B C w g' n') (hn : n ≤ 1048576) (hn' : n' ≤ 1048576) (h0 : 0 ≤ k) (h1 : k ≤ 1048576) :
    Calls Tryd.prog 34 #[.agg #[.int .i64 x, .slice (some ⟨g, 0, none⟩) n c, .slice (some ⟨g', 0, none⟩) n' c'], .int .i64 k] w (MarkDQ 1125899906842624 B C k w) := by
  have hk := (Kept.refl w).alloc (.cells #[.int .i64 x, .slice (some ⟨g, 0, none⟩) n c, .slice (some ⟨g', 0, none⟩) n' c'] 26)
  have hb0 : But B C w _ := But.of_kept hk
  have B0 := Blk.new w 26 #[.int .i64 x, .slice (some ⟨g, 0, none⟩) n c, .slice (some ⟨g', 0, none⟩) n' c']
  have hS := hS0.but hb0
  have hSD := hSD0.but hb0
  go_enter Tryd.func34, Tryd.ntmps34
  go_wp2_with fail
  refine (c_markIntS B C _ _ _ _ _ hS (by omega) (by omega) (by omega)).mono ?_; rintro e w2 ⟨rfl, hb2, _⟩
  have c0 : w2.cell? ⟨w.heap.size, 2, none⟩ = some (.slice (some ⟨g', 0, none⟩) n' c') := hb2.slice (B0.cell 2)
  replace hSD := hSD.but hb2
  have hb3 := hb0.trans hb2
  clear hb2 hS
  go_wp2_with fail
  refine (c_markDeedS B C _ _ _ _ _ hSD (by omega) (by omega) (by omega)).mono ?_; rintro e w4 ⟨k4, rfl, h2, h3, hb4⟩
  go_wp2_with fail
  go_ret
  exact ⟨_, rfl, by omega, by omega, hb3.trans hb4⟩

theorem But.blk {B C : Nat} {w w' : World} {g : Nat} {T : TypeId} {cs : Array Value} (h : But B C w w') (hB : Blk w g T cs) (hg : g < B ∨ C ≤ g) : Blk w' g T cs := (h.2.1 g hB.lt hg).trans hB

/-- a list of integers that a call made, in a block from B to C -/
def OI (B C : Nat) (w : World) (A : Option Addr) (l : List Int) : Prop :=
  Ints w A l.length l ∧ (0 < l.length → ∃ g, A = some ⟨g, 0, none⟩ ∧ B ≤ g ∧ g < C ∧ Own w g l.length l)
theorem OI.keep {B C : Nat} {w w' : World} {A : Option Addr} {l : List Int} (h : OI B C w A l) (hk : Kept w w') : OI B C w' A l :=
  ⟨h.1.keep hk, fun hn => by obtain ⟨g, e, h1, h2, h3⟩ := h.2 hn; exact ⟨g, e, h1, h2, h3.keep hk⟩⟩
theorem OI.but {B C B' C' : Nat} {w w' : World} {A : Option Addr} {l : List Int} (h : OI B C w A l) (hb : But B' C' w w') (hd : C ≤ B' ∨ C' ≤ B) : OI B C w' A l := by
  by_cases hn : 0 < l.length
  · obtain ⟨g, rfl, h1, h2, h3⟩ := h.2 hn
    have h4 := hb.own h3 (by omega)
    exact ⟨h4.ints, fun _ => ⟨g, rfl, h1, h2, h4⟩⟩
  · exact ⟨⟨h.1.1, h.1.2.1, h.1.2.2.1, fun h => absurd h hn⟩, fun h => absurd h hn⟩
theorem OI.sh {B C : Nat} {w : World} {A : Option Addr} {l : List Int} (h : OI B C w A l) : Sh B C w A l.length := fun hn => by
  obtain ⟨g, rfl, h1, h2, h3⟩ := h.2 hn
  exact h3.sh h1 h2 hn

end Go.Proofs.YtphdojebdclonaaDoor

namespace Go.Proofs.YtphdojebdclonaaDoor
set_option linter.unusedSimpArgs false
set_option linter.unusedVariables false
open Go.RowKit

theorem TaskV.form {w : World} {v : Value} {t : Sp.Task} (h : TaskV w v t) : ∃ A n c A' n' c', v = .agg #[.int .i64 t.start, .slice A n c, .slice A' n' c'] := by
  obtain ⟨A, n, c, A', n', c', e, _⟩ := h
  exact ⟨A, n, c, A', n', c', e⟩

/-- a callee that leaves the world, inside a region that draws -/
theorem quiet_ret {P : Program} {f : FuncId} {args : Array Value} {w : World} {n : Nat} {v : Value} (h : Calls P f args (w.drewN n) (Ret v (w.drewN n))) :
    Calls P f args (w.drewN n) fun e w'' => e = .returned v ∧ ∃ m, w'' = w.drewN m :=
  h.mono fun _ _ ⟨he, hm⟩ => ⟨he, n, hm.symm⟩

def Sp.even (a s f : Nat) : Bool := (cnt (s &&& f) + cnt (a &&& f)) % 2 == 0
def Sp.sumSet (a f : Nat) : Nat := Sp.setOf 32 (fun s => Sp.even a s f)
def Sp.sumStates (t : Sp.Task) (f : Int) : Int := if Sp.taskOk t = true ∧ Sp.stOk f = true then (Sp.sumSet t.start.toNat f.toNat : Nat) else -1

theorem Sp.taskOk_start {t : Sp.Task} (h : Sp.taskOk t = true) : 0 ≤ t.start ∧ t.start ≤ 31 := by
  unfold Sp.taskOk at h
  simp only [Bool.and_eq_true] at h
  exact st_bd h.1.1.1
theorem Sp.taskOk_goal {t : Sp.Task} (h : Sp.taskOk t = true) : Sp.codeOk t.goal = true := by
  unfold Sp.taskOk at h
  simp only [Bool.and_eq_true] at h
  exact h.1.1.2
theorem Sp.taskOk_len {t : Sp.Task} (h : Sp.taskOk t = true) : t.deeds.length ≤ 6 := by
  unfold Sp.taskOk at h
  simp only [Bool.and_eq_true, decide_eq_true_eq] at h
  exact h.1.2
theorem Sp.taskOk_deed {t : Sp.Task} (h : Sp.taskOk t = true) {k : Nat} (hk : k < t.deeds.length) : Sp.deedOk (t.deeds.getD k default) = true := by
  unfold Sp.taskOk at h
  simp only [Bool.and_eq_true, List.all_eq_true] at h
  apply h.2
  simp only [List.getD_eq_getElem?_getD, List.getElem?_eq_getElem hk, Option.getD_some]
  exact List.getElem_mem _

theorem setOf_step_yes (n : Nat) (f : Nat → Bool) (h : f n = true) : Sp.setOf (n + 1) f = Sp.setOf n f + 2 ^ n := by simp [Sp.setOf, h]
theorem setOf_step_no (n : Nat) (f : Nat → Bool) (h : f n = false) : Sp.setOf (n + 1) f = Sp.setOf n f := by simp [Sp.setOf, h]
theorem even_b (a s f : Nat) : (((cnt (s &&& f) : Int) + (cnt (a &&& f) : Int)) % 2 == 0) = Sp.even a s f := by
  unfold Sp.even
  rw [Bool.eq_iff_iff, beq_iff_eq, beq_iff_eq]
  omega
theorem even_b2 (a s f : Nat) : ((cnt (s &&& f) : Int) % 2 == (cnt (a &&& f) : Int) % 2) = Sp.even a s f := by
  unfold Sp.even
  rw [Bool.eq_iff_iff, beq_iff_eq, beq_iff_eq]
  omega
theorem setOf_step (n : Nat) (f : Nat → Bool) (_hn : n < 32) :
    (f n = true → ((Sp.setOf (n + 1) f : Nat) : Int) = (Sp.setOf n f : Nat) + p2 n) ∧ (f n = true → Sp.setOf n f ||| 2 ^ n = Sp.setOf (n + 1) f) ∧ (f n = false → Sp.setOf (n + 1) f = Sp.setOf n f) := by
  refine ⟨fun h => ?_, fun h => Sp.setOf_or n f h, setOf_step_no n f⟩
  rw [setOf_step_yes n f h, p2_nat]; simp
theorem setOf_bd (n : Nat) (f : Nat → Bool) (hn : n ≤ 32) : Sp.setOf n f < 4294967296 := by
  have h1 := Sp.setOf_lt n f
  have h2 : 2 ^ n ≤ 2 ^ 32 := Nat.pow_le_pow_right (by decide) hn
  omega
theorem p2_bd32 (k : Nat) (h : k ≤ 32) : 1 ≤ p2 k ∧ p2 k ≤ 4294967296 := by
  have h1 := p2_bd k 32 h
  have h2 := p2_nat 32
  rw [show ((2 ^ 32 : Nat) : Int) = 4294967296 from rfl] at h2
  omega

theorem or_p2 (s k : Nat) (hs : s < 4294967296) (hk : k < 32) : bits .or .i64 (s : Int) (p2 k) = ((s ||| 2 ^ k : Nat) : Int) := by
  rw [p2_nat]
  exact i64_or_nat s (2 ^ k) (by omega) (by have : 2 ^ k ≤ 2 ^ 32 := Nat.pow_le_pow_right (by decide) (by omega)
                                            omega)
theorem and_nat_int (k : Nat) (f : Int) (hk : k < 4294967296) (h0 : 0 ≤ f) (h1 : f ≤ 4294967296) : bits .and .i64 (k : Int) f = ((k &&& f.toNat : Nat) : Int) := by
  have := i64_and k f (by omega) (by omega) h0 (by omega)
  rwa [Int.toNat_natCast] at this

end Go.Proofs.YtphdojebdclonaaDoor
