/- Walks: the exact laws' own helpers: sizes, copies, equality. No condition. -/
import Derived.Test.YthkcdjnnacdeoaaW3
import Derived.Deep.QuietTactic
import Derived.BigQuiet
import Derived.StillTailTactics
import Derived.Laws.MakeOwn
namespace Go.Proofs.Ythkcdjnnacdeoaa
open Go.RowKit

def SzQ (ns : List Nat) (left : Int) (v : Value) (_w : World) : Prop := ∃ r : Int, v = .int .i64 r ∧ (r = -1 ∨ (0 ≤ r ∧ r ≤ left ∧ ∀ n ∈ ns, (n : Int) ≤ left))

theorem c_szIntS (A : Option Addr) (n c : Nat) (l : List Int) (left : Int) (w : World) (h : Ints w A n l) (h0 : 0 ≤ left) (h1 : left ≤ 1048576) :
    Calls Try.prog 107 #[.slice A n c, .int .i64 left] w (RetS (SzQ [n] left) w) := by
  have hn := h.le
  by_cases hlt : left < (n : Int)
  · go_enter Try.func107, Try.ntmps107
    go_wp2
    go_ret
    exact ⟨_, rfl, ⟨-1, rfl, .inl rfl⟩, Kept.refl _⟩
  · go_enter Try.func107, Try.ntmps107
    go_wp2
    go_ret
    exact ⟨_, rfl, ⟨left - n, rfl, .inr ⟨by omega, by omega, by simp; omega⟩⟩, Kept.refl _⟩

theorem c_szDeed (v : Value) (d : Sp.Deed) (left : Int) (w : World) (h : DeedV w v d) (h0 : 0 ≤ left) (h1 : left ≤ 1048576) :
    Calls Try.prog 125 #[v, .int .i64 left] w (RetS (SzQ [d.need.length] left) w) := by
  obtain ⟨A, n, c, rfl, hI, _, _, _⟩ := h
  have hk := (Kept.refl w).alloc (.cells #[.slice A n c, .int .i64 d.on, .int .i64 d.off, .int .i64 d.flip] 99)
  have hI' := hI.keep hk
  have HL := Lib.hid hI.len
  go_enter Try.func125, Try.ntmps125
  go_wp2_with fail
  refine (c_szIntS _ _ _ _ _ _ hI' h0 h1).mono ?_; rintro e w2 ⟨v, rfl, ⟨r, rfl, hr⟩, hk2⟩
  have HR := Lib.hid hr
  clear hr
  by_cases hr : r < 0
  · go_wp2
    go_ret
    exact ⟨_, rfl, ⟨-1, rfl, .inl rfl⟩, hk.trans hk2⟩
  · go_wp2
    go_ret
    refine ⟨_, rfl, ⟨r, rfl, ?_⟩, hk.trans hk2⟩
    rw [HL.out]
    exact HR.out

def lens (t : Sp.Task) : List Nat := t.goal.length :: t.deeds.length :: t.deeds.map (fun d => d.need.length)

theorem c_szDeedS (A : Option Addr) (n c : Nat) (l : List Sp.Deed) (left : Int) (w : World) (h : Deeds w A n l) (h0 : 0 ≤ left) (h1 : left ≤ 1048576) :
    Calls Try.prog 108 #[.slice A n c, .int .i64 left] w (RetS (SzQ (n :: l.map (fun d => d.need.length)) left) w) := by
  have hn := h.le
  have HL := Lib.hid h.len
  by_cases hlt : left < (n : Int)
  · go_enter Try.func108, Try.ntmps108
    go_wp2
    go_ret
    exact ⟨_, rfl, ⟨-1, rfl, .inl rfl⟩, Kept.refl _⟩
  · go_enter Try.func108, Try.ntmps108
    go_wp2_with fail
    go_loopw [1, 5] (fun x i wr => ∃ (k : Nat) (r : Int), k ≤ n ∧ i = .int .i64 k ∧ x = .int .i64 r ∧ 0 ≤ r ∧ r ≤ left ∧ Kept w wr ∧ Hid (∀ d ∈ l.take k, ((d.need.length : Nat) : Int) ≤ left)) (fun _ i _ => n - (intOf i).toNat)
    case atStart => exact ⟨0, left - n, Nat.zero_le _, rfl, rfl, by omega, by omega, Kept.refl _, by show ∀ d ∈ l.take 0, _; simp⟩
    case round =>
      obtain ⟨k, r, hk, rfl, rfl, hr0, hr1, hkp, HA⟩ := hrel
      by_cases hkn : k < n
      · have hkl : k < l.length := by rw [HL.out]; exact hkn
        obtain ⟨b, off, rfl, hb, hc⟩ := (h.keep hkp).at hkn
        have HT : Hid (l.take (k + 1) = l.take k ++ [l.getD k default]) := by
          show _ = _
          rw [List.take_succ_eq_append_getElem hkl]; simp [List.getD, hkl]
        generalize l.getD k default = d at *
        obtain ⟨A2, n2, c2, hc0, hc1, hc2, hc3, hdv⟩ := hc.v
        go_wp2_with fail
        refine (c_szDeed _ d _ _ hdv hr0 (by omega)).mono ?_; rintro e w2 ⟨v, rfl, ⟨r2, rfl, hr⟩, hk2⟩
        have HR := Lib.hid hr
        clear hr
        by_cases hr : r2 < 0
        · go_wp2
          go_ret
          exact ⟨_, rfl, ⟨-1, rfl, .inl rfl⟩, hkp.trans hk2⟩
        · have hR := HR.out
          have hr2 : 0 ≤ r2 ∧ r2 ≤ r := by omega
          have HA' : Hid (∀ d ∈ l.take (k + 1), ((d.need.length : Nat) : Int) ≤ left) := by
            show ∀ d ∈ l.take (k + 1), _
            rw [HT.out]
            intro x hx
            rcases List.mem_append.1 hx with hx | hx
            · exact HA.out x hx
            · rcases hR with hR | hR
              · omega
              · have := hR.2.2 d.need.length (by simp)
                simp only [List.mem_singleton] at hx
                subst hx
                omega
          clear hR HR HT
          go_wp2
          exact ⟨⟨k + 1, r2, by omega, by go_num, rfl, by omega, by omega, hkp.trans hk2, HA'⟩, by simp [intOf]; omega⟩
      · go_wp2
        go_ret
        refine ⟨_, rfl, ⟨r, rfl, .inr ⟨hr0, hr1, ?_⟩⟩, hkp⟩
        have hA := HA.out
        rw [Sp.take_all _ k (by rw [HL.out]; omega)] at hA
        intro m hm
        rcases List.mem_cons.1 hm with rfl | hm
        · omega
        · obtain ⟨d, hd, rfl⟩ := List.mem_map.1 hm
          exact hA d hd

theorem c_szTask (v : Value) (t : Sp.Task) (left : Int) (w : World) (h : TaskV w v t) (h0 : 0 ≤ left) (h1 : left ≤ 1048576) :
    Calls Try.prog 62 #[v, .int .i64 left] w (RetS (SzQ (lens t) left) w) := by
  obtain ⟨A, n, c, A', n', c', rfl, hI, hD, _⟩ := h
  have hk := (Kept.refl w).alloc (.cells #[.int .i64 t.start, .slice A n c, .slice A' n' c'] 58)
  have HL := Lib.hid hI.len
  have HL' := Lib.hid hD.len
  go_enter Try.func62, Try.ntmps62
  go_wp2_with fail
  refine (c_szIntS _ _ _ _ _ _ (hI.keep hk) h0 h1).mono ?_; rintro e w2 ⟨v, rfl, ⟨r, rfl, hr⟩, hk2⟩
  have HR := Lib.hid hr
  clear hr
  by_cases hr : r < 0
  · go_wp2
    go_ret
    exact ⟨_, rfl, ⟨-1, rfl, .inl rfl⟩, hk.trans hk2⟩
  · have hR := HR.out
    have hr2 : 0 ≤ r ∧ r ≤ left := by omega
    have hnl : (n : Int) ≤ left := by
      rcases hR with hR | hR
      · omega
      · exact hR.2.2 n (by simp)
    clear hR HR
    have hb0 := hk2.box 0
    have hb1 := hk2.box 1
    have hb2 := hk2.box 2
    simp only [List.getElem?_toArray, List.getElem?_cons_zero, List.getElem?_cons_succ] at hb0 hb1 hb2
    go_wp2_with fail
    refine (c_szDeedS _ _ _ _ _ _ (hD.keep (hk.trans hk2)) hr2.1 (by omega)).mono ?_; rintro e w3 ⟨v, rfl, ⟨r3, rfl, hr3⟩, hk3⟩
    have HR := Lib.hid hr3
    clear hr3
    by_cases hr3 : r3 < 0
    · go_wp2
      go_ret
      exact ⟨_, rfl, ⟨-1, rfl, .inl rfl⟩, (hk.trans hk2).trans hk3⟩
    · go_wp2
      go_ret
      refine ⟨_, rfl, ⟨r3, rfl, ?_⟩, (hk.trans hk2).trans hk3⟩
      rcases HR.out with h | ⟨h1, h2, h3⟩
      · exact .inl h
      · refine .inr ⟨h1, by omega, fun m hm => ?_⟩
        unfold lens at hm
        rw [HL.out, HL'.out] at hm
        rcases List.mem_cons.1 hm with rfl | hm
        · exact hnl
        · have := h3 m hm; omega

end Go.Proofs.Ythkcdjnnacdeoaa
