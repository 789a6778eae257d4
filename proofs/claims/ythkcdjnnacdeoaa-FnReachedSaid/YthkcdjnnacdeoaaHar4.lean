/- Walks: the exact laws' own helpers: equality, where both sides are equal. No condition. -/
import Derived.Test.YthkcdjnnacdeoaaHar3
namespace Go.Proofs.Ythkcdjnnacdeoaa
open Go.RowKit

theorem c_eqIntS (A A' : Option Addr) (n n' c c' : Nat) (l l' : List Int) (w : World) (h : Ints w A n l) (h' : Ints w A' n' l') (he : l = l') :
    Calls Try.prog 66 #[.slice A n c, .slice A' n' c'] w (RetK (.bool true) w) := by
  subst he
  obtain rfl : n = n' := h.len.symm.trans h'.len
  have hn := h.le
  go_enter Try.func66, Try.ntmps66
  go_wp2_with fail
  go_loopw [5] (fun i wr => ∃ k : Nat, k ≤ n ∧ i = .int .i64 k ∧ Kept w wr) (fun i _ => n - (intOf i).toNat)
  case atStart => exact ⟨0, Nat.zero_le _, rfl, Kept.refl _⟩
  case round =>
    obtain ⟨k, hk, rfl, hkp⟩ := hrel
    by_cases hlt : k < n
    · obtain ⟨b, off, rfl, hb, hc, _⟩ := (h.keep hkp).at hlt
      obtain ⟨b', off', rfl, hb', hc', _⟩ := (h'.keep hkp).at hlt
      generalize l.getD k default = x at *
      have hlt' : (k : Int) < (n : Int) := by omega
      have hk0 : (0 : Int) ≤ (k : Int) := by omega
      go_wp2_with fail
      go_quiet (fail)
      go_wp2_with fail
      exact ⟨⟨k + 1, by omega, by go_num, hkp.drewN _⟩, by simp [intOf]; omega⟩
    · go_wp2_with fail
      go_ret
      exact ⟨rfl, hkp⟩

theorem c_eqDeed (v v' : Value) (d d' : Sp.Deed) (w : World) (h : DeedV w v d) (h' : DeedV w v' d') (he : d = d') :
    Calls Try.prog 128 #[v, v'] w (RetK (.bool true) w) := by
  subst he
  obtain ⟨A, n, c, rfl, hI, _, _, _⟩ := h
  obtain ⟨A', n', c', rfl, hI', _, _, _⟩ := h'
  have hk := (((Kept.refl w).alloc (.cells #[.slice A n c, .int .i64 d.on, .int .i64 d.off, .int .i64 d.flip] 39))).alloc (.cells #[.slice A' n' c', .int .i64 d.on, .int .i64 d.off, .int .i64 d.flip] 39)
  have B0 := ((Blk.new w 39 #[.slice A n c, .int .i64 d.on, .int .i64 d.off, .int .i64 d.flip])).alloc (.cells #[.slice A' n' c', .int .i64 d.on, .int .i64 d.off, .int .i64 d.flip] 39)
  have B1 := (Blk.new (w.alloc (.cells #[.slice A n c, .int .i64 d.on, .int .i64 d.off, .int .i64 d.flip] 39)) 39 #[.slice A' n' c', .int .i64 d.on, .int .i64 d.off, .int .i64 d.flip])
  simp only [World.size_alloc] at B1
  go_enter Try.func128, Try.ntmps128
  go_wp2_with fail
  refine (c_eqIntS _ _ _ _ _ _ _ _ _ (hI.keep hk) (hI'.keep hk) rfl).mono ?_; rintro e w2 ⟨rfl, hk2⟩
  have c0 := (B0.kept hk2).cell
  have c1 := (B1.kept hk2).cell
  go_wp2_with fail
  go_ret
  exact ⟨rfl, hk.trans hk2⟩

set_option maxRecDepth 100000 in
theorem c_eqDeedS (A A' : Option Addr) (n n' c c' : Nat) (l l' : List Sp.Deed) (w : World) (h : Deeds w A n l) (h' : Deeds w A' n' l') (he : l = l') :
    Calls Try.prog 112 #[.slice A n c, .slice A' n' c'] w (RetK (.bool true) w) := by
  subst he
  obtain rfl : n = n' := h.len.symm.trans h'.len
  have hn := h.le
  go_enter Try.func112, Try.ntmps112
  go_wp2_with fail
  go_loopw [5] (fun i wr => ∃ k : Nat, k ≤ n ∧ i = .int .i64 k ∧ Kept w wr) (fun i _ => n - (intOf i).toNat)
  case atStart => exact ⟨0, Nat.zero_le _, rfl, Kept.refl _⟩
  case round =>
    obtain ⟨k, hk, rfl, hkp⟩ := hrel
    by_cases hlt : k < n
    · obtain ⟨b, off, rfl, hb, hc⟩ := (h.keep hkp).at hlt
      obtain ⟨b', off', rfl, hb', hc'⟩ := (h'.keep hkp).at hlt
      generalize l.getD k default = d at *
      obtain ⟨A2, n2, c2, hc0, hc1, hc2, hc3, hdv⟩ := hc.v
      obtain ⟨A3, n3, c3, hd0, hd1, hd2, hd3, hdv'⟩ := hc'.v
      have hlt' : (k : Int) < (n : Int) := by omega
      have hk0 : (0 : Int) ≤ (k : Int) := by omega
      go_wp2_with fail
      go_still_tail 8, (by kernel_rfl)
      change wpList _ _ _ _ _ wr.drew
      have hkd := (Kept.refl wr).drew
      go_wp2_with fail
      refine (c_eqDeed _ _ d d _ (hdv.keep hkd) (hdv'.keep hkd) rfl).mono ?_; rintro e w2 ⟨rfl, hk2⟩
      go_wp2_with fail
      exact ⟨⟨k + 1, by omega, by go_num, hkp.trans (hkd.trans hk2)⟩, by simp [intOf]; omega⟩
    · go_wp2_with fail
      go_ret
      exact ⟨rfl, hkp⟩

theorem c_eqTask (v v' : Value) (t t' : Sp.Task) (w : World) (h : TaskV w v t) (h' : TaskV w v' t') (he : t = t') :
    Calls Try.prog 67 #[v, v'] w (RetK (.bool true) w) := by
  subst he
  obtain ⟨A, n, c, A2, n2, c2, rfl, hI, hD, _⟩ := h
  obtain ⟨A', n', c', A2', n2', c2', rfl, hI', hD', _⟩ := h'
  have hk := (((Kept.refl w).alloc (.cells #[.int .i64 t.start, .slice A n c, .slice A2 n2 c2] 26))).alloc (.cells #[.int .i64 t.start, .slice A' n' c', .slice A2' n2' c2'] 26)
  have B0 := ((Blk.new w 26 #[.int .i64 t.start, .slice A n c, .slice A2 n2 c2])).alloc (.cells #[.int .i64 t.start, .slice A' n' c', .slice A2' n2' c2'] 26)
  have B1 := (Blk.new (w.alloc (.cells #[.int .i64 t.start, .slice A n c, .slice A2 n2 c2] 26)) 26 #[.int .i64 t.start, .slice A' n' c', .slice A2' n2' c2'])
  simp only [World.size_alloc] at B1
  go_enter Try.func67, Try.ntmps67
  go_wp2_with fail
  refine (c_eqIntS _ _ _ _ _ _ _ _ _ (hI.keep hk) (hI'.keep hk) rfl).mono ?_; rintro e w2 ⟨rfl, hk2⟩
  replace B0 := B0.kept hk2
  replace B1 := B1.kept hk2
  replace hk := hk.trans hk2
  have c0 := B0.cell
  have c1 := B1.cell
  go_wp2_with fail
  refine (c_eqDeedS _ _ _ _ _ _ _ _ _ (hD.keep hk) (hD'.keep hk) rfl).mono ?_; rintro e w3 ⟨rfl, hk3⟩
  go_wp2_with fail
  go_ret
  exact ⟨rfl, hk.trans hk3⟩

end Go.Proofs.Ythkcdjnnacdeoaa
