/- Walks: what is before a set of states. No condition. -/
import Derived.Test.YthkcdjnnacdeoaaG4
import Derived.Deep.WholeRow
namespace Go.Proofs.Ythkcdjnnacdeoaa
open Go.RowKit

/-- the other way round -/
def Sp.rev (r : Nat → Nat → Bool) : Nat → Nat → Bool := fun a b => r b a

def Sp.qBack (F : Nat → Int) (S p u : Nat) : Prop := (∃ v : Nat, F p = (v : Int) ∧ S.testBit v = true) ∧ u = p % 32
theorem back_all {n : Nat} {F : Nat → Int} {S T : Nat} (hF : ∀ p, p < n * 32 → -1 ≤ F p ∧ F p ≤ 31) (h : Sp.To (Sp.qBack F S) (n * 32) T) : T = Sp.img (Sp.rev (Sp.edge n F)) S := by
  refine Sp.set_ext h.1 (Sp.img_lt _ _) fun u hu => ?_
  rw [h.2 u, Sp.img_bit]
  constructor
  · rintro ⟨p, hp, ⟨v, h1, h2⟩, rfl⟩
    have := hF p hp
    refine ⟨hu, v, by omega, h2, (edge_iff _ _ _ _).2 ⟨p / 32, by omega, ?_⟩⟩
    rw [show p / 32 * 32 + p % 32 = p by omega]; exact h1
  · rintro ⟨_, s, hs, h2, h3⟩
    obtain ⟨k, hk, h1⟩ := (edge_iff _ _ _ _).1 h3
    exact ⟨k * 32 + u, by omega, ⟨s, h1, h2⟩, by omega⟩

set_option maxHeartbeats 1000000 in
set_option maxRecDepth 100000 in
theorem c_backStates (g n c : Nat) (F : Nat → Int) (S : Nat) (w : World) (h : RowsF w g n F) (hS : S < 4294967296) (hn : n ≤ 6) :
    Calls Try.prog 76 #[.slice (some ⟨g, 0, none⟩) n c, .int .i64 S] w (RetK (.int .i64 (Sp.img (Sp.rev (Sp.edge n F)) S : Nat)) w) := by
  go_enter Try.func76, Try.ntmps76
  go_wp2_with fail
  go_loopw [12, 5] (fun i o wr => ∃ k T : Nat, k ≤ n ∧ i = .int .i64 k ∧ o = .int .i64 T ∧ Kept w wr ∧ Sp.To (Sp.qBack F S) (k * 32) T) (fun i _ _ => n - (intOf i).toNat)
  case atStart => exact ⟨0, 0, Nat.zero_le _, rfl, rfl, Kept.refl w, To_zero _⟩
  case round =>
    obtain ⟨k, T, hk, rfl, rfl, hkp, hT⟩ := hrel
    by_cases hlt : k < n
    · have HR := h.keep hkp
      have hl4 := row_zero
      have hl5 := zeros_cells
      go_wp2_with (first | (refine row_load_at HR hlt rfl rfl rfl ?_) | (refine row_store_new rfl rfl rfl rfl ?_) | (refine row_load_new rfl rfl rfl ?_))
      obtain ⟨C, HC⟩ : ∃ C, Hid (C = (rowOf F k).toArray) := ⟨_, rfl⟩
      rw [← HC.out]
      have HCa : Hid (∀ s, s < 32 → C[s]? = some (.int .i64 (F (k * 32 + s)))) := fun s hs => by rw [HC.out, List.getElem?_toArray]; exact rowOf_at F k s hs
      have hkD := hkp.alloc (.cells C 79)
      clear hl4 hl5
      go_loopw [17, 5] (fun i o wi => ∃ s T : Nat, s ≤ 32 ∧ i = .int .i64 s ∧ o = .int .i64 T ∧ Kept w wi ∧ Sp.To (Sp.qBack F S) (k * 32 + s) T) (fun i _ _ => 32 - (intOf i).toNat)
      case atStart => exact ⟨0, T, by omega, rfl, rfl, hkD, hT⟩
      case round =>
        obtain ⟨s, T, hs, rfl, rfl, hkp, hT⟩ := hrel
        by_cases hlt2 : s < 32
        · have hix := run_index_row C s _ hlt2 (HCa.out s hlt2)
          obtain ⟨hF0, hF1⟩ := h.2.2 (k * 32 + s) (by omega)
          have HQ := Lib.hid (show ∀ u, Sp.qBack F S (k * 32 + s) u ↔ ((∃ v : Nat, F (k * 32 + s) = (v : Int) ∧ S.testBit v = true) ∧ u = s) from fun u => by unfold Sp.qBack; rw [show (k * 32 + s) % 32 = s by omega])
          generalize F (k * 32 + s) = f at *
          by_cases hf : 0 ≤ f
          · obtain ⟨f, rfl⟩ := Int.eq_ofNat_of_zero_le hf
            have hab := and_bit S f (by omega)
            have hb1 := bit_one (S.testBit f)
            have hsh := bin_shl_one s (by omega)
            have hor := or_p2 T s hT.1 (by omega)
            cases hev : S.testBit f
            all_goals
              rw [hev] at hb1 hab
              have HV := Lib.hid hev
              clear hev
              go_wp2_with fail
            · exact ⟨⟨s + 1, T, by omega, by go_num, rfl, hkp, To_skip hT fun u hu => by obtain ⟨⟨v, hv, hb⟩, _⟩ := (HQ.out u).1 hu; rw [show v = f from (by omega), HV.out] at hb; cases hb⟩, by simp [intOf]; omega⟩
            · exact ⟨⟨s + 1, _, by omega, by go_num, rfl, hkp, To_add hT (by omega) fun u => (HQ.out u).trans ⟨fun hu => hu.2, fun e => ⟨⟨f, rfl, HV.out⟩, e⟩⟩⟩, by simp [intOf]; omega⟩
          · go_wp2_with fail
            exact ⟨⟨s + 1, T, by omega, by go_num, rfl, hkp, To_skip hT fun u hu => by obtain ⟨⟨v, hv, _⟩, _⟩ := (HQ.out u).1 hu; omega⟩, by simp [intOf]; omega⟩
        · obtain rfl : s = 32 := by omega
          have hT2 : Hid (Sp.To (Sp.qBack F S) ((k + 1) * 32) T) := by show Sp.To _ _ _; rw [show (k + 1) * 32 = k * 32 + 32 by omega]; exact hT
          go_wp2_with fail
          exact ⟨⟨k + 1, T, by omega, by go_num, rfl, hkp, hT2⟩, by simp [intOf]; omega⟩
    · go_wp2_with fail
      go_ret
      obtain rfl : k = n := by omega
      exact ⟨ret_int (by rw [back_all h.2.2 hT]), hkp⟩

end Go.Proofs.Ythkcdjnnacdeoaa
