/- Walks: the draw of a task and a plan, which may be there twice (FnPlanShort). No condition. -/
import Derived.Test.YtphdojebdclonaaD16
import Derived.Test.YtphdojebdclonaaG54
namespace Go.Proofs.Ytphdojebdclonaa
open Go.RowKit

theorem own_intsB {w : World} {X : Nat} {A : Option Addr} {n c : Nat} {l : List Int} (hn : n ≤ 1000) (ho : w.ownsRow X 3 1 (.slice A n c) n (l.map (Value.int .i64))) (hi : ∀ x ∈ l, Sp.inI x) : Ints w A n l := by
  have hl : l.length = n := by have := ho.1; simpa using this
  refine ⟨hl, by unfold maxLen; omega, hi, fun h0 => ?_⟩
  obtain ⟨_, g, rfl, _, hgl, _⟩ := own_some ho h0
  refine ⟨g, 0, rfl, hgl, fun k hk => ?_⟩
  have hc := ho.cells (g := g) rfl k (.int .i64 (l.getD k default)) (by rw [List.getElem?_map, List.getD_eq_getElem?_getD, List.getElem?_eq_getElem (by omega)]; rfl)
  rw [Nat.zero_add]
  have e : ((⟨g, 0, none⟩ : Addr).add k) = ⟨g, k, none⟩ := by
    unfold Addr.add
    split
    · rename_i h0; subst h0; rfl
    · simp
  rw [e] at hc
  exact hc

set_option maxHeartbeats 1000000 in
set_option maxRecDepth 100000 in
theorem c_drawPlanShort (A : Option Addr) (n c : Nat) (w : World) (h : BytesV w A n ∧ n ≤ c ∧ c ≤ maxLen) : Calls Try.prog 29 #[.slice A n c] w (RetS DrawnP w) := by
  obtain ⟨i0, hi0, hz0, hz1, hz2⟩ := info_parts info_int
  have HI := Lib.hid (And.intro hi0 (And.intro hz0 (And.intro hz1 hz2)))
  clear hi0 hz0 hz1 hz2
  have hk0 := (Kept.refl w).alloc (.cells #[.int .i64 0, .slice none 0 0, .slice none 0 0] 30)
  have hB0 := Blk.new w 30 #[.int .i64 0, .slice none 0 0, .slice none 0 0]
  have hb0 := h.1.keep hk0
  go_enter Try.func29, Try.ntmps29
  go_wp2_with fail
  refine (c_l20Open A n c _ hb0 h.2.1 h.2.2).mono ?_; rintro e wo ⟨v, rfl, ⟨R, rfl, hRge, hR⟩, hk2⟩
  simp only [World.size_alloc] at hRge
  replace hk0 := hk0.trans hk2
  replace hB0 := hB0.kept hk2
  clear hk2 hb0
  have hRlt := hR.lt
  go_wp2_with fail
  refine (c_l20Task R 12 0 _ hR (by omega) (by omega) (by omega)).mono ?_; rintro e w3 ⟨v, p3, rfl, hR3, hp1, hp2, hB, st, A1, n1, c1, A2, n2, c2, rfl, hst, hG, hD, hn2⟩
  replace hk0 := hB.kept hk0 (by omega)
  replace hB0 := hB.blk hB0 (.inl (by omega))
  have hsz3 := hB.size
  clear hB hR
  obtain ⟨t, ht8, hTW⟩ := TaskQ.task2 ⟨st, A1, n1, c1, A2, n2, c2, rfl, hst, hG, hD, hn2⟩
  have hkE := (Kept.refl w3).alloc (.cells #[.int .i64 st, .slice A1 n1 c1, .slice A2 n2 c2] 30)
  have hBE := Blk.new w3 30 #[.int .i64 st, .slice A1 n1 c1, .slice A2 n2 c2]
  have krA := RowsKept.of_kept (X := wo.heap.size) hkE
  replace hG := hG.kept krA.ints
  replace hD := hD.kept krA
  replace hk0 := hk0.trans hkE
  replace hB0 := hB0.kept hkE
  have hR := hR3.keep hkE
  clear hkE hR3
  obtain ⟨wE, HWE⟩ : ∃ wE, Hid (w3.alloc (.cells #[.int .i64 st, .slice A1 n1 c1, .slice A2 n2 c2] 30) = wE) := ⟨_, rfl⟩
  obtain ⟨E, HE⟩ : ∃ E, Hid (w3.heap.size = E) := ⟨_, rfl⟩
  have hEge : wo.heap.size ≤ w3.heap.size := hsz3
  have hXE : wE.heap.size = E + 1 := by rw [← HWE.out, ← HE.out]; simp
  go_wp2_with fail
  rw [HE.out] at hEge
  rw [HWE.out, HE.out] at hBE ⊢
  rw [HWE.out] at hG hD hk0 hB0 hR krA
  have cE := hBE.cell
  have hz9 := hk0.size
  go_wp2_with fail
  refine (c_l20Plan R wo.heap.size p3 _ t _ hR (by omega) (by omega) ht8 (fun w' hk => hTW w' (krA.trans hk))).mono ?_; rintro e wA ⟨v, pA, rfl, hRn, hq1, hq2, hbA, A5, m5, c5, l5, rfl, hm5, hown, hin5⟩
  clear cE hR
  have hin := Lib.hid hin5
  clear hin5
  go_wp2_with fail
  refine (c_pick R 2 pA _ hRn (by omega) (by omega)).mono ?_; rintro e wB ⟨v, pB, rfl, _, hpB, hpB', hbB, z, rfl, hz0, hz1⟩
  replace hz1 := hz1 (by omega)
  have hbE := hbA.trans hbB
  have hownB := own_but hown hbB (by omega)
  have hzE := hbE.size
  clear hbA hbB hown hRn
  by_cases hzz : z = 0
  · subst hzz
    have hI5 := own_intsB (by omega) hownB hin.out
    go_upto_region 6 with (first | (at_builtin; refine wpList_append_ints _ rfl (.tmp 17) (.tmp 18) 22 rfl wE.heap.size 3 i0 (.int .i64 0) Try.underlying22 HI.out.1 HI.out.2.1 HI.out.2.2.1 HI.out.2.2.2 rfl (.slice A5 m5 c5) m5 _ rfl hownB A5 m5 c5 l5 rfl hI5 (by unfold maxLen; omega) (by omega) hzE ?_; intro v1 wC hown2 hg2 _))
    obtain ⟨A6, c6, rfl⟩ := own_form hown2
    have hbC := hbE.grown hg2 (fun k e => (hownB.lt k e).1)
    have HAp : Hid (l5.map (Value.int .i64) ++ l5.map (Value.int .i64) = (l5 ++ l5).map (Value.int .i64)) := by show _ = _; rw [List.map_append]
    have HIn2 : Hid (∀ x ∈ l5 ++ l5, Sp.inI x) := fun x hx => by
      rw [List.mem_append] at hx
      exact hin.out x (by rcases hx with h | h <;> exact h)
    rw [HAp.out] at hown2
    replace hBE := hbC.blk hBE (.inr (by omega))
    replace hk0 := hbC.kept hk0 (by omega)
    replace hB0 := hbC.blk hB0 (.inl (by omega))
    replace hG := hG.kept (RowsKept.of_but (X := wo.heap.size) hbC hRlt).ints
    replace hD := hD.kept (RowsKept.of_but (X := wo.heap.size) hbC hRlt)
    replace hown2 := ownsRow_mono (X := wo.heap.size) hown2 (by omega)
    clear hbC hbE hownB hI5 hg2
    obtain ⟨m6, hm6⟩ : ∃ m6, Hid (m5 + m5 = m6) := ⟨_, rfl⟩
    rw [hm6.out] at hown2 ⊢
    have hm80 : m6 ≤ 80 := by rw [← hm6.out]; omega
    obtain ⟨l6, HL6⟩ : ∃ l6, Hid (l5 ++ l5 = l6) := ⟨_, rfl⟩
    rw [HL6.out] at hown2 HIn2
    have hin6 := HIn2.out
    have ce := hB0.cell
    have cE := hBE.cell
    have fe := hB0.frozen
    have b1 := hB0.set_ 0 (.int .i64 st)
    have b2 := b1.set_ 1 (.slice A1 n1 c1)
    have k1 := RowsKept.set (X := wo.heap.size) hB0 (by decide) (by decide) 0 (.int .i64 st)
    have k2 := RowsKept.set (X := wo.heap.size) b1 (by decide) (by decide) 1 (.slice A1 n1 c1)
    have k3 := RowsKept.set (X := wo.heap.size) b2 (by decide) (by decide) 2 (.slice A2 n2 c2)
    have kk := (k1.trans k2).trans k3
    have hG2 := hG.kept kk.ints
    have hD2 := hD.kept kk
    have hOw2 := kk.ints _ _ _ _ hown2
    have hle := Nat.le_refl w.heap.size
    have hkF := ((hk0.setCell (p := ⟨w.heap.size, 0, none⟩) hle (.int .i64 st)).setCell (p := ⟨w.heap.size, 1, none⟩) hle (.slice A1 n1 c1)).setCell (p := ⟨w.heap.size, 2, none⟩) hle (.slice A2 n2 c2)
    clear hB0 hBE b1 b2 k1 k2 k3 kk hG hD hk0 hown2
    have HIN6 := Lib.hid hin6
    clear hin6
    go_wp2_with fail
    refine bodyPost_ret (v := .tuple #[.agg #[.int .i64 st, .slice A1 n1 c1, .slice A2 n2 c2], .slice A6 m6 c6]) (by simp [results, Try.results29, go_sem, ce]) rfl ?_
    obtain ⟨tt, hTT, _⟩ := TaskQ.task ⟨st, A1, n1, c1, A2, n2, c2, rfl, hst, hG2, hD2, hn2⟩
    exact ⟨_, rfl, ⟨_, tt, _, _, _, _, rfl, hTT, own_intsB (by omega) hOw2 HIN6.out⟩, hkF⟩
  · clear hzE
    obtain ⟨m6, hm6⟩ : ∃ m6, Hid (m5 = m6) := ⟨_, rfl⟩
    have hzb : (z == 0) = false := beq_eq_false_iff_ne.2 hzz
    clear hzz
    go_upto_region 6 with fail
    replace hBE := hbE.blk hBE (.inr (by omega))
    replace hk0 := hbE.kept hk0 (by omega)
    replace hB0 := hbE.blk hB0 (.inl (by omega))
    replace hG := hG.kept (RowsKept.of_but (X := wo.heap.size) hbE hRlt).ints
    replace hD := hD.kept (RowsKept.of_but (X := wo.heap.size) hbE hRlt)
    have hown2 := ownsRow_mono (X := wo.heap.size) hownB (by omega)
    clear hbE hownB hzb
    have hin6 := hin.out
    have hm80 : m5 ≤ 80 := by omega
    have ce := hB0.cell
    have cE := hBE.cell
    have fe := hB0.frozen
    have b1 := hB0.set_ 0 (.int .i64 st)
    have b2 := b1.set_ 1 (.slice A1 n1 c1)
    have k1 := RowsKept.set (X := wo.heap.size) hB0 (by decide) (by decide) 0 (.int .i64 st)
    have k2 := RowsKept.set (X := wo.heap.size) b1 (by decide) (by decide) 1 (.slice A1 n1 c1)
    have k3 := RowsKept.set (X := wo.heap.size) b2 (by decide) (by decide) 2 (.slice A2 n2 c2)
    have kk := (k1.trans k2).trans k3
    have hG2 := hG.kept kk.ints
    have hD2 := hD.kept kk
    have hOw2 := kk.ints _ _ _ _ hown2
    have hle := Nat.le_refl w.heap.size
    have hkF := ((hk0.setCell (p := ⟨w.heap.size, 0, none⟩) hle (.int .i64 st)).setCell (p := ⟨w.heap.size, 1, none⟩) hle (.slice A1 n1 c1)).setCell (p := ⟨w.heap.size, 2, none⟩) hle (.slice A2 n2 c2)
    clear hB0 hBE b1 b2 k1 k2 k3 kk hG hD hk0 hown2
    have HIN6 := Lib.hid hin6
    clear hin6
    go_wp2_with fail
    refine bodyPost_ret (v := .tuple #[.agg #[.int .i64 st, .slice A1 n1 c1, .slice A2 n2 c2], .slice A5 m5 c5]) (by simp [results, Try.results29, go_sem, ce]) rfl ?_
    obtain ⟨tt, hTT, _⟩ := TaskQ.task ⟨st, A1, n1, c1, A2, n2, c2, rfl, hst, hG2, hD2, hn2⟩
    exact ⟨_, rfl, ⟨_, tt, _, _, _, _, rfl, hTT, own_intsB (by omega) hOw2 HIN6.out⟩, hkF⟩

end Go.Proofs.Ytphdojebdclonaa
