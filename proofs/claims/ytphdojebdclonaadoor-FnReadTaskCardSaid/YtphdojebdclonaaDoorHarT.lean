/- Walks: a task of one's own is marked, and held. No condition. -/
import Derived.Test.YtphdojebdclonaaDoorHar
namespace Go.Proofs.YtphdojebdclonaaDoor
set_option linter.unusedSimpArgs false
set_option linter.unusedVariables false
open Go.RowKit

/-- the mark ahead of the k-th deed -/
def mkAt (ms : Nat → Nat) (k0 : Int) : Nat → Int
  | 0 => k0
  | j + 1 => mkAt ms k0 j + (ms j : Int) + 3
theorem mkAt_bd (ms : Nat → Nat) (k0 : Int) (n : Nat) (h : ∀ k, k < n → ms k ≤ 64) : ∀ j, j ≤ n → k0 ≤ mkAt ms k0 j ∧ mkAt ms k0 j ≤ k0 + 67 * (j : Int) := by
  intro j
  induction j with
  | zero => intro _; exact ⟨Int.le_refl _, by simp [mkAt]⟩
  | succ j ih =>
    intro hj
    obtain ⟨h1, h2⟩ := ih (by omega)
    have := h j (by omega)
    show k0 ≤ mkAt ms k0 j + (ms j : Int) + 3 ∧ mkAt ms k0 j + (ms j : Int) + 3 ≤ _
    omega
/-- n deeds of one's own in block g, their rows in the blocks gs, all apart -/
def OD (B C : Nat) (w : World) (g n : Nat) (gs ms : Nat → Nat) : Prop :=
  B ≤ g ∧ g < C ∧ g < w.heap.size ∧ (∀ i, w.frozen? ⟨g, i, none⟩ = false) ∧
  (∀ k, k < n → ∃ c, w.cell? ⟨g, k * 4, none⟩ = some (.slice (some ⟨gs k, 0, none⟩) (ms k) c) ∧ ms k ≤ 64 ∧ gs k ≠ g ∧ B ≤ gs k ∧ gs k < C ∧ gs k < w.heap.size ∧ Sh (gs k) (gs k + 1) w (some ⟨gs k, 0, none⟩) (ms k) ∧ ∀ i, i < 3 → ∃ x, w.cell? ⟨g, k * 4 + (i + 1), none⟩ = some (.int .i64 x)) ∧
  ∀ j k, j < n → k < n → j ≠ k → gs j ≠ gs k
theorem OD.but {B C B' C' : Nat} {w w' : World} {g n : Nat} {gs ms : Nat → Nat} (h : OD B C w g n gs ms) (hb : But B' C' w w') : OD B C w' g n gs ms := by
  obtain ⟨h1, h2, h3, h4, h5, h6⟩ := h
  refine ⟨h1, h2, Nat.lt_of_lt_of_le h3 hb.2.2.1, fun i => by rw [hb.2.2.2.2 _ h3]; exact h4 i, fun k hk => ?_, h6⟩
  obtain ⟨c, e1, e2, e3, e4, e5, e6, e7, e8⟩ := h5 k hk
  exact ⟨c, hb.slice e1, e2, e3, e4, e5, Nat.lt_of_lt_of_le e6 hb.2.2.1, e7.but hb, fun i hi => hb.int (e8 i hi)⟩
theorem But.wider {B C B' C' : Nat} {w w' : World} (h : But B C w w') (hB : B' ≤ B) (hC : C ≤ C') : But B' C' w w' :=
  ⟨fun a ha hs => h.1 a ha (Nat.le_trans hs hB), fun b hb hr => h.2.1 b hb (by omega), h.2.2⟩
theorem Marked.same {w w' : World} {b n : Nat} {k : Int} (h : Marked w (some ⟨b, 0, none⟩) n k) (he : w'.heap[b]? = w.heap[b]?) (hs : w.heap.size ≤ w'.heap.size) : Marked w' (some ⟨b, 0, none⟩) n k := by
  intro hn
  obtain ⟨b', o, e, hb, hc⟩ := h hn
  cases e
  exact ⟨b, 0, rfl, Nat.lt_of_lt_of_le hb hs, fun j hj => by rw [World.cell?_of_block (a := ⟨b, 0 + j, none⟩) he]; exact hc j hj⟩
/-- the marks of one deed -/
def M1 (w : World) (g a m : Nat) (K : Int) (k : Nat) : Prop :=
  (∃ c, w.cell? ⟨g, k * 4, none⟩ = some (.slice (some ⟨a, 0, none⟩) m c)) ∧ Marked w (some ⟨a, 0, none⟩) m K ∧ w.cell? ⟨g, k * 4 + 1, none⟩ = some (.int .i64 (K + m)) ∧ w.cell? ⟨g, k * 4 + 2, none⟩ = some (.int .i64 (K + m + 1)) ∧ w.cell? ⟨g, k * 4 + 3, none⟩ = some (.int .i64 (K + m + 1 + 1))
theorem M1.same {w w' : World} {g a m k : Nat} {K : Int} (h : M1 w g a m K k) (hg : w'.heap[g]? = w.heap[g]?) (ha : w'.heap[a]? = w.heap[a]?) (hs : w.heap.size ≤ w'.heap.size) : M1 w' g a m K k := by
  obtain ⟨⟨c, h1⟩, h2, h3, h4, h5⟩ := h
  exact ⟨⟨c, by rw [World.cell?_of_block (a := ⟨g, _, none⟩) hg]; exact h1⟩, h2.same ha hs, by rw [World.cell?_of_block (a := ⟨g, _, none⟩) hg]; exact h3, by rw [World.cell?_of_block (a := ⟨g, _, none⟩) hg]; exact h4, by rw [World.cell?_of_block (a := ⟨g, _, none⟩) hg]; exact h5⟩
theorem M1.lt {w : World} {g a m k : Nat} {K : Int} (h : M1 w g a m K k) : g < w.heap.size := by
  obtain ⟨_, _, h3, _⟩ := h
  exact World.block_lt_of_cell? _ _ h3
theorem M1.kept {w w' : World} {g a m k : Nat} {K : Int} (h : M1 w g a m K k) (hk : Kept w w') : M1 w' g a m K k := by
  have hg := h.lt
  obtain ⟨⟨c, h1⟩, h2, h3, h4, h5⟩ := h
  exact ⟨⟨c, hk.at_ h1⟩, h2.keep hk, hk.at_ h3, hk.at_ h4, hk.at_ h5⟩
/-- what a marking of deeds leaves -/
def MDQ (B C : Nat) (g n : Nat) (gs ms : Nat → Nat) (k0 : Int) (w : World) (e : Ending) (w' : World) : Prop :=
  e = .returned (.int .i64 (mkAt ms k0 n)) ∧ But B C w w' ∧ (∀ k, k < n → M1 w' g (gs k) (ms k) (mkAt ms k0 k) k) ∧ ∀ b, b < w.heap.size → (0 < n → b ≠ g) → (∀ k, k < n → b ≠ gs k) → w'.heap[b]? = w.heap[b]?

set_option maxHeartbeats 1000000 in
theorem c_markDeedsX (B C g n c : Nat) (A : Option Addr) (gs ms : Nat → Nat) (k : Int) (w : World) (hA : 0 < n → A = some ⟨g, 0, none⟩) (h : 0 < n → OD B C w g n gs ms) (hn : n ≤ 8) (h0 : 0 ≤ k) (h1 : k ≤ 1048576) :
    Calls Tryd.prog 90 #[.slice A n c, .int .i64 k] w (MDQ B C g n gs ms k w) := by
  by_cases hn0 : n = 0
  · subst hn0
    go_enter Tryd.func90, Tryd.ntmps90
    go_wp2_with fail
    go_loopw [5, 1] (fun i y wr => i = .int .i64 0 ∧ y = .int .i64 k ∧ wr = w) (fun i _ _ => 0)
    case atStart => exact ⟨rfl, rfl, rfl⟩
    case round =>
      obtain ⟨rfl, rfl, rfl⟩ := hrel
      go_wp2_with fail
      go_ret
      exact ⟨rfl, But.refl _, fun k hk => by omega, fun _ _ _ _ => rfl⟩
  have hpos : 0 < n := Nat.pos_of_ne_zero hn0
  obtain rfl := hA hpos
  have hOD := h hpos
  have hbd := mkAt_bd ms k n (fun j hj => by obtain ⟨_, _, hm, _⟩ := hOD.2.2.2.2.1 j hj; exact hm)
  have HBD := Lib.hid hbd
  have HAP := Lib.hid hOD.2.2.2.2.2
  have HP : Hid (∀ k, k < n → gs k ≠ g ∧ gs k < w.heap.size) := fun k hk => by
    obtain ⟨_, _, _, h1, _, _, h2, _⟩ := hOD.2.2.2.2.1 k hk
    exact ⟨h1, h2⟩
  clear hbd hn0 h hA
  go_enter Tryd.func90, Tryd.ntmps90
  go_wp2_with fail
  go_loopw [5, 1] (fun i y wr => ∃ j : Nat, j ≤ n ∧ i = .int .i64 j ∧ y = .int .i64 (mkAt ms k j) ∧ But B C w wr ∧ Hid (∀ i, i < j → M1 wr g (gs i) (ms i) (mkAt ms k i) i) ∧ Hid (∀ b, b < w.heap.size → b ≠ g → (∀ i, i < n → b ≠ gs i) → wr.heap[b]? = w.heap[b]?)) (fun i _ _ => n - (intOf i).toNat)
  case atStart => exact ⟨0, Nat.zero_le _, rfl, rfl, But.refl w, fun i hi => by omega, fun _ _ _ _ => rfl⟩
  case round =>
    obtain ⟨j, hj, rfl, rfl, hb, HM, HH⟩ := hrel
    by_cases hlt : j < n
    · obtain ⟨q1, q2, q3, q4, q5, q6⟩ := hOD.but hb
      obtain ⟨c2, h6, h7, h8, h9, h10, h11, h12, h13⟩ := q5 j hlt
      have f0 := fun i => q4 (j * 4 + i)
      clear q4 q5 q6 hOD
      obtain ⟨k', HK⟩ : ∃ k', Hid (mkAt ms k j = k') := ⟨_, rfl⟩
      have hk3 : k ≤ k' ∧ k' ≤ k + 67 * (j : Int) := by rw [← HK.out]; exact HBD.out j hj
      have HKS : Hid (mkAt ms k (j + 1) = k' + (ms j : Int) + 1 + 1 + 1) := by show mkAt ms k j + (ms j : Int) + 3 = _; rw [HK.out]; omega
      rw [HK.out]
      go_wp2_with fail
      refine (c_markIntS (gs j) (gs j + 1) _ (ms j) c2 k' wr h12 (by omega) (by omega) (by omega)).mono ?_; rintro e w2 ⟨rfl, hb2, hM2⟩
      have hq3 := hb2.2.2.1
      obtain ⟨x1, e1⟩ := hb2.int (h13 0 (by omega))
      obtain ⟨x2, e2⟩ := hb2.int (h13 1 (by omega))
      obtain ⟨x3, e3⟩ := hb2.int (h13 2 (by omega))
      simp only [Nat.zero_add, Nat.reduceAdd] at e1 e2 e3
      have e0 := hb2.slice h6
      have f1 : ∀ i, w2.frozen? ⟨g, j * 4 + i, none⟩ = false := fun i => by rw [hb2.2.2.2.2 _ q3]; exact f0 i
      have b1 := (hb.trans (hb2.wider h9 (by omega))).set e1 q1 q2 (k' + (ms j : Int))
      have e2' : (w2.setCell ⟨g, j * 4 + 1, none⟩ (.int .i64 (k' + (ms j : Int)))).cell? ⟨g, j * 4 + 2, none⟩ = some (.int .i64 x2) := by rw [World.cell?_setCell_other _ _ _ _ (by intro e; simp at e)]; exact e2
      have b2 := b1.set e2' q1 q2 (k' + (ms j : Int) + 1)
      have e3' : ((w2.setCell ⟨g, j * 4 + 1, none⟩ (.int .i64 (k' + (ms j : Int)))).setCell ⟨g, j * 4 + 2, none⟩ (.int .i64 (k' + (ms j : Int) + 1))).cell? ⟨g, j * 4 + 3, none⟩ = some (.int .i64 x3) := by rw [World.cell?_setCell_other _ _ _ _ (by intro e; simp at e), World.cell?_setCell_other _ _ _ _ (by intro e; simp at e)]; exact e3
      have HB := Lib.hid (b2.set e3' q1 q2 (k' + (ms j : Int) + 1 + 1))
      have HF : Hid (∀ b, b ≠ g → (((w2.setCell ⟨g, j * 4 + 1, none⟩ (.int .i64 (k' + (ms j : Int)))).setCell ⟨g, j * 4 + 2, none⟩ (.int .i64 (k' + (ms j : Int) + 1))).setCell ⟨g, j * 4 + 3, none⟩ (.int .i64 (k' + (ms j : Int) + 1 + 1))).heap[b]? = w2.heap[b]?) := by
        intro b hb
        rw [Below.heap_setCell _ _ _ b hb, Below.heap_setCell _ _ _ b hb, Below.heap_setCell _ _ _ b hb]
      have HS : Hid ((((w2.setCell ⟨g, j * 4 + 1, none⟩ (.int .i64 (k' + (ms j : Int)))).setCell ⟨g, j * 4 + 2, none⟩ (.int .i64 (k' + (ms j : Int) + 1))).setCell ⟨g, j * 4 + 3, none⟩ (.int .i64 (k' + (ms j : Int) + 1 + 1))).heap.size = w2.heap.size) := by
        show _ = _; simp
      have HG : Hid (∀ i, i < j → ∀ o, o < 4 → (((w2.setCell ⟨g, j * 4 + 1, none⟩ (.int .i64 (k' + (ms j : Int)))).setCell ⟨g, j * 4 + 2, none⟩ (.int .i64 (k' + (ms j : Int) + 1))).setCell ⟨g, j * 4 + 3, none⟩ (.int .i64 (k' + (ms j : Int) + 1 + 1))).cell? ⟨g, i * 4 + o, none⟩ = w2.cell? ⟨g, i * 4 + o, none⟩) := by
        intro i hi o ho
        rw [World.cell?_setCell_other _ _ _ _ (by intro e; simp only [Addr.mk.injEq] at e; omega), World.cell?_setCell_other _ _ _ _ (by intro e; simp only [Addr.mk.injEq] at e; omega), World.cell?_setCell_other _ _ _ _ (by intro e; simp only [Addr.mk.injEq] at e; omega)]
      have HN : Hid ((((w2.setCell ⟨g, j * 4 + 1, none⟩ (.int .i64 (k' + (ms j : Int)))).setCell ⟨g, j * 4 + 2, none⟩ (.int .i64 (k' + (ms j : Int) + 1))).setCell ⟨g, j * 4 + 3, none⟩ (.int .i64 (k' + (ms j : Int) + 1 + 1))).cell? ⟨g, j * 4, none⟩ = some (.slice (some ⟨gs j, 0, none⟩) (ms j) c2) ∧
          (((w2.setCell ⟨g, j * 4 + 1, none⟩ (.int .i64 (k' + (ms j : Int)))).setCell ⟨g, j * 4 + 2, none⟩ (.int .i64 (k' + (ms j : Int) + 1))).setCell ⟨g, j * 4 + 3, none⟩ (.int .i64 (k' + (ms j : Int) + 1 + 1))).cell? ⟨g, j * 4 + 1, none⟩ = some (.int .i64 (k' + (ms j : Int))) ∧
          (((w2.setCell ⟨g, j * 4 + 1, none⟩ (.int .i64 (k' + (ms j : Int)))).setCell ⟨g, j * 4 + 2, none⟩ (.int .i64 (k' + (ms j : Int) + 1))).setCell ⟨g, j * 4 + 3, none⟩ (.int .i64 (k' + (ms j : Int) + 1 + 1))).cell? ⟨g, j * 4 + 2, none⟩ = some (.int .i64 (k' + (ms j : Int) + 1)) ∧
          (((w2.setCell ⟨g, j * 4 + 1, none⟩ (.int .i64 (k' + (ms j : Int)))).setCell ⟨g, j * 4 + 2, none⟩ (.int .i64 (k' + (ms j : Int) + 1))).setCell ⟨g, j * 4 + 3, none⟩ (.int .i64 (k' + (ms j : Int) + 1 + 1))).cell? ⟨g, j * 4 + 3, none⟩ = some (.int .i64 (k' + (ms j : Int) + 1 + 1))) := by
        refine ⟨?_, ?_, ?_, ?_⟩
        · rw [World.cell?_setCell_other _ _ _ _ (by intro e; simp only [Addr.mk.injEq] at e; omega), World.cell?_setCell_other _ _ _ _ (by intro e; simp only [Addr.mk.injEq] at e; omega), World.cell?_setCell_other _ _ _ _ (by intro e; simp only [Addr.mk.injEq] at e; omega)]
          exact e0
        · rw [World.cell?_setCell_other _ _ _ _ (by intro e; simp only [Addr.mk.injEq] at e; omega), World.cell?_setCell_other _ _ _ _ (by intro e; simp only [Addr.mk.injEq] at e; omega)]
          exact World.cell?_setCell_same _ _ _ e1
        · rw [World.cell?_setCell_other _ _ _ _ (by intro e; simp only [Addr.mk.injEq] at e; omega)]
          exact World.cell?_setCell_same _ _ _ e2'
        · exact World.cell?_setCell_same _ _ _ e3'
      have hg2 : w2.heap[g]? = wr.heap[g]? := hb2.2.1 g q3 (by omega)
      have ho2 : ∀ b, b < wr.heap.size → b ≠ gs j → w2.heap[b]? = wr.heap[b]? := fun b hb hne => hb2.2.1 b hb (by omega)
      have HO2 := Lib.hid ho2
      have HG2 := Lib.hid hg2
      have HM2 := Lib.hid hM2
      clear b1 b2 e2' e3' h6 h13 f0 hg2 ho2 hM2 e0
      go_wp2_with fail
      refine ⟨⟨j + 1, by omega, by go_num, by rw [HKS.out], HB.out, fun i hi => ?_, fun b hbs hbg hbr => ?_⟩, by simp [intOf]; omega⟩
      · by_cases e : i = j
        · subst e
          obtain ⟨n0, n1, n2, n3⟩ := HN.out
          rw [HK.out]
          exact ⟨⟨c2, n0⟩, HM2.out.same (HF.out _ h8) (by rw [HS.out]; exact Nat.le_refl _), n1, n2, n3⟩
        · have hm := HM.out i (by omega)
          obtain ⟨⟨c, m1⟩, m2, m3, m4, m5⟩ := hm
          obtain ⟨p1, p2⟩ := HP.out i (by omega)
          have hsz : wr.heap.size ≤ w2.heap.size := hq3
          have hcl : ∀ o, o < 4 → (((w2.setCell ⟨g, j * 4 + 1, none⟩ (.int .i64 (k' + (ms j : Int)))).setCell ⟨g, j * 4 + 2, none⟩ (.int .i64 (k' + (ms j : Int) + 1))).setCell ⟨g, j * 4 + 3, none⟩ (.int .i64 (k' + (ms j : Int) + 1 + 1))).cell? ⟨g, i * 4 + o, none⟩ = wr.cell? ⟨g, i * 4 + o, none⟩ := fun o ho => by
            rw [HG.out i (by omega) o ho]
            exact World.cell?_of_block (a := ⟨g, i * 4 + o, none⟩) HG2.out
          refine ⟨⟨c, (hcl 0 (by omega)).trans m1⟩, m2.same ((HF.out _ p1).trans (HO2.out _ (Nat.lt_of_lt_of_le p2 hb.2.2.1) (HAP.out i j (by omega) hlt e))) (by rw [HS.out]; exact hsz), (hcl 1 (by omega)).trans m3, (hcl 2 (by omega)).trans m4, (hcl 3 (by omega)).trans m5⟩
      · rw [HF.out b hbg, HO2.out b (Nat.lt_of_lt_of_le hbs hb.2.2.1) (hbr j hlt)]
        exact HH.out b hbs hbg hbr
    · obtain rfl : j = n := by omega
      go_wp2_with fail
      go_ret
      exact ⟨rfl, hb, HM.out, fun b h1 h2 h3 => HH.out b h1 (h2 hpos) h3⟩

/-- the marks of n deeds -/
def MD (w : World) (g n : Nat) (gs ms : Nat → Nat) (k0 : Int) : Prop := ∀ k, k < n → M1 w g (gs k) (ms k) (mkAt ms k0 k) k
theorem MD.kept {w w' : World} {g n : Nat} {gs ms : Nat → Nat} {k0 : Int} (h : MD w g n gs ms k0) (hk : Kept w w') : MD w' g n gs ms k0 := fun k hkn => (h k hkn).kept hk

set_option maxHeartbeats 1000000 in
theorem c_heldDeedsX (g n c : Nat) (A : Option Addr) (gs ms : Nat → Nat) (k : Int) (w : World) (hA : 0 < n → A = some ⟨g, 0, none⟩) (h : MD w g n gs ms k) (hm : ∀ j, j < n → ms j ≤ 64) (hn : n ≤ 8) (h0 : 0 ≤ k) (h1 : k ≤ 1048576) :
    Calls Tryd.prog 92 #[.slice A n c, .int .i64 k] w (RetK (.int .i64 (mkAt ms k n)) w) := by
  have HBD := Lib.hid (mkAt_bd ms k n hm)
  have HM := Lib.hid hm
  have HD := Lib.hid h
  clear hm h
  go_enter Tryd.func92, Tryd.ntmps92
  go_wp2_with fail
  go_loopw [5, 1] (fun i y wr => ∃ j : Nat, j ≤ n ∧ i = .int .i64 j ∧ y = .int .i64 (mkAt ms k j) ∧ Kept w wr) (fun i _ _ => n - (intOf i).toNat)
  case atStart => exact ⟨0, Nat.zero_le _, rfl, rfl, Kept.refl w⟩
  case round =>
    obtain ⟨j, hj, rfl, rfl, hkp⟩ := hrel
    by_cases hlt : j < n
    · obtain rfl := hA (by omega)
      obtain ⟨⟨c2, m1⟩, m2, m3, m4, m5⟩ := (HD.out j hlt).kept hkp
      obtain ⟨k', HK⟩ : ∃ k', Hid (mkAt ms k j = k') := ⟨_, rfl⟩
      have hk3 : k ≤ k' ∧ k' ≤ k + 67 * (j : Int) := by rw [← HK.out]; exact HBD.out j hj
      have hmj := HM.out j hlt
      have HKS : Hid (mkAt ms k (j + 1) = k' + (ms j : Int) + 1 + 1 + 1) := by show mkAt ms k j + (ms j : Int) + 3 = _; rw [HK.out]; omega
      rw [HK.out] at m2 m3 m4 m5
      rw [HK.out]
      go_wp2_with fail
      refine (c_heldIntS _ (ms j) c2 k' wr m2 (by omega) (by omega) (by omega)).mono ?_; rintro e w2 ⟨rfl, rfl⟩
      have hge : ¬ k' + (ms j : Int) < 0 := by omega
      go_wp2_with fail
      exact ⟨⟨j + 1, by omega, by go_num, by rw [HKS.out], hkp⟩, by simp [intOf]; omega⟩
    · obtain rfl : j = n := by omega
      go_wp2_with fail
      go_ret
      exact ⟨rfl, hkp⟩

/-- what a marking of a task leaves -/
def MTQ (B C : Nat) (AG : Option Addr) (nG g n : Nat) (gs ms : Nat → Nat) (k : Int) (w : World) (e : Ending) (w' : World) : Prop :=
  e = .returned (.int .i64 (mkAt ms (k + nG) n)) ∧ But B C w w' ∧ Marked w' AG nG k ∧ MD w' g n gs ms (k + nG)

set_option maxHeartbeats 1000000 in
theorem c_markTaskX (B C gG nG cG g n c : Nat) (AG A : Option Addr) (gs ms : Nat → Nat) (x k : Int) (w : World) (hS0 : Sh gG (gG + 1) w AG nG) (hG : AG = some ⟨gG, 0, none⟩ ∨ nG = 0) (hBG : B ≤ gG) (hGC : gG < C) (hGw : gG < w.heap.size)
    (hA : 0 < n → A = some ⟨g, 0, none⟩) (hOD0 : 0 < n → OD B C w g n gs ms) (hap : 0 < n → gG ≠ g) (hap2 : ∀ j, j < n → gG ≠ gs j) (hnG : nG ≤ 64) (hn : n ≤ 8) (h0 : 0 ≤ k) (h1 : k ≤ 1000) :
    Calls Tryd.prog 34 #[.agg #[.int .i64 x, .slice AG nG cG, .slice A n c], .int .i64 k] w (MTQ B C AG nG g n gs ms k w) := by
  have hk := (Kept.refl w).alloc (.cells #[.int .i64 x, .slice AG nG cG, .slice A n c] 26)
  have hb0 : But B C w _ := But.of_kept hk
  have B0 := Blk.new w 26 #[.int .i64 x, .slice AG nG cG, .slice A n c]
  have hS := hS0.but (But.of_kept (B := gG) (C := gG + 1) hk)
  have hOD := fun hn => (hOD0 hn).but hb0
  have hGw2 := Nat.lt_of_lt_of_le hGw hk.size
  have HOD := Lib.hid hOD
  have HA := Lib.hid hA
  have HP := Lib.hid (And.intro hap hap2)
  clear hOD hOD0 hA hap hap2 hk
  go_enter Tryd.func34, Tryd.ntmps34
  go_wp2_with fail
  refine (c_markIntS gG (gG + 1) _ _ _ _ _ hS (by omega) (by omega) (by omega)).mono ?_; rintro e w2 ⟨rfl, hb2, hM⟩
  have hb2' := hb2.wider hBG (by omega : gG + 1 ≤ C)
  have c0 : w2.cell? ⟨w.heap.size, 2, none⟩ = some (.slice A n c) := hb2.slice (B0.cell 2)
  have hb3 := hb0.trans hb2'
  have hGw3 := Nat.lt_of_lt_of_le hGw2 hb2.2.2.1
  have HOD2 : Hid (0 < n → OD B C w2 g n gs ms) := fun hn => (HOD.out hn).but hb2'
  clear hb2 hb2' hS
  go_wp2_with fail
  refine (c_markDeedsX B C g n c A gs ms _ _ HA.out HOD2.out hn (by omega) (by omega)).mono ?_; rintro e w4 ⟨rfl, hb4, hM4, hH4⟩
  have hMG : Marked w4 AG nG k := by
    rcases hG with rfl | rfl
    · exact hM.same (hH4 gG hGw3 HP.out.1 HP.out.2) hb4.2.2.1
    · exact fun h => by omega
  go_wp2_with fail
  go_ret
  exact ⟨rfl, hb3.trans hb4, hMG, hM4⟩

set_option maxHeartbeats 1000000 in
theorem c_heldTaskX (nG cG g n c : Nat) (AG A : Option Addr) (gs ms : Nat → Nat) (x k : Int) (w : World) (hM0 : Marked w AG nG k) (hD0 : MD w g n gs ms (k + nG)) (hm : ∀ j, j < n → ms j ≤ 64)
    (hA : 0 < n → A = some ⟨g, 0, none⟩) (hnG : nG ≤ 64) (hn : n ≤ 8) (h0 : 0 ≤ k) (h1 : k ≤ 1000) :
    Calls Tryd.prog 35 #[.agg #[.int .i64 x, .slice AG nG cG, .slice A n c], .int .i64 k] w (RetK (.int .i64 (mkAt ms (k + nG) n)) w) := by
  have hk := (Kept.refl w).alloc (.cells #[.int .i64 x, .slice AG nG cG, .slice A n c] 26)
  have B0 := Blk.new w 26 #[.int .i64 x, .slice AG nG cG, .slice A n c]
  have hM := hM0.keep hk
  have HD := Lib.hid (hD0.kept hk)
  have HA := Lib.hid hA
  have HM := Lib.hid hm
  have hbd := mkAt_bd ms (k + nG) n hm n (Nat.le_refl _)
  obtain ⟨K, HK⟩ : ∃ K, Hid (mkAt ms (k + nG) n = K) := ⟨_, rfl⟩
  rw [HK.out] at hbd
  clear hm hA hD0 hM0
  go_enter Tryd.func35, Tryd.ntmps35
  go_wp2_with fail
  refine (c_heldIntS _ _ _ _ _ hM (by omega) (by omega) (by omega)).mono ?_; rintro e w2 ⟨rfl, rfl⟩
  have hge : ¬ k + (nG : Int) < 0 := by omega
  have c0 := B0.cell 2
  go_wp2_with fail
  refine (c_heldDeedsX g n c A gs ms _ _ HA.out HD.out HM.out hn (by omega) (by omega)).mono ?_; rintro e w4 ⟨rfl, hk4⟩
  rw [HK.out]
  have hge2 : ¬ K < 0 := by omega
  go_wp2_with fail
  go_ret
  exact ⟨by rw [HK.out]; rfl, hk.trans hk4⟩

end Go.Proofs.YtphdojebdclonaaDoor
