/- Joined texts. No condition. -/
import Derived.Maps.AppendAt
import Derived.Deep.RegionHeld3
import Derived.Deep.Cut
import Derived.OwnWalk
import Derived.Test.YtphdojebdclonaaDoorQ24
import Derived.Test.YtphdojebdclonaaDoorQ30
import Derived.Test.YtphdojebdclonaaDoorQ9
/- Plain: a plan's states, all told. Walks: comesTwice. Words: rows cut, appended in a drawn region. No condition. -/
namespace Go.Proofs.YtphdojebdclonaaDoor
set_option linter.unusedSimpArgs false
set_option linter.unusedVariables false
open Go.RowKit

/-- the states of a plan -/
def Sp.statesOf (t : Sp.Task) (l : List Int) : List Int := (List.range (l.length + 1)).map (Sp.stAt t l)
theorem statesOf_len (t : Sp.Task) (l : List Int) : (Sp.statesOf t l).length = l.length + 1 := by unfold Sp.statesOf; simp
theorem statesOf_at (t : Sp.Task) (l : List Int) {i : Nat} (h : i < l.length + 1) : (Sp.statesOf t l).getD i default = Sp.stAt t l i := by
  unfold Sp.statesOf
  rw [List.getD_eq_getElem?_getD, List.getElem?_map, List.getElem?_range h]; rfl
theorem statesOf_cut {t : Sp.Task} {l : List Int} {a b : Nat} (h1 : a < b) (h2 : b ≤ l.length) (he : Sp.stAt t l b = Sp.stAt t l a) : Sp.statesOf t (Sp.cutOut l a b) = (Sp.statesOf t l).take a ++ (Sp.statesOf t l).drop b := by
  have hl := cut_len h1 h2
  apply List.ext_getElem?
  intro i
  have e : ∀ m i, i < (Sp.statesOf t m).length → (Sp.statesOf t m)[i]? = some (Sp.stAt t m i) := by
    intro m i hi
    rw [statesOf_len] at hi
    unfold Sp.statesOf
    rw [List.getElem?_map, List.getElem?_range hi]; rfl
  by_cases hi : i < (Sp.cutOut l a b).length + 1
  · rw [e _ _ (by rw [statesOf_len]; exact hi)]
    by_cases hia : i < a
    · rw [List.getElem?_append_left (by rw [List.length_take, statesOf_len]; omega), List.getElem?_take, if_pos hia, e _ _ (by rw [statesOf_len]; omega), cut_before h1 h2 (by omega)]
    · rw [List.getElem?_append_right (by rw [List.length_take, statesOf_len]; omega), List.getElem?_drop, List.length_take, statesOf_len, Nat.min_eq_left (by omega), e _ _ (by rw [statesOf_len]; omega), cut_behind h1 h2 he (by omega)]
      congr 2; omega
  · rw [List.getElem?_eq_none (by rw [statesOf_len]; omega), List.getElem?_eq_none (by rw [List.length_append, List.length_take, List.length_drop, statesOf_len]; omega)]
theorem planRun_parts {t : Sp.Task} {l : List Int} (h : 0 ≤ Sp.planRun t t.start l) : Sp.taskOk t = true ∧ l.length ≤ 40 ∧ Sp.planRun t t.start l = Sp.stAt t l l.length ∧ ∀ i, 0 ≤ Sp.stAt t l i := by
  unfold Sp.planRun at h ⊢
  split at h
  · rename_i hc
    rw [if_pos hc]
    refine ⟨hc.1, hc.2.2, by unfold Sp.stAt; rw [List.take_length], fun i => ?_⟩
    refine Classical.byContradiction fun hn => ?_
    have := goOn_bad (t := t) (s := t.start.toNat) (l := l) i (by unfold Sp.stAt at hn; omega)
    omega
  · omega
theorem stAt_bd {t : Sp.Task} (hok : Sp.taskOk t = true) (l : List Int) (i : Nat) : -1 ≤ Sp.stAt t l i ∧ Sp.stAt t l i ≤ 31 := goOn_bd hok _ _ (start_lt hok)
theorem stAt_zero (t : Sp.Task) (l : List Int) : Sp.stAt t l 0 = (t.start.toNat : Int) := rfl
theorem planRun_take {t : Sp.Task} {l : List Int} (hok : Sp.taskOk t = true) (hl : l.length ≤ 40) (i : Nat) : Sp.planRun t t.start (l.take i) = Sp.stAt t l i := by
  unfold Sp.planRun
  have hs := Sp.taskOk_start hok
  rw [if_pos ⟨hok, by unfold Sp.stOk; rw [decide_eq_true_eq]; exact hs, by rw [List.length_take]; omega⟩]; rfl
theorem stAt_next {t : Sp.Task} {l : List Int} {i : Nat} (hi : i < l.length) (h0 : 0 ≤ Sp.stAt t l i) (h1 : 0 ≤ Sp.stAt t l (i + 1)) : 0 ≤ l.getD i default ∧ l.getD i default < t.deeds.length ∧ Sp.stepI (t.deeds.getD (l.getD i default).toNat default) (Sp.stAt t l i).toNat = Sp.stAt t l (i + 1) := by
  obtain ⟨u, hu⟩ := Int.eq_ofNat_of_zero_le h0
  have h2 := goOn_next (t := t) (s := t.start.toNat) hi hu
  unfold Sp.stAt at h1 hu ⊢
  rw [h2] at h1 ⊢
  rw [hu, Int.toNat_natCast]
  split at h1
  · rename_i hc
    rw [if_pos hc]; exact ⟨hc.1, hc.2.1, rfl⟩
  · omega
theorem planShort_yes {t : Sp.Task} {l : List Int} (h : 0 ≤ Sp.planRun t t.start l) : Sp.planShort t l = Sp.shortTill t l 41 := by unfold Sp.planShort; rw [if_pos h]
theorem planShort_no {t : Sp.Task} {l : List Int} (h : Sp.planRun t t.start l < 0) : Sp.planShort t l = [] := by unfold Sp.planShort; rw [if_neg (by omega)]
/-- what the program's round leaves out is what is left out at the first place that comes twice -/
theorem short_round {t : Sp.Task} {l : List Int} {m a b : Nat} (hab : a < b) (hb : b ≤ (Sp.shortTill t l m).length) (ho : Sp.Once t (Sp.shortTill t l m) a) (hm : m ≤ a) (he : Sp.stAt t (Sp.shortTill t l m) b = Sp.stAt t (Sp.shortTill t l m) a) (hl : ∀ c, b < c → c ≤ (Sp.shortTill t l m).length → Sp.stAt t (Sp.shortTill t l m) c ≠ Sp.stAt t (Sp.shortTill t l m) a) :
    Sp.shortTill t l (a + 1) = Sp.cutOut (Sp.shortTill t l m) a b := by
  have h1 := till_same hm ho
  show Sp.shortAt t (Sp.shortTill t l a) a = _
  rw [h1]
  unfold Sp.shortAt
  rw [lastEq_is hab hb he hl]
theorem short_done {t : Sp.Task} {l : List Int} {m n : Nat} (hm : m ≤ n) (ho : ∀ i j, i < j → j ≤ (Sp.shortTill t l m).length → Sp.stAt t (Sp.shortTill t l m) i ≠ Sp.stAt t (Sp.shortTill t l m) j) : Sp.shortTill t l n = Sp.shortTill t l m :=
  till_same hm fun i j _ h2 h3 => ho i j h2 h3

/-- what comesTwice tells -/
def TwiceQ (l : List Int) (v : Value) (_w : World) : Prop :=
  (∃ a b : Nat, v = .tuple #[.int .i64 (a : Int), .int .i64 (b : Int), .bool true] ∧ a < b ∧ b < l.length ∧ l.getD b default = l.getD a default ∧ (∀ c, b < c → c < l.length → l.getD c default ≠ l.getD a default) ∧ ∀ i j, i < a → i < j → j < l.length → l.getD i default ≠ l.getD j default) ∨
  (v = .tuple #[.int .i64 0, .int .i64 0, .bool false] ∧ ∀ i j, i < j → j < l.length → l.getD i default ≠ l.getD j default)

























































/-- a row cut shorter -/
theorem own_cut {w : World} {B n c m : Nat} {T : TypeId} {A : Option Addr} {xs : List Value} (h : w.ownsRow B T 1 (.slice A n c) n xs) (hm : m ≤ n) : w.ownsRow B T 1 (.slice A m c) m (xs.take m) := by
  refine ⟨by rw [List.length_take, h.1]; omega, ?_⟩
  rcases h.2 with ⟨e, h0⟩ | ⟨g, cap, cur, e, h1, h2, h3, h4, h5, h6⟩
  · injection e with e1 e2 e3
    obtain rfl : m = 0 := by omega
    exact .inl ⟨by rw [e1, e3], rfl⟩
  · injection e with e1 e2 e3
    refine .inr ⟨g, cap, cur, by rw [e1, e3], h1, h2, by omega, h4, h5, ?_⟩
    rw [← h6, List.take_take, Nat.mul_one, Nat.mul_one, Nat.min_eq_left hm]
/-- where a row lies -/
theorem own_at {w : World} {B n P : Nat} {T : TypeId} {sz : Nat} {v : Value} {xs : List Value} (h : w.ownsRow B T sz v n xs) (hb : v.ownBlock = some P) : ∃ c, v = .slice (some ⟨P, 0, none⟩) n c ∧ n ≤ c := by
  rcases h.2 with ⟨rfl, _⟩ | ⟨g, cap, cur, rfl, _, _, h3, _⟩
  · simp [Value.ownBlock] at hb
  · simp only [Value.ownBlock, Option.some.injEq] at hb
    subst hb
    exact ⟨cap, rfl, h3⟩
section
variable {P : Program} (w : World)
theorem wp_append_own_at {o : Oper} {a : Act} {K : Act → World → Prop} {Q : Exit → Act → World → Prop} (s x : Operand) (t : TypeId)
    (ho : o.op = .call { callee := .builtin .append, args := #[s, x], argTypes := #[t, t] })
    (base : Nat) (e : TypeId) (i : TypeInfo) (z : Value) (size bytes : Nat) (ht : P.underlying t = some (.slice e)) (hi : P.info? e = some i) (hz : i.zero = some z)
    (hsize : i.size = size) (hby : i.bytes = bytes) (hzs : z.cells.size = size) (hsz : 0 < size)
    (v : Value) (n : Nat) (xs : List Value) (hs : a.eval s = v) (hown : w.ownsRow base e size v n xs)
    (ad : Addr) (m c : Nat) (news : List Value) (hx : a.eval x = .slice (some ad) m c) (hl : news.length = m * size) (hnews : ∀ j u, news[j]? = some u → w.cell? (ad.add j) = some u) (h1 : ∀ u ∈ news, u.oneCell' = true)
    (h63 : n + m ≤ maxLen) (hbytes : (n + m) * bytes ≤ 140737488355328) (hbase : base ≤ w.heap.size)
    (h : ∀ v' w', w'.ownsRow base e size v' (n + m) (xs ++ news) → w.grownBy w' v.ownBlock → (v'.ownBlock = v.ownBlock ∨ v'.ownBlock = some w.heap.size) → K (a.put o.dst v') w') : o.wp P a w K Q := by
  obtain ⟨v', w', hr, h2, h3, _, h5⟩ := run_append_own_at (P := P) w base t o.type e i z size bytes ht hi hz hsize hby hzs hsz v n xs hown ad m c news hl hnews h1 h63 hbytes hbase
  unfold Oper.wp execOp
  simp only [ho, resolve, invoke, builtin, Sem.run_bind, Sem.run_pure, Result.andThen_ok, List.map_toArray, List.map_cons, List.map_nil, hs, hx, hr]
  exact h v' w' h2 h3 h5
end
/-- two rows of integers, apart -/
def Rows2 (B : Nat) (w : World) (P Q n c n' c' : Nat) (l l' : List Int) : Prop :=
  P ≠ Q ∧ w.ownsRow B 3 1 (.slice (some ⟨P, 0, none⟩) n c) n (l.map (Value.int .i64)) ∧ w.ownsRow B 3 1 (.slice (some ⟨Q, 0, none⟩) n' c') n' (l'.map (Value.int .i64))
theorem Rows2.keep {B P Q n c n' c' : Nat} {w w' : World} {l l' : List Int} (h : Rows2 B w P Q n c n' c' l l') (hk : Kept w w') : Rows2 B w' P Q n c n' c' l l' := ⟨h.1, own_keep h.2.1 hk, own_keep h.2.2 hk⟩
theorem Rows2.swap {B P Q n c n' c' : Nat} {w : World} {l l' : List Int} (h : Rows2 B w P Q n c n' c' l l') : Rows2 B w Q P n' c' n c l' l := ⟨fun e => h.1 e.symm, h.2.2, h.2.1⟩
/-- behind an append to the first one -/
theorem Rows2.first {B P Q n c n' c' m : Nat} {w w1 w2 : World} {l l' l2 : List Int} {v : Value} (h : Rows2 B w P Q n c n' c' l l') (hk : Kept w w1) (hg : w1.grownBy w2 (some P)) (ho : w2.ownsRow B 3 1 v m (l2.map (Value.int .i64))) (hat : v.ownBlock = some P ∨ v.ownBlock = some w1.heap.size) :
    ∃ P2 c2, v = .slice (some ⟨P2, 0, none⟩) m c2 ∧ Rows2 B w2 P2 Q m c2 n' c' l2 l' := by
  have h2 : w2.ownsRow B 3 1 (.slice (some ⟨Q, 0, none⟩) n' c') n' (l'.map (Value.int .i64)) := (own_keep h.2.2 hk).kept hg (.inr (by
    simp only [Value.ownBlock, ne_eq, Option.some.injEq]; exact fun e => h.1 e.symm))
  have hQ := (h.2.2.lt Q rfl).2
  have hs := hk.size
  rcases hat with e | e
  · obtain ⟨c2, rfl, _⟩ := own_at ho e
    exact ⟨P, c2, rfl, h.1, ho, h2⟩
  · obtain ⟨c2, rfl, _⟩ := own_at ho e
    exact ⟨_, c2, rfl, by omega, ho, h2⟩
theorem own_row_ints {w : World} {B n c P : Nat} {l : List Int} (h : w.ownsRow B 3 1 (.slice (some ⟨P, 0, none⟩) n c) n (l.map (Value.int .i64))) (hn : n ≤ 64) (hi : ∀ x ∈ l, Sp.inI x) : Ints w (some ⟨P, 0, none⟩) n l := by
  have hl : l.length = n := by have := h.1; simpa using this
  refine ⟨hl, by unfold maxLen; omega, hi, fun _ => ⟨P, 0, rfl, (h.lt P rfl).2, fun k hk => ?_⟩⟩
  have hc := h.cells (g := P) rfl k (.int .i64 (l.getD k default)) (by rw [List.getElem?_map, List.getD_eq_getElem?_getD, List.getElem?_eq_getElem (by omega)]; rfl)
  rw [Nat.zero_add]
  have e : ((⟨P, 0, none⟩ : Addr).add k) = ⟨P, k, none⟩ := by
    unfold Addr.add
    split
    · rename_i h0; subst h0; rfl
    · simp
  rw [e] at hc
  exact hc

end Go.Proofs.YtphdojebdclonaaDoor
