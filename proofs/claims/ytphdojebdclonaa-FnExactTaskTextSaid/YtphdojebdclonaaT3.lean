/- The reference's CodeText: where a part of a code begins, its text. -/
import Derived.Test.YtphdojebdclonaaT2
namespace Go.Proofs.Ytphdojebdclonaa
open Go.RowKit

theorem span_step (c : Sp.Cond) (ts : List Sp.Cond) (hok : ∀ d ∈ c :: ts, d.ok) : ∃ ts', Sp.stepsOf (c :: ts) = Sp.stepsOf ts' ++ [c.last] ∧ ts'.length = ts.length + Sp.takes c.last ∧ ∀ d ∈ ts', d.ok := by
  have hc := hok c (by simp)
  have ht : ∀ d ∈ ts, d.ok := fun d hd => hok d (by simp [hd])
  cases c with
  | one s =>
    refine ⟨ts, rfl, ?_, ht⟩
    have : Sp.takes s = 0 := by unfold Sp.takes; obtain ⟨_, h6⟩ := hc; rw [if_neg (by omega), if_neg (by omega)]
    show _ = _ + Sp.takes s
    rw [this]; rfl
  | neg c =>
    refine ⟨c :: ts, by simp [Sp.stepsOf, Sp.Cond.steps, Sp.Cond.last], rfl, fun d hd => ?_⟩
    rcases List.mem_cons.1 hd with rfl | hd
    · exact hc
    · exact ht d hd
  | two s l h =>
    refine ⟨h :: l :: ts, by simp [Sp.stepsOf, Sp.Cond.steps, Sp.Cond.last], ?_, fun d hd => ?_⟩
    · show _ = _ + Sp.takes s
      rcases hc.1 with rfl | rfl <;> rfl
    · rcases List.mem_cons.1 hd with rfl | hd
      · exact hc.2.2
      · rcases List.mem_cons.1 hd with rfl | hd
        · exact hc.2.1
        · exact ht d hd
theorem getD_mid (a b : List Int) (x : Int) : (a ++ x :: b).getD a.length default = x := by simp
theorem getD_at {l a b : List Int} {x : Int} {k : Nat} (hl : l = a ++ x :: b) (hk : k = a.length) : l.getD k default = x := by subst hl hk; exact getD_mid a b x
theorem str_brk (l : List UInt8) : ((⟨#[40]⟩ : ByteArray) ++ ⟨l.toArray⟩ ++ ⟨#[41]⟩) = ⟨(Sp.brk true l).toArray⟩ := by
  exact (congrArg (fun z : ByteArray => z ++ ⟨#[41]⟩) (str_add [40] l)).trans (str_add1 (40 :: l) 41)
theorem stepsOf_ge (ts : List Sp.Cond) : ts.length ≤ (Sp.stepsOf ts).length := by
  induction ts with
  | nil => simp
  | cons c ts ih => have := steps_pos c; simp only [Sp.stepsOf, List.length_append, List.length_cons]; omega

set_option maxHeartbeats 1000000 in
theorem c_l5Span (A : Option Addr) (n c p : Nat) (l pre post : List Int) (d : Sp.Cond) (w : World) (h : Ints w A n l) (hl : l = pre ++ d.steps ++ post) (hd : d.ok) (hn : n ≤ 40) (hp : p + 1 = pre.length + d.steps.length) :
    Calls Try.prog 100 #[.slice A n c, .int .i64 p] w (Ret (.int .i64 (pre.length : Nat)) w) := by
  have HL := Lib.hid h.len
  have hpn : p + 1 ≤ n := by rw [← h.len, hl]; simp; omega
  have hw : IntKind.i64.wrap ((p : Int) + 1) = ((p + 1 : Nat) : Int) := by rw [IntKind.wrap_i64]; omega
  have HP := Lib.hid hp
  have H0 : Hid (∃ ts post, p + 1 = pre.length + (Sp.stepsOf ts).length ∧ 1 = ts.length ∧ l = pre ++ Sp.stepsOf ts ++ post ∧ ∀ d ∈ ts, d.ok) := ⟨[d], post, by simpa [Sp.stepsOf] using hp, rfl, by simpa [Sp.stepsOf] using hl, by simpa using hd⟩
  obtain ⟨P1, HP1⟩ : ∃ x : Nat, Hid (p + 1 = x) := ⟨_, rfl⟩
  rw [HP1.out] at hw H0
  clear hl hp
  go_enter Try.func100, Try.ntmps100
  go_wp2_with fail
  go_loop [5, 6] (fun a b => ∃ (q k : Nat), a = .int .i64 q ∧ b = .int .i64 k ∧ k ≤ p + 1 ∧ Hid (∃ ts post, k = pre.length + (Sp.stepsOf ts).length ∧ q = ts.length ∧ l = pre ++ Sp.stepsOf ts ++ post ∧ ∀ d ∈ ts, d.ok)) (fun _ b => (intOf b).toNat)
  case atStart => exact ⟨1, P1, rfl, rfl, Nat.le_of_eq HP1.out.symm, H0⟩
  case round =>
    obtain ⟨q, k, rfl, rfl, hk, HQ⟩ := hrel
    by_cases hq : q = 0
    · subst hq
      have hpre : k = pre.length := by
        obtain ⟨ts, post, h1, h2, _⟩ := HQ.out
        obtain rfl : ts = [] := List.eq_nil_of_length_eq_zero h2.symm
        simpa [Sp.stepsOf] using h1
      subst hpre
      go_wp2_with fail
      go_ret
      exact ⟨rfl, rfl⟩
    · have hq1 : (0 : Int) < (q : Int) := by omega
      obtain ⟨k', x, HX, hk1, hq2, H2⟩ : ∃ (k' : Nat) (x : Int), Hid (l.getD k' default = x) ∧ k = k' + 1 ∧ q ≤ k ∧ Hid (∃ ts post, k' = pre.length + (Sp.stepsOf ts).length ∧ q - 1 + Sp.takes x = ts.length ∧ l = pre ++ Sp.stepsOf ts ++ post ∧ ∀ d ∈ ts, d.ok) := by
        obtain ⟨ts, post, h1, h2, h3, h4⟩ := HQ.out
        match ts, h2 with
        | [], h2 => simp at h2; omega
        | c :: ts, h2 =>
          obtain ⟨ts', e1, e2, e3⟩ := span_step c ts h4
          have hge := stepsOf_ge (c :: ts)
          rw [e1] at h1 h3 hge
          simp only [List.length_append, List.length_cons, List.length_nil] at h1 h2 hge
          refine ⟨pre.length + (Sp.stepsOf ts').length, c.last, ?_, by omega, by omega, ⟨ts', c.last :: post, rfl, by omega, by rw [h3]; simp, e3⟩⟩
          show _ = _
          have := getD_mid (pre ++ Sp.stepsOf ts') post c.last
          rw [List.length_append] at this
          rw [h3, ← this]
          simp
      subst hk1
      obtain ⟨b, off, rfl, hb, hc, _⟩ := h.at (k := k') (by omega)
      rw [HX.out] at hc
      have ht : Sp.takes x ≤ 2 := by unfold Sp.takes; split <;> (try split) <;> omega
      have hw1 : IntKind.i64.wrap (((k' + 1 : Nat) : Int) - 1) = (k' : Int) := by rw [IntKind.wrap_i64]; omega
      have hw2 : IntKind.i64.wrap (IntKind.i64.wrap ((q : Int) - 1) + (Sp.takes x : Int)) = ((q - 1 + Sp.takes x : Nat) : Int) := by simp only [IntKind.wrap_i64]; omega
      clear HX HQ hw
      go_wp2_with fail
      refine (c_l5Takes x _).mono ?_; rintro e w2 ⟨rfl, rfl⟩
      go_wp2_with fail
      exact ⟨⟨q - 1 + Sp.takes x, k', by congr 1; omega, rfl, by omega, H2⟩, by simp [intOf]⟩

/-- the sign that stands for one step -/
theorem sgn_one {s : Int} (h0 : 0 ≤ s) (h1 : s < 5) : Sp.sgn s = UInt8.ofNat (97 + s.toNat) := by
  unfold Sp.sgn
  rw [if_neg (by omega), if_neg (by omega)]

set_option maxHeartbeats 4000000 in
theorem c_l5Text (d : Sp.Cond) : ∀ (A : Option Addr) (n c p m : Nat) (l pre post : List Int) (w : World), Ints w A n l → l = pre ++ d.steps ++ post → d.ok → n ≤ 40 → p + 1 = pre.length + d.steps.length → m ≤ 3 →
    Calls Try.prog 93 #[.slice A n c, .int .i64 p, .int .i64 m] w (RetK (.string ⟨(d.text m).toArray⟩) w) := by
  induction d with
  | one s =>
    intro A n c p m l pre post w h hl hd hn hp hm
    have HT := Lib.hid (text_one s m hm)
    obtain ⟨h0, h6⟩ := hd
    have HL := Lib.hid h.len
    have hpn : p < n := by rw [← h.len, hl]; simp [Sp.Cond.steps] at hp ⊢; omega
    obtain ⟨b, off, rfl, hb, hc, _⟩ := h.at hpn
    have hg : l.getD p default = s := by
      have := getD_mid pre post s
      simp only [Sp.Cond.steps, List.length_cons, List.length_nil] at hp
      rw [hl, show p = pre.length by omega, ← this]
      simp [Sp.Cond.steps]
    rw [hg] at hc
    clear hg hl hp hm
    obtain ⟨s, rfl⟩ := Int.eq_ofNat_of_zero_le h0
    by_cases h5 : s < 5
    · rw [sgn_one (by omega) (by omega), Int.toNat_natCast] at HT
      have hi5 : (s : Int) < 5 := by omega
      obtain ⟨c', HC⟩ : ∃ c : Nat, Hid (c = 97 + s) := ⟨_, rfl⟩
      have hw : IntKind.i64.wrap (97 + (s : Int)) = (c' : Int) := by rw [HC.out, IntKind.wrap_i64]; omega
      have hw8 : IntKind.u8.wrap (c' : Int) = (c' : Int) := by rw [HC.out]; simp [IntKind.wrap, IntKind.bits, IntKind.signed]; omega
      have hcv := run_byte_string w c' (by rw [HC.out]; omega)
      rw [← HC.out] at HT
      obtain ⟨u, HU⟩ : ∃ u, Hid (UInt8.ofNat c' = u) := ⟨_, rfl⟩
      rw [HU.out] at HT hcv
      clear h6
      go_enter Try.func93, Try.ntmps93
      go_wp2_with fail
      go_ret
      exact ⟨by rw [HT.out]; rfl, (Kept.refl _).alloc _⟩
    · have hi5 : ¬ (s : Int) < 5 := by omega
      by_cases e : s = 5
      · subst e
        go_enter Try.func93, Try.ntmps93
        go_wp2_with fail
        go_ret
        exact ⟨by show _ = Ending.returned (.string ⟨((Sp.Cond.one ((5 : Nat) : Int)).text m).toArray⟩); rw [HT.out]; rfl, (Kept.refl _)⟩
      · obtain rfl : s = 6 := by omega
        go_enter Try.func93, Try.ntmps93
        go_wp2_with fail
        go_ret
        exact ⟨by show _ = Ending.returned (.string ⟨((Sp.Cond.one ((6 : Nat) : Int)).text m).toArray⟩); rw [HT.out]; rfl, (Kept.refl _)⟩
  | neg d ih =>
    intro A n c p m l pre post w h hl hd hn hp hm
    have HT := Lib.hid (text_neg d m hm)
    have HL := Lib.hid h.len
    have hs1 := steps_pos d
    have hss : (Sp.Cond.neg d).steps = d.steps ++ [7] := rfl
    rw [hss] at hl hp
    simp only [List.length_append, List.length_cons, List.length_nil] at hp
    have hpn : p < n := by rw [← h.len, hl]; simp; omega
    obtain ⟨b, off, rfl, hb, hc, _⟩ := h.at hpn
    have hg : l.getD p default = 7 := by
      have := getD_mid (pre ++ d.steps) post 7
      rw [List.length_append] at this
      rw [hl, show p = pre.length + d.steps.length by omega, ← this]
      simp
    rw [hg] at hc
    have IH := Lib.hid (ih (some ⟨b, off, none⟩) n c (p - 1) 3 l pre (7 :: post) w h (by rw [hl]; simp) hd hn (by omega) (by omega))
    have hw1 : IntKind.i64.wrap ((p : Int) - 1) = ((p - 1 : Nat) : Int) := by rw [IntKind.wrap_i64]; omega
    have HLen := Lib.hid (text_len d 3)
    have hlen : (d.text 3).length ≤ 120 := by
      have h1 : d.steps.length ≤ 40 := by
        have h2 := h.len
        rw [hl] at h2
        simp at h2
        omega
      have := HLen.out.2
      omega
    clear hg hl hp hm ih hss
    go_enter Try.func93, Try.ntmps93
    go_wp2_with fail
    refine IH.out.mono ?_; rintro e w2 ⟨rfl, hk2⟩
    generalize d.text 3 = tx at *
    go_wp2_with fail
    go_ret
    exact ⟨by rw [HT.out]; exact congrArg (fun x => Ending.returned (.string x)) (str_add [33] tx), hk2⟩
  | two s d1 d2 ih1 ih2 =>
    intro A n c p m l pre post w h hl hd hn hp hm
    have HL := Lib.hid h.len
    have hs1 := steps_pos d1
    have hs2 := steps_pos d2
    have hss : (Sp.Cond.two s d1 d2).steps = d1.steps ++ d2.steps ++ [s] := rfl
    rw [hss] at hl hp
    simp only [List.length_append, List.length_cons, List.length_nil] at hp
    have hln : d1.steps.length + d2.steps.length ≤ 39 ∧ p < n := by
      have h2 := h.len
      rw [hl] at h2
      simp at h2
      omega
    obtain ⟨hln, hpn⟩ := hln
    have hlen1 : ∀ k, (d1.text k).length ≤ 120 := fun k => by have := text_len d1 k; omega
    have hlen2 : ∀ k, (d2.text k).length ≤ 120 := fun k => by have := text_len d2 k; omega
    obtain ⟨b, off, rfl, hb, hc, _⟩ := h.at hpn
    have hg : l.getD p default = s := getD_at (a := pre ++ d1.steps ++ d2.steps) (b := post) (by rw [hl]; simp) (by simp only [List.length_append]; omega)
    rw [hg] at hc
    have IS := Lib.hid (c_l5Span (some ⟨b, off, none⟩) n c (p - 1) l (pre ++ d1.steps) (s :: post) d2 w h (by rw [hl]; simp) hd.2.2 hn (by rw [List.length_append]; omega))
    rw [List.length_append] at IS
    have hw1 : IntKind.i64.wrap ((p : Int) - 1) = ((p - 1 : Nat) : Int) := by rw [IntKind.wrap_i64]; omega
    have hw2 : IntKind.i64.wrap (((pre.length + d1.steps.length : Nat) : Int) - 1) = ((pre.length + d1.steps.length - 1 : Nat) : Int) := by rw [IntKind.wrap_i64]; omega
    clear hg
    obtain ⟨hs, hd⟩ := hd
    rcases hs with rfl | rfl
    · have HT := Lib.hid (text_two 8 d1 d2 m)
      rw [if_pos rfl] at HT
      have IH1 := Lib.hid (ih1 (some ⟨b, off, none⟩) n c (pre.length + d1.steps.length - 1) 2 l pre (d2.steps ++ 8 :: post) w h (by rw [hl]; simp) hd.1 hn (by omega) (by omega))
      have IH2 := Lib.hid (fun w3 (hk3 : Kept w w3) => ih2 (some ⟨b, off, none⟩) n c (p - 1) 3 l (pre ++ d1.steps) (8 :: post) w3 (h.keep hk3) (by rw [hl]; simp) hd.2 hn (by rw [List.length_append]; omega) (by omega))
      have hx1 := hlen1 2
      have hx2 := hlen2 3
      obtain ⟨q, HQ⟩ : ∃ q, Hid (pre.length + d1.steps.length = q) := ⟨_, rfl⟩
      rw [HQ.out] at IS hw2 IH1
      generalize d1.text 2 = t1 at *
      generalize d2.text 3 = t2 at *
      have hx3 : (t1 ++ 38 :: t2).length ≤ 241 := by simp; omega
      have HJ : Hid ((⟨t1.toArray⟩ : ByteArray) ++ ⟨#[38]⟩ ++ ⟨t2.toArray⟩ = ⟨(t1 ++ 38 :: t2).toArray⟩) := by
        show _ = _
        rw [str_add1, str_add]; simp
      clear hl hp ih1 ih2 hss hlen1 hlen2 hn hln
      by_cases hm2 : 2 < m
      · rw [decide_eq_true hm2] at HT
        have hmi : (2 : Int) < (m : Int) := by omega
        go_enter Try.func93, Try.ntmps93
        go_wp2_with fail
        refine IS.out.mono ?_; rintro e w2 ⟨rfl, rfl⟩
        go_wp2_with fail
        refine IH1.out.mono ?_; rintro e w3 ⟨rfl, hk3⟩
        go_wp2_with fail
        refine (IH2.out w3 hk3).mono ?_; rintro e w4 ⟨rfl, hk4⟩
        go_wp2_with fail
        go_ret
        exact ⟨by rw [HT.out, HJ.out]; exact congrArg (fun x => Ending.returned (.string x)) (str_brk _), hk3.trans hk4⟩
      · rw [decide_eq_false hm2] at HT
        have hmi : ¬ (2 : Int) < (m : Int) := by omega
        go_enter Try.func93, Try.ntmps93
        go_wp2_with fail
        refine IS.out.mono ?_; rintro e w2 ⟨rfl, rfl⟩
        go_wp2_with fail
        refine IH1.out.mono ?_; rintro e w3 ⟨rfl, hk3⟩
        go_wp2_with fail
        refine (IH2.out w3 hk3).mono ?_; rintro e w4 ⟨rfl, hk4⟩
        go_wp2_with fail
        go_ret
        exact ⟨by rw [HT.out, HJ.out]; rfl, hk3.trans hk4⟩
    · have HT := Lib.hid (text_two 9 d1 d2 m)
      rw [if_neg (by decide)] at HT
      have IH1 := Lib.hid (ih1 (some ⟨b, off, none⟩) n c (pre.length + d1.steps.length - 1) 1 l pre (d2.steps ++ 9 :: post) w h (by rw [hl]; simp) hd.1 hn (by omega) (by omega))
      have IH2 := Lib.hid (fun w3 (hk3 : Kept w w3) => ih2 (some ⟨b, off, none⟩) n c (p - 1) 2 l (pre ++ d1.steps) (9 :: post) w3 (h.keep hk3) (by rw [hl]; simp) hd.2 hn (by rw [List.length_append]; omega) (by omega))
      have hx1 := hlen1 1
      have hx2 := hlen2 2
      obtain ⟨q, HQ⟩ : ∃ q, Hid (pre.length + d1.steps.length = q) := ⟨_, rfl⟩
      rw [HQ.out] at IS hw2 IH1
      generalize d1.text 1 = t1 at *
      generalize d2.text 2 = t2 at *
      have hx3 : (t1 ++ 124 :: t2).length ≤ 241 := by simp; omega
      have HJ : Hid ((⟨t1.toArray⟩ : ByteArray) ++ ⟨#[124]⟩ ++ ⟨t2.toArray⟩ = ⟨(t1 ++ 124 :: t2).toArray⟩) := by
        show _ = _
        rw [str_add1, str_add]; simp
      clear hl hp ih1 ih2 hss hlen1 hlen2 hn hln
      by_cases hm2 : 1 < m
      · rw [decide_eq_true hm2] at HT
        have hmi : (1 : Int) < (m : Int) := by omega
        go_enter Try.func93, Try.ntmps93
        go_wp2_with fail
        refine IS.out.mono ?_; rintro e w2 ⟨rfl, rfl⟩
        go_wp2_with fail
        refine IH1.out.mono ?_; rintro e w3 ⟨rfl, hk3⟩
        go_wp2_with fail
        refine (IH2.out w3 hk3).mono ?_; rintro e w4 ⟨rfl, hk4⟩
        go_wp2_with fail
        go_ret
        exact ⟨by rw [HT.out, HJ.out]; exact congrArg (fun x => Ending.returned (.string x)) (str_brk _), hk3.trans hk4⟩
      · rw [decide_eq_false hm2] at HT
        have hmi : ¬ (1 : Int) < (m : Int) := by omega
        go_enter Try.func93, Try.ntmps93
        go_wp2_with fail
        refine IS.out.mono ?_; rintro e w2 ⟨rfl, rfl⟩
        go_wp2_with fail
        refine IH1.out.mono ?_; rintro e w3 ⟨rfl, hk3⟩
        go_wp2_with fail
        refine (IH2.out w3 hk3).mono ?_; rintro e w4 ⟨rfl, hk4⟩
        go_wp2_with fail
        go_ret
        exact ⟨by rw [HT.out, HJ.out]; rfl, hk3.trans hk4⟩

theorem codeText_no {l : List Int} (h : Sp.codeOk l = false) : Sp.codeText l = [] := by unfold Sp.codeText; rw [if_neg (by rw [h]; decide)]
theorem codeText_yes {l : List Int} (h : Sp.codeOk l = true) : Sp.codeText l = (Sp.treeOf l).text 0 := by unfold Sp.codeText; rw [if_pos h]
theorem codeOk_len {l : List Int} (h : Sp.codeOk l = true) : 1 ≤ l.length ∧ l.length ≤ 40 := by
  obtain ⟨q, _, _, h1, h2⟩ := (Sp.codeOk_iff l).1 h
  exact ⟨h1, h2⟩
theorem codeText_len (l : List Int) : (Sp.codeText l).length ≤ 120 := by
  cases h : Sp.codeOk l
  · rw [codeText_no h]; simp
  · rw [codeText_yes h]
    have h1 := (text_len (Sp.treeOf l) 0).2
    rw [(tree_code h).2.2.1] at h1
    have := (codeOk_len h).2
    omega

set_option maxHeartbeats 1000000 in
theorem c_sCodeText (A : Option Addr) (n c : Nat) (l : List Int) (w : World) (h : Ints w A n l) : Calls Try.prog 60 #[.slice A n c] w (RetK (.string ⟨(Sp.codeText l).toArray⟩) w) := by
  have hn := h.le
  cases hc : Sp.codeOk l
  · have HT := Lib.hid (codeText_no hc)
    have HO := Lib.hid hc
    clear hc
    go_enter Try.func60, Try.ntmps60
    go_wp2_with fail
    refine (c_sCodeValid A n c l w h).mono ?_; rintro e w2 ⟨rfl, rfl⟩
    rw [HO.out]
    go_wp2_with fail
    go_ret
    exact ⟨by rw [HT.out]; rfl, Kept.refl _⟩
  · have HT := Lib.hid (codeText_yes hc)
    have HO := Lib.hid hc
    obtain ⟨ht1, ht2, ht3, _⟩ := tree_code hc
    obtain ⟨h1, h2⟩ := codeOk_len hc
    rw [h.len] at h1 h2
    have IH := Lib.hid (c_l5Text (Sp.treeOf l) A n c (n - 1) 0 l [] [] w h (by rw [ht3]; simp) ht2 h2 (by rw [ht3, h.len]; simp; omega) (by omega))
    have hw1 : IntKind.i64.wrap ((n : Int) - 1) = ((n - 1 : Nat) : Int) := by rw [IntKind.wrap_i64]; omega
    clear hc ht1 ht2 ht3
    go_enter Try.func60, Try.ntmps60
    go_wp2_with fail
    refine (c_sCodeValid A n c l w h).mono ?_; rintro e w2 ⟨rfl, rfl⟩
    rw [HO.out]
    go_wp2_with fail
    refine IH.out.mono ?_; rintro e w4 ⟨rfl, hk4⟩
    go_wp2_with fail
    go_ret
    exact ⟨by rw [HT.out]; rfl, hk4⟩

end Go.Proofs.Ytphdojebdclonaa
