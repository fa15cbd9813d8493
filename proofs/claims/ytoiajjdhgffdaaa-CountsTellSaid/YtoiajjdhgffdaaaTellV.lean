/-
  counts: the plain law of Tell and Ask.
-/
import Derived.Test.YtoiajjdhgffdaaaAsk
import Derived.Test.YtoiajjdhgffdaaaRJudge
import Derived.Test.YtoiajjdhgffdaaaDoubt
namespace Go.Proofs.Ytoiajjdhgffdaaa
theorem place_of2 {t : CT} (hf : Fit t) {i c : Int} (h1 : 0 ≤ i) (h2 : i < t.T) (h3 : 0 ≤ c) (h4 : c < t.C) : isPlaceB t.C t.T i c = true := by
  have := hf.c1; have := hf.c2; have := hf.t1; have := hf.t2
  unfold isPlaceB isTimeB
  simp only [Bool.and_eq_true, withinB_true]
  rw [wrap64_in (t.T - 1) (by omega), wrap64_in (t.C - 1) (by omega)]
  omega
theorem tellTo_most {C T i c lo B : Int} {M : Nat → Nat → Int} (h0 : 0 ≤ B) : ∀ n : Nat, (∀ k : Nat, k < n → dbt C T (wordM C ⟨i, c, lo + k, lo + k⟩ M) ≤ B) → tellTo C T i c lo M n ≤ B
  | 0, _ => h0
  | n + 1, h => by
    have a := tellTo_most h0 n fun k hk => h k (by omega)
    have b := h n (by omega)
    show mx _ _ ≤ B
    unfold mx
    split <;> omega
theorem tellTo_least {C T i c lo : Int} {M : Nat → Nat → Int} : ∀ n : Nat, 0 ≤ tellTo C T i c lo M n ∧ ∀ k : Nat, k < n → dbt C T (wordM C ⟨i, c, lo + k, lo + k⟩ M) ≤ tellTo C T i c lo M n
  | 0 => ⟨Int.le_refl _, fun k hk => by omega⟩
  | n + 1 => by
    obtain ⟨a, b⟩ := tellTo_least (C := C) (T := T) (i := i) (c := c) (lo := lo) (M := M) n
    have e : tellTo C T i c lo M (n + 1) = mx (tellTo C T i c lo M n) (dbt C T (wordM C ⟨i, c, lo + n, lo + n⟩ M)) := rfl
    unfold mx at e
    refine ⟨?_, fun k hk => ?_⟩
    · rw [e]; split <;> omega
    · by_cases g : k = n
      · subst g; rw [e]; split <;> omega
      · have := b k (by omega); rw [e]; split <;> omega
theorem valid_told2 {t : CT} {x : CW} (h : validB t = true) (h7 : t.ws.length ≤ 7) (hx : isWordB t.C t.T x = true) : validB (told t x) = true := by
  have hw := (fit_told (fit_of_valid h) hx).wb
  unfold validB at h ⊢
  simp only [Bool.and_eq_true, decide_eq_true_eq] at h ⊢
  obtain ⟨a, b, c, d, e, f⟩ := h
  exact ⟨a, b, c, by simp [told]; omega, e, hw⟩
theorem word_ii {t : CT} (hf : Fit t) {i c : Nat} (hi : i < t.T.toNat) (hc : c < t.C.toNat) {n : Int} (h0 : 0 ≤ n) (h40 : n ≤ 40) : isWordB t.C t.T ⟨i, c, n, n⟩ = true := by
  have := hf.c1; have := hf.c2; have := hf.t1; have := hf.t2
  unfold isWordB isPlaceB isTimeB
  simp only [Bool.and_eq_true, withinB_true]
  rw [wrap64_in (t.T - 1) (by omega), wrap64_in (t.C - 1) (by omega)]
  omega
/-- Its doubt, as that of the last chamber at the last time. -/
theorem dbt_span {t : CT} (hf : Fit t) (hex : Exact t (-1) (setMat t (-1))) : ∃ lo hi, dbtR t = hi - lo ∧ lo ≤ hi ∧ IsMin t (-1) (fun y => y (t.T.toNat - 1) (t.C.toNat - 1) - y (t.T.toNat - 1) (t.C.toNat - 1 + 1)) lo ∧ IsMax t (-1) (fun y => y (t.T.toNat - 1) (t.C.toNat - 1) - y (t.T.toNat - 1) (t.C.toNat - 1 + 1)) hi := by
  obtain ⟨f1, f2, f3, f4, _, _⟩ := id hf
  have a := Fish_mn hf hex (t.T.toNat - 1) (t.C.toNat - 1) (by omega) (by omega)
  have b := Fish_max hf hex (t.T.toNat - 1) (t.C.toNat - 1) (by omega) (by omega)
  have c := Fish_bounds hf hex (t.T.toNat - 1) (t.C.toNat - 1) (by omega) (by omega)
  refine ⟨_, _, ?_, c.2.1, a, b⟩
  rw [dbtR_eq, show ((t.T.toNat - 1 : Nat) : Int) = t.T - 1 by omega, show ((t.C.toNat - 1 : Nat) : Int) = t.C - 1 by omega]
theorem dbt_nonneg {t : CT} (hf : Fit t) (hex : Exact t (-1) (setMat t (-1))) : 0 ≤ dbtR t := by
  obtain ⟨lo, hi, h1, h2, _⟩ := dbt_span hf hex
  omega
theorem dbt_less {t : CT} (hf : Fit t) (hex : Exact t (-1) (setMat t (-1))) {x : CW} (hx : isWordB t.C t.T x = true) (hone : ∃ y, Sat (told t x) (-1) y) : dbtR (told t x) ≤ dbtR t := by
  obtain ⟨lo, hi, h1, h2, h3, h4⟩ := dbt_span hf hex
  obtain ⟨lo', hi', k1, k2, k3, k4⟩ := dbt_span (fit_told hf hx) (exact_of_one (fit_told hf hx) hone)
  obtain ⟨y, y1, y2⟩ := k3.2
  obtain ⟨z, z1, z2⟩ := k4.2
  have a := h3.1 y (sat_told.1 y1).1
  have b := h4.1 z (sat_told.1 z1).1
  have e1 : (told t x).T = t.T := rfl
  have e2 : (told t x).C = t.C := rfl
  rw [e1, e2] at y2 z2
  simp only [] at a b y2 z2
  omega
theorem tell_law {t : CT} (hf : Fit t) (hone : ∃ y, Sat t (-1) y) {i c : Nat} (hi : i < t.T.toNat) (hc : c < t.C.toNat) :
    0 ≤ tellR t i c ∧ tellR t i c ≤ dbtR t ∧ ∀ n : Int, fishLo t i c ≤ n → n ≤ fishHi t i c → (∃ y, Sat (told t ⟨i, c, n, n⟩) (-1) y) ∧ 0 ≤ dbtR (told t ⟨i, c, n, n⟩) ∧ dbtR (told t ⟨i, c, n, n⟩) ≤ tellR t i c := by
  have hex := exact_of_one hf hone
  have hb := Fish_bounds hf hex i c hi hc
  have one : ∀ n : Int, fishLo t i c ≤ n → n ≤ fishHi t i c → ∃ y, Sat (told t ⟨i, c, n, n⟩) (-1) y := fun n h1 h2 =>
    oneB_iff.1 ((told_one hf hex (word_ii hf hi hc (n := n) (by omega) (by omega))).2 ⟨h2, h1⟩)
  have e : tellR t i c = tellTo t.C t.T i c (fishLo t i c) (setMat t (-1)) (fishHi t i c + 1 - fishLo t i c).toNat := rfl
  obtain ⟨g1, g2⟩ := tellTo_least (C := t.C) (T := t.T) (i := i) (c := c) (lo := fishLo t i c) (M := setMat t (-1)) (fishHi t i c + 1 - fishLo t i c).toNat
  refine ⟨by rw [e]; exact g1, ?_, fun n h1 h2 => ?_⟩
  · rw [e]
    refine tellTo_most (dbt_nonneg hf hex) _ fun k hk => ?_
    rw [dbt_told]
    exact dbt_less hf hex (word_ii hf hi hc (by omega) (by omega)) (one _ (by omega) (by omega))
  · have hx := word_ii hf hi hc (n := n) (by omega) (by omega)
    refine ⟨one n h1 h2, dbt_nonneg (fit_told hf hx) (exact_of_one (fit_told hf hx) (one n h1 h2)), ?_⟩
    have := g2 (n - fishLo t i c).toNat (by omega)
    rw [show fishLo t i c + ((n - fishLo t i c).toNat : Int) = n by omega, dbt_told] at this
    rw [e]; exact this
/-! Ask -/
theorem askRun_spec (t : CT) : ∀ (l : List (Nat × Nat)), (∀ x, x ∈ l → 0 ≤ tellR t x.1 x.2) →
    (l = [] ∧ askRun t l = ((0, 0), -1)) ∨ ∃ x, x ∈ l ∧ askRun t l = (((x.1 : Int), (x.2 : Int)), tellR t x.1 x.2) ∧ ∀ y, y ∈ l → tellR t x.1 x.2 ≤ tellR t y.1 y.2 := by
  have key : ∀ n (l : List (Nat × Nat)), l.length = n → (∀ x, x ∈ l → 0 ≤ tellR t x.1 x.2) →
      (l = [] ∧ askRun t l = ((0, 0), -1)) ∨ ∃ x, x ∈ l ∧ askRun t l = (((x.1 : Int), (x.2 : Int)), tellR t x.1 x.2) ∧ ∀ y, y ∈ l → tellR t x.1 x.2 ≤ tellR t y.1 y.2 := by
    intro n
    induction n with
    | zero => intro l hl _; exact .inl ⟨List.eq_nil_of_length_eq_zero hl, by rw [List.eq_nil_of_length_eq_zero hl]; rfl⟩
    | succ n ih =>
      intro l hl h
      obtain ⟨pre, x, rfl⟩ : ∃ pre x, l = pre ++ [x] := ⟨l.dropLast, l.getLast (by intro e; rw [e] at hl; simp at hl), (List.dropLast_concat_getLast _).symm⟩
      have hx := h x (by simp)
      have hp : pre.length = n := by simp at hl; exact hl
      rw [askRun_snoc]
      unfold askStep
      rcases ih pre hp (fun y hy => h y (by simp [hy])) with ⟨e1, e2⟩ | ⟨y, y1, y2, y3⟩
      · rw [e2, if_pos (.inl (by show (-1 : Int) < 0; omega))]
        subst e1
        exact .inr ⟨x, by simp, rfl, fun z hz => by simp at hz; rw [hz]; exact Int.le_refl _⟩
      · have hy := h y (by simp [y1])
        rw [y2]
        by_cases g : tellR t x.1 x.2 < tellR t y.1 y.2
        · rw [if_pos (.inr g)]
          refine .inr ⟨x, by simp, rfl, fun z hz => ?_⟩
          rcases List.mem_append.1 hz with hz | hz
          · have := y3 z hz; omega
          · simp at hz; rw [hz]; exact Int.le_refl _
        · rw [if_neg (by simp only []; omega)]
          refine .inr ⟨y, by simp [y1], rfl, fun z hz => ?_⟩
          rcases List.mem_append.1 hz with hz | hz
          · exact y3 z hz
          · simp at hz; rw [hz]; omega
  exact fun l h => key _ l rfl h
theorem mem_rowTo {C T i : Nat} {x : Nat × Nat} : ∀ {c : Nat}, x ∈ rowTo C T i c ↔ x.1 = i ∧ x.2 < c ∧ ¬ (i + 1 = T ∧ x.2 + 1 = C)
  | 0 => by simp [rowTo]
  | c + 1 => by
    have ih := mem_rowTo (C := C) (T := T) (i := i) (x := x) (c := c)
    by_cases h : i + 1 = T ∧ c + 1 = C
    · rw [rowTo_last h, ih]
      constructor
      · rintro ⟨h1, h2, h3⟩; exact ⟨h1, by omega, h3⟩
      · rintro ⟨h1, h2, h3⟩; exact ⟨h1, by omega, h3⟩
    · rw [rowTo_step h, List.mem_append, ih]
      constructor
      · rintro (⟨h1, h2, h3⟩ | h1)
        · exact ⟨h1, by omega, h3⟩
        · simp at h1; rw [h1]; exact ⟨rfl, by simp only []; omega, by simp only []; exact h⟩
      · rintro ⟨h1, h2, h3⟩
        by_cases e : x.2 = c
        · exact .inr (by simp; exact Prod.ext h1 e)
        · exact .inl ⟨h1, by omega, h3⟩
theorem mem_plTo {C T : Nat} {x : Nat × Nat} : ∀ {k : Nat}, x ∈ plTo C T k ↔ x.1 < k ∧ x.2 < C ∧ ¬ (x.1 + 1 = T ∧ x.2 + 1 = C)
  | 0 => by simp [plTo]
  | k + 1 => by
    show x ∈ plTo C T k ++ rowTo C T k C ↔ _
    rw [List.mem_append, mem_plTo, mem_rowTo]
    constructor
    · rintro (⟨h1, h2, h3⟩ | ⟨h1, h2, h3⟩)
      · exact ⟨by omega, h2, h3⟩
      · exact ⟨by omega, h2, by rw [h1]; exact h3⟩
    · rintro ⟨h1, h2, h3⟩
      by_cases e : x.1 = k
      · exact .inr ⟨e, h2, by rw [← e]; exact h3⟩
      · exact .inl ⟨by omega, h2, h3⟩
/-- What Ask says of a trap that has a truth. -/
theorem ask_law {t : CT} (hf : Fit t) (hone : ∃ y, Sat t (-1) y) (he : errR t true = 0) :
    (askE t = 3 ∧ ¬ (0 < dbtR t ∧ 1 < t.T * t.C)) ∨
    (askE t = 0 ∧ (0 < dbtR t ∧ 1 < t.T * t.C) ∧ ∃ i c : Nat, askV t = ((i : Int), (c : Int)) ∧ i < t.T.toNat ∧ c < t.C.toNat ∧ ¬ ((i : Int) = t.T - 1 ∧ (c : Int) = t.C - 1) ∧
      ∀ j d : Nat, j < t.T.toNat → d < t.C.toNat → ¬ ((j : Int) = t.T - 1 ∧ (d : Int) = t.C - 1) → tellR t i c ≤ tellR t j d) := by
  obtain ⟨f1, f2, f3, f4, _, _⟩ := id hf
  have hd := dbt_nonneg hf (exact_of_one hf hone)
  have hmul : 1 < t.T * t.C ↔ ¬ (t.T = 1 ∧ t.C = 1) := by
    have hT : t.T = 1 ∨ t.T = 2 ∨ t.T = 3 ∨ t.T = 4 ∨ t.T = 5 := by omega
    have hC : t.C = 1 ∨ t.C = 2 ∨ t.C = 3 ∨ t.C = 4 := by omega
    rcases hT with h | h | h | h | h <;> rcases hC with g | g | g | g <;> rw [h, g] <;> omega
  have hE : askE t = if (askP t).2 < 0 ∨ dbtR t = 0 then 3 else 0 := by unfold askE; rw [if_neg (by simp [he])]
  have hV : askV t = if askE t = 0 then (askP t).1 else (0, 0) := rfl
  have hmem : ∀ x, x ∈ plTo t.C.toNat t.T.toNat t.T.toNat ↔ x.1 < t.T.toNat ∧ x.2 < t.C.toNat ∧ ¬ (x.1 + 1 = t.T.toNat ∧ x.2 + 1 = t.C.toNat) := fun x => mem_plTo
  have hsp := askRun_spec t (plTo t.C.toNat t.T.toNat t.T.toNat) fun x hx => by
    obtain ⟨a, b, _⟩ := (hmem x).1 hx
    exact (tell_law hf hone a b).1
  rcases hsp with ⟨e1, e2⟩ | ⟨x, x1, x2, x3⟩
  · refine .inl ⟨by rw [hE, if_pos (.inl (by unfold askP; rw [e2]; show (-1 : Int) < 0; omega))], fun h => ?_⟩
    have hn := hmul.1 h.2
    by_cases g : t.T.toNat = 1
    · have := (hmem (0, 0)).2 ⟨by show 0 < _; omega, by show 0 < _; omega, by simp only []; omega⟩
      rw [e1] at this; cases this
    · have := (hmem (0, 0)).2 ⟨by show 0 < _; omega, by show 0 < _; omega, by simp only []; omega⟩
      rw [e1] at this; cases this
  · obtain ⟨a, b, c⟩ := (hmem x).1 x1
    have hx0 := (tell_law hf hone a b).1
    by_cases g : dbtR t = 0
    · exact .inl ⟨by rw [hE, if_pos (.inr g)], fun h => by omega⟩
    · have h0 : askE t = 0 := by rw [hE, if_neg (by unfold askP; rw [x2]; show ¬ (tellR t x.1 x.2 < 0 ∨ _); omega)]
      refine .inr ⟨h0, ⟨by omega, hmul.2 (by omega)⟩, x.1, x.2, by rw [hV, if_pos h0]; unfold askP; rw [x2], a, b, by omega, fun j d hj hdd hn => ?_⟩
      exact x3 (j, d) ((hmem (j, d)).2 ⟨hj, hdd, by simp only []; omega⟩)
end Go.Proofs.Ytoiajjdhgffdaaa
