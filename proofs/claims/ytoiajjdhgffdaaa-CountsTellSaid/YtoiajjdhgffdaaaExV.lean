/-
  the chapter's example traps: what the program answers there. No program in sight.
-/
import Derived.Test.YtoiajjdhgffdaaaPlain
import Derived.Test.YtoiajjdhgffdaaaTell2
import Derived.Test.YtoiajjdhgffdaaaEnough2
import Derived.KernelRfl
namespace Go.Proofs.Ytoiajjdhgffdaaa
theorem tellTo_le {C T i c lo m : Int} {M : Nat → Nat → Int} (h0 : 0 ≤ m) : ∀ k : Nat, (∀ j : Nat, j < k → dbt C T (wordM C ⟨i, c, lo + j, lo + j⟩ M) ≤ m) → tellTo C T i c lo M k ≤ m
  | 0, _ => h0
  | k + 1, h => by
    have ih := tellTo_le h0 k (fun j hj => h j (by omega))
    have := h k (by omega)
    show mx _ _ ≤ m
    unfold mx; split <;> omega
theorem le_tellTo {C T i c lo : Int} {M : Nat → Nat → Int} : ∀ k : Nat, (0 ≤ tellTo C T i c lo M k) ∧ ∀ j : Nat, j < k → dbt C T (wordM C ⟨i, c, lo + j, lo + j⟩ M) ≤ tellTo C T i c lo M k
  | 0 => ⟨Int.le_refl _, fun j hj => by omega⟩
  | k + 1 => by
    obtain ⟨h1, h2⟩ := le_tellTo (C := C) (T := T) (i := i) (c := c) (lo := lo) (M := M) k
    show 0 ≤ mx _ _ ∧ ∀ j : Nat, j < k + 1 → _ ≤ mx _ _
    unfold mx
    refine ⟨by split <;> omega, fun j hj => ?_⟩
    by_cases e : j = k
    · subst e; split <;> omega
    · have := h2 j (by omega)
      split <;> omega
/-! Truths that can be looked at -/
def wordOkB (x : CW) (y : Nat → Nat → Int) : Bool := decide (x.low ≤ y x.time.toNat x.chamber.toNat - y x.time.toNat (x.chamber.toNat + 1)) && decide (y x.time.toNat x.chamber.toNat - y x.time.toNat (x.chamber.toNat + 1) ≤ x.high)
def satB (t : CT) (y : Nat → Nat → Int) : Bool :=
  (allB t.T.toNat fun i => decide (y i 0 ≤ 40) && decide (y i t.C.toNat = 0)) &&
  (allB t.T.toNat fun i => allB t.C.toNat fun c => decide (y i (c + 1) ≤ y i c)) &&
  (allB t.T.toNat fun i => allB t.C.toNat fun c => decide (¬ i + 1 < t.T.toNat) || (decide (y i c ≤ y (i + 1) c) && (inB (atL t.op i) c || decide (y (i + 1) c ≤ y i c)))) &&
  allB t.ws.length fun k => wordOkB (atW t.ws k) y
theorem sat_of_satB {t : CT} {y : Nat → Nat → Int} (h : satB t y = true) : Sat t (-1) y := by
  unfold satB at h
  simp only [Bool.and_eq_true, allB_iff, decide_eq_true_eq, Bool.or_eq_true] at h
  obtain ⟨⟨⟨h1, h2⟩, h3⟩, h4⟩ := h
  refine ⟨fun i hi => (h1 i hi).1, fun i hi => (h1 i hi).2, fun i c hi hc => h2 i hi c hc, fun i c hi hc => ?_, fun i c hi hc hb => ?_, fun k hk _ => ?_⟩
  · rcases h3 i (by omega) c hc with q | q
    · exact absurd hi q
    · exact q.1
  · rcases h3 i (by omega) c hc with q | q
    · exact absurd hi q
    · rcases q.2 with q | q
      · rw [hb] at q; cases q
      · exact q
  · have := h4 k hk
    unfold wordOkB at this
    simp only [Bool.and_eq_true, decide_eq_true_eq] at this
    exact this
def tab (l : List (List Int)) (i c : Nat) : Int := at0 (atL l i) c
/-! The examples -/
def exT : CT := ⟨2, 3, [[0, 1], [1]], [⟨0, 0, 5, 6⟩, ⟨0, 1, 0, 0⟩, ⟨1, 0, 3, 8⟩, ⟨2, 1, 4, 10⟩]⟩
def exQ : CT := told exT ⟨1, 1, 12, 20⟩
theorem exT_valid : validB exT = true := by kernel_rfl
theorem exQ_valid : validB exQ = true := by kernel_rfl
theorem exT_fit : Fit exT := fit_of_valid exT_valid
theorem ex_facts {y : Nat → Nat → Int} (h : Sat exT (-1) y) :
    (y 0 2 = 0 ∧ y 1 2 = 0 ∧ y 2 2 = 0) ∧ (y 0 1 ≤ y 0 0 ∧ y 1 1 ≤ y 1 0 ∧ y 2 1 ≤ y 2 0) ∧ (y 0 0 ≤ y 1 0 ∧ y 0 1 ≤ y 1 1 ∧ y 1 0 = y 2 0 ∧ y 1 1 ≤ y 2 1) ∧
    (5 ≤ y 0 0 - y 0 1 ∧ y 0 0 - y 0 1 ≤ 6) ∧ (0 ≤ y 0 1 - y 0 2 ∧ y 0 1 - y 0 2 ≤ 0) ∧ (3 ≤ y 1 0 - y 1 1 ∧ y 1 0 - y 1 1 ≤ 8) ∧ (4 ≤ y 2 1 - y 2 2 ∧ y 2 1 - y 2 2 ≤ 10) ∧ (y 0 0 ≤ 40 ∧ y 1 0 ≤ 40 ∧ y 2 0 ≤ 40) := by
  have a1 : y 1 0 ≤ y 2 0 := h.time 1 0 (by decide) (by decide)
  have a2 : y 2 0 ≤ y 1 0 := h.shut 1 0 (by decide) (by decide) (by decide)
  exact ⟨⟨h.last 0 (by decide), h.last 1 (by decide), h.last 2 (by decide)⟩, ⟨h.chain 0 0 (by decide) (by decide), h.chain 1 0 (by decide) (by decide), h.chain 2 0 (by decide) (by decide)⟩,
    ⟨h.time 0 0 (by decide) (by decide), h.time 0 1 (by decide) (by decide), by omega, h.time 1 1 (by decide) (by decide)⟩,
    h.word 0 (by decide) (by decide), h.word 1 (by decide) (by decide), h.word 2 (by decide) (by decide), h.word 3 (by decide) (by decide), ⟨h.top 0 (by decide), h.top 1 (by decide), h.top 2 (by decide)⟩⟩
def exA : List (List Int) := [[5, 0], [5, 0], [5, 4]]
def exB : List (List Int) := [[5, 0], [10, 2], [10, 10]]
def exC : List (List Int) := [[6, 0], [18, 10], [18, 10]]
def exD (n : Nat) : List (List Int) := [[5, 0], [4 + n, ((n - 4 : Nat) : Int)], [4 + n, 4]]
theorem exA_sat : Sat exT (-1) (tab exA) := sat_of_satB (by kernel_rfl)
theorem exB_sat : Sat exT (-1) (tab exB) := sat_of_satB (by kernel_rfl)
theorem exC_sat : Sat exT (-1) (tab exC) := sat_of_satB (by kernel_rfl)
theorem exT_exact : Exact exT (-1) (setMat exT (-1)) := exact_of_one exT_fit ⟨_, exA_sat⟩
theorem exT_err (b : Bool) (h : b = true) : errR exT b = 0 := errR_ok (askR_zero.2 ⟨exT_valid, h⟩) ⟨_, exA_sat⟩
theorem ex_fish : fishLo exT 2 1 = 4 ∧ fishHi exT 2 1 = 10 :=
  ⟨(Fish_mn exT_fit exT_exact 2 1 (by decide) (by decide)).uniq ⟨fun y hy => by have := ex_facts hy; simp only [Nat.reduceAdd]; omega, tab exA, exA_sat, by decide⟩,
    (Fish_max exT_fit exT_exact 2 1 (by decide) (by decide)).uniq ⟨fun y hy => by have := ex_facts hy; simp only [Nat.reduceAdd]; omega, tab exB, exB_sat, by decide⟩⟩
theorem ex_fish00 : fishLo exT 0 0 = 5 ∧ fishHi exT 0 0 = 6 :=
  ⟨(Fish_mn exT_fit exT_exact 0 0 (by decide) (by decide)).uniq ⟨fun y hy => by have := ex_facts hy; simp only [Nat.zero_add]; omega, tab exA, exA_sat, by decide⟩,
    (Fish_max exT_fit exT_exact 0 0 (by decide) (by decide)).uniq ⟨fun y hy => by have := ex_facts hy; simp only [Nat.zero_add]; omega, tab exC, exC_sat, by decide⟩⟩
theorem ex_fish01 : fishLo exT 0 1 = 0 ∧ fishHi exT 0 1 = 0 :=
  ⟨(Fish_mn exT_fit exT_exact 0 1 (by decide) (by decide)).uniq ⟨fun y hy => by have := ex_facts hy; simp only [Nat.reduceAdd]; omega, tab exA, exA_sat, by decide⟩,
    (Fish_max exT_fit exT_exact 0 1 (by decide) (by decide)).uniq ⟨fun y hy => by have := ex_facts hy; simp only [Nat.reduceAdd]; omega, tab exC, exC_sat, by decide⟩⟩
theorem ex_fish11 : fishLo exT 1 1 = 0 ∧ fishHi exT 1 1 = 10 :=
  ⟨(Fish_mn exT_fit exT_exact 1 1 (by decide) (by decide)).uniq ⟨fun y hy => by have := ex_facts hy; simp only [Nat.reduceAdd]; omega, tab exA, exA_sat, by decide⟩,
    (Fish_max exT_fit exT_exact 1 1 (by decide) (by decide)).uniq ⟨fun y hy => by have := ex_facts hy; simp only [Nat.reduceAdd]; omega, tab exC, exC_sat, by decide⟩⟩
theorem ex_fish20 : fishLo exT 2 0 = 0 ∧ fishHi exT 2 0 = 8 :=
  ⟨(Fish_mn exT_fit exT_exact 2 0 (by decide) (by decide)).uniq ⟨fun y hy => by have := ex_facts hy; simp only [Nat.zero_add]; omega, tab exB, exB_sat, by decide⟩,
    (Fish_max exT_fit exT_exact 2 0 (by decide) (by decide)).uniq ⟨fun y hy => by have := ex_facts hy; simp only [Nat.zero_add]; omega, tab exC, exC_sat, by decide⟩⟩
theorem ex_whole : wholeLo exT 2 = 5 ∧ wholeHi exT 2 = 18 :=
  ⟨(Whole_min exT_fit exT_exact 2 (by decide)).uniq ⟨fun y hy => by have := ex_facts hy; show _ ≤ y 2 0 - y 2 2; omega, tab exA, exA_sat, by decide⟩,
    (Whole_max exT_fit exT_exact 2 (by decide)).uniq ⟨fun y hy => by have := ex_facts hy; show y 2 0 - y 2 2 ≤ _; omega, tab exC, exC_sat, by decide⟩⟩
theorem ex_passed : passLo exT 1 1 = 0 ∧ passHi exT 1 1 = 8 :=
  ⟨(Passed_min exT_fit exT_exact 1 1 (by decide) (by decide)).uniq ⟨fun y hy => by have := ex_facts hy; show _ ≤ y 2 1 - y 1 1; omega, tab exC, exC_sat, by decide⟩,
    (Passed_max exT_fit exT_exact 1 1 (by decide) (by decide)).uniq ⟨fun y hy => by have := ex_facts hy; show y 2 1 - y 1 1 ≤ _; omega, tab exB, exB_sat, by decide⟩⟩
theorem ex_judge : judgeR (fishLo exT 0 0) (fishHi exT 0 0) 7 9 = 2 := by rw [ex_fish00.1, ex_fish00.2]; decide
theorem exQ_none : ¬ ∃ y, Sat exQ (-1) y := by
  rintro ⟨y, hy⟩
  obtain ⟨h1, h2⟩ := sat_told.1 hy
  have h3 : 12 ≤ y 1 1 - y 1 2 ∧ y 1 1 - y 1 2 ≤ 20 := h2
  have := ex_facts h1
  omega
theorem exQ_err (b : Bool) (h : b = true) : errR exQ b = 3 := errR_none (askR_zero.2 ⟨exQ_valid, h⟩) exQ_none
theorem ex_enough {r1 r2 : Int} (h1 : IsFirst 3 (enHi exT 4) r1) (h2 : IsFirst 3 (enLo exT 4) r2) : r1 = 1 ∧ r2 = 2 := by
  have e : ∀ i : Nat, enHi exT 4 i = decide (4 ≤ fishHi exT i 1) ∧ enLo exT 4 i = decide (4 ≤ fishLo exT i 1) := fun i => ⟨rfl, rfl⟩
  have f0 : enHi exT 4 0 = false := by rw [(e 0).1]; show decide (4 ≤ fishHi exT 0 1) = false; rw [ex_fish01.2]; rfl
  have f1 : enHi exT 4 1 = true := by rw [(e 1).1]; show decide (4 ≤ fishHi exT 1 1) = true; rw [ex_fish11.2]; rfl
  have g0 : enLo exT 4 0 = false := by rw [(e 0).2]; show decide (4 ≤ fishLo exT 0 1) = false; rw [ex_fish01.1]; rfl
  have g1 : enLo exT 4 1 = false := by rw [(e 1).2]; show decide (4 ≤ fishLo exT 1 1) = false; rw [ex_fish11.1]; rfl
  have g2 : enLo exT 4 2 = true := by rw [(e 2).2]; show decide (4 ≤ fishLo exT 2 1) = true; rw [ex_fish.1]; rfl
  constructor
  · rcases h1 with ⟨_, h⟩ | ⟨k, hk, hr, ht, hj⟩
    · rw [h 1 (by omega)] at f1; cases f1
    · have : k ≠ 0 := fun q => by rw [q, f0] at ht; cases ht
      have : ¬ 1 < k := fun q => by rw [hj 1 q] at f1; cases f1
      omega
  · rcases h2 with ⟨_, h⟩ | ⟨k, hk, hr, ht, hj⟩
    · rw [h 2 (by omega)] at g2; cases g2
    · have : k ≠ 0 := fun q => by rw [q, g0] at ht; cases ht
      have : k ≠ 1 := fun q => by rw [q, g1] at ht; cases ht
      omega
theorem exD_all : (List.range 9).all (fun n => n == 0 || satB exT (tab (exD n))) = true := by kernel_rfl
theorem exD_sat : ∀ n : Nat, n < 9 → ∃ y, Sat exT (-1) y ∧ y 2 0 - y 2 1 = n := by
  intro n hn
  by_cases e : n = 0
  · exact ⟨tab exB, exB_sat, by rw [e]; decide⟩
  · refine ⟨tab (exD n), sat_of_satB ?_, ?_⟩
    · have := List.all_eq_true.1 exD_all n (List.mem_range.2 hn)
      simpa [e] using this
    · show (4 : Int) + n - 4 = n
      omega
theorem exW_all : (List.range 9).all (fun n => isWordB exT.C exT.T ⟨2, 0, n, n⟩) = true := by kernel_rfl
theorem ex_dbt (n : Nat) (hn : n < 9) : dbtR (told exT ⟨2, 0, n, n⟩) ≤ 6 ∧ (n = 1 → dbtR (told exT ⟨2, 0, n, n⟩) = 6) := by
  obtain ⟨y, hy, e⟩ := exD_sat n hn
  have hx : isWordB exT.C exT.T ⟨2, 0, n, n⟩ = true := List.all_eq_true.1 exW_all n (List.mem_range.2 hn)
  generalize hx2 : (⟨2, 0, n, n⟩ : CW) = x at *
  have hf := fit_told exT_fit hx
  have hw : ∀ z, WordOk x z ↔ ((n : Int) ≤ z 2 0 - z 2 1 ∧ z 2 0 - z 2 1 ≤ n) := fun z => by rw [← hx2]; exact Iff.rfl
  have hex : Exact (told exT x) (-1) (setMat (told exT x) (-1)) := exact_of_one hf ⟨y, sat_told.2 ⟨hy, (hw y).2 (by omega)⟩⟩
  have hT : (told exT x).T = 3 := rfl
  have hC : (told exT x).C = 2 := rfl
  have hmx := Fish_max hf hex 2 1 (by rw [hT]; decide) (by rw [hC]; decide)
  have hmn := Fish_mn hf hex 2 1 (by rw [hT]; decide) (by rw [hC]; decide)
  have hd := dbtR_eq (t := told exT x)
  rw [hT, hC] at hd
  obtain ⟨m1, z1, m2, m3⟩ := hmx
  obtain ⟨l1, z2, l2, l3⟩ := hmn
  have q1 := ex_facts (sat_told.1 m2).1
  have q2 := ex_facts (sat_told.1 l2).1
  have w1 := fun (y : Nat → Nat → Int) (h : Sat exT (-1) y) (h2 : (n : Int) ≤ y 2 0 - y 2 1 ∧ y 2 0 - y 2 1 ≤ n) => m1 y (sat_told.2 ⟨h, (hw y).2 h2⟩)
  have w2 := fun (y : Nat → Nat → Int) (h : Sat exT (-1) y) (h2 : (n : Int) ≤ y 2 0 - y 2 1 ∧ y 2 0 - y 2 1 ≤ n) => l1 y (sat_told.2 ⟨h, (hw y).2 h2⟩)
  rw [show (3 : Int) - 1 = ((2 : Nat) : Int) from rfl, show (2 : Int) - 1 = ((1 : Nat) : Int) from rfl] at hd
  generalize fishHi (told exT x) ((2 : Nat) : Int) ((1 : Nat) : Int) = hi at *
  generalize fishLo (told exT x) ((2 : Nat) : Int) ((1 : Nat) : Int) = lo at *
  simp only [Nat.reduceAdd] at m3 l3 w1 w2
  refine ⟨by omega, fun e1 => ?_⟩
  subst e1
  have u1 := w1 (tab [[5, 0], [11, 3], [11, 10]]) (sat_of_satB (by kernel_rfl)) (by decide)
  have u2 := w2 (tab [[5, 0], [5, 0], [5, 4]]) (sat_of_satB (by kernel_rfl)) (by decide)
  have v1 : tab [[5, 0], [11, 3], [11, 10]] 2 1 - tab [[5, 0], [11, 3], [11, 10]] 2 2 = 10 := by decide
  have v2 : tab [[5, 0], [5, 0], [5, 4]] 2 1 - tab [[5, 0], [5, 0], [5, 4]] 2 2 = 4 := by decide
  omega
theorem tellTo_six {C T i c : Int} {M : Nat → Nat → Int} {D : Nat → Int} (hD : ∀ j : Nat, dbt C T (wordM C ⟨i, c, j, j⟩ M) = D j) (h : ∀ n, n < 9 → D n ≤ 6) (h1 : D 1 = 6) : tellTo C T i c 0 M 9 = 6 := by
  have hk : ∀ j : Nat, dbt C T (wordM C ⟨i, c, 0 + (j : Int), 0 + (j : Int)⟩ M) = D j := fun j => by rw [Int.zero_add]; exact hD j
  have a := tellTo_le (C := C) (T := T) (i := i) (c := c) (lo := 0) (M := M) (m := 6) (by omega) 9 (fun j hj => by rw [hk]; exact h j hj)
  have b := (le_tellTo (C := C) (T := T) (i := i) (c := c) (lo := 0) (M := M) 9).2 1 (by omega)
  rw [hk, h1] at b
  omega
theorem ex_tell : tellR exT 2 0 = 6 := by
  unfold tellR
  rw [ex_fish20.1, ex_fish20.2]
  rw [show ((8 : Int) + 1 - 0).toNat = 9 from rfl]
  exact tellTo_six (D := fun j => dbtR (told exT ⟨2, 0, j, j⟩)) (fun j => dbt_told exT _) (fun n hn => (ex_dbt n hn).1) ((ex_dbt 1 (by omega)).2 rfl)
end Go.Proofs.Ytoiajjdhgffdaaa
