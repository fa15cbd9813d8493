/-
  the chapter's example traps: the spans of the program's answers there. No program in sight.
-/
import Derived.Test.YtkdcdhkhadhcfaaPlain
import Derived.KernelRfl
namespace Go.Proofs.Ytkdcdhkhadhcfaa
/-! Truths that can be looked at -/
def wordOkB (x : CW) (y : Nat → Nat → Int) : Bool := decide (x.low ≤ y x.time.toNat x.chamber.toNat - y x.time.toNat (x.chamber.toNat + 1)) && decide (y x.time.toNat x.chamber.toNat - y x.time.toNat (x.chamber.toNat + 1) ≤ x.high)
def satB (t : CT) (y : Nat → Nat → Int) : Bool :=
  (allB t.T.toNat fun i => decide (y i 0 ≤ 40) && decide (y i t.C.toNat = 0)) &&
  (allB t.T.toNat fun i => allB t.C.toNat fun c => decide (y i (c + 1) ≤ y i c)) &&
  (allB t.T.toNat fun i => allB t.C.toNat fun c => decide (¬ i + 1 < t.T.toNat) || (decide (y i c ≤ y (i + 1) c) && (inB (atL t.op i) c || decide (y (i + 1) c ≤ y i c)))) &&
  allB t.ws.length fun k => wordOkB (atW t.ws k) y
theorem sat_of_satB {t : CT} {y : Nat → Nat → Int} (h : satB t y = true) : Sat t (-1) y := by
  unfold satB at h
  simp only [Bool.and_eq_true, allB_iff, decide_eq_true_eq, Bool.or_eq_true] at h
  obtain ⟨⟨⟨h1, h2⟩, h3⟩, h4⟩ := h
  refine ⟨fun i hi => (h1 i hi).1, fun i hi => (h1 i hi).2, fun i c hi hc => h2 i hi c hc, fun i c hi hc => ?_, fun i c hi hc hb => ?_, fun k hk _ => ?_⟩
  · rcases h3 i (by omega) c hc with q | q
    · exact absurd hi q
    · exact q.1
  · rcases h3 i (by omega) c hc with q | q
    · exact absurd hi q
    · rcases q.2 with q | q
      · rw [hb] at q; cases q
      · exact q
  · have := h4 k hk
    unfold wordOkB at this
    simp only [Bool.and_eq_true, decide_eq_true_eq] at this
    exact this
def tab (l : List (List Int)) (i c : Nat) : Int := at0 (atL l i) c
/-! The examples -/
def exT : CT := ⟨2, 3, [[0, 1], [1]], [⟨0, 0, 5, 6⟩, ⟨0, 1, 0, 0⟩, ⟨1, 0, 3, 8⟩, ⟨2, 1, 4, 10⟩]⟩
def exQ : CT := told exT ⟨1, 1, 12, 20⟩
theorem exT_valid : validB exT = true := by kernel_rfl
theorem exQ_valid : validB exQ = true := by kernel_rfl
theorem exT_fit : Fit exT := fit_of_valid exT_valid
theorem ex_facts {y : Nat → Nat → Int} (h : Sat exT (-1) y) :
    (y 0 2 = 0 ∧ y 1 2 = 0 ∧ y 2 2 = 0) ∧ (y 0 1 ≤ y 0 0 ∧ y 1 1 ≤ y 1 0 ∧ y 2 1 ≤ y 2 0) ∧ (y 0 0 ≤ y 1 0 ∧ y 0 1 ≤ y 1 1 ∧ y 1 0 = y 2 0 ∧ y 1 1 ≤ y 2 1) ∧
    (5 ≤ y 0 0 - y 0 1 ∧ y 0 0 - y 0 1 ≤ 6) ∧ (0 ≤ y 0 1 - y 0 2 ∧ y 0 1 - y 0 2 ≤ 0) ∧ (3 ≤ y 1 0 - y 1 1 ∧ y 1 0 - y 1 1 ≤ 8) ∧ (4 ≤ y 2 1 - y 2 2 ∧ y 2 1 - y 2 2 ≤ 10) ∧ (y 0 0 ≤ 40 ∧ y 1 0 ≤ 40 ∧ y 2 0 ≤ 40) := by
  have a1 : y 1 0 ≤ y 2 0 := h.time 1 0 (by decide) (by decide)
  have a2 : y 2 0 ≤ y 1 0 := h.shut 1 0 (by decide) (by decide) (by decide)
  exact ⟨⟨h.last 0 (by decide), h.last 1 (by decide), h.last 2 (by decide)⟩, ⟨h.chain 0 0 (by decide) (by decide), h.chain 1 0 (by decide) (by decide), h.chain 2 0 (by decide) (by decide)⟩,
    ⟨h.time 0 0 (by decide) (by decide), h.time 0 1 (by decide) (by decide), by omega, h.time 1 1 (by decide) (by decide)⟩,
    h.word 0 (by decide) (by decide), h.word 1 (by decide) (by decide), h.word 2 (by decide) (by decide), h.word 3 (by decide) (by decide), ⟨h.top 0 (by decide), h.top 1 (by decide), h.top 2 (by decide)⟩⟩
def exA : List (List Int) := [[5, 0], [5, 0], [5, 4]]
def exB : List (List Int) := [[5, 0], [10, 2], [10, 10]]
def exC : List (List Int) := [[6, 0], [18, 10], [18, 10]]
def exD (n : Nat) : List (List Int) := [[5, 0], [4 + n, ((n - 4 : Nat) : Int)], [4 + n, 4]]
theorem exA_sat : Sat exT (-1) (tab exA) := sat_of_satB (by kernel_rfl)
theorem exB_sat : Sat exT (-1) (tab exB) := sat_of_satB (by kernel_rfl)
theorem exC_sat : Sat exT (-1) (tab exC) := sat_of_satB (by kernel_rfl)
theorem exT_exact : Exact exT (-1) (setMat exT (-1)) := exact_of_one exT_fit ⟨_, exA_sat⟩
theorem exT_err (b : Bool) (h : b = true) : errR exT b = 0 := errR_ok (askR_zero.2 ⟨exT_valid, h⟩) ⟨_, exA_sat⟩
theorem ex_fish : fishLo exT 2 1 = 4 ∧ fishHi exT 2 1 = 10 :=
  ⟨(Fish_mn exT_fit exT_exact 2 1 (by decide) (by decide)).uniq ⟨fun y hy => by have := ex_facts hy; simp only [Nat.reduceAdd]; omega, tab exA, exA_sat, by decide⟩,
    (Fish_max exT_fit exT_exact 2 1 (by decide) (by decide)).uniq ⟨fun y hy => by have := ex_facts hy; simp only [Nat.reduceAdd]; omega, tab exB, exB_sat, by decide⟩⟩
theorem ex_fish00 : fishLo exT 0 0 = 5 ∧ fishHi exT 0 0 = 6 :=
  ⟨(Fish_mn exT_fit exT_exact 0 0 (by decide) (by decide)).uniq ⟨fun y hy => by have := ex_facts hy; simp only [Nat.zero_add]; omega, tab exA, exA_sat, by decide⟩,
    (Fish_max exT_fit exT_exact 0 0 (by decide) (by decide)).uniq ⟨fun y hy => by have := ex_facts hy; simp only [Nat.zero_add]; omega, tab exC, exC_sat, by decide⟩⟩
theorem ex_fish01 : fishLo exT 0 1 = 0 ∧ fishHi exT 0 1 = 0 :=
  ⟨(Fish_mn exT_fit exT_exact 0 1 (by decide) (by decide)).uniq ⟨fun y hy => by have := ex_facts hy; simp only [Nat.reduceAdd]; omega, tab exA, exA_sat, by decide⟩,
    (Fish_max exT_fit exT_exact 0 1 (by decide) (by decide)).uniq ⟨fun y hy => by have := ex_facts hy; simp only [Nat.reduceAdd]; omega, tab exC, exC_sat, by decide⟩⟩
theorem ex_fish11 : fishLo exT 1 1 = 0 ∧ fishHi exT 1 1 = 10 :=
  ⟨(Fish_mn exT_fit exT_exact 1 1 (by decide) (by decide)).uniq ⟨fun y hy => by have := ex_facts hy; simp only [Nat.reduceAdd]; omega, tab exA, exA_sat, by decide⟩,
    (Fish_max exT_fit exT_exact 1 1 (by decide) (by decide)).uniq ⟨fun y hy => by have := ex_facts hy; simp only [Nat.reduceAdd]; omega, tab exC, exC_sat, by decide⟩⟩
theorem ex_fish20 : fishLo exT 2 0 = 0 ∧ fishHi exT 2 0 = 8 :=
  ⟨(Fish_mn exT_fit exT_exact 2 0 (by decide) (by decide)).uniq ⟨fun y hy => by have := ex_facts hy; simp only [Nat.zero_add]; omega, tab exB, exB_sat, by decide⟩,
    (Fish_max exT_fit exT_exact 2 0 (by decide) (by decide)).uniq ⟨fun y hy => by have := ex_facts hy; simp only [Nat.zero_add]; omega, tab exC, exC_sat, by decide⟩⟩
theorem ex_whole : wholeLo exT 2 = 5 ∧ wholeHi exT 2 = 18 :=
  ⟨(Whole_min exT_fit exT_exact 2 (by decide)).uniq ⟨fun y hy => by have := ex_facts hy; show _ ≤ y 2 0 - y 2 2; omega, tab exA, exA_sat, by decide⟩,
    (Whole_max exT_fit exT_exact 2 (by decide)).uniq ⟨fun y hy => by have := ex_facts hy; show y 2 0 - y 2 2 ≤ _; omega, tab exC, exC_sat, by decide⟩⟩
theorem ex_passed : passLo exT 1 1 = 0 ∧ passHi exT 1 1 = 8 :=
  ⟨(Passed_min exT_fit exT_exact 1 1 (by decide) (by decide)).uniq ⟨fun y hy => by have := ex_facts hy; show _ ≤ y 2 1 - y 1 1; omega, tab exC, exC_sat, by decide⟩,
    (Passed_max exT_fit exT_exact 1 1 (by decide) (by decide)).uniq ⟨fun y hy => by have := ex_facts hy; show y 2 1 - y 1 1 ≤ _; omega, tab exB, exB_sat, by decide⟩⟩
theorem ex_judge : judgeR (fishLo exT 0 0) (fishHi exT 0 0) 7 9 = 2 := by rw [ex_fish00.1, ex_fish00.2]; decide
theorem exQ_none : ¬ ∃ y, Sat exQ (-1) y := by
  rintro ⟨y, hy⟩
  obtain ⟨h1, h2⟩ := sat_told.1 hy
  have h3 : 12 ≤ y 1 1 - y 1 2 ∧ y 1 1 - y 1 2 ≤ 20 := h2
  have := ex_facts h1
  omega
theorem exQ_err (b : Bool) (h : b = true) : errR exQ b = 3 := errR_none (askR_zero.2 ⟨exQ_valid, h⟩) exQ_none
end Go.Proofs.Ytkdcdhkhadhcfaa
