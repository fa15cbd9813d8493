/-
  What a trap says, as difference constraints; what set's matrix says of all truths.
-/
import Derived.Test.YtkdcdhkhadhcfaaClose
import Derived.Test.YtkdcdhkhadhcfaaCheck
namespace Go.Proofs.Ytkdcdhkhadhcfaa
/-- y i c: how many fish are in the chamber c and behind it at the time i. 'skip': the number of a word that is left out. -/
structure Sat (t : CT) (skip : Int) (y : Nat → Nat → Int) : Prop where
  top : ∀ i, i < t.T.toNat → y i 0 ≤ 40
  last : ∀ i, i < t.T.toNat → y i t.C.toNat = 0
  chain : ∀ i c, i < t.T.toNat → c < t.C.toNat → y i (c + 1) ≤ y i c
  time : ∀ i c, i + 1 < t.T.toNat → c < t.C.toNat → y i c ≤ y (i + 1) c
  shut : ∀ i c, i + 1 < t.T.toNat → c < t.C.toNat → inB (atL t.op i) c = false → y (i + 1) c ≤ y i c
  word : ∀ k, k < t.ws.length → (k : Int) ≠ skip →
    (atW t.ws k).low ≤ y (atW t.ws k).time.toNat (atW t.ws k).chamber.toNat - y (atW t.ws k).time.toNat ((atW t.ws k).chamber.toNat + 1) ∧
    y (atW t.ws k).time.toNat (atW t.ws k).chamber.toNat - y (atW t.ws k).time.toNat ((atW t.ws k).chamber.toNat + 1) ≤ (atW t.ws k).high
/-- What is asked of a trap: valid, but for the number of its words and the order of its doors. -/
structure Fit (t : CT) : Prop where
  c1 : 1 ≤ t.C
  c2 : t.C ≤ 4
  t1 : 1 ≤ t.T
  t2 : t.T ≤ 5
  opl : (t.op.length : Int) = t.T - 1
  wb : wordsB t.C t.T t.ws = true
theorem fit_of_valid {t : CT} (h : validB t = true) : Fit t := by
  obtain ⟨⟨b1, b2⟩, ⟨b3, b4⟩, b5, _, _, b6⟩ := validB_bounds h
  exact ⟨b1, b2, b3, b4, b5, b6⟩
theorem Fit.word {t : CT} (h : Fit t) (k : Nat) (hk : k < t.ws.length) :
    (0 ≤ (atW t.ws k).time ∧ (atW t.ws k).time < t.T) ∧ (0 ≤ (atW t.ws k).chamber ∧ (atW t.ws k).chamber < t.C) ∧ 0 ≤ (atW t.ws k).low ∧ (atW t.ws k).low ≤ (atW t.ws k).high ∧ (atW t.ws k).high ≤ 40 :=
  isWordB_bounds h.c1 h.c2 h.t1 h.t2 (allB_iff.1 h.wb k hk)
/-! Nodes -/
theorem nd_nat {C : Int} (hC : 1 ≤ C) (i c : Nat) : nd C i c = if c = C.toNat then 0 else 1 + i * C.toNat + c := by
  unfold nd
  by_cases e : (c : Int) = C
  · rw [if_pos e, if_pos (by omega)]
  · rw [if_neg e, if_neg (by omega)]
    have : (i : Int) * C = ((i * C.toNat : Nat) : Int) := by
      rw [Int.natCast_mul, Int.toNat_of_nonneg (by omega)]
    rw [this]; omega
theorem nd_lt {C : Int} (hC : 1 ≤ C) (hC2 : C ≤ 4) (i c : Nat) (hi : i ≤ 4) (hc : c ≤ C.toNat) : nd C i c < 21 :=
  (nd_val (C := C) (time := i) (chamber := c) (by omega) (by omega) (by omega) (by omega) hC2).1
theorem nd_succ (C i : Int) (c : Nat) : nd C i ((c : Int) + 1) = nd C i ((c + 1 : Nat) : Int) := by rw [Int.natCast_add]; rfl
/-- The node's time and chamber. -/
theorem nd_dec {C : Int} (hC : 1 ≤ C) (i c : Nat) (hc : c < C.toNat) : nd C i c ≠ 0 ∧ (nd C i c - 1) / C.toNat = i ∧ (nd C i c - 1) % C.toNat = c := by
  rw [nd_nat hC, if_neg (by omega)]
  refine ⟨by omega, ?_, ?_⟩
  · rw [show 1 + i * C.toNat + c - 1 = c + i * C.toNat by omega, Nat.add_mul_div_right _ _ (by omega), Nat.div_eq_of_lt hc]; omega
  · rw [show 1 + i * C.toNat + c - 1 = c + i * C.toNat by omega, Nat.add_mul_mod_self_right, Nat.mod_eq_of_lt hc]
/-! The constraints -/
def chG (C : Int) (op : List (List Int)) (time c : Nat) (G : Cons) : Cons :=
  let G1 := (nd C time c, nd C time (c + 1), 0) :: G
  if time = 0 then G1 else
    let G2 := (nd C time c, nd C (time - 1 : Nat) c, 0) :: G1
    if inB (atL op (time - 1)) c then G2 else (nd C (time - 1 : Nat) c, nd C time c, 0) :: G2
def chToG (C : Int) (op : List (List Int)) (time : Nat) : Nat → Cons → Cons
  | 0, G => G
  | k + 1, G => chG C op time k (chToG C op time k G)
def tToG (C : Int) (op : List (List Int)) : Nat → Cons
  | 0 => []
  | k + 1 => chToG C op k C.toNat ((0, nd C k 0, 40) :: tToG C op k)
def wG (C : Int) (x : CW) (G : Cons) : Cons :=
  (nd C x.time x.chamber, nd C x.time (x.chamber + 1), -x.low) :: (nd C x.time (x.chamber + 1), nd C x.time x.chamber, x.high) :: G
def wToG (C : Int) (ws : List CW) (without : Int) (G : Cons) : Nat → Cons
  | 0 => G
  | k + 1 => if (k : Int) = without then wToG C ws without G k else wG C (atW ws k) (wToG C ws without G k)
def setG (t : CT) (without : Int) : Cons := wToG t.C t.ws without (tToG t.C t.op t.T.toNat) t.ws.length
/-! The matrix is exact for the constraints: the part without words -/
theorem chStep_feas {C : Int} {op : List (List Int)} {time c : Nat} {M : Nat → Nat → Int} {G : Cons} (hC : 1 ≤ C) (hC2 : C ≤ 4) (ht : time ≤ 4) (hc : c < C.toNat)
    (h : Feas M G) (hn : NonNeg M) (hp : Top M) : Feas (chStep C op time c M) (chG C op time c G) ∧ Top (chStep C op time c M) := by
  have a1 := nd_lt hC hC2 time c ht (by omega)
  have a2 : nd C time ((c : Int) + 1) < 21 := by rw [nd_succ]; exact nd_lt hC hC2 time (c + 1) ht (by omega)
  have a3 := nd_lt hC hC2 (time - 1) c (by omega) (by omega)
  have h1 := h.lim (m := 0) a1 a2 (by have := (hn (nd C time (c + 1)) (nd C time c)).1; omega)
  have n1 := hn.lim (m := 0) (by omega) (nd C time c) (nd C time (c + 1))
  have p1 := hp.lim (nd C time c) (nd C time (c + 1)) 0
  unfold chStep chG
  simp only []
  by_cases e : time = 0
  · rw [if_pos e, if_pos e]; exact ⟨h1, p1⟩
  · rw [if_neg e, if_neg e]
    have h2 := h1.lim (m := 0) a1 a3 (by have := (n1 (nd C (time - 1 : Nat) c) (nd C time c)).1; omega)
    have n2 := n1.lim (m := 0) (by omega) (nd C time c) (nd C (time - 1 : Nat) c)
    have p2 := p1.lim (nd C time c) (nd C (time - 1 : Nat) c) 0
    by_cases e2 : inB (atL op (time - 1)) c = true
    · rw [if_pos e2, if_pos e2]; exact ⟨h2, p2⟩
    · rw [if_neg e2, if_neg e2]
      exact ⟨h2.lim a3 a1 (by have := (n2 (nd C time c) (nd C (time - 1 : Nat) c)).1; omega), p2.lim _ _ _⟩
theorem chTo_feas {C : Int} {op : List (List Int)} {time : Nat} {M : Nat → Nat → Int} {G : Cons} (hC : 1 ≤ C) (hC2 : C ≤ 4) (ht : time ≤ 4)
    (h : Feas M G) (hn : NonNeg M) (hp : Top M) : ∀ k, k ≤ C.toNat → Feas (chTo C op time k M) (chToG C op time k G) ∧ Top (chTo C op time k M)
  | 0, _ => ⟨h, hp⟩
  | k + 1, hk => by
    have ih := chTo_feas (op := op) hC hC2 ht h hn hp k (by omega)
    exact chStep_feas hC hC2 ht (by omega) ih.1 (hn.chTo k) ih.2
theorem tTo_feas {C : Int} {op : List (List Int)} (hC : 1 ≤ C) (hC2 : C ≤ 4) : ∀ k, k ≤ 5 → Feas (tTo C op k) (tToG C op k) ∧ Top (tTo C op k)
  | 0, _ => ⟨Feas.m0, Top.m0⟩
  | k + 1, hk => by
    have ih := tTo_feas (op := op) hC hC2 k (by omega)
    have hn : NonNeg (tTo C op k) := NonNeg.tTo k
    have a : nd C k 0 < 21 := nd_lt hC hC2 k 0 (by omega) (by omega)
    exact chTo_feas hC hC2 (by omega) (ih.1.lim (m := 40) (by omega) a (by have := (hn (nd C k 0) 0).1; omega)) (hn.lim (by omega) _ _) (ih.2.lim _ _ _) _ (Nat.le_refl _)
/-! Which constraints there are -/
def ChC (C : Int) (op : List (List Int)) (i c : Nat) (q : Nat × Nat × Int) : Prop :=
  q = (nd C i c, nd C i (c + 1), 0) ∨ (i ≠ 0 ∧ q = (nd C i c, nd C (i - 1 : Nat) c, 0)) ∨ (i ≠ 0 ∧ inB (atL op (i - 1)) c = false ∧ q = (nd C (i - 1 : Nat) c, nd C i c, 0))
theorem mem_chG {C : Int} {op : List (List Int)} {i c : Nat} {G : Cons} (q : Nat × Nat × Int) : q ∈ chG C op i c G ↔ ChC C op i c q ∨ q ∈ G := by
  unfold chG ChC
  simp only []
  by_cases e : i = 0
  · rw [if_pos e]; simp [e]
  · rw [if_neg e]
    cases e2 : inB (atL op (i - 1)) c
    · simp [e]
      constructor
      · rintro (h | h | h | h) <;> simp [h]
      · rintro ((h | h | h) | h) <;> simp [h]
    · simp [e]
      constructor
      · rintro (h | h | h) <;> simp [h]
      · rintro ((h | h) | h) <;> simp [h]
theorem mem_chToG {C : Int} {op : List (List Int)} {i : Nat} {G : Cons} (q : Nat × Nat × Int) : ∀ k, q ∈ chToG C op i k G ↔ (∃ c, c < k ∧ ChC C op i c q) ∨ q ∈ G
  | 0 => by simp [chToG]
  | k + 1 => by
    show q ∈ chG C op i k (chToG C op i k G) ↔ _
    rw [mem_chG, mem_chToG q k]
    constructor
    · rintro (h | ⟨c, hc, h⟩ | h)
      · exact .inl ⟨k, by omega, h⟩
      · exact .inl ⟨c, by omega, h⟩
      · exact .inr h
    · rintro (⟨c, hc, h⟩ | h)
      · by_cases e : c = k
        · exact .inl (e ▸ h)
        · exact .inr (.inl ⟨c, by omega, h⟩)
      · exact .inr (.inr h)
theorem mem_tToG {C : Int} {op : List (List Int)} (q : Nat × Nat × Int) : ∀ k, q ∈ tToG C op k ↔ ∃ i, i < k ∧ (q = (0, nd C i 0, 40) ∨ ∃ c, c < C.toNat ∧ ChC C op i c q)
  | 0 => by simp [tToG]
  | k + 1 => by
    show q ∈ chToG C op k C.toNat ((0, nd C k 0, 40) :: tToG C op k) ↔ _
    rw [mem_chToG, List.mem_cons, mem_tToG q k]
    constructor
    · rintro (h | h | ⟨i, hi, h⟩)
      · exact ⟨k, by omega, .inr h⟩
      · exact ⟨k, by omega, .inl h⟩
      · exact ⟨i, by omega, h⟩
    · rintro ⟨i, hi, h⟩
      by_cases e : i = k
      · rw [e] at h
        rcases h with h | h
        · exact .inr (.inl h)
        · exact .inl h
      · exact .inr (.inr ⟨i, by omega, h⟩)
def WC (C : Int) (x : CW) (q : Nat × Nat × Int) : Prop :=
  q = (nd C x.time x.chamber, nd C x.time (x.chamber + 1), -x.low) ∨ q = (nd C x.time (x.chamber + 1), nd C x.time x.chamber, x.high)
theorem mem_wToG {C : Int} {ws : List CW} {without : Int} {G : Cons} (q : Nat × Nat × Int) : ∀ n, q ∈ wToG C ws without G n ↔ (∃ k, k < n ∧ (k : Int) ≠ without ∧ WC C (atW ws k) q) ∨ q ∈ G
  | 0 => by simp [wToG]
  | n + 1 => by
    show q ∈ (if (n : Int) = without then wToG C ws without G n else wG C (atW ws n) (wToG C ws without G n)) ↔ _
    by_cases e : (n : Int) = without
    · rw [if_pos e, mem_wToG q n]
      constructor
      · rintro (⟨k, hk, h1, h2⟩ | h)
        · exact .inl ⟨k, by omega, h1, h2⟩
        · exact .inr h
      · rintro (⟨k, hk, h1, h2⟩ | h)
        · have hkn : k ≠ n := fun e2 => h1 (by rw [e2]; exact e)
          exact .inl ⟨k, by omega, h1, h2⟩
        · exact .inr h
    · rw [if_neg e]
      unfold wG
      rw [List.mem_cons, List.mem_cons, mem_wToG q n]
      constructor
      · rintro (h | h | ⟨k, hk, h1, h2⟩ | h)
        · exact .inl ⟨n, by omega, e, .inl h⟩
        · exact .inl ⟨n, by omega, e, .inr h⟩
        · exact .inl ⟨k, by omega, h1, h2⟩
        · exact .inr h
      · rintro (⟨k, hk, h1, h2⟩ | h)
        · by_cases e2 : k = n
          · rw [e2] at h2
            rcases h2 with h2 | h2
            · exact .inl h2
            · exact .inr (.inl h2)
          · exact .inr (.inr (.inl ⟨k, by omega, h1, h2⟩))
        · exact .inr (.inr (.inr h))
/-! Truths and solutions -/
theorem Sat.bounds {t : CT} {skip : Int} {y : Nat → Nat → Int} (h : Sat t skip y) (i : Nat) (hi : i < t.T.toNat) :
    ∀ c, c ≤ t.C.toNat → 0 ≤ y i c ∧ y i c ≤ 40 := by
  have up : ∀ c, c ≤ t.C.toNat → y i c ≤ 40 := by
    intro c
    induction c with
    | zero => intro _; exact h.top i hi
    | succ c ih => intro hc; have := h.chain i c hi (by omega); have := ih (by omega); omega
  have dn : ∀ d, d ≤ t.C.toNat → 0 ≤ y i (t.C.toNat - d) := by
    intro d
    induction d with
    | zero => intro _; have := h.last i hi; simp; omega
    | succ d ih =>
      intro hd
      have a := ih (by omega)
      have b := h.chain i (t.C.toNat - (d + 1)) hi (by omega)
      rw [show t.C.toNat - (d + 1) + 1 = t.C.toNat - d by omega] at b
      omega
  intro c hc
  have := dn (t.C.toNat - c) (by omega)
  rw [show t.C.toNat - (t.C.toNat - c) = c by omega] at this
  exact ⟨this, up c hc⟩
def xof (t : CT) (y : Nat → Nat → Int) (n : Nat) : Int :=
  if n = 0 then 0 else if (n - 1) / t.C.toNat < t.T.toNat then y ((n - 1) / t.C.toNat) ((n - 1) % t.C.toNat) else 0
theorem xof_nd {t : CT} {skip : Int} {y : Nat → Nat → Int} (hf : Fit t) (h : Sat t skip y) (i c : Nat) (hi : i < t.T.toNat) (hc : c ≤ t.C.toNat) : xof t y (nd t.C i c) = y i c := by
  by_cases e : c = t.C.toNat
  · rw [nd_nat hf.c1, if_pos e, e, h.last i hi]; rfl
  · obtain ⟨h1, h2, h3⟩ := nd_dec hf.c1 i c (by omega)
    unfold xof
    rw [if_neg h1, h2, h3, if_pos hi]
theorem xof_bounds {t : CT} {skip : Int} {y : Nat → Nat → Int} (hf : Fit t) (h : Sat t skip y) (n : Nat) : 0 ≤ xof t y n ∧ xof t y n ≤ 40 := by
  unfold xof
  have hc := hf.c1
  split
  · omega
  · split
    · rename_i q
      have := Nat.mod_lt (n - 1) (show 0 < t.C.toNat by omega)
      exact h.bounds _ q _ (by omega)
    · omega
theorem sol_of_sat {t : CT} {skip : Int} {y : Nat → Nat → Int} (hf : Fit t) (h : Sat t skip y) : Sol (setG t skip) (xof t y) := by
  have hc1 := hf.c1
  refine ⟨fun i k _ _ => ?_, fun q hq => ?_⟩
  · have := xof_bounds hf h i
    have := xof_bounds hf h k
    omega
  · unfold setG at hq
    rw [mem_wToG, mem_tToG] at hq
    rcases hq with ⟨k, hk, hs, hw⟩ | ⟨i, hi, hq⟩
    · obtain ⟨⟨w1, w2⟩, ⟨w3, w4⟩, _⟩ := hf.word k hk
      have hww := h.word k hk hs
      generalize atW t.ws k = x at *
      have et : x.time = ((x.time.toNat : Nat) : Int) := by omega
      have ec : x.chamber = ((x.chamber.toNat : Nat) : Int) := by omega
      have a1 := xof_nd hf h x.time.toNat x.chamber.toNat (by omega) (by omega)
      have a2 := xof_nd hf h x.time.toNat (x.chamber.toNat + 1) (by omega) (by omega)
      rw [← et] at a1 a2
      rw [← nd_succ, ← ec] at a2
      rw [← ec] at a1
      rcases hw with e | e <;> rw [e] <;> simp only [] <;> rw [a1, a2] <;> omega
    · rcases hq with e | ⟨c, hc, e⟩
      · rw [e]; simp only []
        have a1 := xof_nd hf h i 0 hi (by omega)
        rw [show ((0 : Nat) : Int) = 0 from rfl] at a1
        rw [a1]
        have := h.top i hi
        have z : xof t y 0 = 0 := rfl
        omega
      · have a1 := xof_nd hf h i c hi (by omega)
        rcases e with e | ⟨h0, e⟩ | ⟨h0, hin, e⟩ <;> rw [e] <;> simp only []
        · have a2 := xof_nd hf h i (c + 1) hi (by omega)
          rw [← nd_succ] at a2
          rw [a1, a2]
          have := h.chain i c hi hc
          omega
        · have a2 := xof_nd hf h (i - 1) c (by omega) (by omega)
          rw [a1, a2]
          have := h.time (i - 1) c (by omega) hc
          rw [show i - 1 + 1 = i by omega] at this
          omega
        · have a2 := xof_nd hf h (i - 1) c (by omega) (by omega)
          rw [a1, a2]
          have := h.shut (i - 1) c (by omega) hc hin
          rw [show i - 1 + 1 = i by omega] at this
          omega
def yof (t : CT) (x : Nat → Int) (i c : Nat) : Int := x (nd t.C i c) - x 0
theorem sat_of_sol {t : CT} {skip : Int} {x : Nat → Int} (hf : Fit t) (h : Sol (setG t skip) x) : Sat t skip (yof t x) := by
  have hc1 := hf.c1
  have ht : ∀ q, q ∈ tToG t.C t.op t.T.toNat → x q.2.1 - x q.1 ≤ q.2.2 := fun q hq => h.2 q (by unfold setG; rw [mem_wToG]; exact .inr hq)
  refine ⟨fun i hi => ?_, fun i hi => ?_, fun i c hi hc => ?_, fun i c hi hc => ?_, fun i c hi hc hin => ?_, fun k hk hs => ?_⟩
  · have := ht (0, nd t.C i 0, 40) ((mem_tToG _ _).2 ⟨i, hi, .inl rfl⟩)
    simp only [] at this
    unfold yof
    rw [show ((0 : Nat) : Int) = 0 from rfl]
    omega
  · unfold yof
    rw [nd_nat hc1, if_pos rfl]; omega
  · have := ht _ ((mem_tToG _ _).2 ⟨i, hi, .inr ⟨c, hc, .inl rfl⟩⟩)
    simp only [] at this
    unfold yof
    rw [← nd_succ]
    omega
  · have := ht _ ((mem_tToG _ _).2 ⟨i + 1, hi, .inr ⟨c, hc, .inr (.inl ⟨by omega, rfl⟩)⟩⟩)
    simp only [Nat.add_sub_cancel] at this
    unfold yof
    omega
  · have := ht _ ((mem_tToG _ _).2 ⟨i + 1, hi, .inr ⟨c, hc, .inr (.inr ⟨by omega, by simpa using hin, rfl⟩)⟩⟩)
    simp only [Nat.add_sub_cancel] at this
    unfold yof
    omega
  · obtain ⟨⟨w1, w2⟩, ⟨w3, w4⟩, _⟩ := hf.word k hk
    have q1 := h.2 _ (by unfold setG; rw [mem_wToG]; exact .inl ⟨k, hk, hs, .inl rfl⟩)
    have q2 := h.2 _ (by unfold setG; rw [mem_wToG]; exact .inl ⟨k, hk, hs, .inr rfl⟩)
    simp only [] at q1 q2
    generalize atW t.ws k = z at *
    have et : ((z.time.toNat : Nat) : Int) = z.time := by omega
    have ec : ((z.chamber.toNat : Nat) : Int) = z.chamber := by omega
    unfold yof
    rw [← nd_succ, et, ec]
    omega
end Go.Proofs.Ytkdcdhkhadhcfaa
