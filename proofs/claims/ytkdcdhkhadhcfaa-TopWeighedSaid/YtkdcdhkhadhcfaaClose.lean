/-
  The law of limit: a closed matrix of difference bounds stays closed and exact, or shows a clash; how far its entries can fall.
-/
import Derived.Test.YtkdcdhkhadhcfaaSetM
namespace Go.Proofs.Ytkdcdhkhadhcfaa
set_option linter.unusedVariables false
abbrev Cons := List (Nat × Nat × Int)
/-- A solution of difference constraints: (f, t, m): the node t is at most m more than the node f. -/
def Sol (G : Cons) (x : Nat → Int) : Prop :=
  (∀ i k, i < 21 → k < 21 → x k - x i ≤ 1048576) ∧ ∀ c ∈ G, x c.2.1 - x c.1 ≤ c.2.2
def ClosedM (M : Nat → Nat → Int) : Prop := (∀ i, i < 21 → M i i = 0) ∧ ∀ i j k, i < 21 → j < 21 → k < 21 → M i k ≤ M i j + M j k
def Feas (M : Nat → Nat → Int) (G : Cons) : Prop := ClosedM M ∧ ∀ x, Sol G x ↔ ∀ i k, i < 21 → k < 21 → x k - x i ≤ M i k
/-- entries outside, and upper bounds -/
def Top (M : Nat → Nat → Int) : Prop := (∀ i k, M i k ≤ 1048576) ∧ ∀ i k, ¬ (i < 21 ∧ k < 21) → 0 ≤ M i k

theorem mn_le (a b : Int) : mn a b ≤ a ∧ mn a b ≤ b := by unfold mn; split <;> omega
theorem mn_or (a b : Int) : mn a b = a ∨ mn a b = b := by unfold mn; split <;> simp

theorem Top.lim {M : Nat → Nat → Int} (h : Top M) (f t : Nat) (m : Int) : Top (Go.Proofs.Ytkdcdhkhadhcfaa.lim f t m M) := by
  unfold Go.Proofs.Ytkdcdhkhadhcfaa.lim
  split
  · exact h
  · refine ⟨fun i k => Int.le_trans (updTo_le f t m M 441 i k) (h.1 i k), fun i k hik => ?_⟩
    have : ∀ n, n ≤ 441 → updTo f t m M n i k = M i k := by
      intro n
      induction n with
      | zero => intro _; rfl
      | succ n ih =>
        intro hn
        show setM (updTo f t m M n) (n / 21) (n % 21) _ i k = _
        unfold setM
        rw [if_neg (by omega)]
        exact ih (by omega)
    rw [this 441 (by omega)]
    exact h.2 i k hik

/-- In place or not: the same, where nothing clashes. -/
theorem updTo_same {f t : Nat} {m : Int} {M : Nat → Nat → Int} (hf : f < 21) (ht : t < 21) (hc : ClosedM M) (h0 : 0 ≤ m + M t f) :
    ∀ n, n ≤ 441 → ∀ r c, r < 21 → c < 21 → updTo f t m M n r c = if r * 21 + c < n then mn (M r c) (M r f + m + M t c) else M r c := by
  intro n
  induction n with
  | zero => intro _ r c _ _; rw [if_neg (by omega)]; rfl
  | succ n ih =>
    intro hn r c hr hcc
    have hk : n % 21 < 21 := Nat.mod_lt _ (by omega)
    have hi : n / 21 < 21 := by omega
    have e1 : updTo f t m M n (n / 21) (n % 21) = M (n / 21) (n % 21) := by rw [ih (by omega) _ _ hi hk, if_neg (by omega)]
    have e2 : updTo f t m M n (n / 21) f = M (n / 21) f := by
      rw [ih (by omega) _ _ hi hf]
      split
      · unfold mn; rw [if_neg (by omega)]
      · rfl
    have e3 : updTo f t m M n t (n % 21) = M t (n % 21) := by
      rw [ih (by omega) _ _ ht hk]
      split
      · unfold mn; rw [if_neg (by omega)]
      · rfl
    show setM (updTo f t m M n) (n / 21) (n % 21) (mn (updTo f t m M n (n / 21) (n % 21)) (updTo f t m M n (n / 21) f + m + updTo f t m M n t (n % 21))) r c = _
    rw [e1, e2, e3]
    unfold setM
    by_cases q : r = n / 21 ∧ c = n % 21
    · rw [if_pos q, if_pos (by omega), q.1, q.2]
    · rw [if_neg q, ih (by omega) r c hr hcc]
      by_cases q2 : r * 21 + c < n
      · rw [if_pos q2, if_pos (by omega)]
      · rw [if_neg q2, if_neg (by omega)]
theorem lim_val {f t : Nat} {m : Int} {M : Nat → Nat → Int} (hf : f < 21) (ht : t < 21) (hc : ClosedM M) (h0 : 0 ≤ m + M t f) (r c : Nat) (hr : r < 21) (hcc : c < 21) :
    lim f t m M r c = mn (M r c) (M r f + m + M t c) := by
  unfold lim
  split
  · rename_i hle
    have a1 := hc.2 r f c hr hf hcc
    have a2 := hc.2 f t c hf ht hcc
    unfold mn; rw [if_neg (by omega)]
  · rw [updTo_same hf ht hc h0 441 (by omega) r c hr hcc, if_pos (by omega)]
theorem Feas.lim {f t : Nat} {m : Int} {M : Nat → Nat → Int} {G : Cons} (h : Feas M G) (hf : f < 21) (ht : t < 21) (h0 : 0 ≤ m + M t f) : Feas (Go.Proofs.Ytkdcdhkhadhcfaa.lim f t m M) ((f, t, m) :: G) := by
  obtain ⟨hc, hs⟩ := h
  have hv := fun r c hr hcc => lim_val (m := m) hf ht hc h0 r c hr hcc
  refine ⟨⟨fun i hi => ?_, fun i j k hi hj hk => ?_⟩, fun x => ?_⟩
  · rw [hv i i hi hi, hc.1 i hi]
    have := hc.2 t i f ht hi hf
    unfold mn; rw [if_neg (by omega)]
  · rw [hv i k hi hk, hv i j hi hj, hv j k hj hk]
    have a1 := hc.2 i j k hi hj hk
    have a2 := hc.2 i j f hi hj hf
    have a3 := hc.2 t j k ht hj hk
    have a4 := hc.2 t j f ht hj hf
    have b1 := mn_le (M i k) (M i f + m + M t k)
    rcases mn_or (M i j) (M i f + m + M t j) with e | e <;> rcases mn_or (M j k) (M j f + m + M t k) with e2 | e2 <;> rw [e, e2] <;> omega
  · constructor
    · rintro ⟨s1, s2⟩ i k hi hk
      rw [hv i k hi hk]
      have s3 : Sol G x := ⟨s1, fun c hcm => s2 c (List.mem_cons_of_mem _ hcm)⟩
      have s4 := (hs x).1 s3
      have s5 : x t - x f ≤ m := s2 (f, t, m) List.mem_cons_self
      have c1 := s4 i k hi hk
      have c2 := s4 i f hi hf
      have c3 := s4 t k ht hk
      rcases mn_or (M i k) (M i f + m + M t k) with e | e <;> rw [e] <;> omega
    · intro hx
      have s3 : Sol G x := (hs x).2 fun i k hi hk => by
        have := hx i k hi hk
        rw [hv i k hi hk] at this
        have := (mn_le (M i k) (M i f + m + M t k)).1
        omega
      refine ⟨s3.1, fun c hcm => ?_⟩
      rcases List.mem_cons.1 hcm with e | e
      · rw [e]
        have := hx f t hf ht
        rw [hv f t hf ht] at this
        have a := (mn_le (M f t) (M f f + m + M t t)).2
        have := hc.1 f hf
        have := hc.1 t ht
        show x t - x f ≤ m
        omega
      · exact s3.2 c e
theorem lim_clash {f t : Nat} {m : Int} {M : Nat → Nat → Int} {G : Cons} (h : Feas M G) (hf : f < 21) (ht : t < 21) (h0 : m + M t f < 0) :
    lim f t m M t t < 0 ∧ ∀ x, ¬ Sol ((f, t, m) :: G) x := by
  obtain ⟨hc, hs⟩ := h
  constructor
  · have a := hc.2 t f t ht hf ht
    rw [hc.1 t ht] at a
    unfold lim
    rw [if_neg (by omega)]
    -- at the place (t, t) the entry of the row t, column f is at most what it was
    have hle : ∀ n r c, updTo f t m M n r c ≤ M r c := updTo_le f t m M
    have step : ∀ n, updTo f t m M (n + 1) = setM (updTo f t m M n) (n / 21) (n % 21) (mn (updTo f t m M n (n / 21) (n % 21)) (updTo f t m M n (n / 21) f + m + updTo f t m M n t (n % 21))) := fun n => rfl
    have mono : ∀ d n r c, updTo f t m M (n + d) r c ≤ updTo f t m M n r c := by
      intro d
      induction d with
      | zero => intro n r c; exact Int.le_refl _
      | succ d ih =>
        intro n r c
        refine Int.le_trans ?_ (ih n r c)
        rw [show n + (d + 1) = (n + d) + 1 by omega, step (n + d)]
        unfold setM
        split
        · rename_i q; rw [q.1, q.2]; exact (mn_le _ _).1
        · exact Int.le_refl _
    have hat : updTo f t m M (t * 21 + t + 1) t t < 0 := by
      rw [show t * 21 + t + 1 = (t * 21 + t) + 1 by omega, step (t * 21 + t)]
      have e1 : (t * 21 + t) / 21 = t := by omega
      have e2 : (t * 21 + t) % 21 = t := by omega
      rw [e1, e2]
      unfold setM
      rw [if_pos ⟨rfl, rfl⟩]
      have q1 := hle (t * 21 + t) t f
      have q2 := hle (t * 21 + t) t t
      have q3 := hc.1 t ht
      have := (mn_le (updTo f t m M (t * 21 + t) t t) (updTo f t m M (t * 21 + t) t f + m + updTo f t m M (t * 21 + t) t t)).2
      omega
    have := mono (441 - (t * 21 + t + 1)) (t * 21 + t + 1) t t
    rw [show t * 21 + t + 1 + (441 - (t * 21 + t + 1)) = 441 by omega] at this
    omega
  · rintro x ⟨s1, s2⟩
    have s4 := (hs x).1 ⟨s1, fun c hcm => s2 c (List.mem_cons_of_mem _ hcm)⟩ t f ht hf
    have s5 : x t - x f ≤ m := s2 (f, t, m) List.mem_cons_self
    omega
theorem Feas.m0 : Feas M0 [] := by
  refine ⟨⟨fun i _ => by simp [M0], fun i j k _ _ _ => ?_⟩, fun x => ?_⟩
  · unfold M0; split <;> split <;> split <;> omega
  · constructor
    · rintro ⟨s, _⟩ i k hi hk
      unfold M0; split
      · rename_i e; rw [e]; omega
      · exact s i k hi hk
    · intro h
      refine ⟨fun i k hi hk => ?_, fun c hc => by cases hc⟩
      have := h i k hi hk
      unfold M0 at this
      split at this <;> omega
theorem Top.m0 : Top M0 := ⟨fun i k => by unfold M0; split <;> omega, fun i k _ => by unfold M0; split <;> omega⟩
/-- Feasible entries are safe. -/
theorem Feas.safe {M : Nat → Nat → Int} {G : Cons} (h : Feas M G) (ht : Top M) : Safe M := by
  intro i k
  refine ⟨?_, ht.1 i k⟩
  by_cases hik : i < 21 ∧ k < 21
  · have a := h.1.2 i k i hik.1 hik.2 hik.1
    rw [h.1.1 i hik.1] at a
    have := ht.1 k i
    omega
  · have := ht.2 i k hik; omega
/-- A row of a closed matrix is a solution. -/
theorem Feas.row {M : Nat → Nat → Int} {G : Cons} (h : Feas M G) (r : Nat) (hr : r < 21) : Sol G (fun k => M r k) :=
  (h.2 _).2 fun i k hi hk => by have := h.1.2 r i k hr hi hk; omega
/-- Nodes that are not used may lie anywhere; those that are used lie within 40: no entry is below -40. -/
theorem Feas.low {M : Nat → Nat → Int} {G : Cons} (h : Feas M G) (U : Nat → Prop) (hG : ∀ c ∈ G, U c.1 ∧ U c.2.1)
    (hU : ∀ x, Sol G x → ∀ i k, U i → U k → i < 21 → k < 21 → x k - x i ≤ 40) (i k : Nat) (hi : i < 21) (hk : k < 21) : -40 ≤ M i k := by
  have hx := h.row 0 (by omega)
  have move : ∀ j v, ¬ U j → j < 21 → v < 21 → Sol G (fun n => if n = j then M 0 v else M 0 n) := by
    intro j v hj hj2 hv
    refine ⟨fun a b ha hb => ?_, fun c hc => ?_⟩
    · have q1 := hx.1 a b ha hb
      have q2 := hx.1 a v ha hv
      have q3 := hx.1 v b hv hb
      by_cases e1 : a = j <;> by_cases e2 : b = j <;> simp only [e1, e2, if_true, if_false] <;> simp only [] at q1 q2 q3 <;> first | omega | skip
    · have n1 : c.1 ≠ j := fun e => hj (e ▸ (hG c hc).1)
      have n2 : c.2.1 ≠ j := fun e => hj (e ▸ (hG c hc).2)
      show (if c.2.1 = j then M 0 v else M 0 c.2.1) - (if c.1 = j then M 0 v else M 0 c.1) ≤ c.2.2
      rw [if_neg n1, if_neg n2]
      exact hx.2 c hc
  by_cases ui : U i
  · by_cases uk : U k
    · have a : M 0 i - M 0 k ≤ 40 := hU _ hx k i uk ui hk hi
      have b : M 0 k - M 0 i ≤ M i k := (h.2 _).1 hx i k hi hk
      omega
    · have s : (if k = k then M 0 i else M 0 k) - (if i = k then M 0 i else M 0 i) ≤ M i k := (h.2 _).1 (move k i uk hk hi) i k hi hk
      rw [if_pos rfl, ite_self] at s
      omega
  · have s : (if k = i then M 0 k else M 0 k) - (if i = i then M 0 k else M 0 i) ≤ M i k := (h.2 _).1 (move i k ui hi hk) i k hi hk
    rw [if_pos rfl, ite_self] at s
    omega
/-- A clash, and how far the entries have fallen behind n limits. -/
def Bad (n : Nat) (M : Nat → Nat → Int) : Prop := (∃ i, i < 21 ∧ M i i < 0) ∧ Top M ∧ ∀ i k, -(1040 * 7 ^ n - 1000) ≤ M i k
theorem lim_low (f t : Nat) (m L : Int) (M : Nat → Nat → Int) (hL : 0 ≤ L) (hm1 : -1000 ≤ m) (ht : t < 21) (hf : f < 21) (hM : ∀ i k, -L ≤ M i k) (i k : Nat) : -(7 * L + 6000) ≤ lim f t m M i k := by
  unfold lim
  split
  · have := hM i k; omega
  · exact (updTo_low f t m L M hL hm1 ht hf hM 441 (by omega)).2.2.2.2 i k
theorem lim_le (f t : Nat) (m : Int) (M : Nat → Nat → Int) (i k : Nat) : lim f t m M i k ≤ M i k := by
  unfold lim; split
  · exact Int.le_refl _
  · exact updTo_le f t m M 441 i k
theorem pow7 (n : Nat) : (1 : Int) ≤ 7 ^ n := by
  induction n with
  | zero => simp
  | succ n ih => rw [Int.pow_succ]; omega
theorem Bad.lim {n : Nat} {M : Nat → Nat → Int} (h : Bad n M) {f t : Nat} {m : Int} (hm1 : -1000 ≤ m) (ht : t < 21) (hf : f < 21) : Bad (n + 1) (Go.Proofs.Ytkdcdhkhadhcfaa.lim f t m M) := by
  obtain ⟨⟨i, hi, hd⟩, htop, hl⟩ := h
  refine ⟨⟨i, hi, Int.lt_of_le_of_lt (lim_le f t m M i i) hd⟩, htop.lim f t m, fun a b => ?_⟩
  have p := pow7 n
  have := lim_low f t m (1040 * 7 ^ n - 1000) M (by omega) hm1 ht hf hl a b
  rw [Int.pow_succ]
  omega
theorem pow7_le {n : Nat} (h : n ≤ 16) : (7 : Int) ^ n ≤ 33232930569601 := by
  have : (7 : Int) ^ n ≤ 7 ^ 16 := by
    have e : 16 = n + (16 - n) := by omega
    rw [e, Int.pow_add]
    have a := pow7 n
    have b := pow7 (16 - n)
    calc (7 : Int) ^ n = 7 ^ n * 1 := by omega
      _ ≤ 7 ^ n * 7 ^ (16 - n) := Int.mul_le_mul_of_nonneg_left b (by omega)
  exact this
theorem Bad.safe {n : Nat} {M : Nat → Nat → Int} (h : Bad n M) (hn : n ≤ 16) : Safe M := fun i k => by
  have := h.2.2 i k
  have := pow7_le hn
  exact ⟨by omega, h.2.1.1 i k⟩
/-- From a feasible state to a clash. -/
theorem Feas.bad {M : Nat → Nat → Int} {G : Cons} (h : Feas M G) (htop : Top M) (U : Nat → Prop) (hG : ∀ c ∈ G, U c.1 ∧ U c.2.1)
    (hU : ∀ x, Sol G x → ∀ i k, U i → U k → i < 21 → k < 21 → x k - x i ≤ 40) {f t : Nat} {m : Int} (hm1 : -1000 ≤ m) (hf : f < 21) (ht : t < 21) (h0 : m + M t f < 0) :
    Bad 1 (Go.Proofs.Ytkdcdhkhadhcfaa.lim f t m M) := by
  refine ⟨⟨t, ht, (lim_clash h hf ht h0).1⟩, htop.lim f t m, fun a b => ?_⟩
  have := lim_low f t m 40 M (by omega) hm1 ht hf (fun i k => by
    by_cases q : i < 21 ∧ k < 21
    · exact h.low U hG hU i k q.1 q.2
    · have := htop.2 i k q; omega) a b
  omega
end Go.Proofs.Ytkdcdhkhadhcfaa
