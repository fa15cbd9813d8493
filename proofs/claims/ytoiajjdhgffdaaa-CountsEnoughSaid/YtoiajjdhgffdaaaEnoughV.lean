/-
  THE THEOREM OF ENOUGH FISH, of truths: no program in sight.
-/
import Derived.Test.YtoiajjdhgffdaaaTimeV
import Derived.Test.YtoiajjdhgffdaaaREnough
namespace Go.Proofs.Ytoiajjdhgffdaaa
theorem isFirst_some (f : Nat → Bool) : ∀ n, ∃ r, IsFirst n f r
  | 0 => ⟨-1, .inl ⟨rfl, fun j hj => by omega⟩⟩
  | n + 1 => by
    obtain ⟨r, h⟩ := isFirst_some f n
    rcases h with ⟨_, h2⟩ | ⟨k, k1, k2, k3, k4⟩
    · cases e : f n with
      | true => exact ⟨n, .inr ⟨n, by omega, rfl, e, h2⟩⟩
      | false => exact ⟨-1, .inl ⟨rfl, fun j hj => by
          by_cases q : j = n
          · rw [q]; exact e
          · exact h2 j (by omega)⟩⟩
    · exact ⟨k, .inr ⟨k, by omega, rfl, k3, k4⟩⟩
theorem IsFirst.range {n : Nat} {f : Nat → Bool} {r : Int} (h : IsFirst n f r) : -1 ≤ r ∧ r < n := by
  rcases h with ⟨h, _⟩ | ⟨k, k1, k2, _⟩ <;> omega
/-- f only turns true. -/
theorem IsFirst.iff {n : Nat} {f : Nat → Bool} {r : Int} (h : IsFirst n f r) (hm : ∀ i j, i ≤ j → j < n → f i = true → f j = true) (h0 : 0 ≤ r) (i : Nat) (hi : i < n) : f i = true ↔ r ≤ i := by
  rcases h with ⟨h, _⟩ | ⟨k, k1, k2, k3, k4⟩
  · omega
  · constructor
    · intro q
      have : ¬ i < k := fun e => by rw [k4 i e] at q; cases q
      omega
    · intro q; exact hm k i (by omega) hi k3
theorem IsFirst.neg {n : Nat} {f : Nat → Bool} {r : Int} (h : IsFirst n f r) (h0 : r < 0) (i : Nat) (hi : i < n) : f i = false := by
  rcases h with ⟨_, h⟩ | ⟨k, k1, k2, k3, k4⟩
  · exact h i hi
  · omega
theorem IsFirst.less {n : Nat} {f g : Nat → Bool} {r s : Int} (h : IsFirst n f r) (k : IsFirst n g s) (hfg : ∀ i, i < n → f i = true → g i = true) (h0 : 0 ≤ r) : 0 ≤ s ∧ s ≤ r := by
  rcases h with ⟨h, _⟩ | ⟨p, p1, p2, p3, p4⟩
  · omega
  · have q := hfg p p1 p3
    rcases k with ⟨_, k⟩ | ⟨u, u1, u2, u3, u4⟩
    · rw [k p p1] at q; cases q
    · have : ¬ p < u := fun e => by rw [u4 p e] at q; cases q
      omega
structure EnFacts (t : CT) (m n : Int) (a b er c d fr : Int) : Prop where
  e1 : er = 0 ∨ er = 3
  e2 : fr = 0 ∨ fr = 3
  low : fr = 0 → er = 0 ∧ a ≤ c ∧ b ≤ d
  iff : er = 0 ↔ m ≤ fishLo t ((t.T.toNat - 1 : Nat) : Int) (t.C - 1)
  ra : er = 0 → 0 ≤ a ∧ a ≤ b ∧ b < t.T
  ha : er = 0 → ∀ i : Nat, i < t.T.toNat → (m ≤ fishHi t i (t.C - 1) ↔ a ≤ i)
  hb : er = 0 → ∀ i : Nat, i < t.T.toNat → (m ≤ fishLo t i (t.C - 1) ↔ b ≤ i)
theorem enough_law {t : CT} (he : errR t true = 0) {m n : Int} (hm : withinB m 1 40 = true) (hn : withinB n 1 40 = true) (hmn : m ≤ n) :
    ∃ a b er c d fr : Int, EnFacts t m n a b er c d fr ∧ (∀ w e w', EnoughPost t m w e w' → e = .returned (.tuple #[.agg #[.int .i64 a, .int .i64 b], .int .i64 er]) ∧ Bel w w') ∧
      (∀ w e w', EnoughPost t n w e w' → e = .returned (.tuple #[.agg #[.int .i64 c, .int .i64 d], .int .i64 fr]) ∧ Bel w w') := by
  obtain ⟨hex, hf⟩ := errR_exact he
  have hT := hf.t1
  have mono : ∀ i j : Nat, i ≤ j → j < t.T.toNat → fishLo t i (t.C - 1) ≤ fishLo t j (t.C - 1) ∧ fishHi t i (t.C - 1) ≤ fishHi t j (t.C - 1) := fun i j hij hj => by
    have := (time_law he (o := i) (w := j) (r := j) (by omega) (by omega) (by omega) (by omega)).1
    exact ⟨this.1, this.2.1⟩
  have bnd : ∀ i : Nat, i < t.T.toNat → fishLo t i (t.C - 1) ≤ fishHi t i (t.C - 1) := fun i hi => by
    have c1 := hf.c1
    have := Fish_bounds hf hex i (t.C.toNat - 1) hi (by omega)
    rw [show ((t.C.toNat - 1 : Nat) : Int) = t.C - 1 by omega] at this
    exact this.2.1
  have hi_mono : ∀ x i j, i ≤ j → j < t.T.toNat → enHi t x i = true → enHi t x j = true := fun x i j h1 h2 h3 => by
    rw [enHi_eq, decide_eq_true_eq] at h3 ⊢
    have := (mono i j h1 h2).2
    omega
  have lo_mono : ∀ x i j, i ≤ j → j < t.T.toNat → enLo t x i = true → enLo t x j = true := fun x i j h1 h2 h3 => by
    rw [enLo_eq, decide_eq_true_eq] at h3 ⊢
    have := (mono i j h1 h2).1
    omega
  obtain ⟨a, ha⟩ := isFirst_some (enHi t m) t.T.toNat
  obtain ⟨b, hb⟩ := isFirst_some (enLo t m) t.T.toNat
  obtain ⟨c, hc⟩ := isFirst_some (enHi t n) t.T.toNat
  obtain ⟨d, hd⟩ := isFirst_some (enLo t n) t.T.toNat
  have post : ∀ x r s, withinB x 1 40 = true → IsFirst t.T.toNat (enHi t x) r → IsFirst t.T.toNat (enLo t x) s → ∀ w e w', EnoughPost t x w e w' →
      e = .returned (.tuple #[.agg #[.int .i64 (if s < 0 then 0 else r), .int .i64 (if s < 0 then 0 else s)], .int .i64 (if s < 0 then 3 else 0)]) ∧ Bel w w' := fun x r s hx hr hs w e w' h => by
    have h0 : errR t (withinB x 1 40) = 0 := by rw [hx]; exact he
    rcases h with ⟨q, _⟩ | ⟨_, r1, r2, k1, k2, k3⟩
    · exact absurd h0 q
    · rw [k1.uniq hr, k2.uniq hs] at k3
      obtain ⟨k4, k5⟩ := k3
      refine ⟨k4.trans ?_, k5⟩
      by_cases q : s < 0
      · rw [if_pos q, if_pos q, if_pos q, if_neg (by omega), if_neg (by omega)]
      · rw [if_neg q, if_neg q, if_neg q, if_pos rfl, if_pos rfl]
  refine ⟨_, _, _, _, _, _, ?_, post m a b hm ha hb, post n c d hn hc hd⟩
  have hab : 0 ≤ b → 0 ≤ a ∧ a ≤ b := fun h => hb.less ha (fun i hi q => by
    rw [enLo_eq, decide_eq_true_eq] at q
    rw [enHi_eq, decide_eq_true_eq]
    have := bnd i hi
    omega) h
  have hdb : 0 ≤ d → 0 ≤ b ∧ b ≤ d := fun h => hd.less hb (fun i hi q => by
    rw [enLo_eq, decide_eq_true_eq] at q ⊢
    omega) h
  have hdc : 0 ≤ d → 0 ≤ c := fun h => (hd.less hc (fun i hi q => by
    rw [enLo_eq, decide_eq_true_eq] at q
    rw [enHi_eq, decide_eq_true_eq]
    have := bnd i hi
    omega) h).1
  have hca : 0 ≤ c → 0 ≤ a ∧ a ≤ c := fun h => hc.less ha (fun i hi q => by
    rw [enHi_eq, decide_eq_true_eq] at q ⊢
    omega) h
  have er0 : (if b < 0 then (3 : Int) else 0) = 0 ↔ 0 ≤ b := by
    by_cases q : b < 0
    · rw [if_pos q]; omega
    · rw [if_neg q]; omega
  have fr0 : (if d < 0 then (3 : Int) else 0) = 0 ↔ 0 ≤ d := by
    by_cases q : d < 0
    · rw [if_pos q]; omega
    · rw [if_neg q]; omega
  refine ⟨?_, ?_, fun h => ?_, ?_, fun h => ?_, fun h i hi => ?_, fun h i hi => ?_⟩
  · split <;> simp
  · split <;> simp
  · have h1 := fr0.1 h
    have h2 := hdb h1
    have h3 := hca (hdc h1)
    rw [if_neg (by omega), if_neg (by omega), if_neg (by omega), if_neg (by omega), if_neg (by omega)]
    exact ⟨rfl, h3.2, h2.2⟩
  · rw [er0]
    constructor
    · intro h
      have := (hb.iff (lo_mono m) h (t.T.toNat - 1) (by omega)).2 (by have := hb.range; omega)
      rw [enLo_eq, decide_eq_true_eq] at this
      exact this
    · intro h
      by_cases q : b < 0
      · have := hb.neg q (t.T.toNat - 1) (by omega)
        rw [enLo_eq, decide_eq_false_iff_not] at this
        exact absurd h this
      · omega
  · have h1 := er0.1 h
    rw [if_neg (by omega), if_neg (by omega)]
    have := hab h1
    have := hb.range
    omega
  · have h1 := er0.1 h
    rw [if_neg (by omega)]
    have := ha.iff (hi_mono m) (hab h1).1 i hi
    rw [enHi_eq, decide_eq_true_eq] at this
    exact this
  · have h1 := er0.1 h
    rw [if_neg (by omega)]
    have := hb.iff (lo_mono m) h1 i hi
    rw [enLo_eq, decide_eq_true_eq] at this
    exact this
end Go.Proofs.Ytoiajjdhgffdaaa
