/-
  cuts: the price of a cut in a truth lies between the least and the greatest price. Plain law.
-/
import Derived.Test.YtkdcdhkhadhcfaaCtRf2
namespace Go.Proofs.Ytkdcdhkhadhcfaa
set_option maxHeartbeats 1000000
/-! costs of truths -/
def costT (t : List CP) (f : Nat → Nat → Int) (i u : Nat) : Int := if withinB (u : Int) (atC t i).wlo (atC t i).whi then f i u else (1099511627776 : Int)
def loC (t : List CP) (c : List Int) : Nat → Nat → Int := costT t (fun i u => eachV t c i * u)
def hiC (t : List CP) (c : List Int) : Nat → Nat → Int := costT t (fun i u => -eachV t c i * u)
def priceLo (t : List CP) (c : List Int) : Int := leastV t (loC t c)
def priceHi (t : List CP) (c : List Int) : Int := -leastV t (hiC t c)
/-- What some weights bring. -/
def penTo (p y : List Int) : Nat → Int
  | 0 => 0
  | k + 1 => penTo p y k + at0 p k * at0 y k
def aSum (t : List CP) (y : List Int) (m : Int) : Nat → Int
  | 0 => 0
  | k + 1 => if (atC t k).of = m then aSum t y m k + at0 y k else aSum t y m k
theorem lost_aSum (t : List CP) (y : List Int) (m : Int) : ∀ k, lostTo t y m k = at0 y m.toNat - aSum t y m k
  | 0 => by show at0 y m.toNat = at0 y m.toNat - 0; omega
  | k + 1 => by
    have ih := lost_aSum t y m k
    unfold lostTo aSum
    by_cases e : (atC t k).of = m
    · rw [if_pos e, if_pos e]; omega
    · rw [if_neg e, if_neg e]; exact ih
theorem wSum_aSum {t : List CP} {y : List Int} (hy : YOk t y) (m : Nat) : ∀ k, k ≤ t.length → (wSum t (fun i => (at0 y i).toNat) m k : Int) + aSum t y m (t.length - k) = aSum t y m t.length
  | 0, _ => by show ((0 : Nat) : Int) + aSum t y m (t.length - 0) = _; rw [Nat.sub_zero]; omega
  | k + 1, hk => by
    have ih := wSum_aSum hy m k (by omega)
    obtain ⟨i, hi⟩ : ∃ i, i = t.length - 1 - k := ⟨_, rfl⟩
    rw [show t.length - k = i + 1 by omega] at ih
    rw [show t.length - (k + 1) = i by omega, wSum_s, ← hi]
    have h0 := hy.2 i (by rw [hy.1]; omega)
    have ha : aSum t y m (i + 1) = if (atC t i).of = m then aSum t y m i + at0 y i else aSum t y m i := rfl
    rw [ha] at ih
    by_cases e : (atC t i).of = m
    · rw [if_pos e] at ih ⊢; omega
    · rw [if_neg e] at ih ⊢; omega
theorem tr_of {t : List CP} {y : List Int} (hy : TrOk t y) : Tr t (fun i => (at0 y i).toNat) := by
  refine ⟨fun i hi => by have := hy.p.ok.2 i (by rw [hy.p.ok.1]; exact hi); show (at0 y i).toNat ≤ 30; omega, fun i hi hc => ?_⟩
  have h1 := hy.p.lost i hi hc
  rw [lost_aSum, Int.toNat_natCast] at h1
  have h2 := wSum_aSum hy.p.ok i t.length (Nat.le_refl _)
  rw [Nat.sub_self] at h2
  have h3 : aSum t y i 0 = 0 := rfl
  have h4 := hy.p.ok.2 i (by rw [hy.p.ok.1]; exact hi)
  show (wSum t _ i t.length : Int) + _ ≤ ((at0 y i).toNat : Int) ∧ ((at0 y i).toNat : Int) ≤ _
  omega
theorem each_in {t : List CP} (ht : CtOk t) (c : List Int) (i : Nat) : 0 ≤ eachV t c i ∧ eachV t c i ≤ 99 := by
  unfold eachV
  by_cases h : soldB t c i = true
  · rw [if_pos h]
    by_cases hi : i < t.length
    · exact ht.p i hi
    · have : atC t i = default := by unfold atC; rw [List.getD, List.getElem?_eq_none (by omega)]; rfl
      rw [this]
      exact ⟨by decide, by decide⟩
  · rw [if_neg h]; omega
theorem each_mul {t : List CP} (ht : CtOk t) (c : List Int) (i u : Nat) (hu : u < 31) : 0 ≤ eachV t c i * u ∧ eachV t c i * u ≤ 2970 := by
  obtain ⟨h1, h2⟩ := each_in ht c i
  have m2 : eachV t c i * (u : Int) ≤ 99 * 30 := Int.mul_le_mul h2 (by omega) (by omega) (by omega)
  exact ⟨Int.mul_nonneg h1 (by omega), by omega⟩
theorem lo_ok {t : List CP} (ht : CtOk t) (c : List Int) : CoOk 0 (loC t c) := ⟨by omega, fun i u hu => by
  have := each_mul ht c i u hu
  unfold loC costT
  simp only []
  by_cases h : withinB (u : Int) (atC t i).wlo (atC t i).whi = true
  · rw [if_pos h]; omega
  · rw [if_neg h]; omega⟩
theorem hi_ok {t : List CP} (ht : CtOk t) (c : List Int) : CoOk 2970 (hiC t c) := ⟨by omega, fun i u hu => by
  have := each_mul ht c i u hu
  unfold hiC costT
  simp only []
  rw [Int.neg_mul]
  by_cases h : withinB (u : Int) (atC t i).wlo (atC t i).whi = true
  · rw [if_pos h]; omega
  · rw [if_neg h]; omega⟩
theorem pen_sum {p y : List Int} {f : Nat → Int} : ∀ k, (∀ i, i < k → f i = at0 p i * at0 y i) → penTo p y k = sumF f k
  | 0, _ => rfl
  | k + 1, h => by
    show penTo p y k + _ = sumF f k + f k
    rw [pen_sum k (fun i hi => h i (by omega)), h k (by omega)]
theorem sum_neg {f g : Nat → Int} : ∀ k, (∀ i, i < k → g i = -f i) → sumF g k = -sumF f k
  | 0, _ => rfl
  | k + 1, h => by
    show sumF g k + g k = -(sumF f k + f k)
    rw [sum_neg k (fun i hi => h i (by omega)), h k (by omega)]; omega
structure PriceLaw (t : List CP) (c y : List Int) : Prop where
  lo : LsOk t (loC t c)
  hi : LsOk t (hiC t c)
  nn : 0 ≤ priceLo t c
  le : priceLo t c ≤ penTo (paysTo t c t.length) y t.length
  ge : penTo (paysTo t c t.length) y t.length ≤ priceHi t c
  lt : priceLo t c < (1099511627776 : Int)
  up : priceHi t c ≤ 1000000
theorem price_law {t : List CP} {c y : List Int} (ht : CtOk t) (hy : TrOk t y) : PriceLaw t c y := by
  have h8 := ht.l8
  have hw : ∀ i, i < t.length → withinB (((at0 y i).toNat : Nat) : Int) (atC t i).wlo (atC t i).whi = true ∧ (at0 y i).toNat < 31 ∧ ((at0 y i).toNat : Int) = at0 y i := fun i hi => by
    have h1 := hy.w i hi
    have h2 := hy.p.ok.2 i (by rw [hy.p.ok.1]; exact hi)
    refine ⟨?_, by omega, by omega⟩
    rw [withinB_true]; omega
  have hl : ∀ i, i < t.length → loC t c i (at0 y i).toNat = at0 (paysTo t c t.length) i * at0 y i := fun i hi => by
    unfold loC costT
    simp only []
    rw [if_pos (hw i hi).1, paysTo_at t c hi t.length (Nat.le_refl _), if_pos hi, (hw i hi).2.2]
  have hh : ∀ i, i < t.length → hiC t c i (at0 y i).toNat = -(at0 (paysTo t c t.length) i * at0 y i) := fun i hi => by
    unfold hiC costT
    simp only []
    rw [if_pos (hw i hi).1, paysTo_at t c hi t.length (Nat.le_refl _), if_pos hi, (hw i hi).2.2, Int.neg_mul]
  have hm : ∀ i, i < t.length → 0 ≤ at0 (paysTo t c t.length) i * at0 y i ∧ at0 (paysTo t c t.length) i * at0 y i ≤ 2970 := fun i hi => by
    have := each_mul ht c i (at0 y i).toNat (hw i hi).2.1
    rw [(hw i hi).2.2] at this
    rw [paysTo_at t c hi t.length (Nat.le_refl _), if_pos hi]
    exact this
  have htr := tr_of hy
  obtain ⟨a1, a2⟩ := truth_ok ht (lo_ok ht c) htr (fun i hi => by show loC t c i (at0 y i).toNat ≤ 2970; rw [hl i hi]; exact (hm i hi).2)
  obtain ⟨b1, b2⟩ := truth_ok ht (hi_ok ht c) htr (fun i hi => by show hiC t c i (at0 y i).toNat ≤ 2970; rw [hh i hi]; have := hm i hi; omega)
  have s1 := cSum_sumF t (loC t c) (fun i => (at0 y i).toNat) t.length (Nat.le_refl _)
  have s2 := cSum_sumF t (hiC t c) (fun i => (at0 y i).toNat) t.length (Nat.le_refl _)
  rw [Nat.sub_self] at s1 s2
  have z : ∀ f, sumF f 0 = 0 := fun _ => rfl
  rw [z] at s1 s2
  have p1 := pen_sum (p := paysTo t c t.length) (y := y) (f := fun i => loC t c i (at0 y i).toNat) t.length hl
  have p2 := sum_neg (f := fun i => loC t c i (at0 y i).toNat) (g := fun i => hiC t c i (at0 y i).toNat) t.length (fun i hi => by
    show hiC t c i (at0 y i).toNat = -loC t c i (at0 y i).toNat
    rw [hl i hi, hh i hi])
  have n1 := least_nn (lo_ok ht c) h8
  have n2 := (ls_sm (hi_ok ht c) h8 t.length (Nat.le_refl _)).2.1
  have n3 := Lk_top t.length h8
  have pb : ∀ k, k ≤ t.length → penTo (paysTo t c t.length) y k ≤ 2970 * k := by
    intro k
    induction k with
    | zero => intro _; show (0 : Int) ≤ _; omega
    | succ k ih =>
      intro hk
      have h1 := ih (by omega)
      have h2 := (hm k (by omega)).2
      show penTo _ _ k + _ ≤ _
      omega
  have pb8 := pb t.length (Nat.le_refl _)
  refine ⟨a1, b1, n1, ?_, ?_, ?_, ?_⟩
  · unfold priceLo; omega
  · unfold priceHi; omega
  · unfold priceLo; omega
  · unfold priceHi; unfold leastV; omega
end Go.Proofs.Ytkdcdhkhadhcfaa
