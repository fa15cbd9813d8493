/-
  cuts: what each weight costs; the least cost of a parting; a truth costs no less. Plain laws.
-/
import Derived.Test.YtkdcdhkhadhcfaaData
namespace Go.Proofs.Ytkdcdhkhadhcfaa
set_option maxHeartbeats 1000000
structure CP where
  of : Int
  wlo : Int
  whi : Int
  slo : Int
  shi : Int
  pe : Int
deriving DecidableEq, Inhabited
def atC (l : List CP) (i : Nat) : CP := l.getD i default
structure CtOk (t : List CP) : Prop where
  l8 : t.length ≤ 8
  of : ∀ i, i < t.length → -1 ≤ (atC t i).of ∧ (atC t i).of < i
  w : ∀ i, i < t.length → 0 ≤ (atC t i).wlo ∧ (atC t i).wlo ≤ (atC t i).whi ∧ (atC t i).whi ≤ 30
  s : ∀ i, i < t.length → 0 ≤ (atC t i).slo ∧ (atC t i).slo ≤ (atC t i).shi ∧ (atC t i).shi ≤ 30
  p : ∀ i, i < t.length → 0 ≤ (atC t i).pe ∧ (atC t i).pe ≤ 99
/-- Whether a part has pieces. -/
def cutB (t : List CP) (p : Int) : Bool := !allB t.length fun i => !decide ((atC t i).of = p)
theorem cutB_true {t : List CP} {p : Int} : cutB t p = true ↔ ∃ i, i < t.length ∧ (atC t i).of = p := by
  unfold cutB
  constructor
  · intro h
    by_cases e : ∃ i, i < t.length ∧ (atC t i).of = p
    · exact e
    · rw [allB_iff.2 (fun i hi => by simp; intro q; exact e ⟨i, hi, q⟩)] at h; cases h
  · rintro ⟨i, hi, e⟩
    rw [allB_false i hi (by simp [e])]; rfl
theorem cutB_false {t : List CP} {p : Int} (h : cutB t p = false) {i : Nat} (hi : i < t.length) : (atC t i).of ≠ p := fun e => by
  rw [cutB_true.2 ⟨i, hi, e⟩] at h; cases h
theorem at0_set {l : List Int} {i j : Nat} (h : i < l.length) (x : Int) : at0 (l.set i x) j = if i = j then x else at0 l j := by
  unfold at0
  simp only [List.getD, List.getElem?_set]
  by_cases e : i = j
  · subst e; simp [h]
  · simp [e]
/-! costs of all weights -/
def zeroC : List Int := List.replicate 31 0
def farC : Nat → List Int
  | 0 => zeroC
  | k + 1 => (farC k).set k (1099511627776 : Int)
def noC : List Int := (farC 31).set 0 0
theorem farC_len : ∀ k, (farC k).length = 31
  | 0 => rfl
  | k + 1 => by rw [farC, List.length_set, farC_len k]
theorem noC_len : noC.length = 31 := by rw [noC, List.length_set, farC_len]
theorem noC_at {u : Nat} (h : u < 31) : at0 noC u = if u = 0 then 0 else (1099511627776 : Int) := by
  have : ∀ u : Fin 31, at0 noC u.val = if u.val = 0 then 0 else (1099511627776 : Int) := by decide
  exact this ⟨u, h⟩
def plStep (c d : List Int) (v w : Nat) (o : List Int) : List Int :=
  if at0 c v < (1099511627776 : Int) ∧ at0 d w < (1099511627776 : Int) then o.set (v + w) (min (at0 o (v + w)) (at0 c v + at0 d w)) else o
def plIn (c d : List Int) (v : Nat) (o : List Int) : Nat → List Int
  | 0 => o
  | w + 1 => plStep c d v w (plIn c d v o w)
def plOut (c d : List Int) : Nat → List Int
  | 0 => noC.set 0 (1099511627776 : Int)
  | v + 1 => plIn c d v (plOut c d v) (31 - v)
def plusC (c d : List Int) : List Int := plOut c d 31
theorem plStep_len (c d : List Int) (v w : Nat) (o : List Int) : (plStep c d v w o).length = o.length := by
  unfold plStep
  by_cases h : at0 c v < (1099511627776 : Int) ∧ at0 d w < (1099511627776 : Int)
  · rw [if_pos h, List.length_set]
  · rw [if_neg h]
theorem plIn_len (c d : List Int) (v : Nat) (o : List Int) : ∀ w, (plIn c d v o w).length = o.length
  | 0 => rfl
  | w + 1 => by rw [plIn, plStep_len, plIn_len c d v o w]
theorem plOut_len (c d : List Int) : ∀ v, (plOut c d v).length = 31
  | 0 => by rw [plOut, List.length_set, noC_len]
  | v + 1 => by rw [plOut, plIn_len, plOut_len c d v]
theorem plusC_len (c d : List Int) : (plusC c d).length = 31 := plOut_len c d 31
/-- The costs of u, if the first one weighs less than v. -/
def plU (c d : List Int) (u : Nat) : Nat → Int
  | 0 => (1099511627776 : Int)
  | v + 1 => if at0 c v < (1099511627776 : Int) ∧ at0 d (u - v) < (1099511627776 : Int) then min (plU c d u v) (at0 c v + at0 d (u - v)) else plU c d u v
theorem plIn_at {c d : List Int} {v : Nat} {o : List Int} (ho : o.length = 31) : ∀ (w u : Nat), v + w ≤ 31 → at0 (plIn c d v o w) u = if v ≤ u ∧ u < v + w ∧ at0 c v < (1099511627776 : Int) ∧ at0 d (u - v) < (1099511627776 : Int) then min (at0 o u) (at0 c v + at0 d (u - v)) else at0 o u
  | 0, u, _ => by rw [if_neg (by omega)]; rfl
  | w + 1, u, hw => by
    have ih := plIn_at (c := c) (d := d) (v := v) ho w
    rw [plIn]
    unfold plStep
    have hl : (plIn c d v o w).length = 31 := by rw [plIn_len, ho]
    by_cases h : at0 c v < (1099511627776 : Int) ∧ at0 d w < (1099511627776 : Int)
    · rw [if_pos h, at0_set (by rw [hl]; omega)]
      by_cases e : v + w = u
      · have e2 : u - v = w := by omega
        rw [if_pos e, if_pos ⟨by omega, by omega, h.1, by rw [e2]; exact h.2⟩, e, ih u (by omega), if_neg (by omega), e2]
      · rw [if_neg e, ih u (by omega)]
        by_cases g : v ≤ u ∧ u < v + w ∧ at0 c v < (1099511627776 : Int) ∧ at0 d (u - v) < (1099511627776 : Int)
        · rw [if_pos g, if_pos ⟨g.1, by omega, g.2.2⟩]
        · rw [if_neg g, if_neg (fun q => g ⟨q.1, by omega, q.2.2⟩)]
    · rw [if_neg h, ih u (by omega)]
      by_cases g : v ≤ u ∧ u < v + w ∧ at0 c v < (1099511627776 : Int) ∧ at0 d (u - v) < (1099511627776 : Int)
      · rw [if_pos g, if_pos ⟨g.1, by omega, g.2.2⟩]
      · rw [if_neg g, if_neg (fun q => g ⟨q.1, by
          by_cases e : u - v = w
          · rw [e] at q; exact absurd q.2.2 h
          · omega, q.2.2⟩)]
theorem plOut_at {c d : List Int} : ∀ (v u : Nat), v ≤ 31 → u < 31 → at0 (plOut c d v) u = plU c d u (min v (u + 1))
  | 0, u, _, hu => by
    rw [plOut, at0_set (by rw [noC_len]; omega), noC_at hu]
    by_cases e : 0 = u
    · rw [if_pos e, Nat.zero_min]; rfl
    · rw [if_neg e, if_neg (by omega), Nat.zero_min]; rfl
  | v + 1, u, hv, hu => by
    have ih := plOut_at (c := c) (d := d) v u (by omega) hu
    rw [plOut, plIn_at (plOut_len c d v) _ _ (by omega), ih]
    by_cases h : v ≤ u
    · rw [Nat.min_eq_left (show v ≤ u + 1 by omega), Nat.min_eq_left (show v + 1 ≤ u + 1 by omega)]
      show _ = if _ then _ else _
      by_cases g : at0 c v < (1099511627776 : Int) ∧ at0 d (u - v) < (1099511627776 : Int)
      · rw [if_pos g, if_pos ⟨h, by omega, g⟩]
      · rw [if_neg g, if_neg (fun q => g q.2.2)]
    · rw [if_neg (fun q => h q.1), Nat.min_eq_right (by omega), Nat.min_eq_right (by omega)]
theorem plusC_at (c d : List Int) {u : Nat} (hu : u < 31) : at0 (plusC c d) u = plU c d u (u + 1) := by
  unfold plusC
  rw [plOut_at 31 u (Nat.le_refl _) hu, Nat.min_eq_right (by omega)]
/-- Costs that are far or within. -/
structure Sm (l L : Int) (c : List Int) : Prop where
  len : c.length = 31
  at_ : ∀ u, u < 31 → -l ≤ at0 c u ∧ (at0 c u ≤ L ∨ at0 c u = (1099511627776 : Int))
theorem Sm.more {l L m M : Int} {c : List Int} (h : Sm l L c) (k : l ≤ m) (k2 : L ≤ M) : Sm m M c := ⟨h.len, fun u hu => by have := h.at_ u hu; omega⟩
theorem plU_sm {l L m M : Int} {c d : List Int} (hc : Sm l L c) (hd : Sm m M d) (hl : 0 ≤ l) (hm : 0 ≤ m) {u : Nat} (hu : u < 31) : ∀ v, v ≤ u + 1 → -(l + m) ≤ plU c d u v ∧ (plU c d u v ≤ L + M ∨ plU c d u v = (1099511627776 : Int))
  | 0, _ => by unfold plU; omega
  | v + 1, hv => by
    have ih := plU_sm hc hd hl hm hu v (by omega)
    have h1 := hc.at_ v (by omega)
    have h2 := hd.at_ (u - v) (by omega)
    unfold plU
    by_cases g : at0 c v < (1099511627776 : Int) ∧ at0 d (u - v) < (1099511627776 : Int)
    · rw [if_pos g]; omega
    · rw [if_neg g]; exact ih
theorem plus_sm {l L m M : Int} {c d : List Int} (hc : Sm l L c) (hd : Sm m M d) (hl : 0 ≤ l) (hm : 0 ≤ m) : Sm (l + m) (L + M) (plusC c d) :=
  ⟨plusC_len c d, fun u hu => by rw [plusC_at c d hu]; exact plU_sm hc hd hl hm hu _ (Nat.le_refl _)⟩
theorem plU_le {c d : List Int} {u v : Nat} (h1 : at0 c v < (1099511627776 : Int)) (h2 : at0 d (u - v) < (1099511627776 : Int)) : ∀ k, v < k → plU c d u k ≤ at0 c v + at0 d (u - v)
  | 0, h => by omega
  | k + 1, h => by
    unfold plU
    by_cases e : v = k
    · subst e; rw [if_pos ⟨h1, h2⟩]; omega
    · have ih := plU_le h1 h2 k (by omega)
      by_cases g : at0 c k < (1099511627776 : Int) ∧ at0 d (u - k) < (1099511627776 : Int)
      · rw [if_pos g]; omega
      · rw [if_neg g]; exact ih
theorem plus_le {c d : List Int} {v w : Nat} (h : v + w < 31) (h1 : at0 c v < (1099511627776 : Int)) (h2 : at0 d w < (1099511627776 : Int)) : at0 (plusC c d) (v + w) ≤ at0 c v + at0 d w := by
  rw [plusC_at c d h]
  have e : v + w - v = w := by omega
  have := plU_le (c := c) (d := d) (u := v + w) (v := v) h1 (by rw [e]; exact h2) (v + w + 1) (by omega)
  rw [e] at this
  exact this
/-- What is lost costs nothing, if it can be. -/
def lostC (p : CP) : Nat → List Int
  | 0 => zeroC
  | k + 1 => if withinB (k : Int) p.slo p.shi then ((lostC p k).set k (1099511627776 : Int)).set k 0 else (lostC p k).set k (1099511627776 : Int)
theorem lostC_len (p : CP) : ∀ k, (lostC p k).length = 31
  | 0 => rfl
  | k + 1 => by
    unfold lostC
    by_cases h : withinB (k : Int) p.slo p.shi = true
    · rw [if_pos h, List.length_set, List.length_set, lostC_len p k]
    · rw [if_neg h, List.length_set, lostC_len p k]
theorem lostC_at (p : CP) {u : Nat} : ∀ k, k ≤ 31 → at0 (lostC p k) u = if u < k then (if withinB (u : Int) p.slo p.shi then 0 else (1099511627776 : Int)) else at0 zeroC u
  | 0, _ => by rw [if_neg (by omega)]; rfl
  | k + 1, hk => by
    have ih := lostC_at p (u := u) k (by omega)
    have hl := lostC_len p k
    unfold lostC
    by_cases h : withinB (k : Int) p.slo p.shi = true
    · rw [if_pos h, at0_set (by rw [List.length_set, hl]; omega)]
      by_cases e : k = u
      · subst e; rw [if_pos rfl, if_pos (by omega), if_pos h]
      · rw [if_neg e, at0_set (by rw [hl]; omega), if_neg e, ih]
        by_cases g : u < k
        · rw [if_pos g, if_pos (show u < k + 1 by omega)]
        · rw [if_neg g, if_neg (show ¬ u < k + 1 by omega)]
    · rw [if_neg h, at0_set (by rw [hl]; omega)]
      by_cases e : k = u
      · subst e; rw [if_pos rfl, if_pos (by omega), if_neg h]
      · rw [if_neg e, ih]
        by_cases g : u < k
        · rw [if_pos g, if_pos (show u < k + 1 by omega)]
        · rw [if_neg g, if_neg (show ¬ u < k + 1 by omega)]
theorem zeroC_at (u : Nat) : at0 zeroC u = 0 := by
  unfold at0 zeroC
  rw [List.getD, List.getElem?_replicate]
  by_cases h : u < 31
  · simp [h]
  · simp [h]
theorem lost_sm (p : CP) : Sm 0 0 (lostC p 31) := ⟨lostC_len p 31, fun u hu => by
  rw [lostC_at p 31 (Nat.le_refl _), if_pos hu]
  by_cases h : withinB (u : Int) p.slo p.shi = true
  · rw [if_pos h]; omega
  · rw [if_neg h]; omega⟩
theorem zero_sm : Sm 0 0 zeroC := ⟨rfl, fun u _ => by rw [zeroC_at]; omega⟩
theorem no_sm : Sm 0 0 noC := ⟨noC_len, fun u hu => by
  rw [noC_at hu]
  by_cases e : u = 0
  · rw [if_pos e]; omega
  · rw [if_neg e]; omega⟩
/-- Costs of a part itself on top. -/
def addC (f : Nat → Int) (own : List Int) : Nat → List Int
  | 0 => own
  | w + 1 => (addC f own w).set w (if f w < (1099511627776 : Int) ∧ at0 (addC f own w) w < (1099511627776 : Int) then at0 (addC f own w) w + f w else (1099511627776 : Int))
theorem addC_len (f : Nat → Int) (own : List Int) : ∀ k, (addC f own k).length = own.length
  | 0 => rfl
  | k + 1 => by unfold addC; rw [List.length_set, addC_len f own k]
theorem addC_at {f : Nat → Int} {own : List Int} (ho : own.length = 31) {u : Nat} : ∀ k, k ≤ 31 → at0 (addC f own k) u = if u < k then (if f u < (1099511627776 : Int) ∧ at0 own u < (1099511627776 : Int) then at0 own u + f u else (1099511627776 : Int)) else at0 own u
  | 0, _ => by rw [if_neg (by omega)]; rfl
  | k + 1, hk => by
    have hl := addC_len f own k
    unfold addC
    rw [at0_set (by rw [hl, ho]; omega)]
    by_cases e : k = u
    · subst e
      rw [if_pos rfl, if_pos (show k < k + 1 by omega), addC_at ho k (by omega), if_neg (show ¬ k < k by omega)]
    · rw [if_neg e, addC_at ho k (by omega)]
      by_cases g : u < k
      · rw [if_pos g, if_pos (show u < k + 1 by omega)]
      · rw [if_neg g, if_neg (show ¬ u < k + 1 by omega)]
end Go.Proofs.Ytkdcdhkhadhcfaa
