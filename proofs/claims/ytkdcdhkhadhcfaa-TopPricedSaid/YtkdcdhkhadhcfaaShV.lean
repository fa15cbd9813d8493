/-
  shares: what each node gets of so many pence; of one penny more each gets at most one more or less, and a node that is always the first one with a weight never less. Plain laws.
-/
import Derived.Test.YtkdcdhkhadhcfaaData
namespace Go.Proofs.Ytkdcdhkhadhcfaa
structure SNd where
  up : Int
  wt : Int
  fx : Int
deriving DecidableEq, Inhabited
def atS (l : List SNd) (i : Nat) : SNd := l.getD i default
def sndB (i : Nat) (x : SNd) : Bool := (if i = 0 then decide (x.up = -1) else withinB x.up 0 ((i : Int) - 1)) && (withinB x.wt 0 9 && withinB x.fx 0 20)
def cusB (l : List SNd) : Bool := withinB (l.length : Int) 1 8 && allB l.length fun i => sndB i (atS l i)
structure CusOk (l : List SNd) : Prop where
  l1 : 1 ≤ l.length
  l8 : l.length ≤ 8
  top : (atS l 0).up = -1
  up : ∀ i, i < l.length → 0 < i → 0 ≤ (atS l i).up ∧ (atS l i).up < i
  wt : ∀ i, i < l.length → 0 ≤ (atS l i).wt ∧ (atS l i).wt ≤ 9
  fx : ∀ i, i < l.length → 0 ≤ (atS l i).fx ∧ (atS l i).fx ≤ 20
theorem cusB_iff {l : List SNd} : cusB l = true ↔ CusOk l := by
  unfold cusB
  rw [Bool.and_eq_true, withinB_true, allB_iff]
  constructor
  · rintro ⟨h1, h2⟩
    have h3 : ∀ i, i < l.length → (if i = 0 then decide ((atS l i).up = -1) else withinB (atS l i).up 0 ((i : Int) - 1)) = true ∧ (0 ≤ (atS l i).wt ∧ (atS l i).wt ≤ 9) ∧ 0 ≤ (atS l i).fx ∧ (atS l i).fx ≤ 20 := fun i hi => by
      have := h2 i hi
      unfold sndB at this
      simpa only [Bool.and_eq_true, withinB_true] using this
    refine ⟨by omega, by omega, ?_, fun i hi h0 => ?_, fun i hi => (h3 i hi).2.1, fun i hi => (h3 i hi).2.2⟩
    · have := (h3 0 (by omega)).1
      rw [if_pos rfl] at this
      exact of_decide_eq_true this
    · have := (h3 i hi).1
      rw [if_neg (by omega), withinB_true] at this
      omega
  · intro h
    refine ⟨by have := h.l1; have := h.l8; omega, fun i hi => ?_⟩
    unfold sndB
    rw [Bool.and_eq_true, Bool.and_eq_true, withinB_true, withinB_true]
    refine ⟨?_, h.wt i hi, h.fx i hi⟩
    by_cases e : i = 0
    · rw [if_pos e, e]; exact decide_eq_true h.top
    · rw [if_neg e, withinB_true]; have := h.up i hi (by omega); omega
/-- Whether i is below the node. -/
def kidB (l : List SNd) (m : Int) (i : Nat) : Bool := decide (0 < i) && decide ((atS l i).up = m)
/-! what the nodes below a node get -/
def restTo (l : List SNd) (m q : Int) : Nat → Int
  | 0 => q
  | k + 1 => if kidB l m k then restTo l m q k - min (atS l k).fx (restTo l m q k) else restTo l m q k
def wsTo (l : List SNd) (m : Int) : Nat → Int
  | 0 => 0
  | k + 1 => if kidB l m k then wsTo l m k + (atS l k).wt else wsTo l m k
def floS (l : List SNd) (R W : Int) (k : Nat) : Int := R * (atS l k).wt / W
def leftTo (l : List SNd) (m R W : Int) : Nat → Int
  | 0 => R
  | k + 1 => if kidB l m k then leftTo l m R W k - floS l R W k else leftTo l m R W k
def oddTo (l : List SNd) (m x : Int) : Nat → Int
  | 0 => x
  | k + 1 => if kidB l m k && (decide (0 < (atS l k).wt) && decide (0 < oddTo l m x k)) then oddTo l m x k - 1 else oddTo l m x k
def oddB (l : List SNd) (m x : Int) (k : Nat) : Bool := decide (0 < (atS l k).wt) && decide (0 < oddTo l m x k)
def fixS (l : List SNd) (m q : Int) (k : Nat) : Int := min (atS l k).fx (restTo l m q k)
/-- What the node k below m gets, if m gets q. -/
def kidV (l : List SNd) (m q : Int) (k : Nat) : Int :=
  let R := restTo l m q l.length
  let W := wsTo l m l.length
  if 0 < W then fixS l m q k + floS l R W k + (if oddB l m (leftTo l m R W l.length) k then 1 else 0) else fixS l m q k
def keepV (l : List SNd) (m q : Int) : Int := if 0 < wsTo l m l.length then 0 else restTo l m q l.length
/-- What the first k nodes get. -/
def getsTo (l : List SNd) (p : Int) : Nat → List Int
  | 0 => []
  | k + 1 => getsTo l p k ++ [if k = 0 then p else kidV l (atS l k).up (at0 (getsTo l p k) (atS l k).up.toNat) k]
def getsV (l : List SNd) (p : Int) : List Int := getsTo l p l.length
def gV (l : List SNd) (p : Int) (k : Nat) : Int := at0 (getsV l p) k
def keepsV (l : List SNd) (p : Int) : List Int := (List.range l.length).map fun (k : Nat) => keepV l (k : Int) (gV l p k)
theorem getsTo_len (l : List SNd) (p : Int) : ∀ k, (getsTo l p k).length = k
  | 0 => rfl
  | k + 1 => by unfold getsTo; rw [List.length_append, getsTo_len l p k]; rfl
theorem at0_app {a b : List Int} {i : Nat} (h : i < a.length) : at0 (a ++ b) i = at0 a i := by unfold at0; simp [List.getD, List.getElem?_append_left h]
theorem at0_last {a : List Int} {x : Int} {i : Nat} (h : i = a.length) : at0 (a ++ [x]) i = x := by unfold at0; simp [List.getD, h]
theorem getsTo_at (l : List SNd) (p : Int) {i : Nat} : ∀ k, i < k → at0 (getsTo l p k) i = at0 (getsTo l p (i + 1)) i
  | 0, h => by omega
  | k + 1, h => by
    by_cases e : i = k
    · rw [e]
    · rw [← getsTo_at l p k (by omega)]
      show at0 (getsTo l p k ++ _) i = _
      exact at0_app (by rw [getsTo_len]; omega)
theorem gV_zero {l : List SNd} {p : Int} (h : 0 < l.length) : gV l p 0 = p := by
  unfold gV getsV
  rw [getsTo_at l p l.length h]; rfl
theorem gV_kid {l : List SNd} {p : Int} (hc : CusOk l) {k : Nat} (h0 : 0 < k) (hk : k < l.length) : gV l p k = kidV l (atS l k).up (gV l p (atS l k).up.toNat) k := by
  have hu := hc.up k hk h0
  unfold gV getsV
  rw [getsTo_at l p l.length hk]
  show at0 (getsTo l p k ++ [_]) k = _
  rw [at0_last (getsTo_len l p k).symm, if_neg (by omega), getsTo_at l p k (i := (atS l k).up.toNat) (by omega), getsTo_at l p l.length (i := (atS l k).up.toNat) (by omega)]
/-! the laws -/
def fxTo (l : List SNd) (m : Int) : Nat → Int
  | 0 => 0
  | k + 1 => if kidB l m k then fxTo l m k + (atS l k).fx else fxTo l m k
def rankTo (l : List SNd) (m : Int) : Nat → Int
  | 0 => 0
  | k + 1 => if kidB l m k && decide (0 < (atS l k).wt) then rankTo l m k + 1 else rankTo l m k
def floTo (l : List SNd) (m R W : Int) : Nat → Int
  | 0 => 0
  | k + 1 => if kidB l m k then floTo l m R W k + floS l R W k else floTo l m R W k
theorem rest_eq {l : List SNd} (hc : CusOk l) {m q : Int} (hq : 0 ≤ q) : ∀ k, k ≤ l.length → restTo l m q k = max 0 (q - fxTo l m k)
  | 0, _ => by show q = max 0 (q - 0); omega
  | k + 1, hk => by
    have ih := rest_eq hc (m := m) hq k (by omega)
    have := hc.fx k (by omega)
    unfold restTo fxTo
    split
    · rw [ih]; omega
    · exact ih
theorem left_eq {l : List SNd} {m R W : Int} : ∀ k, leftTo l m R W k = R - floTo l m R W k
  | 0 => by show R = R - 0; omega
  | k + 1 => by
    have ih := left_eq (l := l) (m := m) (R := R) (W := W) k
    unfold leftTo floTo
    split <;> omega
theorem odd_eq {l : List SNd} {m x : Int} (hx : 0 ≤ x) : ∀ k, oddTo l m x k = max 0 (x - rankTo l m k)
  | 0 => by show x = max 0 (x - 0); omega
  | k + 1 => by
    have ih := odd_eq (l := l) (m := m) hx k
    unfold oddTo rankTo
    cases h1 : kidB l m k
    · simp only [Bool.false_and, Bool.false_eq_true, if_false]; exact ih
    · simp only [Bool.true_and]
      by_cases h2 : 0 < (atS l k).wt
      · simp only [h2, decide_true, Bool.true_and, if_true, decide_eq_true_eq]
        split <;> omega
      · simp only [h2, decide_false, Bool.false_and, Bool.false_eq_true, if_false]; exact ih
theorem fx_mono {l : List SNd} (hc : CusOk l) {m : Int} {i : Nat} : ∀ k, i ≤ k → k ≤ l.length → fxTo l m i ≤ fxTo l m k
  | 0, h, _ => by rw [show i = 0 by omega]; exact Int.le_refl _
  | k + 1, h, hk => by
    by_cases e : i = k + 1
    · rw [e]; exact Int.le_refl _
    · have ih := fx_mono hc (m := m) (i := i) k (by omega) (by omega)
      have := hc.fx k (by omega)
      show _ ≤ (if kidB l m k then fxTo l m k + (atS l k).fx else fxTo l m k)
      split <;> omega
theorem ws_nn {l : List SNd} (hc : CusOk l) {m : Int} : ∀ k, k ≤ l.length → 0 ≤ wsTo l m k ∧ wsTo l m k ≤ 9 * k ∧ 0 ≤ fxTo l m k ∧ fxTo l m k ≤ 20 * k ∧ 0 ≤ rankTo l m k ∧ rankTo l m k ≤ k
  | 0, _ => by simp [wsTo, fxTo, rankTo]
  | k + 1, hk => by
    have ih := ws_nn hc (m := m) k (by omega)
    have h1 := hc.wt k (by omega)
    have h2 := hc.fx k (by omega)
    unfold wsTo fxTo rankTo
    refine ⟨?_, ?_, ?_, ?_, ?_, ?_⟩ <;> split <;> omega
theorem ws_mono {l : List SNd} (hc : CusOk l) {m : Int} {i : Nat} : ∀ k, i ≤ k → k ≤ l.length → wsTo l m i ≤ wsTo l m k
  | 0, h, _ => by rw [show i = 0 by omega]; exact Int.le_refl _
  | k + 1, h, hk => by
    by_cases e : i = k + 1
    · rw [e]; exact Int.le_refl _
    · have ih := ws_mono hc (m := m) (i := i) k (by omega) (by omega)
      have := hc.wt k (by omega)
      show _ ≤ (if kidB l m k then wsTo l m k + (atS l k).wt else wsTo l m k)
      split <;> omega
theorem ws_kid {l : List SNd} (hc : CusOk l) {m : Int} {k : Nat} (hk : k < l.length) (h : kidB l m k = true) : (atS l k).wt ≤ wsTo l m l.length := by
  have h1 := ws_mono hc (m := m) (i := k + 1) l.length (by omega) (by omega)
  have h2 := (ws_nn hc (m := m) k (by omega)).1
  have h3 : wsTo l m (k + 1) = wsTo l m k + (atS l k).wt := by show (if kidB l m k then _ else _) = _; rw [if_pos h]
  omega
theorem flo_nn {l : List SNd} (hc : CusOk l) {R W : Int} (hR : 0 ≤ R) (hW : 0 < W) {k : Nat} (hk : k < l.length) : 0 ≤ floS l R W k :=
  Int.ediv_nonneg (Int.mul_nonneg hR (hc.wt k hk).1) (by omega)
theorem flo_mul {l : List SNd} {R W : Int} (hW : 0 < W) (k : Nat) : W * floS l R W k ≤ R * (atS l k).wt := Int.mul_ediv_self_le (by omega)
theorem flo_step {l : List SNd} (hc : CusOk l) {R W : Int} (hW : 0 < W) {k : Nat} (hk : k < l.length) (hw : (atS l k).wt ≤ W) :
    floS l R W k ≤ floS l (R + 1) W k ∧ floS l (R + 1) W k ≤ floS l R W k + 1 := by
  have h1 := (hc.wt k hk).1
  have e : (R + 1) * (atS l k).wt = R * (atS l k).wt + (atS l k).wt := by rw [Int.add_mul, Int.one_mul]
  unfold floS
  rw [e]
  constructor
  · exact Int.ediv_le_ediv hW (by omega)
  · have : (R * (atS l k).wt + (atS l k).wt) / W ≤ (R * (atS l k).wt + W * 1) / W := Int.ediv_le_ediv hW (by omega)
    rw [Int.add_mul_ediv_left _ _ (by omega)] at this
    exact this
theorem floTo_mul {l : List SNd} (hc : CusOk l) {m R W : Int} (hR : 0 ≤ R) (hW : 0 < W) : ∀ k, k ≤ l.length → W * floTo l m R W k ≤ R * wsTo l m k
  | 0, _ => by show W * 0 ≤ R * 0; simp
  | k + 1, hk => by
    have ih := floTo_mul hc (m := m) hR hW k (by omega)
    have := flo_mul (l := l) (R := R) hW k
    unfold floTo wsTo
    split
    · rw [Int.mul_add, Int.mul_add]; omega
    · exact ih
theorem floTo_step {l : List SNd} (hc : CusOk l) {m R W : Int} (hW : 0 < W) (hw : ∀ k, k < l.length → kidB l m k = true → (atS l k).wt ≤ W) {j : Nat} : ∀ k, k ≤ l.length →
    floTo l m R W k ≤ floTo l m (R + 1) W k ∧ (j < k → kidB l m j = true → floS l R W j + 1 = floS l (R + 1) W j → floTo l m R W k + 1 ≤ floTo l m (R + 1) W k)
  | 0, _ => ⟨Int.le_refl _, fun h => by omega⟩
  | k + 1, hk => by
    obtain ⟨i1, i2⟩ := floTo_step hc hW hw (j := j) k (by omega)
    unfold floTo
    cases h : kidB l m k
    · simp only [Bool.false_eq_true, if_false]
      refine ⟨i1, fun hj hkj hf => ?_⟩
      by_cases e : j = k
      · rw [e, h] at hkj; cases hkj
      · exact i2 (by omega) hkj hf
    · simp only [if_true]
      have h1 := flo_step hc (R := R) hW (k := k) (by omega) (hw k (by omega) h)
      refine ⟨by omega, fun hj hkj hf => ?_⟩
      by_cases e : j = k
      · rw [e] at hf; omega
      · have := i2 (by omega) hkj hf; omega
/-- Where nothing is over, each share is exact. -/
theorem floTo_exact {l : List SNd} (hc : CusOk l) {m R W : Int} (hR : 0 ≤ R) (hW : 0 < W) {j : Nat} : ∀ k, k ≤ l.length → R * wsTo l m k ≤ W * floTo l m R W k → j < k → kidB l m j = true → W * floS l R W j = R * (atS l j).wt
  | 0, _, _, hj, _ => by omega
  | k + 1, hk, he, hj, hkj => by
    have h0 := floTo_mul hc (m := m) hR hW k (by omega)
    have h1 := flo_mul (l := l) (R := R) hW k
    unfold floTo wsTo at he
    cases h : kidB l m k
    · rw [h] at he
      simp only [Bool.false_eq_true, if_false] at he
      by_cases e : j = k
      · rw [e, h] at hkj; cases hkj
      · exact floTo_exact hc hR hW k (by omega) he (by omega) hkj
    · rw [h] at he
      simp only [if_true] at he
      rw [Int.mul_add, Int.mul_add] at he
      by_cases e : j = k
      · rw [e]; omega
      · exact floTo_exact hc hR hW k (by omega) (by omega) (by omega) hkj
theorem left_nn {l : List SNd} (hc : CusOk l) {m R : Int} (hR : 0 ≤ R) (hW : 0 < wsTo l m l.length) : 0 ≤ leftTo l m R (wsTo l m l.length) l.length ∧ leftTo l m R (wsTo l m l.length) l.length ≤ R := by
  have h1 := floTo_mul hc (m := m) hR hW l.length (Nat.le_refl _)
  have h2 : wsTo l m l.length * floTo l m R (wsTo l m l.length) l.length ≤ wsTo l m l.length * R := by rw [Int.mul_comm _ R]; exact h1
  have h3 := Int.le_of_mul_le_mul_left h2 hW
  rw [left_eq]
  refine ⟨by omega, ?_⟩
  have : ∀ k, k ≤ l.length → 0 ≤ floTo l m R (wsTo l m l.length) k := by
    intro k
    induction k with
    | zero => intro _; exact Int.le_refl _
    | succ k ih =>
      intro hk
      have := ih (by omega)
      have := flo_nn hc hR hW (k := k) (by omega)
      unfold floTo
      split <;> omega
  have := this l.length (Nat.le_refl _)
  omega
theorem oddB_iff {l : List SNd} {m x : Int} (hx : 0 ≤ x) {k : Nat} : oddB l m x k = true ↔ 0 < (atS l k).wt ∧ rankTo l m k < x := by
  unfold oddB
  rw [Bool.and_eq_true, decide_eq_true_eq, decide_eq_true_eq, odd_eq hx]
  omega
theorem fix_full {l : List SNd} (hc : CusOk l) {m q : Int} (hq : 0 ≤ q) {k : Nat} (hk : k < l.length) (h : kidB l m k = true) (hf : fxTo l m l.length ≤ q) : fixS l m q k = (atS l k).fx := by
  have h1 := fx_mono hc (m := m) (i := k + 1) l.length (by omega) (by omega)
  have h3 : fxTo l m (k + 1) = fxTo l m k + (atS l k).fx := by show (if kidB l m k then _ else _) = _; rw [if_pos h]
  unfold fixS
  rw [rest_eq hc hq k (by omega)]
  omega
theorem flo_zero {l : List SNd} {W : Int} (k : Nat) : floS l 0 W k = 0 := by unfold floS; rw [Int.zero_mul, Int.zero_ediv]
theorem left_zero {l : List SNd} {m W : Int} : ∀ k, leftTo l m 0 W k = 0
  | 0 => rfl
  | k + 1 => by
    have ih := left_zero (l := l) (m := m) (W := W) k
    unfold leftTo
    rw [ih, flo_zero]
    split <;> rfl
theorem kid_step {l : List SNd} (hc : CusOk l) {m q : Int} (hq : 0 ≤ q) {k : Nat} (hk : k < l.length) (h : kidB l m k = true) :
    (kidV l m (q + 1) k ≤ kidV l m q k + 1 ∧ kidV l m q k ≤ kidV l m (q + 1) k + 1) ∧ (rankTo l m k = 0 → kidV l m q k ≤ kidV l m (q + 1) k) := by
  have hfx := hc.fx k hk
  have hr := rest_eq hc (m := m) hq k (by omega)
  have hr1 := rest_eq hc (m := m) (q := q + 1) (by omega) k (by omega)
  have hR := rest_eq hc (m := m) hq l.length (Nat.le_refl _)
  have hR1 := rest_eq hc (m := m) (q := q + 1) (by omega) l.length (Nat.le_refl _)
  have e0 : ∀ x, kidV l m x k = if 0 < wsTo l m l.length then fixS l m x k + floS l (restTo l m x l.length) (wsTo l m l.length) k + (if oddB l m (leftTo l m (restTo l m x l.length) (wsTo l m l.length) l.length) k then 1 else 0) else fixS l m x k := fun x => rfl
  rw [e0, e0]
  have hfix : fixS l m q k ≤ fixS l m (q + 1) k ∧ fixS l m (q + 1) k ≤ fixS l m q k + 1 := by
    unfold fixS; rw [hr, hr1]; omega
  by_cases hW : 0 < wsTo l m l.length
  rotate_left
  · rw [if_neg hW, if_neg hW]; omega
  rw [if_pos hW, if_pos hW]
  by_cases hF : fxTo l m l.length ≤ q
  · have f0 := fix_full hc hq hk h hF
    have f1 := fix_full hc (q := q + 1) (by omega) hk h (by omega)
    rw [f0, f1]
    obtain ⟨R, hRe⟩ : ∃ R, R = restTo l m q l.length := ⟨_, rfl⟩
    have e1 : restTo l m (q + 1) l.length = R + 1 := by omega
    rw [e1, ← hRe]
    have hRn : 0 ≤ R := by omega
    obtain ⟨W, hWe⟩ : ∃ W, W = wsTo l m l.length := ⟨_, rfl⟩
    have hw : ∀ k, k < l.length → kidB l m k = true → (atS l k).wt ≤ W := fun k hk h => by rw [hWe]; exact ws_kid hc hk h
    have ln := left_nn hc hRn hW
    have ln1 := left_nn hc (R := R + 1) (by omega) hW
    rw [← hWe] at ln ln1 hW ⊢
    have st := flo_step hc (R := R) hW hk (hw k hk h)
    have ft := floTo_step hc (R := R) hW hw (j := k) l.length (Nat.le_refl _)
    have l0 := left_eq (l := l) (m := m) (R := R) (W := W) l.length
    have l1 := left_eq (l := l) (m := m) (R := R + 1) (W := W) l.length
    have b0 := oddB_iff (l := l) (m := m) ln.1 (k := k)
    have b1 := oddB_iff (l := l) (m := m) ln1.1 (k := k)
    have hinc : floS l R W k + 1 = floS l (R + 1) W k → leftTo l m (R + 1) W l.length ≤ leftTo l m R W l.length := fun e => by
      have := ft.2 hk h e; omega
    have hrk := (ws_nn hc (m := m) k (by omega)).2.2.2.2.1
    refine ⟨⟨?_, ?_⟩, fun hrank => ?_⟩
    · by_cases c0 : oddB l m (leftTo l m R W l.length) k = true
      · rw [if_pos c0]; split <;> omega
      · rw [if_neg c0]
        by_cases c1 : oddB l m (leftTo l m (R + 1) W l.length) k = true
        · rw [if_pos c1]
          by_cases e : floS l R W k + 1 = floS l (R + 1) W k
          · have := hinc e
            exact absurd (b0.2 ⟨(b1.1 c1).1, by have := (b1.1 c1).2; omega⟩) c0
          · omega
        · rw [if_neg c1]; omega
    · split <;> split <;> omega
    · by_cases c0 : oddB l m (leftTo l m R W l.length) k = true
      · rw [if_pos c0]
        by_cases c1 : oddB l m (leftTo l m (R + 1) W l.length) k = true
        · rw [if_pos c1]; omega
        · rw [if_neg c1]
          have hwk := (b0.1 c0).1
          have hz : leftTo l m (R + 1) W l.length = 0 := by
            have : ¬ rankTo l m k < leftTo l m (R + 1) W l.length := fun q => c1 (b1.2 ⟨hwk, q⟩)
            omega
          have hex := floTo_exact hc (m := m) (R := R + 1) (W := W) (by omega) hW (j := k) l.length (Nat.le_refl _) (by
            have : floTo l m (R + 1) W l.length = R + 1 := by omega
            rw [this, ← hWe, Int.mul_comm]; exact Int.le_refl _) hk h
          have hlow := flo_mul (l := l) (R := R) hW k
          have e2 : (R + 1) * (atS l k).wt = R * (atS l k).wt + (atS l k).wt := by rw [Int.add_mul, Int.one_mul]
          have hlt : W * floS l R W k < W * floS l (R + 1) W k := by omega
          have := Int.lt_of_mul_lt_mul_left hlt (by omega)
          omega
      · rw [if_neg c0]; split <;> omega
  · have z0 : restTo l m q l.length = 0 := by omega
    have z1 : restTo l m (q + 1) l.length = 0 := by omega
    rw [z0, z1, flo_zero, left_zero]
    have hb : ¬ oddB l m 0 k = true := fun q => by
      have := (oddB_iff (l := l) (m := m) (Int.le_refl 0) (k := k)).1 q
      have := (ws_nn hc (m := m) k (by omega)).2.2.2.2.1
      omega
    rw [if_neg hb]
    omega
theorem kid_nn {l : List SNd} (hc : CusOk l) {m q : Int} (hq : 0 ≤ q) {k : Nat} (hk : k < l.length) (h : kidB l m k = true) : 0 ≤ kidV l m q k ∧ kidV l m q k ≤ q + 21 := by
  have hfx := hc.fx k hk
  have hr := rest_eq hc (m := m) hq k (by omega)
  have hR := rest_eq hc (m := m) hq l.length (Nat.le_refl _)
  have hn := (ws_nn hc (m := m) l.length (by omega)).2.2.1
  have hf : 0 ≤ fixS l m q k ∧ fixS l m q k ≤ 20 := by unfold fixS; rw [hr]; omega
  have e0 : kidV l m q k = if 0 < wsTo l m l.length then fixS l m q k + floS l (restTo l m q l.length) (wsTo l m l.length) k + (if oddB l m (leftTo l m (restTo l m q l.length) (wsTo l m l.length) l.length) k then 1 else 0) else fixS l m q k := rfl
  rw [e0]
  by_cases hW : 0 < wsTo l m l.length
  · rw [if_pos hW]
    have h1 := flo_nn hc (R := restTo l m q l.length) (by omega) hW hk
    have h2 := flo_mul (l := l) (R := restTo l m q l.length) hW k
    have h3 : restTo l m q l.length * (atS l k).wt ≤ restTo l m q l.length * wsTo l m l.length := Int.mul_le_mul_of_nonneg_left (ws_kid hc hk h) (by omega)
    have h4 : wsTo l m l.length * floS l (restTo l m q l.length) (wsTo l m l.length) k ≤ wsTo l m l.length * restTo l m q l.length := by rw [Int.mul_comm _ (restTo l m q l.length)]; omega
    have h5 := Int.le_of_mul_le_mul_left h4 hW
    split <;> omega
  · rw [if_neg hW]; omega
/-- The node is always the first one with a weight. -/
def firstTo (l : List SNd) : Nat → Nat → Bool
  | 0, _ => true
  | f + 1, k => if k = 0 then true else decide (rankTo l (atS l k).up k = 0) && (decide (0 < (atS l k).wt) && firstTo l f (atS l k).up.toNat)
def firstV (l : List SNd) (k : Nat) : Bool := firstTo l l.length k
theorem kid_self {l : List SNd} {k : Nat} (h : 0 < k) : kidB l (atS l k).up k = true := by unfold kidB; simp [h]
theorem g_nn {l : List SNd} (hc : CusOk l) {p : Int} (hp : 0 ≤ p) : ∀ n k, k ≤ n → k < l.length → 0 ≤ gV l p k ∧ gV l p k ≤ p + 21 * k
  | 0, k, h, hk => by rw [show k = 0 by omega, gV_zero (by omega)]; omega
  | n + 1, k, h, hk => by
    by_cases h0 : k = 0
    · rw [h0, gV_zero (by omega)]; omega
    · have hu := hc.up k hk (by omega)
      have ih := g_nn hc hp n (atS l k).up.toNat (by omega) (by omega)
      have := kid_nn hc ih.1 hk (kid_self (by omega))
      rw [gV_kid hc (by omega) hk]
      omega
theorem g_step {l : List SNd} (hc : CusOk l) {p : Int} (hp : 0 ≤ p) : ∀ n k, k ≤ n → k < l.length → gV l (p + 1) k ≤ gV l p k + 1 ∧ gV l p k ≤ gV l (p + 1) k + 1
  | 0, k, h, hk => by rw [show k = 0 by omega, gV_zero (by omega), gV_zero (by omega)]; omega
  | n + 1, k, h, hk => by
    by_cases h0 : k = 0
    · rw [h0, gV_zero (by omega), gV_zero (by omega)]; omega
    · have hu := hc.up k hk (by omega)
      have ih := g_step hc hp n (atS l k).up.toNat (by omega) (by omega)
      have n0 := (g_nn hc hp k (atS l k).up.toNat (by omega) (by omega)).1
      have n1 := (g_nn hc (p := p + 1) (by omega) k (atS l k).up.toNat (by omega) (by omega)).1
      rw [gV_kid hc (by omega) hk, gV_kid hc (by omega) hk]
      generalize gV l p (atS l k).up.toNat = a at *
      generalize gV l (p + 1) (atS l k).up.toNat = b at *
      have hk' := kid_self (l := l) (k := k) (by omega)
      have : b = a ∨ b = a + 1 ∨ a = b + 1 := by omega
      rcases this with rfl | rfl | rfl
      · omega
      · exact (kid_step hc n0 hk hk').1
      · have := (kid_step hc n1 hk hk').1; omega
theorem kid_mono {l : List SNd} (hc : CusOk l) {m : Int} {k : Nat} (hk : k < l.length) (h : kidB l m k = true) (hr : rankTo l m k = 0) {a : Int} (ha : 0 ≤ a) : ∀ d : Nat, kidV l m a k ≤ kidV l m (a + d) k
  | 0 => by rw [show a + ((0 : Nat) : Int) = a by omega]; exact Int.le_refl _
  | d + 1 => by
    have ih := kid_mono hc hk h hr ha d
    have := (kid_step hc (q := a + d) (by omega) hk h).2 hr
    rw [show a + ((d + 1 : Nat) : Int) = a + d + 1 by omega]
    omega
theorem g_first {l : List SNd} (hc : CusOk l) {p q : Int} (hp : 0 ≤ p) (hq : p ≤ q) : ∀ n k, k ≤ n → k < l.length → firstTo l n k = true → gV l p k ≤ gV l q k
  | 0, k, h, hk, _ => by rw [show k = 0 by omega, gV_zero (by omega), gV_zero (by omega)]; omega
  | n + 1, k, h, hk, hf => by
    by_cases h0 : k = 0
    · rw [h0, gV_zero (by omega), gV_zero (by omega)]; omega
    · have hu := hc.up k hk (by omega)
      unfold firstTo at hf
      rw [if_neg h0, Bool.and_eq_true, Bool.and_eq_true, decide_eq_true_eq] at hf
      have ih := g_first hc hp hq n (atS l k).up.toNat (by omega) (by omega) hf.2.2
      have n0 := (g_nn hc hp k (atS l k).up.toNat (by omega) (by omega)).1
      rw [gV_kid hc (by omega) hk, gV_kid hc (by omega) hk]
      have := kid_mono hc hk (kid_self (by omega)) hf.1 n0 (gV l q (atS l k).up.toNat - gV l p (atS l k).up.toNat).toNat
      rw [show gV l p (atS l k).up.toNat + (((gV l q (atS l k).up.toNat - gV l p (atS l k).up.toNat).toNat : Nat) : Int) = gV l q (atS l k).up.toNat by omega] at this
      exact this
/-- What the law asks of a node's share at three prices and one penny more. -/
theorem shares_law {l : List SNd} (hc : CusOk l) {a p b : Int} (ha : 0 ≤ a) (h1 : a ≤ p) (h2 : p ≤ b) {k : Nat} (hk : k < l.length) :
    (firstV l k = true → gV l a k ≤ gV l p k ∧ gV l p k ≤ gV l b k) ∧ gV l (p + 1) k ≤ gV l p k + 1 ∧ gV l p k - 1 ≤ gV l (p + 1) k := by
  have hs := g_step hc (p := p) (by omega) k k (Nat.le_refl _) hk
  refine ⟨fun hf => ⟨?_, ?_⟩, hs.1, by omega⟩
  · exact g_first hc ha h1 l.length k (by omega) hk hf
  · exact g_first hc (by omega) h2 l.length k (by omega) hk hf
end Go.Proofs.Ytkdcdhkhadhcfaa
