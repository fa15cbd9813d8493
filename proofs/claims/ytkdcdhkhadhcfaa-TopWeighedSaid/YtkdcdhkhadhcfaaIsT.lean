/-
  what IsTruth asks of numbers, and that it is what truths are. No program in sight.
-/
import Derived.Test.YtkdcdhkhadhcfaaPlain
namespace Go.Proofs.Ytkdcdhkhadhcfaa
/-- How many fish are in the chamber c and behind it, at the time i. -/
def behOf (r : List Int) (c : Nat) : Int := sumTo (r.drop c) (r.length - c)
def beh (l : List (List Int)) (i c : Nat) : Int := behOf (atL l i) c
theorem sumTo_cons (x : Int) (r : List Int) : ∀ k, sumTo (x :: r) (k + 1) = x + sumTo r k
  | 0 => by show 0 + at0 (x :: r) 0 = x + 0; unfold at0; simp
  | k + 1 => by
    show sumTo (x :: r) (k + 1) + at0 (x :: r) (k + 1) = x + (sumTo r k + at0 r k)
    rw [sumTo_cons x r k]
    have : at0 (x :: r) (k + 1) = at0 r k := by unfold at0; simp [List.getD]
    rw [this]; omega
theorem behOf_step (r : List Int) (c : Nat) (h : c < r.length) : behOf r c = at0 r c + behOf r (c + 1) := by
  unfold behOf
  have e : r.drop c = at0 r c :: r.drop (c + 1) := by
    rw [List.drop_eq_getElem_cons h]
    congr 1
    unfold at0
    rw [getD_lt r c 0 h]
  rw [e, show r.length - c = (r.length - (c + 1)) + 1 by omega, sumTo_cons]
theorem behOf_end (r : List Int) : behOf r r.length = 0 := by unfold behOf; simp [sumTo]
structure RowOk (t : CT) (r : List Int) : Prop where
  len : r.length = t.C.toNat
  num : ∀ c, c < t.C.toNat → 0 ≤ at0 r c ∧ at0 r c ≤ 40
  all : behOf r 0 ≤ 40
def StepOk (t : CT) (l : List (List Int)) (i c : Nat) : Prop := 0 ≤ beh l i c - beh l (i - 1) c ∧ (0 < beh l i c - beh l (i - 1) c → inB (atL t.op (i - 1)) c = true)
structure IsT (t : CT) (l : List (List Int)) : Prop where
  len : l.length = t.T.toNat
  row : ∀ i, i < t.T.toNat → RowOk t (atL l i)
  step : ∀ i c, 0 < i → i < t.T.toNat → c < t.C.toNat → StepOk t l i c
  word : ∀ k, k < t.ws.length → (atW t.ws k).low ≤ at0 (atL l (atW t.ws k).time.toNat) (atW t.ws k).chamber.toNat ∧ at0 (atL l (atW t.ws k).time.toNat) (atW t.ws k).chamber.toNat ≤ (atW t.ws k).high
theorem RowOk.beh_bounds {t : CT} {r : List Int} (h : RowOk t r) : ∀ c, c ≤ t.C.toNat → 0 ≤ behOf r c ∧ behOf r c ≤ behOf r 0 := by
  have low : ∀ d, d ≤ t.C.toNat → 0 ≤ behOf r (t.C.toNat - d) := by
    intro d
    induction d with
    | zero => intro _; rw [Nat.sub_zero, ← h.len, behOf_end]; exact Int.le_refl _
    | succ d ih =>
      intro hd
      have a := ih (by omega)
      have b := behOf_step r (t.C.toNat - (d + 1)) (by rw [h.len]; omega)
      rw [show t.C.toNat - (d + 1) + 1 = t.C.toNat - d by omega] at b
      have c := h.num (t.C.toNat - (d + 1)) (by omega)
      omega
  have up : ∀ c, c ≤ t.C.toNat → behOf r c ≤ behOf r 0 := by
    intro c
    induction c with
    | zero => intro _; exact Int.le_refl _
    | succ c ih =>
      intro hc
      have a := ih (by omega)
      have b := behOf_step r c (by rw [h.len]; omega)
      have d := h.num c (by omega)
      omega
  intro c hc
  have := low (t.C.toNat - c) (by omega)
  rw [show t.C.toNat - (t.C.toNat - c) = c by omega] at this
  exact ⟨this, up c hc⟩
/-- Numbers that IsTruth takes are a truth. -/
theorem IsT.sat {t : CT} (hf : Fit t) {l : List (List Int)} (h : IsT t l) : Sat t (-1) (beh l) := by
  refine ⟨fun i hi => (h.row i hi).all, fun i hi => ?_, fun i c hi hc => ?_, fun i c hi hc => ?_, fun i c hi hc hin => ?_, fun k hk _ => ?_⟩
  · show behOf (atL l i) t.C.toNat = 0
    rw [← (h.row i hi).len, behOf_end]
  · have a := behOf_step (atL l i) c (by rw [(h.row i hi).len]; exact hc)
    have b := (h.row i hi).num c hc
    show behOf (atL l i) (c + 1) ≤ behOf (atL l i) c
    omega
  · have := (h.step (i + 1) c (by omega) hi hc).1
    rw [show i + 1 - 1 = i by omega] at this
    omega
  · have := (h.step (i + 1) c (by omega) hi hc).2
    rw [show i + 1 - 1 = i by omega] at this
    have a : ¬ 0 < beh l (i + 1) c - beh l i c := fun q => by rw [this q] at hin; cases hin
    omega
  · obtain ⟨⟨w1, w2⟩, ⟨w3, w4⟩, _⟩ := hf.word k hk
    have a := behOf_step (atL l (atW t.ws k).time.toNat) (atW t.ws k).chamber.toNat (by rw [(h.row _ (by omega)).len]; omega)
    have b := h.word k hk
    show _ ≤ behOf _ _ - behOf _ _ ∧ behOf _ _ - behOf _ _ ≤ _
    omega
/-- A truth that is laid out as rows is one that IsTruth takes. -/
theorem IsT.mk' {t : CT} (hf : Fit t) {l : List (List Int)} (h1 : l.length = t.T.toNat) (h2 : ∀ i, i < t.T.toNat → (atL l i).length = t.C.toNat) (h : Sat t (-1) (beh l)) : IsT t l := by
  have num : ∀ i c, i < t.T.toNat → c < t.C.toNat → at0 (atL l i) c = beh l i c - beh l i (c + 1) := fun i c hi hc => by
    have := behOf_step (atL l i) c (by rw [h2 i hi]; exact hc)
    show _ = behOf _ _ - behOf _ _
    omega
  refine ⟨h1, fun i hi => ⟨h2 i hi, fun c hc => ?_, h.top i hi⟩, fun i c h0 hi hc => ⟨?_, fun hp => ?_⟩, fun k hk => ?_⟩
  · rw [num i c hi hc]
    have a := h.chain i c hi hc
    have b := (h.bounds i hi c (by omega)).2
    have d := (h.bounds i hi (c + 1) (by omega)).1
    omega
  · have := h.time (i - 1) c (by omega) hc
    rw [show i - 1 + 1 = i by omega] at this
    omega
  · cases e : inB (atL t.op (i - 1)) c with
    | true => rfl
    | false =>
      have := h.shut (i - 1) c (by omega) hc e
      rw [show i - 1 + 1 = i by omega] at this
      omega
  · obtain ⟨⟨w1, w2⟩, ⟨w3, w4⟩, _⟩ := hf.word k hk
    have := h.word k hk (by omega)
    rw [num _ _ (by omega) (by omega)]
    exact this
end Go.Proofs.Ytkdcdhkhadhcfaa
