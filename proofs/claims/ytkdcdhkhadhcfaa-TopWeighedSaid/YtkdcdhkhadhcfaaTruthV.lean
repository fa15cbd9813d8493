/-
  what Truth computes is a truth. No program in sight.
-/
import Derived.Test.YtkdcdhkhadhcfaaIsT
import Derived.Test.YtkdcdhkhadhcfaaTruth
namespace Go.Proofs.Ytkdcdhkhadhcfaa
set_option linter.unusedVariables false
theorem Feas.col {M : Nat → Nat → Int} {G : Cons} (h : Feas M G) : Sol G (fun k => -(M k 0)) :=
  (h.2 _).2 fun i k hi hk => by have := h.1.2 i k 0 hi hk (by omega); omega
def tY (t : CT) : Nat → Nat → Int := yof t (fun k => -(setMat t (-1) k 0))
theorem tY_sat {t : CT} (hf : Fit t) (h : Exact t (-1) (setMat t (-1))) : Sat t (-1) (tY t) := sat_of_sol hf h.feas.col
theorem truthAt_eq (t : CT) (i c : Nat) : truthAt t i c = tY t i c - tY t i (c + 1) := by
  unfold truthAt tY yof
  rw [nd_succ]
  simp only []
  omega
theorem truthTo_at (t : CT) (n i : Nat) (h : i < n) : atL (truthTo t n) i = truthRow t i := by unfold truthTo atL; simp [List.getD, h]
theorem truthRows_at {t : CT} {i c : Nat} (hi : i < t.T.toNat) (hc : c < t.C.toNat) : at0 (atL (truthRows t) i) c = tY t i c - tY t i (c + 1) := by
  unfold truthRows
  rw [truthTo_at t _ i hi, truthRow_at t i c hc, truthAt_eq]
theorem truthRows_len (t : CT) : (truthRows t).length = t.T.toNat := truthTo_len t _
theorem truthRows_row {t : CT} {i : Nat} (hi : i < t.T.toNat) : (atL (truthRows t) i).length = t.C.toNat := by
  unfold truthRows
  rw [truthTo_at t _ i hi, truthRow_len]
theorem Sat.congr {t : CT} {skip : Int} {y z : Nat → Nat → Int} (hf : Fit t) (h : Sat t skip y) (e : ∀ i c, i < t.T.toNat → c ≤ t.C.toNat → z i c = y i c) : Sat t skip z := by
  refine ⟨fun i hi => ?_, fun i hi => ?_, fun i c hi hc => ?_, fun i c hi hc => ?_, fun i c hi hc hin => ?_, fun k hk hs => ?_⟩
  · rw [e i 0 hi (by omega)]; exact h.top i hi
  · rw [e i _ hi (by omega)]; exact h.last i hi
  · rw [e i c hi (by omega), e i (c + 1) hi (by omega)]; exact h.chain i c hi hc
  · rw [e i c (by omega) (by omega), e (i + 1) c hi (by omega)]; exact h.time i c hi hc
  · rw [e i c (by omega) (by omega), e (i + 1) c hi (by omega)]; exact h.shut i c hi hc hin
  · obtain ⟨⟨w1, w2⟩, ⟨w3, w4⟩, _⟩ := hf.word k hk
    rw [e _ _ (by omega) (by omega), e _ _ (by omega) (by omega)]; exact h.word k hk hs
/-- Rows whose numbers are the differences of a truth. -/
theorem beh_of_rows {t : CT} {l : List (List Int)} {y : Nat → Nat → Int} (hl : ∀ i, i < t.T.toNat → y i t.C.toNat = 0) (h2 : ∀ i, i < t.T.toNat → (atL l i).length = t.C.toNat)
    (h : ∀ i c, i < t.T.toNat → c < t.C.toNat → at0 (atL l i) c = y i c - y i (c + 1)) (i : Nat) (hi : i < t.T.toNat) : ∀ c, c ≤ t.C.toNat → beh l i c = y i c := by
  have key : ∀ d, d ≤ t.C.toNat → beh l i (t.C.toNat - d) = y i (t.C.toNat - d) := by
    intro d
    induction d with
    | zero =>
      intro _
      rw [Nat.sub_zero, hl i hi]
      show behOf (atL l i) _ = 0
      rw [← h2 i hi, behOf_end]
    | succ d ih =>
      intro hd
      have a := ih (by omega)
      have b := behOf_step (atL l i) (t.C.toNat - (d + 1)) (by rw [h2 i hi]; omega)
      rw [show t.C.toNat - (d + 1) + 1 = t.C.toNat - d by omega] at b
      have c := h i (t.C.toNat - (d + 1)) hi (by omega)
      rw [show t.C.toNat - (d + 1) + 1 = t.C.toNat - d by omega] at c
      show behOf _ _ = _
      change behOf _ _ = _ at a
      omega
  intro c hc
  have := key (t.C.toNat - c) (by omega)
  rwa [show t.C.toNat - (t.C.toNat - c) = c by omega] at this
theorem isT_of_sat {t : CT} (hf : Fit t) {l : List (List Int)} {y : Nat → Nat → Int} (hs : Sat t (-1) y) (h1 : l.length = t.T.toNat) (h2 : ∀ i, i < t.T.toNat → (atL l i).length = t.C.toNat)
    (h : ∀ i c, i < t.T.toNat → c < t.C.toNat → at0 (atL l i) c = y i c - y i (c + 1)) : IsT t l :=
  IsT.mk' hf h1 h2 (hs.congr hf fun i c hi hc => beh_of_rows hs.last h2 h i hi c hc)
theorem truth_isT {t : CT} (hf : Fit t) (hex : Exact t (-1) (setMat t (-1))) : IsT t (truthRows t) :=
  isT_of_sat hf (tY_sat hf hex) (truthRows_len t) (fun i hi => truthRows_row hi) fun i c hi hc => truthRows_at hi hc
/-! Numbers of a truth lie in the spans -/
theorem IsT.fish {t : CT} (hf : Fit t) (hex : Exact t (-1) (setMat t (-1))) {l : List (List Int)} (h : IsT t l) {i c : Nat} (hi : i < t.T.toNat) (hc : c < t.C.toNat) :
    fishLo t i c ≤ at0 (atL l i) c ∧ at0 (atL l i) c ≤ fishHi t i c := by
  have hs := h.sat hf
  have a := (Fish_mn hf hex i c hi hc).1 _ hs
  have b := (Fish_max hf hex i c hi hc).1 _ hs
  have e := behOf_step (atL l i) c (by rw [(h.row i hi).len]; exact hc)
  change _ ≤ behOf _ _ - behOf _ _ at a
  change behOf _ _ - behOf _ _ ≤ _ at b
  omega
theorem isT_told {t : CT} {x : CW} {l : List (List Int)} (h : IsT (told t x) l) : IsT t l ∧ x.low ≤ at0 (atL l x.time.toNat) x.chamber.toNat ∧ at0 (atL l x.time.toNat) x.chamber.toNat ≤ x.high := by
  refine ⟨⟨h.len, fun i hi => ⟨(h.row i hi).len, (h.row i hi).num, (h.row i hi).all⟩, fun i c h0 hi hc => h.step i c h0 hi hc, fun k hk => ?_⟩, ?_⟩
  · have := h.word k (by simp [told]; omega)
    rw [show (told t x).ws = t.ws ++ [x] from rfl, atW_left hk] at this
    exact this
  · have := h.word t.ws.length (by simp [told])
    rw [show (told t x).ws = t.ws ++ [x] from rfl, atW_last] at this
    exact this
end Go.Proofs.Ytkdcdhkhadhcfaa
