/-
  counts: Whole, Came, Passed.
-/
import Derived.Test.YtkdcdhkhadhcfaaOpen
namespace Go.Proofs.Ytkdcdhkhadhcfaa
open Go Go.RowKit
set_option maxHeartbeats 1000000
set_option maxRecDepth 100000
theorem wrap_eq (n : Int) : IntKind.i64.wrap n = wrap64 n := by rw [IntKind.wrap_i64]; unfold wrap64; omega
theorem TrapP.setOther {w : World} {tb : Nat} {C T : Int} {ov wv : Value} {M : Nat → Nat → Int} (h : TrapP w tb C T ov wv M) {p : Addr} (hp : p.block ≠ tb) (v : Value) : TrapP (w.setCell p v) tb C T ov wv M := by
  have e : ∀ o, (w.setCell p v).cell? ⟨tb, o, none⟩ = w.cell? ⟨tb, o, none⟩ := fun o => World.cell?_setCell_other _ _ _ _ (fun q => hp (by rw [q]))
  refine ⟨by rw [e]; exact h.c0, by rw [e]; exact h.c1, by rw [e]; exact h.c2, by rw [e]; exact h.c3, h.mat.of_eq e, fun o => ?_, ?_⟩
  · rw [World.frozen?_setCell]; exact h.fz o
  · obtain ⟨cs, h1, h2⟩ := h.shape
    exact ⟨cs, by rw [heap_setCell_other _ _ _ _ (fun q => hp q.symm)]; exact h1, h2⟩
def wholeLo (t : CT) (i : Int) : Int := -(setMat t (-1) (nd t.C i 0) 0)
def wholeHi (t : CT) (i : Int) : Int := setMat t (-1) 0 (nd t.C i 0)
def cameB (T f o : Int) : Bool := withinB f 0 o && decide (o < T)
def cameLo (t : CT) (f o : Int) : Int := -(setMat t (-1) (nd t.C o 0) (nd t.C f 0))
def cameHi (t : CT) (f o : Int) : Int := setMat t (-1) (nd t.C f 0) (nd t.C o 0)
def passB (C T s d : Int) : Bool := isStepB T s && isTimeB C d
def passLo (t : CT) (s d : Int) : Int := -(setMat t (-1) (nd t.C (s + 1) d) (nd t.C s d))
def passHi (t : CT) (s d : Int) : Int := setMat t (-1) (nd t.C s d) (nd t.C (s + 1) d)
theorem isTimeB_bounds {T i : Int} (hT1 : 1 ≤ T) (hT2 : T ≤ 5) (h : isTimeB T i = true) : 0 ≤ i ∧ i < T := by
  unfold isTimeB at h
  rw [withinB_true, wrap64_in (T - 1) (by omega)] at h
  omega
theorem cameB_bounds {T f o : Int} (h : cameB T f o = true) : 0 ≤ f ∧ f ≤ o ∧ o < T := by
  unfold cameB at h
  simp only [Bool.and_eq_true, withinB_true, decide_eq_true_eq] at h
  omega
theorem passB_bounds {C T s d : Int} (hC1 : 1 ≤ C) (hC2 : C ≤ 4) (hT1 : 1 ≤ T) (hT2 : T ≤ 5) (h : passB C T s d = true) : (0 ≤ s ∧ s + 1 < T) ∧ 0 ≤ d ∧ d < C := by
  unfold passB isStepB isTimeB at h
  simp only [Bool.and_eq_true, withinB_true] at h
  rw [wrap64_in (T - 2) (by omega), wrap64_in (C - 1) (by omega)] at h
  omega
end Go.Proofs.Ytkdcdhkhadhcfaa
