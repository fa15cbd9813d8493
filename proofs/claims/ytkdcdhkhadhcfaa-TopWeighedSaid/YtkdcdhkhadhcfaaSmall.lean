/-
  a trap that is not huge fits into memory.
-/
import Derived.Test.YtkdcdhkhadhcfaaLaw1
import Derived.Test.YtkdcdhkhadhcfaaCopy
namespace Go.Proofs.Ytkdcdhkhadhcfaa
theorem small_of {t : CT} (h : HugeB t = false) : t.op.length ≤ 40 ∧ (∀ i, i < t.op.length → (atL t.op i).length ≤ 40) ∧ t.ws.length ≤ 40 := by
  unfold HugeB hugeB at h
  simp only [Bool.or_eq_false_iff, decide_eq_false_iff_not, Bool.not_eq_false'] at h
  obtain ⟨⟨h1, h2⟩, h3⟩ := h
  unfold longB at h2
  refine ⟨by omega, fun i hi => ?_, by omega⟩
  have := allB_iff.1 h2 i hi
  simp at this
  omega
theorem room_small {t : CT} (h : HugeB t = false) : Room t := by
  obtain ⟨h1, h2, h3⟩ := small_of h
  exact ⟨by omega, fun i hi => by have := h2 i hi; omega, by omega⟩
end Go.Proofs.Ytkdcdhkhadhcfaa
