/-
  The spans of a trap that has a truth.
-/
import Derived.Test.YtkdcdhkhadhcfaaOpen
namespace Go.Proofs.Ytkdcdhkhadhcfaa
theorem Fish_max {t : CT} (hf : Fit t) (h : Exact t (-1) (setMat t (-1))) (i c : Nat) (hi : i < t.T.toNat) (hc : c < t.C.toNat) :
    IsMax t (-1) (fun y => y i c - y i (c + 1)) (fishHi t i c) := by
  unfold fishHi
  rw [nd_succ]
  exact h.max hf i (c + 1) i c hi (by omega) hi (by omega)
theorem Fish_min {t : CT} (hf : Fit t) (h : Exact t (-1) (setMat t (-1))) (i c : Nat) (hi : i < t.T.toNat) (hc : c < t.C.toNat) :
    (∀ y, Sat t (-1) y → fishLo t i c ≤ y i c - y i (c + 1)) ∧ ∃ y, Sat t (-1) y ∧ y i c - y i (c + 1) = fishLo t i c := by
  unfold fishLo
  rw [nd_succ]
  obtain ⟨h1, y, h2, h3⟩ := h.max hf i c i (c + 1) hi (by omega) hi (by omega)
  exact ⟨fun y hy => by have := h1 y hy; simp only [] at this; omega, y, h2, by simp only [] at h3; omega⟩
theorem Fish_bounds {t : CT} (hf : Fit t) (h : Exact t (-1) (setMat t (-1))) (i c : Nat) (hi : i < t.T.toNat) (hc : c < t.C.toNat) :
    0 ≤ fishLo t i c ∧ fishLo t i c ≤ fishHi t i c ∧ fishHi t i c ≤ 40 := by
  obtain ⟨a1, y, hy, a2⟩ := Fish_max hf h i c hi hc
  obtain ⟨b1, z, hz, b2⟩ := Fish_min hf h i c hi hc
  have u := hy.bounds i hi c (by omega)
  have u2 := hy.bounds i hi (c + 1) (by omega)
  have v := hz.chain i c hi hc
  have q := b1 y hy
  simp only [] at a2
  omega
theorem tell_safe {t : CT} (hf : Fit t) (h : Exact t (-1) (setMat t (-1))) (i c : Nat) (hi : i < t.T.toNat) (hc : c < t.C.toNat) (n : Int) (h0 : 0 ≤ n) (h40 : n ≤ 40) :
    Safe (lim (nd t.C i (c + 1)) (nd t.C i c) n (setMat t (-1))) ∧ State 2 (wordM t.C ⟨i, c, n, n⟩ (setMat t (-1))) (wG t.C ⟨i, c, n, n⟩ (setG t (-1))) := by
  obtain ⟨_, h2, h3⟩ := wTo_state hf (-1) t.ws.length (Nat.le_refl _)
  have hT1 := hf.t1
  have hT2 := hf.t2
  have hC1 := hf.c1
  have hC2 := hf.c2
  have hx : isWordB t.C t.T ⟨i, c, n, n⟩ = true := by
    unfold isWordB isPlaceB isTimeB
    simp only [Bool.and_eq_true, withinB_true]
    rw [wrap64_in (t.T - 1) (by omega), wrap64_in (t.C - 1) (by omega)]
    omega
  have := State.word (n := 0) hf (.inl ⟨h.feas, h.top⟩) h2 h3 hx
  exact ⟨this.1.safe (by omega), this.2.1⟩
end Go.Proofs.Ytkdcdhkhadhcfaa
