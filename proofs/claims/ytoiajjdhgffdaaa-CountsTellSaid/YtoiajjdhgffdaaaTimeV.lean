/-
  THE THEOREM OF TIME, of truths: no program in sight.
-/
import Derived.Test.YtoiajjdhgffdaaaPlain
namespace Go.Proofs.Ytoiajjdhgffdaaa
theorem time_law {t : CT} (h : errR t true = 0) {o w r : Int} (h0 : 0 ≤ o) (h1 : o ≤ w) (h2 : w ≤ r) (h3 : r < t.T) :
    (fishLo t o (t.C - 1) ≤ fishLo t w (t.C - 1) ∧ fishHi t o (t.C - 1) ≤ fishHi t w (t.C - 1) ∧ wholeLo t o ≤ wholeLo t w ∧ wholeHi t o ≤ wholeHi t w) ∧
    (0 ≤ cameLo t o w ∧ cameHi t o w ≤ 40) ∧ (0 ≤ cameLo t w r ∧ cameHi t w r ≤ 40) ∧
    cameLo t o w + cameLo t w r ≤ cameLo t o r ∧ cameLo t o r ≤ cameHi t o r ∧ cameHi t o r ≤ cameHi t o w + cameHi t w r := by
  obtain ⟨hex, hf⟩ := errR_exact h
  have c1 := hf.c1
  obtain ⟨i, rfl⟩ : ∃ i : Nat, o = i := ⟨o.toNat, by omega⟩
  obtain ⟨j, rfl⟩ : ∃ j : Nat, w = j := ⟨w.toNat, by omega⟩
  obtain ⟨k, rfl⟩ : ∃ k : Nat, r = k := ⟨r.toNat, by omega⟩
  have hk : k < t.T.toNat := by omega
  have hij : i ≤ j := by omega
  have hjk : j ≤ k := by omega
  obtain ⟨c, hc⟩ : ∃ c : Nat, t.C - 1 = c := ⟨(t.C - 1).toNat, by omega⟩
  have hcC : c + 1 = t.C.toNat := by omega
  rw [hc]
  obtain ⟨fa, ya, sa, ea⟩ := Fish_max hf hex i c (by omega) (by omega)
  obtain ⟨fb, yb, sb, eb⟩ := Fish_max hf hex j c (by omega) (by omega)
  obtain ⟨fc, yc, sc, ec⟩ := Fish_mn hf hex i c (by omega) (by omega)
  obtain ⟨fd, yd, sd, ed⟩ := Fish_mn hf hex j c (by omega) (by omega)
  obtain ⟨ga, za, ta, ha⟩ := Whole_max hf hex i (by omega)
  obtain ⟨gb, zb, tb, hb⟩ := Whole_max hf hex j (by omega)
  obtain ⟨gc, zc, tc, hc2⟩ := Whole_min hf hex i (by omega)
  obtain ⟨gd, zd, td, hd⟩ := Whole_min hf hex j (by omega)
  obtain ⟨ka, va, ra, la⟩ := Came_max hf hex i j (by omega) (by omega)
  obtain ⟨kb, vb, rb2, lb⟩ := Came_max hf hex j k (by omega) (by omega)
  obtain ⟨kc, vc, rc, lc⟩ := Came_max hf hex i k (by omega) (by omega)
  obtain ⟨kd, vd, rd, ld⟩ := Came_min hf hex i j (by omega) (by omega)
  obtain ⟨ke, ve, re, le⟩ := Came_min hf hex j k (by omega) (by omega)
  obtain ⟨kf, vf, rf, lf⟩ := Came_min hf hex i k (by omega) (by omega)
  simp only [] at *
  refine ⟨⟨?_, ?_, ?_, ?_⟩, ⟨?_, ?_⟩, ⟨?_, ?_⟩, ?_, ?_, ?_⟩
  · have q1 := fc yd sd
    have q2 := sd.mono hij (by omega) (c := c) (by omega)
    have q3 := sd.last i (by omega)
    have q4 := sd.last j (by omega)
    rw [← hcC] at q3 q4
    omega
  · have q1 := fb ya sa
    have q2 := sa.mono hij (by omega) (c := c) (by omega)
    have q3 := sa.last i (by omega)
    have q4 := sa.last j (by omega)
    rw [← hcC] at q3 q4
    omega
  · have q1 := gc zd td
    have q2 := td.mono hij (by omega) (c := 0) (by omega)
    have q3 := td.last i (by omega)
    have q4 := td.last j (by omega)
    omega
  · have q1 := gb za ta
    have q2 := ta.mono hij (by omega) (c := 0) (by omega)
    have q3 := ta.last i (by omega)
    have q4 := ta.last j (by omega)
    omega
  · have q2 := rd.mono hij (by omega) (c := 0) (by omega)
    omega
  · have q2 := (ra.bounds i (by omega) 0 (by omega)).1
    have q3 := ra.top j (by omega)
    omega
  · have q2 := re.mono hjk hk (c := 0) (by omega)
    omega
  · have q2 := (rb2.bounds j (by omega) 0 (by omega)).1
    have q3 := rb2.top k (by omega)
    omega
  · have q1 := kd vf rf
    have q2 := ke vf rf
    omega
  · have q1 := kc vf rf
    omega
  · have q1 := ka vc rc
    have q2 := kb vc rc
    omega
end Go.Proofs.Ytoiajjdhgffdaaa
