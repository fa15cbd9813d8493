/-
  THE THEOREM OF THE IDLE WORDS, of truths: a trap without a word; the list of idle words. No program in sight.
-/
import Derived.Test.YtoiajjdhgffdaaaPlain
import Derived.Test.YtoiajjdhgffdaaaJudge
namespace Go.Proofs.Ytoiajjdhgffdaaa
theorem exact_skip {t : CT} (hf : Fit t) {skip : Int} (h : ∃ y, Sat t skip y) : Exact t skip (setMat t skip) := by
  rcases set_state hf skip with q | q
  · exact q
  · obtain ⟨y, hy⟩ := h
    exact absurd (sol_of_sat hf hy) (q.2 _)
def without (t : CT) (k : Nat) : CT := ⟨t.C, t.T, t.op, t.ws.take k ++ t.ws.drop (k + 1)⟩
theorem without_len {t : CT} {k : Nat} (hk : k < t.ws.length) : (without t k).ws.length + 1 = t.ws.length := by
  unfold without; simp; omega
theorem without_at {t : CT} {k : Nat} (hk : k < t.ws.length) (j : Nat) : atW (without t k).ws j = if j < k then atW t.ws j else atW t.ws (j + 1) := by
  unfold without atW List.getD
  simp only []
  by_cases h : j < k
  · rw [if_pos h, List.getElem?_append_left (by simp; omega), List.getElem?_take, if_pos h]
  · rw [if_neg h, List.getElem?_append_right (by simp; omega), List.getElem?_drop]
    congr 2
    simp; omega
theorem fit_without {t : CT} (hf : Fit t) {k : Nat} (hk : k < t.ws.length) : Fit (without t k) := by
  refine ⟨hf.c1, hf.c2, hf.t1, hf.t2, hf.opl, ?_⟩
  unfold wordsB
  rw [allB_iff]
  intro i hi
  have hl := without_len hk
  show isWordB t.C t.T (atW (without t k).ws i) = true
  rw [without_at hk]
  split
  · exact allB_iff.1 hf.wb i (by omega)
  · exact allB_iff.1 hf.wb (i + 1) (by omega)
theorem valid_without {t : CT} (h : validB t = true) {k : Nat} (hk : k < t.ws.length) : validB (without t k) = true := by
  have hl := without_len hk
  have hw := (fit_without (fit_of_valid h) hk).wb
  unfold validB at h ⊢
  simp only [Bool.and_eq_true, decide_eq_true_eq] at h ⊢
  obtain ⟨a, b, c, d, e, f⟩ := h
  exact ⟨a, b, c, by omega, e, hw⟩
theorem sat_without {t : CT} {k : Nat} (hk : k < t.ws.length) {y : Nat → Nat → Int} : Sat (without t k) (-1) y ↔ Sat t k y := by
  have hl := without_len hk
  constructor
  · intro h
    refine ⟨h.top, h.last, h.chain, h.time, h.shut, fun j hj hs => ?_⟩
    have hjk : j ≠ k := fun e => hs (by rw [e])
    by_cases q : j < k
    · have := h.word j (by omega) (by omega)
      rw [without_at hk, if_pos q] at this
      exact this
    · have := h.word (j - 1) (by omega) (by omega)
      rw [without_at hk, if_neg (by omega), show j - 1 + 1 = j by omega] at this
      exact this
  · intro h
    refine ⟨h.top, h.last, h.chain, h.time, h.shut, fun j hj hs => ?_⟩
    rw [without_at hk]
    split
    · exact h.word j (by omega) (by omega)
    · exact h.word (j + 1) (by omega) (by omega)
theorem sat_all {t : CT} {k : Nat} (hk : k < t.ws.length) {y : Nat → Nat → Int} : Sat t (-1) y ↔ Sat t k y ∧ WordOk (atW t.ws k) y := by
  constructor
  · intro h
    exact ⟨⟨h.top, h.last, h.chain, h.time, h.shut, fun j hj _ => h.word j hj (by omega)⟩, h.word k hk (by omega)⟩
  · rintro ⟨h, hx⟩
    refine ⟨h.top, h.last, h.chain, h.time, h.shut, fun j hj _ => ?_⟩
    by_cases e : j = k
    · rw [e]; exact hx
    · exact h.word j hj (by omega)
def skLo (t : CT) (k : Nat) (i c : Int) : Int := -(setMat t k (nd t.C i c) (nd t.C i (c + 1)))
def skHi (t : CT) (k : Nat) (i c : Int) : Int := setMat t k (nd t.C i (c + 1)) (nd t.C i c)
theorem sk_eq {t : CT} (hf : Fit t) {k : Nat} (hk : k < t.ws.length) (hone : ∃ y, Sat t k y) (i c : Nat) (hi : i < t.T.toNat) (hc : c < t.C.toNat) :
    skLo t k i c = fishLo (without t k) i c ∧ skHi t k i c = fishHi (without t k) i c := by
  have hx := exact_skip hf hone
  have hfo := fit_without hf hk
  have hxo := exact_of_one hfo (by obtain ⟨y, hy⟩ := hone; exact ⟨y, (sat_without hk).2 hy⟩)
  have a1 := Fish_mn hfo hxo i c hi hc
  have a2 := Fish_max hfo hxo i c hi hc
  have b1 := hx.min hf i (c + 1) i c hi (by omega) hi (by omega)
  have b2 := hx.max hf i (c + 1) i c hi (by omega) hi (by omega)
  rw [← nd_succ] at b1 b2
  refine ⟨?_, ?_⟩
  · obtain ⟨p1, y, p2, p3⟩ := a1
    obtain ⟨q1, z, q2, q3⟩ := b1
    have r1 := p1 z ((sat_without hk).2 q2)
    have r2 := q1 y ((sat_without hk).1 p2)
    unfold skLo
    simp only [] at p3 q3 r1 r2
    omega
  · obtain ⟨p1, y, p2, p3⟩ := a2
    obtain ⟨q1, z, q2, q3⟩ := b2
    have r1 := p1 z ((sat_without hk).2 q2)
    have r2 := q1 y ((sat_without hk).1 p2)
    unfold skHi
    simp only [] at p3 q3 r1 r2
    omega
def idleB (t : CT) (k : Nat) : Bool := decide ((atW t.ws k).low ≤ skLo t k (atW t.ws k).time (atW t.ws k).chamber) && decide (skHi t k (atW t.ws k).time (atW t.ws k).chamber ≤ (atW t.ws k).high)
theorem one_skip {t : CT} {k : Nat} (hk : k < t.ws.length) (h : ∃ y, Sat t (-1) y) : ∃ y, Sat t k y := by
  obtain ⟨y, hy⟩ := h
  exact ⟨y, ((sat_all hk).1 hy).1⟩
/-- Judge of the word, without it. -/
theorem judge_idle {t : CT} (hf : Fit t) {k : Nat} (hk : k < t.ws.length) (hone : ∃ y, Sat t (-1) y) :
    (judgeR (fishLo (without t k) (atW t.ws k).time (atW t.ws k).chamber) (fishHi (without t k) (atW t.ws k).time (atW t.ws k).chamber) (atW t.ws k).low (atW t.ws k).high = 1 ↔ idleB t k = true) ∧
    (idleB t k = true → ∀ y, Sat (without t k) (-1) y → Sat t (-1) y) := by
  obtain ⟨⟨w1, w2⟩, ⟨w3, w4⟩, w5⟩ := hf.word k hk
  have et : (((atW t.ws k).time.toNat : Nat) : Int) = (atW t.ws k).time := by omega
  have ec : (((atW t.ws k).chamber.toNat : Nat) : Int) = (atW t.ws k).chamber := by omega
  obtain ⟨e1, e2⟩ := sk_eq hf hk (one_skip hk hone) (atW t.ws k).time.toNat (atW t.ws k).chamber.toNat (by omega) (by omega)
  rw [et, ec] at e1 e2
  refine ⟨?_, fun h y hy => ?_⟩
  · unfold judgeR idleB
    rw [e1, e2]
    simp only [Bool.and_eq_true, decide_eq_true_eq]
    split
    · rename_i h; simp [h]
    · rename_i h
      constructor
      · intro q; split at q <;> omega
      · intro q; exact absurd q h
  · have hfo := fit_without hf hk
    have hxo := exact_of_one hfo ⟨y, hy⟩
    have a1 := (Fish_mn hfo hxo (atW t.ws k).time.toNat (atW t.ws k).chamber.toNat (by show _ < t.T.toNat; omega) (by show _ < t.C.toNat; omega)).1 y hy
    have a2 := (Fish_max hfo hxo (atW t.ws k).time.toNat (atW t.ws k).chamber.toNat (by show _ < t.T.toNat; omega) (by show _ < t.C.toNat; omega)).1 y hy
    rw [et, ec] at a1 a2
    unfold idleB at h
    simp only [Bool.and_eq_true, decide_eq_true_eq] at h
    rw [e1, e2] at h
    simp only [] at a1 a2
    refine (sat_all hk).2 ⟨(sat_without hk).1 hy, ?_, ?_⟩ <;> omega
/-! The list -/
def idleTo (t : CT) : Nat → List Int
  | 0 => []
  | n + 1 => if idleB t n then idleTo t n ++ [(n : Int)] else idleTo t n
def idleL (t : CT) : List Int := idleTo t t.ws.length
theorem at0_left {l : List Int} {x : Int} {j : Nat} (h : j < l.length) : at0 (l ++ [x]) j = at0 l j := by unfold at0; simp [List.getD, List.getElem?_append_left h]
theorem at0_last {l : List Int} {x : Int} : at0 (l ++ [x]) l.length = x := by unfold at0; simp [List.getD]
theorem idleTo_facts (t : CT) : ∀ n, (idleTo t n).length ≤ n ∧ (∀ j, j < (idleTo t n).length → 0 ≤ at0 (idleTo t n) j ∧ at0 (idleTo t n) j < n) ∧
    (∀ j, j + 1 < (idleTo t n).length → at0 (idleTo t n) j < at0 (idleTo t n) (j + 1)) ∧ ∀ k : Nat, (k : Int) ∈ idleTo t n ↔ k < n ∧ idleB t k = true
  | 0 => ⟨Nat.le_refl _, fun j hj => by simp [idleTo] at hj, fun j hj => by simp [idleTo] at hj, fun k => by simp [idleTo]⟩
  | n + 1 => by
    obtain ⟨h1, h2, h3, h4⟩ := idleTo_facts t n
    by_cases e : idleB t n = true
    · have ee : idleTo t (n + 1) = idleTo t n ++ [(n : Int)] := by show (if idleB t n = true then _ else _) = _; rw [if_pos e]
      rw [ee]
      simp only [List.length_append, List.length_singleton]
      refine ⟨by omega, fun j hj => ?_, fun j hj => ?_, fun k => ?_⟩
      · by_cases q : j < (idleTo t n).length
        · rw [at0_left q]; have := h2 j q; omega
        · rw [show j = (idleTo t n).length by omega, at0_last]; omega
      · by_cases q : j + 1 < (idleTo t n).length
        · rw [at0_left q, at0_left (by omega)]; exact h3 j q
        · rw [show j + 1 = (idleTo t n).length by omega, at0_last, at0_left (by omega)]
          exact (h2 j (by omega)).2
      · rw [List.mem_append, h4, List.mem_singleton]
        constructor
        · rintro (⟨a, b⟩ | a)
          · exact ⟨by omega, b⟩
          · have : k = n := by omega
            rw [this]; exact ⟨by omega, e⟩
        · rintro ⟨a, b⟩
          by_cases q : k = n
          · right; rw [q]
          · left; exact ⟨by omega, b⟩
    · have ee : idleTo t (n + 1) = idleTo t n := by show (if idleB t n = true then _ else _) = _; rw [if_neg e]
      rw [ee]
      refine ⟨by omega, fun j hj => ?_, h3, fun k => ?_⟩
      · have := h2 j hj; omega
      · rw [h4]
        constructor
        · rintro ⟨a, b⟩; exact ⟨by omega, b⟩
        · rintro ⟨a, b⟩
          refine ⟨?_, b⟩
          by_cases q : k = n
          · rw [q] at b; exact absurd b e
          · omega
theorem idleL_rising (t : CT) : risingB (idleL t) 0 ((t.ws.length : Int) - 1) = true := by
  obtain ⟨_, h2, h3, _⟩ := idleTo_facts t t.ws.length
  unfold risingB
  rw [allB_iff]
  intro j hj
  have a := h2 j hj
  unfold riseAt
  rw [Bool.and_eq_true, withinB_true]
  refine ⟨⟨a.1, by have := a.2; show at0 (idleTo t t.ws.length) j ≤ (t.ws.length : Int) - 1; omega⟩, ?_⟩
  by_cases q : j = 0
  · simp [q]
  · have b := h3 (j - 1) (by show j - 1 + 1 < (idleL t).length; omega)
    rw [show j - 1 + 1 = j by omega] at b
    simp only [Bool.or_eq_true, decide_eq_true_eq]
    exact .inr b
theorem idleL_in {t : CT} {k : Nat} (hk : k < t.ws.length) : inB (idleL t) k = idleB t k := by
  have h := (idleTo_facts t t.ws.length).2.2.2 k
  cases e : idleB t k with
  | true => exact inB_true.2 (h.2 ⟨hk, e⟩)
  | false => exact inB_false.2 fun q => by rw [(h.1 q).2] at e; cases e
end Go.Proofs.Ytoiajjdhgffdaaa
