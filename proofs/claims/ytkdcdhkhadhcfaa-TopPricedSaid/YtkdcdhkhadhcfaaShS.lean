/-
  shares: what split and share fold up. Plain laws.
-/
import Derived.Test.YtkdcdhkhadhcfaaShF
import Derived.Test.YtkdcdhkhadhcfaaCtV
namespace Go.Proofs.Ytkdcdhkhadhcfaa
set_option maxHeartbeats 1000000
def spF1 (l : List SNd) (s : GtT × Int) (k : Nat) : GtT × Int := (updG s.1 k (min (atS l k).fx s.2), s.2 - min (atS l k).fx s.2)
def st1 (l : List SNd) (m q : Int) : Nat → GtT × Int
  | 0 => (fun _ => none, q)
  | k + 1 => if kidB l m k then spF1 l (st1 l m q k) k else st1 l m q k
def spF2 (l : List SNd) (R W : Int) (s : GtT × Int) (k : Nat) : GtT × Int := (updG s.1 k ((s.1 k).getD 0 + floS l R W k), s.2 - floS l R W k)
def st2 (l : List SNd) (m q : Int) : Nat → GtT × Int
  | 0 => ((st1 l m q l.length).1, restTo l m q l.length)
  | k + 1 => if kidB l m k then spF2 l (restTo l m q l.length) (wsTo l m l.length) (st2 l m q k) k else st2 l m q k
def spF3 (l : List SNd) (s : GtT × Int) (k : Nat) : GtT × Int := if decide (0 < (atS l k).wt) && decide (0 < s.2) then (updG s.1 k ((s.1 k).getD 0 + 1), s.2 - 1) else s
def st3 (l : List SNd) (m q : Int) : Nat → GtT × Int
  | 0 => ((st2 l m q l.length).1, leftTo l m (restTo l m q l.length) (wsTo l m l.length) l.length)
  | k + 1 => if kidB l m k then spF3 l (st3 l m q k) k else st3 l m q k
theorem st1_eq (l : List SNd) (m q : Int) : ∀ k, (st1 l m q k).2 = restTo l m q k ∧ ∀ j, (st1 l m q k).1 j = if j < k ∧ kidB l m j = true then some (fixS l m q j) else none
  | 0 => ⟨rfl, fun j => by rw [if_neg (by omega)]; rfl⟩
  | k + 1 => by
    obtain ⟨h1, h2⟩ := st1_eq l m q k
    have e1 : st1 l m q (k + 1) = if kidB l m k then spF1 l (st1 l m q k) k else st1 l m q k := rfl
    have e2 : restTo l m q (k + 1) = if kidB l m k then restTo l m q k - min (atS l k).fx (restTo l m q k) else restTo l m q k := rfl
    rw [e1, e2]
    by_cases h : kidB l m k = true
    · rw [if_pos h, if_pos h]
      unfold spF1
      rw [h1]
      refine ⟨rfl, fun j => ?_⟩
      show updG _ k _ j = _
      unfold updG
      by_cases e : j = k
      · rw [if_pos e, if_pos ⟨by omega, by rw [e]; exact h⟩, e]; rfl
      · rw [if_neg e, h2 j]
        by_cases g : j < k ∧ kidB l m j = true
        · rw [if_pos g, if_pos ⟨by omega, g.2⟩]
        · rw [if_neg g, if_neg (fun x => g ⟨by omega, x.2⟩)]
    · rw [if_neg h, if_neg h]
      refine ⟨h1, fun j => ?_⟩
      rw [h2 j]
      by_cases g : j < k ∧ kidB l m j = true
      · rw [if_pos g, if_pos ⟨by omega, g.2⟩]
      · rw [if_neg g, if_neg (fun x => g ⟨by
          by_cases e : j = k
          · rw [e] at x; exact absurd x.2 h
          · omega, x.2⟩)]
theorem st2_eq (l : List SNd) (m q : Int) : ∀ k, k ≤ l.length → (st2 l m q k).2 = leftTo l m (restTo l m q l.length) (wsTo l m l.length) k ∧
    ∀ j, (st2 l m q k).1 j = if j < l.length ∧ kidB l m j = true then some (fixS l m q j + if j < k then floS l (restTo l m q l.length) (wsTo l m l.length) j else 0) else none
  | 0, _ => ⟨rfl, fun j => by
    show (st1 l m q l.length).1 j = _
    rw [(st1_eq l m q l.length).2 j, if_neg (show ¬ j < 0 by omega), Int.add_zero]⟩
  | k + 1, hk => by
    obtain ⟨h1, h2⟩ := st2_eq l m q k (by omega)
    have e1 : st2 l m q (k + 1) = if kidB l m k then spF2 l (restTo l m q l.length) (wsTo l m l.length) (st2 l m q k) k else st2 l m q k := rfl
    have e2 : leftTo l m (restTo l m q l.length) (wsTo l m l.length) (k + 1) = if kidB l m k then leftTo l m (restTo l m q l.length) (wsTo l m l.length) k - floS l (restTo l m q l.length) (wsTo l m l.length) k else leftTo l m (restTo l m q l.length) (wsTo l m l.length) k := rfl
    rw [e1, e2]
    by_cases h : kidB l m k = true
    · rw [if_pos h, if_pos h]
      unfold spF2
      rw [h1]
      refine ⟨rfl, fun j => ?_⟩
      show updG _ k _ j = _
      unfold updG
      by_cases e : j = k
      · rw [if_pos e, if_pos ⟨by omega, by rw [e]; exact h⟩, h2 k, if_pos ⟨by omega, h⟩, if_neg (show ¬ k < k by omega), e, if_pos (show k < k + 1 by omega), Int.add_zero]; rfl
      · rw [if_neg e, h2 j]
        by_cases g : j < l.length ∧ kidB l m j = true
        · rw [if_pos g, if_pos g]
          by_cases g2 : j < k
          · rw [if_pos g2, if_pos (show j < k + 1 by omega)]
          · rw [if_neg g2, if_neg (show ¬ j < k + 1 by omega)]
        · rw [if_neg g, if_neg g]
    · rw [if_neg h, if_neg h]
      refine ⟨h1, fun j => ?_⟩
      rw [h2 j]
      by_cases g : j < l.length ∧ kidB l m j = true
      · rw [if_pos g, if_pos g]
        have : j ≠ k := fun e => by rw [e] at g; exact h g.2
        by_cases g2 : j < k
        · rw [if_pos g2, if_pos (show j < k + 1 by omega)]
        · rw [if_neg g2, if_neg (show ¬ j < k + 1 by omega)]
      · rw [if_neg g, if_neg g]
theorem st3_eq (l : List SNd) (m q : Int) : ∀ k, k ≤ l.length → (st3 l m q k).2 = oddTo l m (leftTo l m (restTo l m q l.length) (wsTo l m l.length) l.length) k ∧
    ∀ j, (st3 l m q k).1 j = if j < l.length ∧ kidB l m j = true then some (fixS l m q j + floS l (restTo l m q l.length) (wsTo l m l.length) j + if j < k ∧ oddB l m (leftTo l m (restTo l m q l.length) (wsTo l m l.length) l.length) j = true then 1 else 0) else none
  | 0, _ => ⟨rfl, fun j => by
    show (st2 l m q l.length).1 j = _
    rw [(st2_eq l m q l.length (Nat.le_refl _)).2 j]
    by_cases g : j < l.length ∧ kidB l m j = true
    · rw [if_pos g, if_pos g, if_pos g.1, if_neg (by omega), Int.add_zero]
    · rw [if_neg g, if_neg g]⟩
  | k + 1, hk => by
    obtain ⟨h1, h2⟩ := st3_eq l m q k (by omega)
    generalize hL : leftTo l m (restTo l m q l.length) (wsTo l m l.length) l.length = L at *
    generalize restTo l m q l.length = R at *
    generalize wsTo l m l.length = W at *
    have e1 : st3 l m q (k + 1) = if kidB l m k then spF3 l (st3 l m q k) k else st3 l m q k := rfl
    have e2 : oddTo l m L (k + 1) = if kidB l m k && (decide (0 < (atS l k).wt) && decide (0 < oddTo l m L k)) then oddTo l m L k - 1 else oddTo l m L k := rfl
    have hoB : oddB l m L k = (decide (0 < (atS l k).wt) && decide (0 < oddTo l m L k)) := rfl
    rw [e1, e2]
    by_cases h : kidB l m k = true
    · rw [if_pos h, h, Bool.true_and]
      unfold spF3
      rw [h1, ← hoB]
      by_cases ho : oddB l m L k = true
      · rw [if_pos ho, if_pos ho]
        refine ⟨rfl, fun j => ?_⟩
        show updG _ k _ j = _
        unfold updG
        by_cases e : j = k
        · rw [if_pos e, if_pos ⟨by omega, by rw [e]; exact h⟩, h2 k, if_pos ⟨by omega, h⟩, if_neg (show ¬ (k < k ∧ _) by omega), e, if_pos ⟨show k < k + 1 by omega, ho⟩, Int.add_zero]; rfl
        · rw [if_neg e, h2 j]
          by_cases g : j < l.length ∧ kidB l m j = true
          · rw [if_pos g, if_pos g]
            by_cases g2 : j < k ∧ oddB l m L j = true
            · rw [if_pos g2, if_pos ⟨show j < k + 1 by omega, g2.2⟩]
            · rw [if_neg g2, if_neg (fun x => g2 ⟨by omega, x.2⟩)]
          · rw [if_neg g, if_neg g]
      · rw [if_neg ho, if_neg ho]
        refine ⟨h1, fun j => ?_⟩
        rw [h2 j]
        by_cases g : j < l.length ∧ kidB l m j = true
        · rw [if_pos g, if_pos g]
          by_cases g2 : j < k ∧ oddB l m L j = true
          · rw [if_pos g2, if_pos ⟨show j < k + 1 by omega, g2.2⟩]
          · rw [if_neg g2, if_neg (fun x => g2 ⟨by
              by_cases e : j = k
              · rw [e] at x; exact absurd x.2 ho
              · omega, x.2⟩)]
        · rw [if_neg g, if_neg g]
    · have hf : kidB l m k = false := by simpa using h
      rw [if_neg h, hf, Bool.false_and, if_neg (by decide)]
      refine ⟨h1, fun j => ?_⟩
      rw [h2 j]
      by_cases g : j < l.length ∧ kidB l m j = true
      · rw [if_pos g, if_pos g]
        have : j ≠ k := fun e => by rw [e] at g; exact h g.2
        by_cases g2 : j < k ∧ oddB l m L j = true
        · rw [if_pos g2, if_pos ⟨show j < k + 1 by omega, g2.2⟩]
        · rw [if_neg g2, if_neg (fun x => g2 ⟨by omega, x.2⟩)]
      · rw [if_neg g, if_neg g]
/-- What the map holds at the end. -/
def endG (l : List SNd) (m q : Int) : GtT := if 0 < wsTo l m l.length then (st3 l m q l.length).1 else (st1 l m q l.length).1
theorem end_kid {l : List SNd} {m q : Int} {j : Nat} (hj : j < l.length) (h : kidB l m j = true) : (endG l m q j).getD 0 = kidV l m q j := by
  have e0 : kidV l m q j = if 0 < wsTo l m l.length then fixS l m q j + floS l (restTo l m q l.length) (wsTo l m l.length) j + (if oddB l m (leftTo l m (restTo l m q l.length) (wsTo l m l.length) l.length) j then 1 else 0) else fixS l m q j := rfl
  rw [e0]
  unfold endG
  by_cases hW : 0 < wsTo l m l.length
  · rw [if_pos hW, if_pos hW, (st3_eq l m q l.length (Nat.le_refl _)).2 j, if_pos ⟨hj, h⟩]
    by_cases ho : oddB l m (leftTo l m (restTo l m q l.length) (wsTo l m l.length) l.length) j = true
    · rw [if_pos ⟨hj, ho⟩, if_pos ho]; rfl
    · rw [if_neg (fun x => ho x.2), if_neg ho]; rfl
  · rw [if_neg hW, if_neg hW, (st1_eq l m q l.length).2 j, if_pos ⟨hj, h⟩]; rfl
/-! bounds -/
theorem rest_in {l : List SNd} (hc : CusOk l) {m q : Int} (hq : 0 ≤ q) {k : Nat} (hk : k ≤ l.length) : 0 ≤ restTo l m q k ∧ restTo l m q k ≤ q := by
  rw [rest_eq hc hq k hk]
  have := (ws_nn hc (m := m) k hk).2.2.1
  omega
theorem fix_in {l : List SNd} (hc : CusOk l) {m q : Int} (hq : 0 ≤ q) {k : Nat} (hk : k < l.length) : 0 ≤ fixS l m q k ∧ fixS l m q k ≤ 20 := by
  have h1 := rest_in hc (m := m) hq (k := k) (by omega)
  have h2 := hc.fx k hk
  unfold fixS
  omega
theorem flo_in {l : List SNd} (hc : CusOk l) {m R : Int} (hR : 0 ≤ R) (hW : 0 < wsTo l m l.length) {k : Nat} (hk : k < l.length) (h : kidB l m k = true) : 0 ≤ floS l R (wsTo l m l.length) k ∧ floS l R (wsTo l m l.length) k ≤ R := by
  have h1 := flo_nn hc hR hW hk
  have h2 := flo_mul (l := l) (R := R) hW k
  have h3 : R * (atS l k).wt ≤ R * wsTo l m l.length := Int.mul_le_mul_of_nonneg_left (ws_kid hc hk h) hR
  have h4 : wsTo l m l.length * floS l R (wsTo l m l.length) k ≤ wsTo l m l.length * R := by rw [Int.mul_comm _ R]; omega
  exact ⟨h1, Int.le_of_mul_le_mul_left h4 hW⟩
theorem left_in {l : List SNd} (hc : CusOk l) {m R : Int} (hR : 0 ≤ R) (hW : 0 < wsTo l m l.length) : ∀ k, k ≤ l.length → -(R * k) ≤ leftTo l m R (wsTo l m l.length) k ∧ leftTo l m R (wsTo l m l.length) k ≤ R
  | 0, _ => by show _ ≤ R ∧ R ≤ R; omega
  | k + 1, hk => by
    have ih := left_in hc hR hW k (by omega)
    have e : -(R * ((k + 1 : Nat) : Int)) = -(R * k) - R := by rw [Int.natCast_succ, Int.mul_add]; omega
    rw [e]
    unfold leftTo
    by_cases h : kidB l m k = true
    · rw [if_pos h]
      have := flo_in hc hR hW (k := k) (by omega) h
      omega
    · rw [if_neg h]; omega
/-! what share makes -/
def gvF (l : List SNd) (m q : Int) (G : List Int) (k : Nat) : List Int := G.set k (kidV l m q k)
def gvTo (l : List SNd) (m q : Int) (G : List Int) : Nat → List Int
  | 0 => G
  | k + 1 => if kidB l m k then gvF l m q (gvTo l m q G k) k else gvTo l m q G k
def giveTo (l : List SNd) (m q : Int) (G : List Int) : List Int := gvTo l m q G l.length
theorem gv_len (l : List SNd) (m q : Int) (G : List Int) : ∀ k, (gvTo l m q G k).length = G.length
  | 0 => rfl
  | k + 1 => by
    unfold gvTo
    by_cases h : kidB l m k = true
    · rw [if_pos h]; unfold gvF; rw [List.length_set, gv_len l m q G k]
    · rw [if_neg h, gv_len l m q G k]
theorem gv_at (l : List SNd) (m q : Int) (G : List Int) {i : Nat} (hi : i < G.length) : ∀ k, at0 (gvTo l m q G k) i = if i < k ∧ kidB l m i = true then kidV l m q i else at0 G i
  | 0 => by rw [if_neg (by omega)]; rfl
  | k + 1 => by
    have ih := gv_at l m q G hi k
    unfold gvTo
    by_cases h : kidB l m k = true
    · rw [if_pos h]
      unfold gvF
      by_cases hk : k < G.length
      · rw [at0_set (by rw [gv_len]; exact hk)]
        by_cases e : k = i
        · rw [if_pos e, if_pos ⟨by omega, by rw [← e]; exact h⟩, e]
        · rw [if_neg e, ih]
          by_cases g : i < k ∧ kidB l m i = true
          · rw [if_pos g, if_pos ⟨by omega, g.2⟩]
          · rw [if_neg g, if_neg (fun x => g ⟨by omega, x.2⟩)]
      · rw [List.set_eq_of_length_le (by rw [gv_len]; omega), ih]
        by_cases g : i < k ∧ kidB l m i = true
        · rw [if_pos g, if_pos ⟨by omega, g.2⟩]
        · rw [if_neg g, if_neg (fun x => g ⟨by omega, x.2⟩)]
    · rw [if_neg h, ih]
      by_cases g : i < k ∧ kidB l m i = true
      · rw [if_pos g, if_pos ⟨by omega, g.2⟩]
      · rw [if_neg g, if_neg (fun x => g ⟨by
          by_cases e : i = k
          · rw [e] at x; exact absurd x.2 h
          · omega, x.2⟩)]
def sh0 (l : List SNd) (p : Int) : List Int := (List.replicate l.length 0).set 0 p
def shTo (l : List SNd) (p : Int) : Nat → List Int
  | 0 => sh0 l p
  | k + 1 => giveTo l (k : Int) (at0 (shTo l p k) k) (shTo l p k)
theorem sh_len (l : List SNd) (p : Int) : ∀ k, (shTo l p k).length = l.length
  | 0 => by unfold shTo sh0; rw [List.length_set, List.length_replicate]
  | k + 1 => by unfold shTo giveTo; rw [gv_len, sh_len l p k]
theorem sh_at {l : List SNd} (hc : CusOk l) (p : Int) : ∀ k, k ≤ l.length → ∀ i, i < l.length → (i = 0 ∨ (0 < i ∧ (atS l i).up < k)) → at0 (shTo l p k) i = gV l p i
  | 0, _, i, hi, h => by
    rcases h with rfl | ⟨h0, h1⟩
    · rw [gV_zero hi]
      unfold shTo sh0
      rw [at0_set (by rw [List.length_replicate]; exact hi), if_pos rfl]
    · have := hc.up i hi h0; omega
  | k + 1, hk, i, hi, h => by
    have ih := sh_at hc p k (by omega)
    have hq : at0 (shTo l p k) k = gV l p k := ih k (by omega) (by
      by_cases e : k = 0
      · exact .inl e
      · exact .inr ⟨by omega, (hc.up k (by omega) (by omega)).2⟩)
    unfold shTo giveTo
    rw [hq, gv_at l _ _ _ (by rw [sh_len]; exact hi)]
    by_cases g : kidB l (k : Int) i = true
    · rw [if_pos ⟨hi, g⟩]
      unfold kidB at g
      rw [Bool.and_eq_true, decide_eq_true_eq, decide_eq_true_eq] at g
      rw [gV_kid hc g.1 hi, g.2, Int.toNat_natCast]
    · rw [if_neg (fun x => g x.2)]
      refine ih i hi ?_
      rcases h with h | ⟨h0, h1⟩
      · exact .inl h
      · refine .inr ⟨h0, ?_⟩
        by_cases e : (atS l i).up = (k : Int)
        · exact absurd (by unfold kidB; rw [Bool.and_eq_true, decide_eq_true_eq, decide_eq_true_eq]; exact ⟨h0, e⟩) g
        · omega
theorem at0_ext {a b : List Int} (h : a.length = b.length) (h2 : ∀ i, i < a.length → at0 a i = at0 b i) : a = b := by
  refine List.ext_getElem h fun i h3 h4 => ?_
  have := h2 i h3
  unfold at0 at this
  simpa [List.getD, h3, h4] using this
theorem sh_gets {l : List SNd} (hc : CusOk l) (p : Int) : shTo l p l.length = getsV l p := by
  refine at0_ext (by rw [sh_len]; unfold getsV; rw [getsTo_len]) fun i hi => ?_
  rw [sh_len] at hi
  refine sh_at hc p l.length (Nat.le_refl _) i hi ?_
  by_cases e : i = 0
  · exact .inl e
  · have := hc.up i hi (by omega)
    exact .inr ⟨by omega, by omega⟩
theorem sh_q {l : List SNd} (hc : CusOk l) {p : Int} (hp : 0 ≤ p) {k : Nat} (hk : k < l.length) : at0 (shTo l p k) k = gV l p k ∧ 0 ≤ gV l p k ∧ gV l p k ≤ p + 168 := by
  have h8 := hc.l8
  refine ⟨sh_at hc p k (by omega) k hk ?_, ?_⟩
  · by_cases e : k = 0
    · exact .inl e
    · exact .inr ⟨by omega, (hc.up k (by omega) (by omega)).2⟩
  · have := g_nn hc hp k k (Nat.le_refl _) hk
    omega
def kpTo (l : List SNd) (p : Int) : Nat → List Int
  | 0 => List.replicate l.length 0
  | k + 1 => (kpTo l p k).set k (keepV l (k : Int) (at0 (shTo l p k) k))
theorem kp_len (l : List SNd) (p : Int) : ∀ k, (kpTo l p k).length = l.length
  | 0 => by unfold kpTo; rw [List.length_replicate]
  | k + 1 => by unfold kpTo; rw [List.length_set, kp_len l p k]
end Go.Proofs.Ytkdcdhkhadhcfaa
