/-
  beasts: what the laws say of the least costs: with and without looks, of fewer places, of other costs. Plain laws.
-/
import Derived.Test.YtogiidkofddhaaaDoorBFree
import Derived.Test.YtogiidkofddhaaaDoorBTrap
import Derived.Test.YtogiidkofddhaaaDoorBBackV
import Derived.Test.YtogiidkofddhaaaDoorBGiven
namespace Go.Proofs.YtogiidkofddhaaaDoor
theorem opt_some_iff {b : BT} (hb : Okb b) {looks : Bool} {s : Nat} (hs : Dom b s) : (∃ v, opt b looks 1 0 s = some v) ↔ ∃ q, Can b looks 1 0 s q := by
  constructor
  · rintro ⟨v, h⟩; exact ⟨v, opt_can h⟩
  · rintro ⟨q, h⟩; obtain ⟨v, h1, _⟩ := opt_le hb way_1 hs h; exact ⟨v, h1⟩
/-- There is a plan without looks just if there is one. -/
theorem opt_blind {b : BT} (hb : Okb b) {s : Nat} (hs : Dom b s) : (opt b true 1 0 s = none ∧ opt b false 1 0 s = none) ∨ ∃ v u, opt b true 1 0 s = some v ∧ opt b false 1 0 s = some u ∧ 0 ≤ v ∧ v ≤ u ∧ u ≤ 1856 := by
  cases e1 : opt b true 1 0 s with
  | none =>
    left
    refine ⟨rfl, ?_⟩
    cases e2 : opt b false 1 0 s with
    | none => rfl
    | some u =>
      obtain ⟨v, h1, _⟩ := opt_le hb way_1 hs ((opt_can e2).looks (looks := true))
      rw [e1] at h1; cases h1
  | some v =>
    right
    obtain ⟨u, hu⟩ := (opt_some_iff hb (looks := false) hs).2 ((can_iff hb hs).2 ((can_iff hb hs).1 ((opt_some_iff hb hs).1 ⟨v, e1⟩)))
    obtain ⟨v', h1, h2⟩ := opt_le hb way_1 hs ((opt_can hu).looks (looks := true))
    rw [e1] at h1
    injection h1 with h1
    exact ⟨v, u, rfl, hu, (opt_1856 hb hs e1).1, by omega, (opt_1856 hb hs hu).2⟩
/-- Least and Blind, and whether there is a plan. -/
noncomputable def planB (b : BT) : Bool := (opt b true 1 0 (ofL b.places)).isSome
theorem both_law {b : BT} (h : validT b = true) :
    0 ≤ leastV b true ∧ leastV b true ≤ leastV b false ∧ leastV b false ≤ 1856 ∧ leastE b true = (if planB b then 0 else 3) ∧ leastE b false = (if planB b then 0 else 3) ∧
      (planB b = true → opt b true 1 0 (ofL b.places) = some (leastV b true) ∧ opt b false 1 0 (ofL b.places) = some (leastV b false)) ∧ (planB b = false → leastV b true = 0 ∧ leastV b false = 0 ∧ opt b true 1 0 (ofL b.places) = none ∧ opt b false 1 0 (ofL b.places) = none) := by
  have hb := okb_iff.1 h
  have hd : Dom b (ofL b.places) := dom_places hb
  obtain ⟨a1, a2⟩ := least_good (looks := true) h
  obtain ⟨b1, b2⟩ := least_good (looks := false) h
  rcases opt_blind hb hd with ⟨e1, e2⟩ | ⟨v, u, e1, e2, h0, h1, h2⟩
  · have hp : planB b = false := by unfold planB; rw [e1]; rfl
    obtain ⟨c1, c2⟩ := optVE_none e1
    obtain ⟨d1, d2⟩ := optVE_none e2
    rw [a1, a2, b1, b2, c1, c2, d1, d2, hp]
    exact ⟨by omega, by omega, by omega, rfl, rfl, fun q => (by cases q), fun _ => ⟨rfl, rfl, e1, e2⟩⟩
  · have hp : planB b = true := by unfold planB; rw [e1]; rfl
    obtain ⟨c1, c2⟩ := optVE_some e1
    obtain ⟨d1, d2⟩ := optVE_some e2
    rw [a1, a2, b1, b2, c1, c2, d1, d2, hp]
    exact ⟨h0, h1, h2, rfl, rfl, fun _ => ⟨e1, e2⟩, fun q => (by cases q)⟩
/-! Each place. -/
theorem has_places {b : BT} (hb : Okb b) {p : Int} (hp : p ∈ b.places) : -1 ≤ p ∧ p < b.n ∧ hasP (ofL b.places) p = true := by
  have := hb.pi p hp
  exact ⟨by omega, by omega, (hasP_of (fun q hq => by have := hb.pi q hq; omega) (by omega)).2 hp⟩
theorem places_has {b : BT} (hb : Okb b) {p : Int} (h1 : -1 ≤ p) (h : hasP (ofL b.places) p = true) : p ∈ b.places := (hasP_of (fun q hq => by have := hb.pi q hq; omega) h1).1 h
theorem path_eq {b : BT} (h : validT b = true) (hp : planB b = true) {c : Int} (hc : c ∈ b.places) : pathA b c = pathF b 2000 (ofL b.places) c ∧ pathE b c = 0 := by
  have hi : inB b.places c = true := inB_true.2 hc
  have hs : (opt b true 1 0 (ofL b.places)).isSome = true := hp
  unfold pathA pathE optE
  rw [h, hi, hs]
  exact ⟨rfl, rfl⟩
theorem path_no {b : BT} (h : validT b = true) (hp : planB b = false) {c : Int} (hc : c ∈ b.places) : pathA b c = [] ∧ pathE b c = 3 := by
  have hi : inB b.places c = true := inB_true.2 hc
  have hs : (opt b true 1 0 (ofL b.places)).isSome = false := hp
  unfold pathA pathE optE
  rw [h, hi, hs]
  exact ⟨rfl, rfl⟩
theorem each_law {b : BT} (h : validT b = true) (hp : planB b = true) {c : Int} (hc : c ∈ b.places) :
    pathE b c = 0 ∧ (pathA b c).length ≤ 64 ∧ 0 < (pathA b c).length ∧ stepsB b (pathA b c) = true ∧ atS (pathA b c) 0 = nextA b ∧ runS b (pathA b c) c = -1 ∧ 0 ≤ paidA b c ∧ paidA b c ≤ leastV b true := by
  have hb := okb_iff.1 h
  have hd : Dom b (ofL b.places) := dom_places hb
  obtain ⟨e1, e2⟩ := path_eq h hp hc
  obtain ⟨g0, g1, g2, _, _, g3, _⟩ := both_law h
  obtain ⟨ho, _⟩ := g3 hp
  have hm := opt_1856 hb hd ho
  obtain ⟨p1, p2, p3⟩ := has_places hb hc
  obtain ⟨f1, f2, f3, f4, f5⟩ := path_all hb 2000 _ _ c hd ho p1 p2 p3 (by omega)
  have hn1 : ofL b.places ≠ 1 := ofL_ne1 hb
  have hmore := path_more hb hd hn1 ho (by omega) p1 p2 p3
  have hnx : nextA b = (nextS b (ofL b.places)).1 := by
    have hs : (opt b true 1 0 (ofL b.places)).isSome = true := hp
    unfold nextA
    rw [h, hs]
    rfl
  unfold paidA
  rw [e1, hnx]
  have hlen := (path_facts (b := b) (c := c)).2
  rw [e1] at hlen
  refine ⟨e2, hlen, ?_, stepsB_iff.2 fun k hk => f5 _ (getD_mem _ k default hk), ?_, f3, f2, f1⟩
  · rw [hmore]; simp
  · rw [hmore]; rfl
theorem each_worst {b : BT} (h : validT b = true) (hp : planB b = true) : ∃ c, c ∈ b.places ∧ paidA b c = leastV b true := by
  have hb := okb_iff.1 h
  have hd : Dom b (ofL b.places) := dom_places hb
  obtain ⟨g0, g1, g2, _, _, g3, _⟩ := both_law h
  obtain ⟨ho, _⟩ := g3 hp
  have hm := opt_1856 hb hd ho
  obtain ⟨p, p1, p2, p3, p4⟩ := path_worst hb 2000 _ _ hd ho (by omega)
  have hc := places_has hb p1 p3
  refine ⟨p, hc, ?_⟩
  unfold paidA
  rw [(path_eq h hp hc).1]
  exact p4
/-! Other places. -/
/-- The same trap, with other places. -/
def plB (b : BT) (l : List Int) : BT := { b with places := l }
theorem plB_scaled (b : BT) (l : List Int) : Scaled 1 b (plB b l) := ⟨⟨rfl, rfl, fun _ _ => rfl, fun _ _ => rfl, rfl⟩, by omega, fun _ _ => (Int.mul_one _).symm, (Int.mul_one _).symm, (Int.mul_one _).symm⟩
theorem plB_ok {b : BT} (hb : Okb b) {l : List Int} (h1 : Asc l) (h2 : ∀ p, p ∈ l → 0 ≤ p ∧ p ≤ b.n - 1) (h3 : l ≠ []) : Okb (plB b l) :=
  ⟨hb.n1, hb.n2, hb.dl, hb.dk, hb.sa, hb.si, h1, h2, h3, hb.l1, hb.l2, hb.e1, hb.e2⟩
theorem opt_plB {b : BT} {l : List Int} (hb : Okb b) (hb' : Okb (plB b l)) {looks : Bool} {s : Nat} (hs : Dom b s) : opt (plB b l) looks 1 0 s = opt b looks 1 0 s := by
  rw [(plB_scaled b l).opt hb hb' hs]
  cases opt b looks 1 0 s <;> simp
theorem can_single {b : BT} (hb : Okb b) {per stp : Int} {s : Nat} {q : Int} (h : Can b true per stp s q) : ∀ p, -1 ≤ p → p < b.n → s = bitP p → Can b false per stp s q := by
  have hn := hb.n2
  induction h with
  | sea h => intro _ _ _ _; exact .sea h
  | @step s p' q' x h1 h2 h3 ih =>
    intro p p1 p2 e
    subst e
    obtain ⟨i, hi, rfl⟩ := single_step p1 (by omega) h1
    have ht := thr_in (hb.dk i hi) p1 p2
    refine .step _ (p := p') (mem_steps.2 (.inl ⟨i, hi, ?_⟩)) (fun t ht' => ?_) h3
    · rw [mvB_single p1 (by omega)]
    · have e := List.mem_singleton.1 ht'
      exact ih t ht' _ ht.1 ht.2 e
theorem opt_single {b : BT} (hb : Okb b) {p : Int} (h1 : -1 ≤ p) (h2 : p < b.n) : opt b false 1 0 (bitP p) = opt b true 1 0 (bitP p) := by
  have hd := dom_bitP hb h1 h2
  cases e : opt b true 1 0 (bitP p) with
  | none =>
    rcases opt_blind hb hd with ⟨_, q⟩ | ⟨v, u, q, _⟩
    · exact q
    · rw [e] at q; cases q
  | some v =>
    refine opt_some.2 ⟨can_single hb (opt_can e) p h1 h2 rfl, fun q hq => ?_⟩
    exact (opt_some.1 e).2 q (hq.looks (looks := true))
theorem opt_sub {b : BT} (hb : Okb b) {looks : Bool} {s t : Nat} (hs : Dom b s) (ht : t ≠ 0) (hsub : Sub t s) {v : Int} (h : opt b looks 1 0 s = some v) : ∃ u, opt b looks 1 0 t = some u ∧ u ≤ v :=
  opt_le hb way_1 (sub_dom hs ht hsub) (Can.sub hb way_1 (opt_can h) hs t ht hsub)
theorem known_one {b : BT} (h : validT b = true) {c : Int} (hc : c ∈ b.places) :
    validT (plB b [c]) = true ∧ wayV b c = leastV (plB b [c]) true ∧ wayE b c = leastE (plB b [c]) true ∧ leastV (plB b [c]) false = leastV (plB b [c]) true ∧ (planB b = true → planB (plB b [c]) = true ∧ wayV b c ≤ leastV b true) := by
  have hb := okb_iff.1 h
  have hp := hb.pi c hc
  have hb' : Okb (plB b [c]) := plB_ok hb (by simp [Asc]) (fun p hp' => by rw [List.mem_singleton.1 hp']; exact hp) (by simp)
  have hv' := okb_iff.2 hb'
  have hd : Dom b (bitP c) := dom_bitP hb (by omega) (by omega)
  have hcb : chamB b.n c = true := by rw [chamB_in hb.n1 hb.n2]; exact withinB_true.2 hp
  have e1 : ofL (plB b [c]).places = bitP c := ofL_one c
  have ho : ∀ looks, opt (plB b [c]) looks 1 0 (bitP c) = opt b true 1 0 (bitP c) := fun looks => by
    rw [opt_plB hb hb' hd]
    cases looks
    · exact opt_single hb (by omega) (by omega)
    · rfl
  have hL : ∀ looks, leastV (plB b [c]) looks = (opt b true 1 0 (bitP c)).getD 0 ∧ leastE (plB b [c]) looks = if (opt b true 1 0 (bitP c)).isSome then 0 else 3 := fun looks => by
    obtain ⟨a1, a2⟩ := least_good (looks := looks) hv'
    rw [a1, a2]
    unfold optV optE
    rw [e1, ho]
    exact ⟨rfl, rfl⟩
  have hw : wayV b c = (opt b true 1 0 (bitP c)).getD 0 ∧ wayE b c = if (opt b true 1 0 (bitP c)).isSome then 0 else 3 := by
    unfold wayV wayE optV optE
    rw [h, hcb, ofL_one]
    exact ⟨rfl, rfl⟩
  refine ⟨hv', by rw [hw.1, (hL true).1], by rw [hw.2, (hL true).2], by rw [(hL true).1, (hL false).1], fun hpl => ?_⟩
  obtain ⟨_, _, _, _, _, g3, _⟩ := both_law h
  obtain ⟨u, u1, u2⟩ := opt_sub hb (dom_places hb) (bitP_ne c) (t := bitP c) (fun i hi => by
    rw [testBit_bitP, decide_eq_true_eq] at hi
    exact (ofL_bit _ _).2 ⟨c, hc, hi⟩) (g3 hpl).1
  refine ⟨?_, ?_⟩
  · unfold planB
    rw [e1, ho, u1]
    rfl
  · rw [hw.1, u1]
    exact u2
/-- The places without one. -/
def lessL (l : List Int) (c : Int) : List Int := l.filter fun p => decide (p ≠ c)
theorem known_less {b : BT} (h : validT b = true) {c : Int} (hv : validT (plB b (lessL b.places c)) = true) (hpl : planB b = true) :
    planB (plB b (lessL b.places c)) = true ∧ leastV (plB b (lessL b.places c)) true ≤ leastV b true ∧ leastV (plB b (lessL b.places c)) false ≤ leastV b false := by
  have hb := okb_iff.1 h
  have hb' := okb_iff.1 hv
  have hd := dom_places hb
  have hd' : Dom b (ofL (lessL b.places c)) := dom_places hb'
  obtain ⟨_, _, _, _, _, g3, _⟩ := both_law h
  obtain ⟨g1, g2⟩ := g3 hpl
  have hsub : Sub (ofL (lessL b.places c)) (ofL b.places) := fun i hi => by
    obtain ⟨p, hp, e⟩ := (ofL_bit _ _).1 hi
    exact (ofL_bit _ _).2 ⟨p, (List.mem_filter.1 hp).1, e⟩
  obtain ⟨u1, a1, a2⟩ := opt_sub hb hd hd'.1 hsub g1
  obtain ⟨u2, b1, b2⟩ := opt_sub hb hd hd'.1 hsub g2
  have c1 : opt (plB b (lessL b.places c)) true 1 0 (ofL (lessL b.places c)) = some u1 := by rw [opt_plB hb hb' hd']; exact a1
  have c2 : opt (plB b (lessL b.places c)) false 1 0 (ofL (lessL b.places c)) = some u2 := by rw [opt_plB hb hb' hd']; exact b1
  refine ⟨by unfold planB; rw [show (plB b (lessL b.places c)).places = lessL b.places c from rfl, c1]; rfl, ?_, ?_⟩
  · rw [(least_good (looks := true) hv).1, (optVE_some (b := plB b (lessL b.places c)) (l := (plB b (lessL b.places c)).places) c1).1]; exact a2
  · rw [(least_good (looks := false) hv).1, (optVE_some (b := plB b (lessL b.places c)) (l := (plB b (lessL b.places c)).places) c2).1]; exact b2
/-! The script. -/
theorem script_law {b : BT} (h : validT b = true) (hp : planB b = true) :
    (scriptA b).length ≤ 64 ∧ costsL b (scriptA b) = leastV b false ∧ stepsB b (scriptA b) = true ∧ (∀ k, k < (scriptA b).length → (atS (scriptA b) k).k = 1) ∧ ∀ p, p ∈ b.places → runS b (scriptA b) p = -1 := by
  have hb := okb_iff.1 h
  have hd := dom_places hb
  obtain ⟨_, _, _, _, _, g3, _⟩ := both_law h
  obtain ⟨_, g2⟩ := g3 hp
  obtain ⟨u, hu⟩ := opt_K_some hb hd g2
  obtain ⟨c, n, rfl, n1, n2, n3, n4⟩ := opt_shp hb hd hu
  have hc : c = leastV b false := by
    rw [turns_1.optE hb way_1 hd, hu] at g2
    injection g2 with g2
    simp only [] at g2
    omega
  have hs : (opt b false 1 0 (ofL b.places)).isSome = true := by rw [g2]; rfl
  have e : scriptA b = scriptF b 64 (ofL b.places) := by unfold scriptA; rw [h, hs]; rfl
  obtain ⟨f1, f2, f3, f4⟩ := script_all hb 64 _ c n hd hu n1 n2 (by omega)
  rw [e]
  exact ⟨by omega, by rw [f1, hc], stepsB_iff.2 fun k hk => (f3 _ (getD_mem _ k default hk)).1, fun k hk => (f3 _ (getD_mem _ k default hk)).2, fun p hp => by
    obtain ⟨q1, q2, q3⟩ := has_places hb hp
    exact f4 p q1 q3⟩
/-! Where a beast is behind steps. -/
theorem ranTo_run {b : BT} {l : List BS} (hl : stepsB b l = true) (p : Int) : ∀ k, k ≤ l.length → (ranTo b l p k).1 = runS b (l.take k) p
  | 0, _ => rfl
  | k + 1, hk => by
    have ih := ranTo_run hl p k (by omega)
    have e : l.take (k + 1) = l.take k ++ [atS l k] := by
      rw [List.take_succ_eq_append_getElem (by omega)]
      unfold atS
      rw [getD_lt l k default (by omega)]
    rw [e, runS_app, ← ih]
    show (ranTo b l p (k + 1)).1 = towS b (atS l k) (ranTo b l p k).1
    unfold towS
    rw [show ranTo b l p (k + 1) = if (atS l k).k = 1 then (thr (atD b.doors (atS l k).x.toNat) (ranTo b l p k).1, (ranTo b l p k).2) else ((ranTo b l p k).1, (ranTo b l p k).2 ++ [if (atS l k).x = (ranTo b l p k).1 then 1 else 0]) from rfl]
    by_cases h : (atS l k).k = 1
    · rw [if_pos h, if_pos h]
    · rw [if_neg h, if_neg h]
theorem ran_run {b : BT} {l : List BS} (hl : stepsB b l = true) (p : Int) : (ranTo b l p l.length).1 = runS b l p := by
  rw [ranTo_run hl p _ (Nat.le_refl _), List.take_length]
/-! Where it is trapped. -/
theorem mem_trTo {b : BT} {p : Int} : ∀ k, p ∈ trTo b k ↔ ∃ i : Nat, i < k ∧ p = (i : Int) ∧ opt b true 1048576 1 (bitP (i : Int)) = none
  | 0 => by simp [trTo]
  | k + 1 => by
    rw [show trTo b (k + 1) = if (opt b true 1048576 1 (bitP (k : Int))).isSome then trTo b k else trTo b k ++ [(k : Int)] from rfl]
    cases e : opt b true 1048576 1 (bitP (k : Int)) with
    | some v =>
      rw [if_pos (by rfl), mem_trTo k]
      constructor
      · rintro ⟨i, h1, h2⟩; exact ⟨i, by omega, h2⟩
      · rintro ⟨i, h1, h2, h3⟩
        by_cases q : i = k
        · rw [q, e] at h3; cases h3
        · exact ⟨i, by omega, h2, h3⟩
    | none =>
      rw [if_neg (by simp), List.mem_append, mem_trTo k, List.mem_singleton]
      constructor
      · rintro (⟨i, h1, h2⟩ | h)
        · exact ⟨i, by omega, h2⟩
        · exact ⟨k, by omega, h, e⟩
      · rintro ⟨i, h1, h2, h3⟩
        by_cases q : i = k
        · exact .inr (by rw [← q]; exact h2)
        · exact .inl ⟨i, by omega, h2, h3⟩
theorem trTo_asc {b : BT} : ∀ k, Asc (trTo b k) ∧ ∀ p, p ∈ trTo b k → 0 ≤ p ∧ p < k
  | 0 => ⟨List.Pairwise.nil, fun p hp => absurd hp (by simp [trTo])⟩
  | k + 1 => by
    obtain ⟨h1, h2⟩ := trTo_asc (b := b) k
    rw [show trTo b (k + 1) = if (opt b true 1048576 1 (bitP (k : Int))).isSome then trTo b k else trTo b k ++ [(k : Int)] from rfl]
    split
    · exact ⟨h1, fun p hp => by have := h2 p hp; omega⟩
    · refine ⟨List.pairwise_append.2 ⟨h1, by simp, fun p hp q hq => ?_⟩, fun p hp => ?_⟩
      · have := h2 p hp
        rw [List.mem_singleton.1 hq]; omega
      · rcases List.mem_append.1 hp with hp | hp
        · have := h2 p hp; omega
        · rw [List.mem_singleton.1 hp]; omega
theorem opt_K_none {b : BT} (hb : Okb b) {looks : Bool} {s : Nat} (hs : Dom b s) : opt b looks 1048576 1 s = none ↔ opt b looks 1 0 s = none := by
  rw [turns_1.optE hb way_1 hs]
  cases opt b looks 1048576 1 s <;> simp
/-- A chamber is in Trapped just if there is no way out of it. -/
theorem trap_iff {b : BT} (h : validT b = true) {p : Int} (h1 : -1 ≤ p) (h2 : p < b.n) : inB (trapA b) p = true ↔ ¬ Frees b p := by
  have hb := okb_iff.1 h
  have n1 := hb.n1
  have n2 := hb.n2
  have e : trapA b = trTo b b.n.toNat := by unfold trapA; rw [h]; rfl
  have hd := dom_bitP hb h1 h2
  have hfree : Frees b p ↔ opt b true 1 0 (bitP p) ≠ none := by
    constructor
    · rintro ⟨l, l1, l2⟩ hn
      obtain ⟨q, hq⟩ := run_can hb l (bitP p) l1 hd fun i hi => by
        rw [testBit_bitP, decide_eq_true_eq] at hi
        rw [show (i : Int) - 1 = p by omega]; exact l2
      obtain ⟨v, hv, _⟩ := opt_le hb way_1 hd (hq.looks (looks := true))
      rw [hn] at hv; cases hv
    · intro hn
      cases e : opt b true 1 0 (bitP p) with
      | none => exact absurd e hn
      | some v => exact can_frees hb (opt_can e) p h1 h2 rfl
  rw [inB_true, e, mem_trTo, hfree]
  constructor
  · rintro ⟨i, i1, i2, i3⟩ hn
    rw [i2] at hn hd
    exact hn ((opt_K_none hb hd).1 i3)
  · intro hn
    have hn' : opt b true 1 0 (bitP p) = none := Classical.byContradiction hn
    have hp : 0 ≤ p := by
      rcases Int.lt_or_le p 0 with q | q
      · have : p = -1 := by omega
        subst this
        have := opt_sea hb (looks := true) way_1
        rw [show bitP (-1) = 1 by rfl, this] at hn'; cases hn'
      · exact q
    exact ⟨p.toNat, by omega, by omega, by rw [show ((p.toNat : Nat) : Int) = p by omega]; exact (opt_K_none hb hd).2 hn'⟩
/-- Whether none of the first k places is in Trapped. -/
noncomputable def freeTo (b : BT) (k : Nat) : Bool := allB k fun i => !inB (trapA b) (at0 b.places i)
theorem free_plan {b : BT} (h : validT b = true) : freeTo b b.places.length = planB b := by
  have hb := okb_iff.1 h
  have hd := dom_places hb
  have n1 := hb.n1
  rw [Bool.eq_iff_iff]
  unfold freeTo planB
  rw [allB_iff]
  have hc := can_iff hb (looks := true) hd
  constructor
  · intro hf
    have : ∃ q, Can b true 1 0 (ofL b.places) q := hc.2 fun i hi => by
      obtain ⟨p, hp, e⟩ := (ofL_bit _ _).1 hi
      have hpi := hb.pi p hp
      obtain ⟨k, hk, e2⟩ := mem_getD b.places p 0 hp
      have := hf k hk
      unfold at0 at this
      rw [e2] at this
      have hnf : ¬ inB (trapA b) p = true := by intro q; rw [q] at this; cases this
      rw [trap_iff h (by omega) (by omega)] at hnf
      obtain ⟨l, l1, l2⟩ := Classical.byContradiction hnf
      rw [show (i : Int) - 1 = p by omega]
      obtain ⟨q, hq⟩ := run_can hb l (bitP p) l1 (dom_bitP hb (by omega) (by omega)) fun i hi => by
        rw [testBit_bitP, decide_eq_true_eq] at hi
        rw [show (i : Int) - 1 = p by omega]; exact l2
      exact ⟨q, hq.looks⟩
    obtain ⟨v, hv⟩ := (opt_some_iff hb hd).2 this
    rw [hv]; rfl
  · intro hs k hk
    have hm := getD_mem b.places k 0 hk
    have hpi := hb.pi _ hm
    obtain ⟨v, hv⟩ := Option.isSome_iff_exists.1 hs
    have hbit : (ofL b.places).testBit (at0 b.places k + 1).toNat = true := (ofL_bit _ _).2 ⟨_, hm, rfl⟩
    obtain ⟨q, hq⟩ := hc.1 ((opt_some_iff hb hd).1 ⟨v, hv⟩) _ hbit
    have e : (((at0 b.places k + 1).toNat : Nat) : Int) - 1 = at0 b.places k := by unfold at0; omega
    rw [e] at hq
    have hf := can_frees hb hq (at0 b.places k) (by unfold at0; omega) (by unfold at0; omega) rfl
    cases hi : inB (trapA b) (at0 b.places k) with
    | false => rfl
    | true => exact absurd hf ((trap_iff h (by unfold at0; omega) (by unfold at0; omega)).1 hi)
/-- No door brings it into Trapped or out of it. -/
theorem trap_thr {b : BT} (h : validT b = true) {i : Nat} (hi : i < b.doors.length) {p : Int} (h1 : 0 ≤ p) (h2 : p < b.n) : inB (trapA b) (thr (atD b.doors i) p) = inB (trapA b) p := by
  have hb := okb_iff.1 h
  have ht := thr_in (hb.dk i hi) (p := p) (by omega) h2
  rw [Bool.eq_iff_iff, trap_iff h ht.1 ht.2, trap_iff h (by omega) h2, frees_thr hb hi (by omega)]
end Go.Proofs.YtogiidkofddhaaaDoor
