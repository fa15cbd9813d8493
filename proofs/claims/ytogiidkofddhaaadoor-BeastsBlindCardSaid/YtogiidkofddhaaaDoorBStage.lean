/-
  beasts: a copy of the trap in a box, a door more in it, its doors changed in place.
-/
import Derived.Test.YtogiidkofddhaaaDoorBLawV
import Derived.Test.YtogiidkofddhaaaDoorBCopy
namespace Go.Proofs.YtogiidkofddhaaaDoor
set_option linter.unusedVariables false
theorem least_of_opt {b : BT} (h : validT b = true) {looks : Bool} : leastV b looks = (opt b looks 1 0 (ofL b.places)).getD 0 := (least_good (looks := looks) h).1
theorem planB_looks {b : BT} (h : validT b = true) (looks : Bool) : (opt b looks 1 0 (ofL b.places)).isSome = planB b := by
  rcases opt_blind (okb_iff.1 h) (dom_places (okb_iff.1 h)) with ⟨h1, h2⟩ | ⟨v, u, h1, h2, _⟩
  · unfold planB
    cases looks
    · rw [h1, h2]
    · rfl
  · unfold planB
    cases looks
    · rw [h1, h2]; rfl
    · rfl
/-- With other steps that cost no more there is a plan that costs no more. -/
theorem cheaper {b b' : BT} (h : validT b = true) (h' : validT b' = true) (hn : b'.n = b.n) (hp : b'.places = b.places) (hs : ∀ looks s x, x ∈ stepsOf b looks s → x ∈ stepsOf b' looks s ∧ costS b' x.1 ≤ costS b x.1) (hpl : planB b = true) :
    planB b' = true ∧ leastV b' true ≤ leastV b true ∧ leastV b' false ≤ leastV b false := by
  have hb := okb_iff.1 h
  have hb' := okb_iff.1 h'
  have hd := dom_places hb
  have hd' : Dom b' (ofL b.places) := by rw [← hp]; exact dom_places hb'
  obtain ⟨_, _, _, _, _, g3, _⟩ := both_law h
  obtain ⟨o1, o2⟩ := g3 hpl
  obtain ⟨u1, a1, a2⟩ := opt_other hb' way_1 (hs true) hd' o1
  obtain ⟨u2, c1, c2⟩ := opt_other hb' way_1 (hs false) hd' o2
  refine ⟨by unfold planB; rw [hp, a1]; rfl, ?_, ?_⟩
  · rw [least_of_opt h', hp, a1]; exact a2
  · rw [least_of_opt h', hp, c1]; exact c2
/-- One more door. -/
def moreB (b : BT) (x : BD) : BT := { b with doors := b.doors ++ [x] }
theorem moreB_at {b : BT} {x : BD} {i : Nat} (hi : i < b.doors.length) : atD (moreB b x).doors i = atD b.doors i := by
  show atD (b.doors ++ [x]) i = _
  unfold atD
  simp only [List.getD]
  rw [List.getElem?_append_left hi]
theorem moreB_law {b : BT} {x : BD} (h : validT b = true) (h' : validT (moreB b x) = true) (hpl : planB b = true) :
    planB (moreB b x) = true ∧ leastV (moreB b x) true ≤ leastV b true ∧ leastV (moreB b x) false ≤ leastV b false := by
  refine cheaper h h' rfl rfl (fun looks s y hy => ?_) hpl
  have hst := steps_stp hy
  rcases mem_steps.1 hy with ⟨i, hi, rfl⟩ | ⟨hl, c, hc, hsp, rfl⟩
  · refine ⟨mem_steps.2 (.inl ⟨i, by show i < (b.doors ++ [x]).length; rw [List.length_append]; omega, by rw [moreB_at hi]⟩), ?_⟩
    unfold costS
    rw [if_neg (by show ¬ (1 : Int) = 2; omega), if_neg (by show ¬ (1 : Int) = 2; omega)]
    show (atD (moreB b x).doors (i : Int).toNat).cost + _ ≤ (atD b.doors (i : Int).toNat).cost + _
    rw [Int.toNat_natCast, moreB_at hi]
    exact Int.le_refl _
  · exact ⟨mem_steps.2 (.inr ⟨hl, c, hc, hsp, rfl⟩), Int.le_refl _⟩
/-- Another cost of a door. -/
def costB (b : BT) (i : Nat) (c : Int) : BT := { b with doors := b.doors.set i ⟨(atD b.doors i).a, (atD b.doors i).b, c⟩ }
theorem costB_at {b : BT} {i j : Nat} {c : Int} (hi : i < b.doors.length) : atD (costB b i c).doors j = if j = i then ⟨(atD b.doors i).a, (atD b.doors i).b, c⟩ else atD b.doors j := by
  show atD (b.doors.set i _) j = _
  unfold atD
  simp only [List.getD, List.getElem?_set]
  by_cases e : i = j
  · subst e; rw [if_pos rfl, if_pos hi, if_pos rfl]; rfl
  · rw [if_neg e, if_neg (fun q => e q.symm)]
theorem costB_zero {b : BT} {i : Nat} : costB b i 0 = freeB b i := rfl
theorem costB_like {b : BT} {i : Nat} {c : Int} (hi : i < b.doors.length) : Like b (costB b i c) :=
  ⟨rfl, by show (b.doors.set i _).length = _; simp, fun j _ => by
    rw [costB_at hi]
    by_cases e : j = i
    · rw [if_pos e, e]
    · rw [if_neg e], fun j _ => by
    rw [costB_at hi]
    by_cases e : j = i
    · rw [if_pos e, e]
    · rw [if_neg e], rfl⟩
theorem costB_ok {b : BT} (hb : Okb b) {i : Nat} (hi : i < b.doors.length) {c : Int} (h0 : 0 ≤ c) (h1 : c ≤ 20) : Okb (costB b i c) :=
  ⟨hb.n1, hb.n2, by show (b.doors.set i _).length ≤ 8; simp; exact hb.dl, fun j hj => by
    have hj' : j < b.doors.length := by have : (costB b i c).doors.length = b.doors.length := by show (b.doors.set i _).length = _; simp
                                        omega
    rw [costB_at hi]
    by_cases e : j = i
    · rw [if_pos e]
      obtain ⟨a1, a2, a3, _⟩ := hb.dk i hi
      exact ⟨a1, a2, a3, h0, h1⟩
    · rw [if_neg e]; exact hb.dk j hj', hb.sa, hb.si, hb.pa, hb.pi, hb.pn, hb.l1, hb.l2, hb.e1, hb.e2⟩
theorem costB_less {b : BT} {i : Nat} (hi : i < b.doors.length) {c d : Int} (hcd : c ≤ d) : ∀ looks s x, x ∈ stepsOf (costB b i d) looks s → x ∈ stepsOf (costB b i c) looks s ∧ costS (costB b i c) x.1 ≤ costS (costB b i d) x.1 := fun looks s x hx => by
  have e1 := steps_like (costB_like (c := c) hi) looks s
  have e2 := steps_like (costB_like (c := d) hi) looks s
  refine ⟨by rw [e1, ← e2]; exact hx, ?_⟩
  unfold costS
  by_cases hk : x.1.k = 2
  · rw [if_pos hk, if_pos hk]; exact Int.le_refl _
  · rw [if_neg hk, if_neg hk, costB_at hi, costB_at hi]
    by_cases e : x.1.x.toNat = i
    · rw [if_pos e, if_pos e]
      show c + b.eats ≤ d + b.eats
      omega
    · rw [if_neg e, if_neg e]; exact Int.le_refl _
theorem costB_self {b : BT} {i : Nat} (hi : i < b.doors.length) : costB b i (atD b.doors i).cost = b := by
  have e : b.doors.set i (atD b.doors i) = b.doors := by
    apply List.ext_getElem (by simp)
    intro j h1 h2
    rw [List.getElem_set]
    by_cases q : i = j
    · subst q; rw [if_pos rfl]; unfold atD; exact getD_lt b.doors i default hi
    · rw [if_neg q]
  unfold costB
  rw [show (⟨(atD b.doors i).a, (atD b.doors i).b, (atD b.doors i).cost⟩ : BD) = atD b.doors i from rfl, e]
theorem plan_frees {b : BT} (h : validT b = true) : planB b = true ↔ ∀ p, p ∈ b.places → Frees b p := by
  have hb := okb_iff.1 h
  rw [← free_plan h]
  unfold freeTo
  rw [allB_iff]
  constructor
  · intro hf p hp
    have := hb.pi p hp
    obtain ⟨k, hk, e⟩ := mem_getD b.places p 0 hp
    have h1 := hf k hk
    unfold at0 at h1
    rw [e] at h1
    have h2 : ¬ inB (trapA b) p = true := by intro q; rw [q] at h1; cases h1
    rw [trap_iff h (by omega) (by omega)] at h2
    exact Classical.byContradiction h2
  · intro hf k hk
    have hm := getD_mem b.places k 0 hk
    have hk1 : 0 ≤ at0 b.places k ∧ at0 b.places k ≤ b.n - 1 := hb.pi _ hm
    cases hi : inB (trapA b) (at0 b.places k) with
    | false => rfl
    | true => exact absurd (hf (at0 b.places k) hm) ((trap_iff h (by omega) (by omega)).1 hi)
theorem runD_like {b b' : BT} (h : Like b b') : ∀ (l : List Nat) (p : Int), OkL b l → runD b' l p = runD b l p
  | [], _, _ => rfl
  | i :: l, p, hl => by
    have hi := hl i (List.mem_cons_self ..)
    show runD b' l (thr (atD b'.doors i) p) = runD b l (thr (atD b.doors i) p)
    rw [thr_like (h.da i hi) (h.db i hi), runD_like h l _ fun j hj => hl j (List.mem_cons_of_mem _ hj)]
theorem frees_like {b b' : BT} (h : Like b b') (p : Int) : Frees b' p ↔ Frees b p := by
  constructor
  · rintro ⟨l, l1, l2⟩
    have l1' : OkL b l := fun i hi => by have := l1 i hi; rw [h.len] at this; exact this
    exact ⟨l, l1', by rw [← runD_like h l p l1']; exact l2⟩
  · rintro ⟨l, l1, l2⟩
    exact ⟨l, fun i hi => by rw [h.len]; exact l1 i hi, by rw [runD_like h l p l1]; exact l2⟩
theorem plan_like {b b' : BT} (hl : Like b b') (hp : b'.places = b.places) (h : validT b = true) (h' : validT b' = true) : planB b' = planB b := by
  rw [Bool.eq_iff_iff, plan_frees h, plan_frees h', hp]
  exact forall_congr' fun p => imp_congr Iff.rfl (frees_like hl p)
/-- A lesser cost of a door, and what it would be worth if it were nothing. -/
theorem cost_law {b : BT} (h : validT b = true) {i : Nat} (hi : i < b.doors.length) {c : Int} (h0 : 0 ≤ c) (h1 : c ≤ (atD b.doors i).cost) :
    validT (costB b i c) = true ∧ planB (costB b i c) = planB b ∧ (freeE b i = if planB b then 0 else 3) ∧
      leastV (costB b i c) true ≤ leastV b true ∧ leastV (costB b i c) false ≤ leastV b false ∧
      (planB b = true → leastV b true - leastV (costB b i c) true ≤ freeV b i ∧ freeV b i ≤ leastV b true ∧ (c = 0 → freeV b i = leastV b true - leastV (costB b i c) true)) := by
  have hb := okb_iff.1 h
  obtain ⟨_, _, _, hc0, hc1⟩ := hb.dk i hi
  have hok := costB_ok hb hi h0 (c := c) (by omega)
  have hv := okb_iff.2 hok
  have hokz := costB_ok hb hi (c := 0) (by omega) (by omega)
  have hvz := okb_iff.2 hokz
  have hpl := plan_like (costB_like (c := c) hi) rfl h hv
  have hplz := plan_like (costB_like (c := 0) hi) rfl h hvz
  have hdo : isDoorB b i = true := withinB_true.2 ⟨by omega, by omega⟩
  have hself := costB_self hi
  have hvs : validT (costB b i (atD b.doors i).cost) = true := by rw [hself]; exact h
  obtain ⟨g0, _, _, g3, _, _, gn⟩ := both_law h
  obtain ⟨_, _, _, _, _, _, gn2⟩ := both_law hv
  have hle : leastV (costB b i c) true ≤ leastV b true ∧ leastV (costB b i c) false ≤ leastV b false := by
    cases hp : planB b with
    | true =>
      have := cheaper (b := costB b i (atD b.doors i).cost) (b' := costB b i c) hvs hv rfl rfl (costB_less hi h1) (by rw [hself]; exact hp)
      rw [hself] at this
      exact this.2
    | false =>
      obtain ⟨q1, q2, _⟩ := gn hp
      obtain ⟨r1, r2, _⟩ := gn2 (hpl.trans hp)
      rw [q1, q2, r1, r2]
      exact ⟨Int.le_refl _, Int.le_refl _⟩
  refine ⟨hv, hpl, ?_, hle.1, hle.2, fun hp => ?_⟩
  · unfold freeE
    rw [h, hdo]
    exact g3
  · have hs : (opt b true 1 0 (ofL b.places)).isSome = true := hp
    have hf : freeV b i = leastV b true - leastV (costB b i 0) true := by
      unfold freeV
      rw [h, hdo, hs]
      simp only [if_true]
      rw [Int.toNat_natCast]
      rfl
    have hz := (cheaper (b := costB b i c) (b' := costB b i 0) hv hvz rfl rfl (costB_less hi h0) (hpl.trans hp)).2.1
    have hn := (leastV_in (b := costB b i 0) (looks := true)).1
    refine ⟨by rw [hf]; omega, by rw [hf]; omega, fun e => by rw [hf, e]⟩
/-- All costs so many times as great. -/
def timesD (t : Int) (l : List BD) (k : Nat) : List BD := (List.range l.length).map fun i => if i < k then ⟨(atD l i).a, (atD l i).b, (atD l i).cost * t⟩ else atD l i
theorem timesD_len {t : Int} {l : List BD} {k : Nat} : (timesD t l k).length = l.length := by unfold timesD; simp
theorem timesD_at {t : Int} {l : List BD} {k i : Nat} (hi : i < l.length) : atD (timesD t l k) i = if i < k then ⟨(atD l i).a, (atD l i).b, (atD l i).cost * t⟩ else atD l i := by
  unfold timesD
  show ((List.range l.length).map _).getD i default = _
  simp [List.getD, hi]
theorem timesD_zero {t : Int} {l : List BD} : timesD t l 0 = l := by
  apply List.ext_getElem (by rw [timesD_len])
  intro j h1 h2
  have := timesD_at (t := t) (k := 0) h2
  rw [if_neg (by omega)] at this
  unfold atD at this
  rw [getD_lt _ j default h1, getD_lt _ j default h2] at this
  exact this
theorem timesD_succ {t : Int} {l : List BD} {k : Nat} (hk : k < l.length) : timesD t l (k + 1) = (timesD t l k).set k ⟨(atD l k).a, (atD l k).b, (atD l k).cost * t⟩ := by
  apply List.ext_getElem (by simp [timesD_len])
  intro j h1 h2
  have hj : j < l.length := by rw [timesD_len] at h1; exact h1
  have e1 := timesD_at (t := t) (k := k + 1) hj
  have e2 := timesD_at (t := t) (k := k) hj
  unfold atD at e1 e2
  rw [getD_lt _ j default h1] at e1
  rw [getD_lt _ j default (by rw [timesD_len]; exact hj)] at e2
  rw [e1, List.getElem_set, e2]
  by_cases q : k = j
  · subst q; rw [if_pos rfl, if_pos (by omega)]; unfold atD; rfl
  · rw [if_neg q]
    by_cases r : j < k
    · rw [if_pos r, if_pos (by omega)]
    · rw [if_neg r, if_neg (by omega)]
def timesB (b : BT) (t : Int) : BT := { b with doors := timesD t b.doors b.doors.length, look := b.look * t, eats := b.eats * t }
theorem timesB_scaled {b : BT} {t : Int} (ht : 1 ≤ t) : Scaled t b (timesB b t) := by
  have key : ∀ i, i < b.doors.length → atD (timesB b t).doors i = ⟨(atD b.doors i).a, (atD b.doors i).b, (atD b.doors i).cost * t⟩ := fun i hi => by
    show atD (timesD t b.doors b.doors.length) i = _
    rw [timesD_at hi, if_pos hi]
  exact ⟨⟨rfl, timesD_len, fun i hi => by rw [key i hi], fun i hi => by rw [key i hi], rfl⟩, ht, fun i hi => by rw [key i hi], rfl, rfl⟩
theorem Scaled.free {k : Int} {b b' : BT} (h : Scaled k b b') {i : Nat} (hi : i < b.doors.length) : Scaled k (freeB b i) (freeB b' i) := by
  have hi' : i < b'.doors.length := by rw [h.len]; exact hi
  refine ⟨⟨h.n, by show (b'.doors.set i _).length = (b.doors.set i _).length; simp [h.len], fun j hj => ?_, fun j hj => ?_, h.seen⟩, h.pos, fun j hj => ?_, h.look, h.eats⟩
  all_goals
    have hj' : j < b.doors.length := by
      have : (freeB b i).doors.length = b.doors.length := by show (b.doors.set i _).length = _; simp
      omega
    rw [freeB_at hi, freeB_at hi']
    by_cases e : j = i
    · rw [if_pos e, if_pos e]
      first
        | exact h.da i hi
        | exact h.db i hi
        | simp
    · rw [if_neg e, if_neg e]
      first
        | exact h.da j hj'
        | exact h.db j hj'
        | exact h.cost j hj'
theorem Scaled.least {k : Int} {b b' : BT} (h : Scaled k b b') (hp : b'.places = b.places) (hv : validT b = true) (hv' : validT b' = true) (looks : Bool) : leastV b' looks = leastV b looks * k := by
  rw [least_of_opt hv, least_of_opt hv', hp, h.opt (okb_iff.1 hv) (okb_iff.1 hv') (dom_places (okb_iff.1 hv))]
  cases Proofs.YtogiidkofddhaaaDoor.opt b looks 1 0 (ofL b.places) <;> simp
theorem Scaled.plan {k : Int} {b b' : BT} (h : Scaled k b b') (hp : b'.places = b.places) (hv : validT b = true) (hv' : validT b' = true) : planB b' = planB b := plan_like h.toLike hp hv hv'
theorem Scaled.way {k : Int} {b b' : BT} (h : Scaled k b b') (hv : validT b = true) (hv' : validT b' = true) (c : Int) : wayV b' c = wayV b c * k ∧ wayE b' c = wayE b c ∧ 0 ≤ wayV b c ∧ wayV b c ≤ 1856 := by
  have hb := okb_iff.1 hv
  have hb' := okb_iff.1 hv'
  unfold wayV wayE
  rw [hv, hv', h.n]
  cases hc : chamB b.n c with
  | false => exact ⟨by simp, rfl, by simp, by simp⟩
  | true =>
    rw [chamB_in hb.n1 hb.n2] at hc
    obtain ⟨c1, c2⟩ := withinB_true.1 hc
    have hd : Dom b (ofL [c]) := by rw [ofL_one]; exact dom_bitP hb (by omega) (by omega)
    simp only [if_true]
    unfold optV optE
    rw [h.opt hb hb' hd]
    cases e : Proofs.YtogiidkofddhaaaDoor.opt b true 1 0 (ofL [c]) with
    | none => exact ⟨by simp, rfl, by simp, by simp⟩
    | some v =>
      have := opt_1856 hb hd e
      exact ⟨by simp, rfl, this.1, this.2⟩
theorem Scaled.paid {k : Int} {b b' : BT} (h : Scaled k b b') (hp : b'.places = b.places) (hv : validT b = true) (hv' : validT b' = true) (c : Int) : paidA b' c = paidA b c * k ∧ pathE b' c = pathE b c ∧ 0 ≤ paidA b c ∧ paidA b c ≤ 1856 := by
  have hb := okb_iff.1 hv
  have hb' := okb_iff.1 hv'
  have hpl := h.plan hp hv hv'
  cases hc : inB b.places c with
  | false =>
    have e1 : pathA b c = [] ∧ pathE b c = 1 := by unfold pathA pathE; rw [hv, hc]; exact ⟨rfl, rfl⟩
    have e2 : pathA b' c = [] ∧ pathE b' c = 1 := by unfold pathA pathE; rw [hv', hp, hc]; exact ⟨rfl, rfl⟩
    unfold paidA
    rw [e1.1, e2.1, e1.2, e2.2]
    exact ⟨by simp [Proofs.YtogiidkofddhaaaDoor.costsL], rfl, by simp [Proofs.YtogiidkofddhaaaDoor.costsL], by simp [Proofs.YtogiidkofddhaaaDoor.costsL]⟩
  | true =>
    have hm := inB_mem hc
    cases hpb : planB b with
    | false =>
      obtain ⟨e1, e2⟩ := path_no hv hpb hm
      obtain ⟨e3, e4⟩ := path_no hv' (hpl.trans hpb) (c := c) (by rw [hp]; exact hm)
      unfold paidA
      rw [e1, e2, e3, e4]
      exact ⟨by simp [Proofs.YtogiidkofddhaaaDoor.costsL], rfl, by simp [Proofs.YtogiidkofddhaaaDoor.costsL], by simp [Proofs.YtogiidkofddhaaaDoor.costsL]⟩
    | true =>
      obtain ⟨e1, e2⟩ := path_eq hv hpb hm
      obtain ⟨e3, e4⟩ := path_eq hv' (hpl.trans hpb) (c := c) (by rw [hp]; exact hm)
      obtain ⟨_, _, _, k4, _, _, k7, k8⟩ := each_law hv hpb hm
      obtain ⟨_, _, g2, _, _, g3, _⟩ := both_law hv
      obtain ⟨ho, _⟩ := g3 hpb
      obtain ⟨q1, q2, q3⟩ := has_places hb hm
      have hd := dom_places hb
      have h1856 := (opt_1856 hb hd ho).2
      have ep : pathF b' 2000 (ofL b'.places) c = pathF b 2000 (ofL b.places) c := by
        rw [hp]
        exact h.path hb hb' 2000 (ofL b.places) _ c hd ho q1 q2 q3
      refine ⟨?_, by rw [e2, e4], k7, by omega⟩
      unfold paidA
      rw [e3, ep, ← e1]
      exact h.costsL fun x hx => by
        obtain ⟨j, hj, e⟩ := mem_getD _ x default hx
        have := stepsB_iff.1 k4 j hj
        unfold atS at this
        rw [e] at this
        exact this
theorem Scaled.freeV {k : Int} {b b' : BT} (h : Scaled k b b') (hp : b'.places = b.places) (hv : validT b = true) (hv' : validT b' = true) (d : Int) : Proofs.YtogiidkofddhaaaDoor.freeV b' d = Proofs.YtogiidkofddhaaaDoor.freeV b d * k ∧ freeE b' d = freeE b d ∧ 0 ≤ Proofs.YtogiidkofddhaaaDoor.freeV b d ∧ Proofs.YtogiidkofddhaaaDoor.freeV b d ≤ 1856 := by
  have hb := okb_iff.1 hv
  have hb' := okb_iff.1 hv'
  have hpl := h.plan hp hv hv'
  have hid : isDoorB b' d = isDoorB b d := by unfold isDoorB; rw [h.len]
  obtain ⟨_, _, _, g3, _, _, _⟩ := both_law hv
  obtain ⟨_, _, _, g3', _, _, _⟩ := both_law hv'
  cases hd : isDoorB b d with
  | false =>
    have e1 : Proofs.YtogiidkofddhaaaDoor.freeV b d = 0 ∧ freeE b d = 1 := by unfold Proofs.YtogiidkofddhaaaDoor.freeV freeE; rw [hv, hd]; exact ⟨rfl, rfl⟩
    have e2 : Proofs.YtogiidkofddhaaaDoor.freeV b' d = 0 ∧ freeE b' d = 1 := by unfold Proofs.YtogiidkofddhaaaDoor.freeV freeE; rw [hv', hid, hd]; exact ⟨rfl, rfl⟩
    rw [e1.1, e1.2, e2.1, e2.2]
    exact ⟨by simp, rfl, by simp, by simp⟩
  | true =>
    have e1 : freeE b d = if planB b then 0 else 3 := by unfold freeE; rw [hv, hd]; exact g3
    have e2 : freeE b' d = if planB b' then 0 else 3 := by unfold freeE; rw [hv', hid, hd]; exact g3'
    obtain ⟨d1, d2⟩ := withinB_true.1 (show withinB d 0 ((b.doors.length : Int) - 1) = true from hd)
    obtain ⟨i, rfl⟩ : ∃ i : Nat, d = i := ⟨d.toNat, by omega⟩
    have hi : i < b.doors.length := by omega
    have hi' : i < b'.doors.length := by rw [h.len]; exact hi
    cases hpb : planB b with
    | false =>
      have q1 : Proofs.YtogiidkofddhaaaDoor.freeV b i = 0 := by
        have hs : (Proofs.YtogiidkofddhaaaDoor.opt b true 1 0 (ofL b.places)).isSome = false := hpb
        unfold Proofs.YtogiidkofddhaaaDoor.freeV; rw [hv, hd, hs]; rfl
      have q2 : Proofs.YtogiidkofddhaaaDoor.freeV b' i = 0 := by
        have hs : (Proofs.YtogiidkofddhaaaDoor.opt b' true 1 0 (ofL b'.places)).isSome = false := hpl.trans hpb
        unfold Proofs.YtogiidkofddhaaaDoor.freeV; rw [hv', hid, hd, hs]; rfl
      rw [q1, q2, e1, e2, hpl]
      exact ⟨by simp, rfl, by simp, by simp⟩
    | true =>
      have q1 : Proofs.YtogiidkofddhaaaDoor.freeV b i = leastV b true - leastV (freeB b i) true := by
        have hs : (Proofs.YtogiidkofddhaaaDoor.opt b true 1 0 (ofL b.places)).isSome = true := hpb
        unfold Proofs.YtogiidkofddhaaaDoor.freeV; rw [hv, hd, hs]; simp only [if_true]; rw [Int.toNat_natCast]
      have q2 : Proofs.YtogiidkofddhaaaDoor.freeV b' i = leastV b' true - leastV (freeB b' i) true := by
        have hs : (Proofs.YtogiidkofddhaaaDoor.opt b' true 1 0 (ofL b'.places)).isSome = true := hpl.trans hpb
        unfold Proofs.YtogiidkofddhaaaDoor.freeV; rw [hv', hid, hd, hs]; simp only [if_true]; rw [Int.toNat_natCast]
      have hvf : validT (freeB b i) = true := okb_iff.2 (costB_ok hb hi (c := 0) (by omega) (by omega))
      have hvf' : validT (freeB b' i) = true := okb_iff.2 (costB_ok hb' hi' (c := 0) (by omega) (by omega))
      have r1 := h.least hp hv hv' true
      have r2 := (h.free hi).least (show b'.places = b.places from hp) hvf hvf' true
      have hcl := (cost_law hv hi (c := 0) (by omega) (hb.dk i hi).2.2.2.1).2.2.2.2.2 hpb
      obtain ⟨_, u2, _⟩ := hcl
      have u1 := (cost_law hv hi (c := 0) (by omega) (hb.dk i hi).2.2.2.1).2.2.2.1
      have u1' : leastV (freeB b i) true ≤ leastV b true := u1
      have u3 := (leastV_in (b := b) (looks := true)).2
      refine ⟨?_, by rw [e1, e2, hpl], by rw [q1]; omega, by omega⟩
      rw [q1, q2, r1, r2, Int.sub_mul]
end Go.Proofs.YtogiidkofddhaaaDoor
namespace Go.Proofs.YtogiidkofddhaaaDoor
set_option linter.unusedVariables false
open Go Go.RowKit Go.Shelf
set_option maxHeartbeats 4000000
set_option maxRecDepth 100000
/-- The box of the copy with a door more. -/
structure MoreSt (b : BT) (x : BD) (w : World) (ob g c gs cs gp cp : Nat) (W : World) : Prop where
  bel : Bel w W
  lt : ob < W.heap.size
  c0 : W.cell? ⟨ob, 0, none⟩ = some (.int .i64 b.n)
  c1 : W.cell? ⟨ob, 1, none⟩ = some (.slice (some ⟨g, 0, none⟩) (b.doors.length + 1) c)
  c2 : W.cell? ⟨ob, 2, none⟩ = some (.slice (some ⟨gs, 0, none⟩) b.seen.length cs)
  c3 : W.cell? ⟨ob, 3, none⟩ = some (.int .i64 b.look)
  c4 : W.cell? ⟨ob, 4, none⟩ = some (.int .i64 b.eats)
  c5 : W.cell? ⟨ob, 5, none⟩ = some (.slice (some ⟨gp, 0, none⟩) b.places.length cp)
  trap : BTrapAt W (.agg #[.int .i64 b.n, .slice (some ⟨g, 0, none⟩) (b.doors.length + 1) c, .slice (some ⟨gs, 0, none⟩) b.seen.length cs, .int .i64 b.look, .int .i64 b.eats, .slice (some ⟨gp, 0, none⟩) b.places.length cp]) (moreB b x)
theorem doorCells_add (l : List BD) (x : BD) : doorCells (l ++ [x]) = doorCells l ++ [.int .i64 x.a, .int .i64 x.b, .int .i64 x.cost] := by
  have e0 : ∀ i, i < l.length → atD (l ++ [x]) i = atD l i := fun i hi => by unfold atD; simp only [List.getD]; rw [List.getElem?_append_left hi]
  have e1 : atD (l ++ [x]) l.length = x := by unfold atD; simp [List.getD]
  apply List.ext_getElem?
  intro j
  by_cases hj : j < l.length * 3
  · rw [List.getElem?_append_left (by rw [doorCells_len]; exact hj), doorCells_at l j hj, doorCells_at (l ++ [x]) j (by simp; omega)]
    unfold dcell
    rw [e0 _ (by omega)]
  · rw [List.getElem?_append_right (by rw [doorCells_len]; omega), doorCells_len]
    by_cases h3 : j < l.length * 3 + 3
    · rw [doorCells_at (l ++ [x]) j (by simp; omega)]
      unfold dcell
      rw [show j / 3 = l.length by omega, e1]
      have : j = l.length * 3 ∨ j = l.length * 3 + 1 ∨ j = l.length * 3 + 2 := by omega
      rcases this with rfl | rfl | rfl
      · rw [if_pos (by omega), Nat.sub_self]; rfl
      · rw [if_neg (by omega), if_pos (by omega), Nat.add_sub_cancel_left]; rfl
      · rw [if_neg (by omega), if_neg (by omega), Nat.add_sub_cancel_left]; rfl
    · rw [List.getElem?_eq_none (by rw [doorCells_len]; simp; omega), List.getElem?_eq_none (by simp; omega)]
theorem more_stage {w wc w5 : World} {b : BT} {x : BD} {gd cd gs cs gp cp ob : Nat} {T1 : TypeId} {O2 : Obj} {V' : Value} {C : Array Value} (hob : ob = wc.heap.size) (hC : C = #[.int .i64 b.n, .slice (some ⟨gd, 0, none⟩) b.doors.length cd, .slice (some ⟨gs, 0, none⟩) b.seen.length cs, .int .i64 b.look, .int .i64 b.eats, .slice (some ⟨gp, 0, none⟩) b.places.length cp])
    (h : OwnTrap b w gd cd gs cs gp cp wc) (h1 : b.doors.length ≤ 1000) (h2 : b.seen.length ≤ 1000) (h3 : b.places.length ≤ 1000)
    (ho : w5.ownsRow 0 43 3 V' (b.doors.length + 1) (doorCells b.doors ++ [.int .i64 x.a, .int .i64 x.b, .int .i64 x.cost]))
    (hg : ((wc.alloc (.cells C T1)).alloc O2).grownBy w5 (Value.slice (some ⟨gd, 0, none⟩) b.doors.length cd).ownBlock)
    (hw : V'.ownBlock = (Value.slice (some ⟨gd, 0, none⟩) b.doors.length cd).ownBlock ∨ V'.ownBlock = some ((wc.alloc (.cells C T1)).alloc O2).heap.size) :
    ∃ g c, V' = .slice (some ⟨g, 0, none⟩) (b.doors.length + 1) c ∧ w5.cell? ⟨ob, 1, none⟩ = some (.slice (some ⟨gd, 0, none⟩) b.doors.length cd) ∧ (∀ o, w5.frozen? ⟨ob, o, none⟩ = false) ∧ ob < w5.heap.size ∧
      Hid (MoreSt b x w ob g c gs cs gp cp (w5.setCell ⟨ob, 1, none⟩ (.slice (some ⟨g, 0, none⟩) (b.doors.length + 1) c))) := by
  have lgd : gd < wc.heap.size := own_lt h.od rfl
  have lgs : gs < wc.heap.size := own_lt h.os rfl
  have lgp : gp < wc.heap.size := own_lt h.op rfl
  have q1 := h.hgs
  have q2 := h.hgp
  have q0 := h.hgd
  have hsz := hg.size
  simp only [World.size_alloc] at hsz
  have hk : ∀ k, k < wc.heap.size + 2 → k ≠ gd → w5.heap[k]? = ((wc.alloc (.cells C T1)).alloc O2).heap[k]? := fun k hk hne => hg.block k (by simp; omega) (by intro e; injection e with e; exact hne e)
  have hrow := (hk ob (by omega) (by omega)).trans ((old_row (by simp; omega)).trans (new_row hob))
  have hold : ∀ k, k < wc.heap.size → k ≠ gd → w5.heap[k]? = wc.heap[k]? := fun k h hne => (hk k (by omega) hne).trans ((old_row (by simp; omega)).trans (old_row h))
  have hbel : Bel w w5 := (((h.bel).alloc _).alloc _).grown hg (fun k e => by have e' : some gd = some k := e; injection e' with e'; omega)
  obtain ⟨f1, f2⟩ := row_facts hrow
  subst hC
  rcases ho.2 with ⟨rfl, e⟩ | ⟨g, cap, cur, rfl, _⟩
  · omega
  · have hgo : g ≠ ob := by
      rcases hw with hw | hw <;> simp [Value.ownBlock] at hw <;> omega
    have hsrow : ∀ k, k ≠ ob → (w5.setCell ⟨ob, 1, none⟩ (.slice (some ⟨g, 0, none⟩) (b.doors.length + 1) cap)).heap[k]? = w5.heap[k]? := fun k hne => Below.heap_setCell _ _ _ _ hne
    have set_c : ∀ j, j ≠ 1 → (w5.setCell ⟨ob, 1, none⟩ (.slice (some ⟨g, 0, none⟩) (b.doors.length + 1) cap)).cell? ⟨ob, j, none⟩ = w5.cell? ⟨ob, j, none⟩ := fun j hj => World.cell?_setCell_other _ _ _ _ (by intro e; injection e with _ e; exact hj e.symm)
    refine ⟨g, cap, rfl, f1 1, f2, by omega, Lib.hid ⟨hbel.setCell (by show w.heap.size ≤ ob; have := h.bel.szle; omega) _, by rw [World.size_setCell]; omega, (set_c 0 (by omega)).trans (f1 0), World.cell?_setCell_same _ _ _ (f1 1), (set_c 2 (by omega)).trans (f1 2), (set_c 3 (by omega)).trans (f1 3), (set_c 4 (by omega)).trans (f1 4), (set_c 5 (by omega)).trans (f1 5), _, _, _, rfl, ?_, ?_, ?_⟩⟩
    · have e : (moreB b x).doors.length = b.doors.length + 1 := by show (b.doors ++ [x]).length = _; simp
      have ho' := own_set (p := ⟨ob, 1, none⟩) (u := .slice (some ⟨g, 0, none⟩) (b.doors.length + 1) cap) ho (fun g' hg' => by injection hg' with hg'; subst hg'; exact hgo)
      have e2 : doorCells (moreB b x).doors = doorCells b.doors ++ [.int .i64 x.a, .int .i64 x.b, .int .i64 x.cost] := doorCells_add b.doors x
      rw [← e, ← e2] at ho'
      have := DoorsAt.own (l := (moreB b x).doors) (by omega) ho'
      rw [e] at this
      exact this
    · exact ownInts (l := b.seen) (by omega) (own_keep h.os fun k hk' => by injection hk' with hk'; subst hk'; exact (hsrow gs (by omega)).trans (hold gs lgs (by omega)))
    · exact ownInts (l := b.places) (by omega) (own_keep h.op fun k hk' => by injection hk' with hk'; subst hk'; exact (hsrow gp (by omega)).trans (hold gp lgp (by omega)))
/-- The box of the copy while its doors, and its costs, are changed in place. -/
structure DSt (w : World) (b : BT) (l : List BD) (ob gd cd gs cs gp cp : Nat) (lk et : Int) (W : World) : Prop where
  bel : Bel w W
  lt : ob < W.heap.size
  c0 : W.cell? ⟨ob, 0, none⟩ = some (.int .i64 b.n)
  c1 : W.cell? ⟨ob, 1, none⟩ = some (.slice (some ⟨gd, 0, none⟩) b.doors.length cd)
  c2 : W.cell? ⟨ob, 2, none⟩ = some (.slice (some ⟨gs, 0, none⟩) b.seen.length cs)
  c3 : W.cell? ⟨ob, 3, none⟩ = some (.int .i64 lk)
  c4 : W.cell? ⟨ob, 4, none⟩ = some (.int .i64 et)
  c5 : W.cell? ⟨ob, 5, none⟩ = some (.slice (some ⟨gp, 0, none⟩) b.places.length cp)
  fz : ∀ o, W.frozen? ⟨ob, o, none⟩ = false
  hgd : w.heap.size ≤ gd
  hgs : gd < gs
  hgp : gs < gp
  hob : gp < ob
  len : l.length = b.doors.length
  cap : b.doors.length ≤ cd
  d : ∀ i, i < l.length → W.cell? ⟨gd, i * 3, none⟩ = some (.int .i64 (atD l i).a) ∧ W.cell? ⟨gd, i * 3 + 1, none⟩ = some (.int .i64 (atD l i).b) ∧ W.cell? ⟨gd, i * 3 + 2, none⟩ = some (.int .i64 (atD l i).cost)
  df : ∀ o, W.frozen? ⟨gd, o, none⟩ = false
  os : W.ownsRow 0 3 1 (.slice (some ⟨gs, 0, none⟩) b.seen.length cs) b.seen.length (b.seen.map (Value.int .i64))
  op : W.ownsRow 0 3 1 (.slice (some ⟨gp, 0, none⟩) b.places.length cp) b.places.length (b.places.map (Value.int .i64))
theorem own_doors {W : World} {g c : Nat} {l : List BD} (h : W.ownsRow 0 43 3 (.slice (some ⟨g, 0, none⟩) l.length c) l.length (doorCells l)) :
    (∀ i, i < l.length → W.cell? ⟨g, i * 3, none⟩ = some (.int .i64 (atD l i).a) ∧ W.cell? ⟨g, i * 3 + 1, none⟩ = some (.int .i64 (atD l i).b) ∧ W.cell? ⟨g, i * 3 + 2, none⟩ = some (.int .i64 (atD l i).cost)) ∧ (∀ o, W.frozen? ⟨g, o, none⟩ = false) ∧ l.length ≤ c := by
  have hcl := h.cells (g := g) rfl
  have key : ∀ j, j < l.length * 3 → W.cell? ⟨g, j, none⟩ = some (dcell l j) := fun j hj => by
    have := hcl j _ (doorCells_at l j hj)
    rw [addr_off, Nat.zero_add] at this
    exact this
  rcases h.2 with ⟨e, _⟩ | ⟨g', cap, cur, e, _, hh, hnc, _⟩
  · cases e
  · injection e with e1 e2 e3
    injection e1 with e1
    injection e1 with e1 _ _
    subst e1 e3
    refine ⟨fun i hi => ⟨?_, ?_, ?_⟩, (row_facts hh).2, hnc⟩
    · rw [key (i * 3) (by omega)]; unfold dcell; rw [if_pos (by omega), show i * 3 / 3 = i by omega]
    · rw [key (i * 3 + 1) (by omega)]; unfold dcell; rw [if_neg (by omega), if_pos (by omega), show (i * 3 + 1) / 3 = i by omega]
    · rw [key (i * 3 + 2) (by omega)]; unfold dcell; rw [if_neg (by omega), if_neg (by omega), show (i * 3 + 2) / 3 = i by omega]
variable {w W W' wc : World} {b : BT} {l : List BD} {ob gd cd gs cs gp cp : Nat} {lk et : Int}
theorem DSt.new {T1 : TypeId} {C : Array Value} (hob : ob = wc.heap.size) (hC : C = #[.int .i64 b.n, .slice (some ⟨gd, 0, none⟩) b.doors.length cd, .slice (some ⟨gs, 0, none⟩) b.seen.length cs, .int .i64 b.look, .int .i64 b.eats, .slice (some ⟨gp, 0, none⟩) b.places.length cp]) (h : OwnTrap b w gd cd gs cs gp cp wc) :
    DSt w b b.doors ob gd cd gs cs gp cp b.look b.eats (wc.alloc (.cells C T1)) := by
  have lgp : gp < wc.heap.size := own_lt h.op rfl
  obtain ⟨f1, f2⟩ := row_facts (new_row (w := wc) (o := (.cells C T1)) hob)
  have hbel : Bel wc (wc.alloc (.cells C T1)) := (Bel.refl wc).alloc _
  obtain ⟨d1, d2, d3⟩ := own_doors (ownsRow_bel h.od hbel)
  subst hC
  exact ⟨h.bel.trans hbel, by simp; omega, f1 0, f1 1, f1 2, f1 3, f1 4, f1 5, f2, h.hgd, h.hgs, h.hgp, by omega, rfl, d3, d1, d2, ownsRow_bel h.os hbel, ownsRow_bel h.op hbel⟩
theorem DSt.go (h : DSt w b l ob gd cd gs cs gp cp lk et W) (k : Bel W W') : DSt w b l ob gd cd gs cs gp cp lk et W' :=
  ⟨h.bel.trans k, Nat.lt_of_lt_of_le h.lt k.szle, k.cell h.c0, k.cell h.c1, k.cell h.c2, k.cell h.c3, k.cell h.c4, k.cell h.c5, fun o => (k.frozens _ (by have := h.lt; show ob < _; omega)).trans (h.fz o), h.hgd, h.hgs, h.hgp, h.hob, h.len, h.cap,
    fun i hi => ⟨k.cell (h.d i hi).1, k.cell (h.d i hi).2.1, k.cell (h.d i hi).2.2⟩, fun o => (k.frozens _ (by have := h.lt; have := h.hgs; have := h.hgp; have := h.hob; show gd < _; omega)).trans (h.df o), ownsRow_bel h.os k, ownsRow_bel h.op k⟩
/-- One cell of the doors is set. -/
theorem DSt.door (h : DSt w b l ob gd cd gs cs gp cp lk et W) {k : Nat} (hk : k < l.length) (d : BD) :
    DSt w b (l.set k d) ob gd cd gs cs gp cp lk et (((W.setCell ⟨gd, k * 3, none⟩ (.int .i64 d.a)).setCell ⟨gd, k * 3 + 1, none⟩ (.int .i64 d.b)).setCell ⟨gd, k * 3 + 2, none⟩ (.int .i64 d.cost)) := by
  have q1 := h.hgs
  have q2 := h.hgp
  have q3 := h.hob
  have q0 := h.hgd
  obtain ⟨d0, d1, d2⟩ := h.d k hk
  have far : ∀ {p u}, p.block ≠ gd → W.cell? p = some u → (((W.setCell ⟨gd, k * 3, none⟩ (.int .i64 d.a)).setCell ⟨gd, k * 3 + 1, none⟩ (.int .i64 d.b)).setCell ⟨gd, k * 3 + 2, none⟩ (.int .i64 d.cost)).cell? p = some u := fun {p u} hp hc => by
    rw [World.cell?_setCell_other _ _ _ _ (by intro e; exact hp (by rw [← e])), World.cell?_setCell_other _ _ _ _ (by intro e; exact hp (by rw [← e])), World.cell?_setCell_other _ _ _ _ (by intro e; exact hp (by rw [← e]))]; exact hc
  have row : ∀ j, j ≠ k * 3 → j ≠ k * 3 + 1 → j ≠ k * 3 + 2 → (((W.setCell ⟨gd, k * 3, none⟩ (.int .i64 d.a)).setCell ⟨gd, k * 3 + 1, none⟩ (.int .i64 d.b)).setCell ⟨gd, k * 3 + 2, none⟩ (.int .i64 d.cost)).cell? ⟨gd, j, none⟩ = W.cell? ⟨gd, j, none⟩ := fun j a1 a2 a3 => by
    rw [World.cell?_setCell_other _ _ _ _ (by intro e; injection e with _ e; exact a3 e.symm), World.cell?_setCell_other _ _ _ _ (by intro e; injection e with _ e; exact a2 e.symm), World.cell?_setCell_other _ _ _ _ (by intro e; injection e with _ e; exact a1 e.symm)]
  have hgw : w.heap.size ≤ gd := q0
  refine ⟨((h.bel.setCell hgw _).setCell hgw _).setCell hgw _, by simp only [World.size_setCell]; exact h.lt, far (by show ob ≠ gd; omega) h.c0, far (by show ob ≠ gd; omega) h.c1, far (by show ob ≠ gd; omega) h.c2, far (by show ob ≠ gd; omega) h.c3, far (by show ob ≠ gd; omega) h.c4, far (by show ob ≠ gd; omega) h.c5,
    fun o => by rw [World.frozen?_setCell, World.frozen?_setCell, World.frozen?_setCell]; exact h.fz o, q0, q1, q2, q3, by simp [h.len], h.cap, fun i hi => ?_, fun o => by rw [World.frozen?_setCell, World.frozen?_setCell, World.frozen?_setCell]; exact h.df o, ?_, ?_⟩
  · have hi' : i < l.length := by simpa using hi
    have e : atD (l.set k d) i = if i = k then d else atD l i := by
      unfold atD
      simp only [List.getD, List.getElem?_set]
      by_cases e : k = i
      · subst e; rw [if_pos rfl, if_pos hk, if_pos rfl]; rfl
      · rw [if_neg e, if_neg (fun q => e q.symm)]
    by_cases q : i = k
    · subst q
      rw [e, if_pos rfl]
      refine ⟨?_, ?_, ?_⟩
      · rw [World.cell?_setCell_other _ _ _ _ (by intro e; injection e with _ e; omega), World.cell?_setCell_other _ _ _ _ (by intro e; injection e with _ e; omega)]
        exact World.cell?_setCell_same _ _ _ d0
      · rw [World.cell?_setCell_other _ _ _ _ (by intro e; injection e with _ e; omega)]
        exact World.cell?_setCell_same _ _ _ ((World.cell?_setCell_other _ _ _ _ (by intro e; injection e with _ e; omega)).trans d1)
      · exact World.cell?_setCell_same _ _ _ ((World.cell?_setCell_other _ _ _ _ (by intro e; injection e with _ e; omega)).trans ((World.cell?_setCell_other _ _ _ _ (by intro e; injection e with _ e; omega)).trans d2))
    · rw [e, if_neg q, row _ (by omega) (by omega) (by omega), row _ (by omega) (by omega) (by omega), row _ (by omega) (by omega) (by omega)]
      exact h.d i hi'
  · exact own_set (own_set (own_set h.os fun g hg => by injection hg with hg; subst hg; show gs ≠ gd; omega) fun g hg => by injection hg with hg; subst hg; show gs ≠ gd; omega) fun g hg => by injection hg with hg; subst hg; show gs ≠ gd; omega
  · exact own_set (own_set (own_set h.op fun g hg => by injection hg with hg; subst hg; show gp ≠ gd; omega) fun g hg => by injection hg with hg; subst hg; show gp ≠ gd; omega) fun g hg => by injection hg with hg; subst hg; show gp ≠ gd; omega
/-- The walker's own form: the doors set first, then the box, then the door's block. -/
theorem DSt.first {T1 : TypeId} {C : Array Value} {O2 : Obj} (hob : ob = wc.heap.size) (hC : C = #[.int .i64 b.n, .slice (some ⟨gd, 0, none⟩) b.doors.length cd, .slice (some ⟨gs, 0, none⟩) b.seen.length cs, .int .i64 b.look, .int .i64 b.eats, .slice (some ⟨gp, 0, none⟩) b.places.length cp])
    (h : OwnTrap b w gd cd gs cs gp cp wc) {k : Nat} (hk : k < b.doors.length) (d : BD) :
    DSt w b (b.doors.set k d) ob gd cd gs cs gp cp b.look b.eats (((((wc.setCell ⟨gd, k * 3, none⟩ (.int .i64 d.a)).setCell ⟨gd, k * 3 + 1, none⟩ (.int .i64 d.b)).setCell ⟨gd, k * 3 + 2, none⟩ (.int .i64 d.cost)).alloc (.cells C T1)).alloc O2) := by
  have lgd : gd < wc.heap.size := own_lt h.od rfl
  have h0 := (DSt.new (T1 := T1) hob hC h).door hk d
  rw [World.setCell_alloc_past _ _ _ _ lgd, World.setCell_alloc_past _ _ _ _ (by simpa using lgd), World.setCell_alloc_past _ _ _ _ (by simpa using lgd)] at h0
  exact h0.go ((Bel.refl _).alloc _)
theorem DSt.costs (h : DSt w b l ob gd cd gs cs gp cp lk et W) (lk' et' : Int) : DSt w b l ob gd cd gs cs gp cp lk' et' ((W.setCell ⟨ob, 3, none⟩ (.int .i64 lk')).setCell ⟨ob, 4, none⟩ (.int .i64 et')) := by
  have q1 := h.hgs
  have q2 := h.hgp
  have q3 := h.hob
  have q0 := h.hgd
  have far : ∀ {p u}, p ≠ ⟨ob, 3, none⟩ → p ≠ ⟨ob, 4, none⟩ → W.cell? p = some u → ((W.setCell ⟨ob, 3, none⟩ (.int .i64 lk')).setCell ⟨ob, 4, none⟩ (.int .i64 et')).cell? p = some u := fun {p u} a1 a2 hc => by
    rw [World.cell?_setCell_other _ _ _ _ (fun e => a2 e.symm), World.cell?_setCell_other _ _ _ _ (fun e => a1 e.symm)]; exact hc
  have ne : ∀ {c j i : Nat}, c ≠ ob ∨ j ≠ i → (⟨c, j, none⟩ : Addr) ≠ ⟨ob, i, none⟩ := fun {c j i} hn e => by injection e with e1 e2; omega
  have hgw : w.heap.size ≤ ob := by omega
  refine ⟨(h.bel.setCell hgw _).setCell hgw _, by simp only [World.size_setCell]; exact h.lt, far (ne (by omega)) (ne (by omega)) h.c0, far (ne (by omega)) (ne (by omega)) h.c1, far (ne (by omega)) (ne (by omega)) h.c2,
    (World.cell?_setCell_other _ _ _ _ (ne (c := ob) (j := 4) (i := 3) (by omega))).trans (World.cell?_setCell_same _ _ _ h.c3), World.cell?_setCell_same _ _ _ ((World.cell?_setCell_other _ _ _ _ (ne (c := ob) (j := 3) (i := 4) (by omega))).trans h.c4), far (ne (by omega)) (ne (by omega)) h.c5,
    fun o => by rw [World.frozen?_setCell, World.frozen?_setCell]; exact h.fz o, q0, q1, q2, q3, h.len, h.cap, fun i hi => ⟨far (ne (by omega)) (ne (by omega)) (h.d i hi).1, far (ne (by omega)) (ne (by omega)) (h.d i hi).2.1, far (ne (by omega)) (ne (by omega)) (h.d i hi).2.2⟩, fun o => by rw [World.frozen?_setCell, World.frozen?_setCell]; exact h.df o, ?_, ?_⟩
  · exact own_set (own_set h.os fun g hg => by injection hg with hg; subst hg; show gs ≠ ob; omega) fun g hg => by injection hg with hg; subst hg; show gs ≠ ob; omega
  · exact own_set (own_set h.op fun g hg => by injection hg with hg; subst hg; show gp ≠ ob; omega) fun g hg => by injection hg with hg; subst hg; show gp ≠ ob; omega
theorem DSt.trap (h : DSt w b l ob gd cd gs cs gp cp lk et W) (h1 : b.doors.length ≤ 1000) (h2 : b.seen.length ≤ 1000) (h3 : b.places.length ≤ 1000) :
    BTrapAt W (.agg #[.int .i64 b.n, .slice (some ⟨gd, 0, none⟩) b.doors.length cd, .slice (some ⟨gs, 0, none⟩) b.seen.length cs, .int .i64 lk, .int .i64 et, .slice (some ⟨gp, 0, none⟩) b.places.length cp]) { b with doors := l, look := lk, eats := et } := by
  refine ⟨_, _, _, rfl, ?_, ownInts (l := b.seen) (by omega) h.os, ownInts (l := b.places) (by omega) h.op⟩
  have hl := h.len
  have hcap := h.cap
  exact ⟨_, cd, gd, 0, by rw [← hl], fun _ => rfl, ⟨by show l.length ≤ _; omega, by show l.length ≤ _; omega⟩, fun i hi => by simpa using h.d i hi⟩
end Go.Proofs.YtogiidkofddhaaaDoor
