/-
  beasts: the reference's table of costs: what it is when no step makes it less; its next step. Plain laws.
-/
import Derived.Test.YtogiidkofddhaaaDoorBR
namespace Go.Proofs.YtogiidkofddhaaaDoor
/-- What a step leaves of some places, each part that is not empty. -/
def partsM (b : BT) (m : Nat) (x : BS) : List Nat :=
  if x.k = 1 then [mvB (atD b.doors x.x.toNat) m] else
    (if m &&& bitP x.x = 0 then [] else [m &&& bitP x.x]) ++ (if m ^^^ (m &&& bitP x.x) = 0 then [] else [m ^^^ (m &&& bitP x.x)])
def wrst (c : List Int) (l : List Nat) : Int := l.foldl (fun s m => max s (at0 c m)) 0
def withR (b : BT) (c : List Int) (m : Nat) (x : BS) (per stp : Int) : Int := min 1099511627776 (costS b x * per + stp + wrst c (partsM b m x))
def stepsR (b : BT) (looks : Bool) : List BS := (List.range b.doors.length).map (fun i => ⟨1, (i : Int)⟩) ++ if looks then b.seen.map (fun c => ⟨2, c⟩) else []
theorem dTo_map (b : BT) (m : Nat) : ∀ k, dTo b m k = (List.range k).map fun i => (⟨1, (i : Int)⟩, [mvB (atD b.doors i) m])
  | 0 => rfl
  | k + 1 => by
    unfold dTo
    rw [dTo_map b m k, List.range_succ, List.map_append]
    rfl
theorem lTo_map (b : BT) (m : Nat) : ∀ k, k ≤ b.seen.length → lTo b m k = ((b.seen.take k).filter (splits m)).map (lStep m)
  | 0, _ => rfl
  | k + 1, h => by
    unfold lTo
    rw [lTo_map b m k (by omega), List.take_succ_eq_append_getElem (by omega), List.filter_append, List.map_append]
    have e : at0 b.seen k = b.seen[k] := by unfold at0; exact getD_lt b.seen k 0 (by omega)
    rw [e]
    by_cases hs : splits m b.seen[k] = true
    · rw [if_pos hs, List.filter_cons, if_pos hs]; rfl
    · rw [if_neg hs, List.filter_cons, if_neg hs]; simp
theorem stepsOf_map (b : BT) (looks : Bool) (m : Nat) : stepsOf b looks m = ((List.range b.doors.length).map fun i => (⟨1, (i : Int)⟩, [mvB (atD b.doors i) m])) ++ if looks then (b.seen.filter (splits m)).map (lStep m) else [] := by
  unfold stepsOf
  rw [dTo_map, lTo_map b m _ (Nat.le_refl _), List.take_length]
theorem mem_stepsR {b : BT} {looks : Bool} {x : BS} : x ∈ stepsR b looks ↔ (∃ i : Nat, i < b.doors.length ∧ x = ⟨1, (i : Int)⟩) ∨ (looks = true ∧ ∃ c, c ∈ b.seen ∧ x = ⟨2, c⟩) := by
  unfold stepsR
  rw [List.mem_append]
  refine or_congr ?_ ?_
  · rw [List.mem_map]
    constructor
    · rintro ⟨i, h1, h2⟩; exact ⟨i, List.mem_range.1 h1, h2.symm⟩
    · rintro ⟨i, h1, h2⟩; exact ⟨i, List.mem_range.2 h1, h2.symm⟩
  · cases looks
    · simp
    · simp only [if_true, List.mem_map, true_and]
      constructor
      · rintro ⟨c, h1, h2⟩; exact ⟨c, h1, h2.symm⟩
      · rintro ⟨c, h1, h2⟩; exact ⟨c, h1, h2.symm⟩
theorem stepsR_stp {b : BT} {looks : Bool} {x : BS} (h : x ∈ stepsR b looks) : IsStp b x := by
  rcases mem_stepsR.1 h with ⟨i, h1, rfl⟩ | ⟨_, c, hc, rfl⟩
  · exact .inl ⟨rfl, by simp only []; omega, by simp only []; omega⟩
  · exact .inr ⟨rfl, hc⟩
theorem partsM_door (b : BT) (m i : Nat) : partsM b m ⟨1, (i : Int)⟩ = [mvB (atD b.doors i) m] := by unfold partsM; rw [if_pos rfl]; rfl
theorem partsM_look (b : BT) (m : Nat) (c : Int) : partsM b m ⟨2, c⟩ = (if m &&& bitP c = 0 then [] else [m &&& bitP c]) ++ (if m ^^^ (m &&& bitP c) = 0 then [] else [m ^^^ (m &&& bitP c)]) := by
  unfold partsM
  rw [if_neg (by show ¬ (2 : Int) = 1; omega)]
theorem xor_zero {m k : Nat} (h : m ^^^ k = 0) : k = m := by
  refine Nat.eq_of_testBit_eq fun i => ?_
  have := congrArg (fun a => Nat.testBit a i) h
  simp only [Nat.testBit_xor, Nat.zero_testBit] at this
  cases e1 : m.testBit i <;> cases e2 : k.testBit i <;> rw [e1, e2] at this <;> simp at this <;> rfl
theorem partsM_split (b : BT) {m : Nat} {c : Int} (h : splits m c = true) : partsM b m ⟨2, c⟩ = (lStep m c).2 := by
  unfold splits at h
  simp only [Bool.and_eq_true_iff, decide_eq_true_eq] at h
  rw [partsM_look, if_neg h.1, if_neg (fun e => h.2 (xor_zero e))]
  rfl
theorem partsM_whole (b : BT) {m : Nat} {c : Int} (hm : m ≠ 0) (h : splits m c = false) : partsM b m ⟨2, c⟩ = [m] := by
  unfold splits at h
  simp only [Bool.and_eq_false_iff, decide_eq_false_iff_not, Decidable.not_not] at h
  rw [partsM_look]
  rcases h with h | h
  · rw [if_pos h, h, Nat.xor_zero, if_neg hm]; rfl
  · rw [h, Nat.xor_self, if_pos rfl, if_neg hm]; rfl
/-- A step of the reference is one of the plan's, or it leaves all as it was. -/
theorem parts_step {b : BT} {looks : Bool} {m : Nat} (hm : m ≠ 0) {x : BS} (hx : x ∈ stepsR b looks) : (x, partsM b m x) ∈ stepsOf b looks m ∨ partsM b m x = [m] := by
  rcases mem_stepsR.1 hx with ⟨i, hi, rfl⟩ | ⟨hl, c, hc, rfl⟩
  · exact .inl (mem_steps.2 (.inl ⟨i, hi, by rw [partsM_door]⟩))
  · cases hs : splits m c with
    | true => exact .inl (mem_steps.2 (.inr ⟨hl, c, hc, hs, by rw [partsM_split b hs]; rfl⟩))
    | false => exact .inr (partsM_whole b hm hs)
theorem step_parts {b : BT} {looks : Bool} {m : Nat} {y : BS × List Nat} (hy : y ∈ stepsOf b looks m) : y.1 ∈ stepsR b looks ∧ y.2 = partsM b m y.1 := by
  rcases mem_steps.1 hy with ⟨i, hi, rfl⟩ | ⟨hl, c, hc, hs, rfl⟩
  · exact ⟨mem_stepsR.2 (.inl ⟨i, hi, rfl⟩), by rw [partsM_door]⟩
  · exact ⟨mem_stepsR.2 (.inr ⟨hl, c, hc, rfl⟩), (partsM_split b hs).symm⟩
theorem wrst_aux (c : List Int) : ∀ (l : List Nat) (s : Int), s ≤ l.foldl (fun s m => max s (at0 c m)) s ∧ ∀ m, m ∈ l → at0 c m ≤ l.foldl (fun s m => max s (at0 c m)) s
  | [], s => ⟨Int.le_refl _, fun m h => absurd h (by simp)⟩
  | t :: l, s => by
    obtain ⟨h1, h2⟩ := wrst_aux c l (max s (at0 c t))
    rw [List.foldl_cons]
    refine ⟨by omega, fun m hm => ?_⟩
    rcases List.mem_cons.1 hm with rfl | hm
    · omega
    · exact h2 m hm
theorem wrst_ge {c : List Int} {l : List Nat} : 0 ≤ wrst c l ∧ ∀ m, m ∈ l → at0 c m ≤ wrst c l := wrst_aux c l 0
theorem wrst_le_aux {c : List Int} {u : Int} : ∀ (l : List Nat) (s : Int), s ≤ u → (∀ m, m ∈ l → at0 c m ≤ u) → l.foldl (fun s m => max s (at0 c m)) s ≤ u
  | [], s, h, _ => h
  | t :: l, s, h, h2 => by
    rw [List.foldl_cons]
    have := h2 t (List.mem_cons_self ..)
    exact wrst_le_aux l _ (by omega) fun m hm => h2 m (List.mem_cons_of_mem _ hm)
theorem wrst_le {c : List Int} {l : List Nat} {u : Int} (h0 : 0 ≤ u) (h : ∀ m, m ∈ l → at0 c m ≤ u) : wrst c l ≤ u := wrst_le_aux l 0 h0 h
/-- The reference's table, as far as it is made. -/
structure TabR (b : BT) (looks : Bool) (per stp : Int) (c : List Int) : Prop where
  len : c.length = 2 ^ (b.n.toNat + 1)
  one : at0 c 1 = 0
  ok : ∀ m, Dom b m → at0 c m = 1099511627776 ∨ (0 ≤ at0 c m ∧ at0 c m < 1099511627776 ∧ Can b looks per stp m (at0 c m))
theorem TabR.in {b : BT} {looks : Bool} {per stp : Int} {c : List Int} (h : TabR b looks per stp c) {m : Nat} (hm : Dom b m) : 0 ≤ at0 c m ∧ at0 c m ≤ 1099511627776 := by
  rcases h.ok m hm with e | ⟨e1, e2, _⟩ <;> omega
theorem at0_set {c : List Int} {m k : Nat} {v : Int} (hm : m < c.length) : at0 (c.set m v) k = if k = m then v else at0 c k := by
  unfold at0
  simp only [List.getD, List.getElem?_set]
  by_cases e : m = k
  · subst e; rw [if_pos rfl, if_pos hm, if_pos rfl]; rfl
  · rw [if_neg e, if_neg (fun q => e q.symm)]
theorem cost_stp {b : BT} (hb : Okb b) {x : BS} (hx : IsStp b x) : 1 ≤ costS b x ∧ costS b x ≤ 29 := by
  obtain ⟨_, _, _, _⟩ := (⟨hb.l1, hb.l2, hb.e1, hb.e2⟩ : 0 ≤ b.look ∧ b.look ≤ 20 ∧ 1 ≤ b.eats ∧ b.eats ≤ 9)
  unfold costS
  rcases hx with ⟨e, g1, g2⟩ | ⟨e, _⟩
  · rw [if_neg (by omega)]
    obtain ⟨_, _, _, _, _⟩ := hb.dk x.x.toNat (by omega)
    omega
  · rw [if_pos e]; omega
theorem wt_stp {b : BT} (hb : Okb b) {per stp : Int} (hw : Way per stp) {x : BS} (hx : IsStp b x) : 1 ≤ costS b x * per + stp := by
  have := cost_stp hb hx
  have h1 := hw.per
  have h2 := hw.stp
  have := Int.mul_le_mul this.1 h1 (by omega) (by omega)
  omega
/-- A lesser cost is one of a plan. -/
theorem TabR.put {b : BT} (hb : Okb b) {looks : Bool} {per stp : Int} (hw : Way per stp) {c : List Int} (h : TabR b looks per stp c) {m : Nat} (hm : Dom b m) (h1 : m ≠ 1) {x : BS} (hx : x ∈ stepsR b looks) (hlt : withR b c m x per stp < at0 c m) :
    TabR b looks per stp (c.set m (withR b c m x per stp)) ∧ 0 ≤ withR b c m x per stp := by
  have hmax := (h.in hm).2
  have hml : m < c.length := by rw [h.len]; exact hm.2
  have hwt := wt_stp hb hw (stepsR_stp hx)
  have hge := wrst_ge (c := c) (l := partsM b m x)
  have e : withR b c m x per stp = costS b x * per + stp + wrst c (partsM b m x) := by unfold withR at hlt ⊢; omega
  have hpos : 0 ≤ withR b c m x per stp := by rw [e]; omega
  refine ⟨⟨by simp [h.len], ?_, fun k hk => ?_⟩, hpos⟩
  · rw [at0_set hml, if_neg (fun q => h1 q.symm)]; exact h.one
  · rw [at0_set hml]
    by_cases q : k = m
    · rw [if_pos q]
      refine .inr ⟨hpos, by omega, ?_⟩
      rw [q]
      rcases parts_step (b := b) (looks := looks) hm.1 hx with hs | hs
      · refine .step _ hs (p := wrst c (partsM b m x)) (fun t ht => ?_) (by rw [e]; exact Int.le_refl _)
        have htd := (steps_dom hb hm hs).2 t ht
        have hle := hge.2 t ht
        rcases h.ok t htd with g | ⟨_, _, g⟩
        · omega
        · exact g.up hle
      · have := hge.2 m (by rw [hs]; simp)
        omega
    · rw [if_neg q]; exact h.ok k hk
/-- No step makes it less. -/
def ClosR (b : BT) (looks : Bool) (per stp : Int) (c : List Int) : Prop := ∀ m, Dom b m → m ≠ 1 → ∀ x, x ∈ stepsR b looks → at0 c m ≤ withR b c m x per stp
theorem ClosR.le {b : BT} (hb : Okb b) {looks : Bool} {per stp : Int} (hw : Way per stp) {c : List Int} (h : TabR b looks per stp c) (hc : ClosR b looks per stp c) {m : Nat} {p : Int} (hp : Can b looks per stp m p) : Dom b m → p < 1099511627776 → at0 c m ≤ p := by
  induction hp with
  | sea h0 => intro _ _; rw [h.one]; exact h0
  | @step s p q x h1 h2 h3 ih =>
    intro hs hq
    by_cases e : s = 1
    · subst e
      rw [h.one]
      have := Can.nonneg hb hw (.step x h1 h2 h3) hs
      exact this
    · obtain ⟨g1, g2⟩ := step_parts h1
      have hwt := wt_pos hb hw h1
      obtain ⟨f1, f2⟩ := steps_dom hb hs h1
      obtain ⟨t, ht⟩ := List.exists_mem_of_ne_nil _ f1
      have hp0 := Can.nonneg hb hw (h2 t ht) (f2 t ht)
      have hcl := hc s hs e x.1 g1
      have hwr : wrst c (partsM b s x.1) ≤ p := wrst_le hp0 fun u hu => by
        rw [← g2] at hu
        exact ih u hu (f2 u hu) (by omega)
      unfold withR at hcl
      omega
/-- Bounds of prices. -/
def Small (b : BT) (looks : Bool) (per stp : Int) : Prop := ∀ s v, Dom b s → opt b looks per stp s = some v → v < 1099511000000
theorem small_1 {b : BT} (hb : Okb b) {looks : Bool} : Small b looks 1 0 := fun s v hs h => by
  rw [turns_1.optE hb way_1 hs] at h
  cases e : opt b looks 1048576 1 s with
  | none => rw [e] at h; cases h
  | some u =>
    rw [e] at h
    injection h with h
    obtain ⟨c, n, q, _, _, _, _⟩ := opt_shp hb hs e
    simp only [] at h
    omega
theorem small_m {b : BT} (hb : Okb b) {looks : Bool} : Small b looks 1000 1 := fun s v hs h => by
  rw [turns_m.optE hb way_m hs] at h
  cases e : opt b looks 1048576 1 s with
  | none => rw [e] at h; cases h
  | some u =>
    rw [e] at h
    injection h with h
    obtain ⟨c, n, q, _, _, _, _⟩ := opt_shp hb hs e
    simp only [] at h
    omega
/-- The table when no step makes it less: the least prices. -/
theorem ClosR.opt {b : BT} (hb : Okb b) {looks : Bool} {per stp : Int} (hw : Way per stp) (hsm : Small b looks per stp) {c : List Int} (h : TabR b looks per stp c) (hc : ClosR b looks per stp c) {m : Nat} (hm : Dom b m) :
    at0 c m = (Proofs.YtogiidkofddhaaaDoor.opt b looks per stp m).getD 1099511627776 := by
  cases e : Proofs.YtogiidkofddhaaaDoor.opt b looks per stp m with
  | none =>
    show at0 c m = 1099511627776
    rcases h.ok m hm with g | ⟨_, _, g⟩
    · exact g
    · exact absurd g ((opt_none hb hw hm).1 e _)
  | some v =>
    show at0 c m = v
    have hv := hsm m v hm e
    have hle := hc.le hb hw h (opt_can e) hm (by omega)
    rcases h.ok m hm with g | ⟨_, _, g⟩
    · omega
    · have := (opt_some.1 e).2 _ g
      omega
/-- The table of least prices. -/
def TabO (b : BT) (looks : Bool) (per stp : Int) (c : List Int) : Prop := c.length = 2 ^ (b.n.toNat + 1) ∧ ∀ m, Dom b m → at0 c m = (opt b looks per stp m).getD 1099511627776
theorem mxV_wrst {b : BT} (hb : Okb b) {looks : Bool} {per stp : Int} (hw : Way per stp) (hsm : Small b looks per stp) {c : List Int} (h : TabO b looks per stp c) : ∀ {l : List Nat}, (∀ t, t ∈ l → Dom b t) →
    (∀ m, mxV (opt b looks per stp) l = some m → wrst c l = m ∧ m < 1099511000000) ∧ (mxV (opt b looks per stp) l = none → 1099511627776 ≤ wrst c l) := by
  have key : ∀ (l : List Nat) (s : Int), 0 ≤ s → s < 1099511000000 → (∀ t, t ∈ l → Dom b t) →
      (∀ m, mxV (opt b looks per stp) l = some m → l.foldl (fun s m => max s (at0 c m)) s = max s m ∧ max s m < 1099511000000) ∧ (mxV (opt b looks per stp) l = none → 1099511627776 ≤ l.foldl (fun s m => max s (at0 c m)) s) := by
    intro l
    induction l with
    | nil =>
      intro s h0 h1 _
      refine ⟨fun m hm => ?_, fun hm => by unfold mxV at hm; cases hm⟩
      unfold mxV at hm
      injection hm with hm
      subst hm
      exact ⟨by show s = max s 0; omega, by omega⟩
    | cons t l ih =>
      intro s h0 h1 hl
      have ht := h.2 t (hl t (List.mem_cons_self ..))
      rw [List.foldl_cons]
      unfold mxV
      cases e : opt b looks per stp t with
      | none =>
        rw [e] at ht
        replace ht : at0 c t = 1099511627776 := ht
        refine ⟨fun m hm => by simp at hm, fun _ => ?_⟩
        have := (wrst_aux c l (max s (at0 c t))).1
        omega
      | some v =>
        rw [e] at ht
        replace ht : at0 c t = v := ht
        have hv0 := opt_nonneg hb hw (hl t (List.mem_cons_self ..)) e
        have hv1 := hsm t v (hl t (List.mem_cons_self ..)) e
        obtain ⟨i1, i2⟩ := ih (max s (at0 c t)) (by omega) (by omega) fun u hu => hl u (List.mem_cons_of_mem _ hu)
        cases e2 : mxV (opt b looks per stp) l with
        | none => exact ⟨fun m hm => by simp at hm, fun _ => i2 e2⟩
        | some k =>
          obtain ⟨j1, j2⟩ := i1 k e2
          refine ⟨fun m hm => ?_, fun hm => by simp at hm⟩
          simp only [Option.some.injEq] at hm
          subst hm
          rw [j1]
          constructor <;> omega
  intro l hl
  obtain ⟨k1, k2⟩ := key l 0 (by omega) (by omega) hl
  refine ⟨fun m hm => ?_, k2⟩
  obtain ⟨h1, h2⟩ := k1 m hm
  have := (mxV_le hm).1
  unfold wrst
  rw [h1]
  constructor <;> omega
/-- The reference's first step with the table's cost. -/
def nextR (b : BT) (looks : Bool) (per stp : Int) (c : List Int) (s : Nat) : Option BS := (stepsR b looks).find? fun x => decide (withR b c s x per stp = at0 c s)
theorem with_eq {b : BT} (hb : Okb b) {looks : Bool} {per stp : Int} (hw : Way per stp) (hsm : Small b looks per stp) (hlo : per ≤ 1000 ∧ stp ≤ 1) {c : List Int} (h : TabO b looks per stp c) {s : Nat} (hs : Dom b s) {v : Int} (hv : opt b looks per stp s = some v) {y : BS × List Nat} (hy : y ∈ stepsOf b looks s) :
    (withR b c s y.1 per stp = at0 c s) ↔ stepV b per stp (opt b looks per stp) y = opt b looks per stp s := by
  obtain ⟨g1, g2⟩ := step_parts hy
  have hcs : at0 c s = v := by rw [h.2 s hs, hv]; rfl
  have hv1 := hsm s v hs hv
  have hd := (steps_dom hb hs hy).2
  obtain ⟨m1, m2⟩ := mxV_wrst hb hw hsm h (l := y.2) hd
  obtain ⟨c1, c2⟩ := cost_in hb hy
  have hcp : costS b y.1 * per ≤ 29 * 1000 := by
    have := hw.per
    have := Int.mul_le_mul c2 hlo.1 (by omega) (by omega)
    omega
  have hc0 : 0 ≤ costS b y.1 * per := Int.mul_nonneg (by omega) (by have := hw.per; omega)
  have hst := hw.stp
  rw [hcs, hv]
  unfold withR stepV
  rw [← g2]
  cases e : mxV (opt b looks per stp) y.2 with
  | none =>
    have := m2 e
    constructor
    · intro q; omega
    · intro q; simp at q
  | some k =>
    obtain ⟨j1, j2⟩ := m1 k e
    have k0 := (mxV_le e).1
    rw [j1]
    simp only [Option.map_some, Option.some.injEq]
    constructor <;> intro q <;> omega
theorem find_filter_map {α β : Type} {p : β → Bool} {q f : α → Bool} {g : α → β} : ∀ {l : List α}, (∀ a, a ∈ l → f a = true → q a = p (g a)) → (∀ a, a ∈ l → f a = false → q a = false) → (l.find? q).map g = ((l.filter f).map g).find? p
  | [], _, _ => rfl
  | a :: l, h1, h2 => by
    have ih := find_filter_map (p := p) (q := q) (f := f) (g := g) (l := l) (fun x hx => h1 x (List.mem_cons_of_mem _ hx)) (fun x hx => h2 x (List.mem_cons_of_mem _ hx))
    rw [List.find?_cons, List.filter_cons]
    cases hf : f a with
    | true =>
      have e := h1 a (List.mem_cons_self ..) hf
      rw [if_pos rfl, List.map_cons, List.find?_cons, ← e]
      cases q a <;> simp [ih]
    | false =>
      rw [h2 a (List.mem_cons_self ..) hf, if_neg (by simp)]
      simpa using ih
theorem find_app {α : Type} {p : α → Bool} (l k : List α) : (l ++ k).find? p = (l.find? p).or (k.find? p) := List.find?_append
/-- It is the plan's next step. -/
theorem nextR_eq {b : BT} (hb : Okb b) {looks : Bool} {per stp : Int} (hw : Way per stp) (hsm : Small b looks per stp) (hlo : per ≤ 1000 ∧ stp ≤ 1) {c : List Int} (h : TabO b looks per stp c) {s : Nat} (hs : Dom b s) {v : Int} (hv : opt b looks per stp s = some v) :
    (nextR b looks per stp c s).map (fun x => (x, partsM b s x)) = nextV b looks per stp (opt b looks per stp) s := by
  have hcs : at0 c s = v := by rw [h.2 s hs, hv]; rfl
  have hv1 := hsm s v hs hv
  unfold nextR nextV stepsR
  rw [stepsOf_map, find_app, find_app, Option.map_or]
  congr 1
  · rw [List.find?_map, List.find?_map, Option.map_map]
    have e : ∀ i, i ∈ List.range b.doors.length → ((fun x => decide (withR b c s x per stp = at0 c s)) ∘ fun i : Nat => (⟨1, (i : Int)⟩ : BS)) i = ((fun x => decide (stepV b per stp (opt b looks per stp) x = opt b looks per stp s)) ∘ fun i : Nat => ((⟨1, (i : Int)⟩ : BS), [mvB (atD b.doors i) s])) i := fun i hi => by
      have hy : ((⟨1, (i : Int)⟩ : BS), [mvB (atD b.doors i) s]) ∈ stepsOf b looks s := mem_steps.2 (.inl ⟨i, List.mem_range.1 hi, rfl⟩)
      exact decide_eq_decide.2 (with_eq hb hw hsm hlo h hs hv hy)
    rw [find_congr e]
    congr 1
  · cases looks with
    | false => rfl
    | true =>
      simp only [if_true]
      rw [List.find?_map, Option.map_map]
      refine Eq.trans ?_ (find_filter_map (g := lStep s) (f := splits s) (q := fun c' => decide (withR b c s ⟨2, c'⟩ per stp = at0 c s)) (fun a ha hf => ?_) fun a ha hf => ?_)
      · have e : ∀ o : Option Int, (∀ a, o = some a → splits s a = true) → o.map ((fun x => (x, partsM b s x)) ∘ fun c => (⟨2, c⟩ : BS)) = o.map (lStep s) := fun o ho => by
          cases o with
          | none => rfl
          | some a =>
            show some (_, partsM b s ⟨2, a⟩) = some (lStep s a)
            rw [partsM_split b (ho a rfl)]
            rfl
        refine e _ fun a ha => ?_
        have h1 := List.find?_some ha
        have h2 := List.mem_of_find?_eq_some ha
        cases hf : splits s a with
        | true => rfl
        | false =>
          simp only [Function.comp, decide_eq_true_eq] at h1
          unfold withR at h1
          rw [partsM_whole b hs.1 hf] at h1
          have := (wrst_ge (c := c) (l := [s])).2 s (by simp)
          have := wt_stp hb hw (x := ⟨2, a⟩) (.inr ⟨rfl, h2⟩)
          omega
      · have hy : lStep s a ∈ stepsOf b true s := mem_steps.2 (.inr ⟨rfl, a, ha, hf, rfl⟩)
        exact decide_eq_decide.2 (with_eq hb hw hsm hlo h hs hv hy)
      · refine decide_eq_false fun h1 => ?_
        unfold withR at h1
        rw [partsM_whole b hs.1 hf] at h1
        have := (wrst_ge (c := c) (l := [s])).2 s (by simp)
        have := wt_stp hb hw (x := ⟨2, a⟩) (.inr ⟨rfl, ha⟩)
        omega
end Go.Proofs.YtogiidkofddhaaaDoor
