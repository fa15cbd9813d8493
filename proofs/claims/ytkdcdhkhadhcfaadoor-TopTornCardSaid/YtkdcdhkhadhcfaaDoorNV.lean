/-
  anchors: nets, truths, what each anchor bears, what drags at last; it grows with the loads. Plain laws.
-/
import Derived.Test.YtkdcdhkhadhcfaaDoorData
namespace Go.Proofs.YtkdcdhkhadhcfaaDoor
structure NSp where
  lo : Int
  hi : Int
deriving DecidableEq, Inhabited
structure NAn where
  wt : Int
  bt : Int
deriving DecidableEq, Inhabited
structure NWl where
  sail : Int
  drag : Int
  lean : Int
  corks : Int
  stones : Int
deriving DecidableEq, Inhabited
structure Net where
  wind : NSp
  cur : NSp
  grips : List NSp
  an : List NAn
  walls : List NWl
deriving DecidableEq, Inhabited
structure NTr where
  wind : Int
  cur : Int
  grips : List Int
deriving DecidableEq, Inhabited
def atG (l : List NSp) (i : Nat) : NSp := l.getD i default
def atA (l : List NAn) (i : Nat) : NAn := l.getD i default
def atWl (l : List NWl) (i : Nat) : NWl := l.getD i default
def spB (s : NSp) (m : Int) : Bool := withinB s.hi 0 m && withinB s.lo 0 s.hi
def anB (g : Nat) (a : NAn) : Bool := withinB a.wt 0 20 && withinB a.bt 0 ((g : Int) - 1)
def wlB (x : NWl) : Bool := withinB x.sail 0 9 && (withinB x.drag 0 9 && (withinB x.lean 0 9 && (withinB x.corks 0 99 && withinB x.stones 0 99)))
def gripsB (l : List NSp) : Bool := allB l.length fun i => spB (atG l i) 9
def ansB (g : Nat) (l : List NAn) : Bool := allB l.length fun i => anB g (atA l i)
def wallsB (l : List NWl) : Bool := allB l.length fun i => wlB (atWl l i)
def headB (n : Net) : Bool := spB n.wind 20 && (spB n.cur 20 && (decide (n.grips.length ≤ 3) && (decide (n.an.length ≤ 6) && decide (n.walls.length = n.an.length - 1))))
def netB (n : Net) : Bool := headB n && (gripsB n.grips && (ansB n.grips.length n.an && wallsB n.walls))
def netE (n : Net) : Int := if netB n then 0 else 20
/-- What a valid net is. -/
structure NetOk (n : Net) : Prop where
  w : 0 ≤ n.wind.lo ∧ n.wind.lo ≤ n.wind.hi ∧ n.wind.hi ≤ 20
  c : 0 ≤ n.cur.lo ∧ n.cur.lo ≤ n.cur.hi ∧ n.cur.hi ≤ 20
  gl : n.grips.length ≤ 3
  al : n.an.length ≤ 6
  wl : n.walls.length = n.an.length - 1
  g : ∀ i, i < n.grips.length → 0 ≤ (atG n.grips i).lo ∧ (atG n.grips i).lo ≤ (atG n.grips i).hi ∧ (atG n.grips i).hi ≤ 9
  a : ∀ i, i < n.an.length → 0 ≤ (atA n.an i).wt ∧ (atA n.an i).wt ≤ 20 ∧ 0 ≤ (atA n.an i).bt ∧ (atA n.an i).bt < n.grips.length
  x : ∀ i, i < n.walls.length → (0 ≤ (atWl n.walls i).sail ∧ (atWl n.walls i).sail ≤ 9) ∧ (0 ≤ (atWl n.walls i).drag ∧ (atWl n.walls i).drag ≤ 9) ∧ (0 ≤ (atWl n.walls i).lean ∧ (atWl n.walls i).lean ≤ 9) ∧ (0 ≤ (atWl n.walls i).corks ∧ (atWl n.walls i).corks ≤ 99) ∧ 0 ≤ (atWl n.walls i).stones ∧ (atWl n.walls i).stones ≤ 99
theorem netB_iff {n : Net} : netB n = true ↔ NetOk n := by
  unfold netB headB gripsB ansB wallsB
  simp only [Bool.and_eq_true, decide_eq_true_eq, allB_iff, spB, anB, wlB, withinB_true]
  constructor
  · rintro ⟨⟨⟨a1, a2⟩, ⟨a3, a4⟩, a5, a6, a7⟩, b1, b2, b3⟩
    exact ⟨⟨a2.1, a2.2, a1.2⟩, ⟨a4.1, a4.2, a3.2⟩, a5, a6, a7, fun i hi => ⟨(b1 i hi).2.1, (b1 i hi).2.2, (b1 i hi).1.2⟩, fun i hi => ⟨(b2 i hi).1.1, (b2 i hi).1.2, (b2 i hi).2.1, by have := (b2 i hi).2.2; omega⟩, b3⟩
  · rintro ⟨a1, a2, a3, a4, a5, b1, b2, b3⟩
    refine ⟨⟨⟨⟨by omega, a1.2.2⟩, a1.1, a1.2.1⟩, ⟨⟨by omega, a2.2.2⟩, a2.1, a2.2.1⟩, a3, a4, a5⟩, fun i hi => ?_, fun i hi => ?_, b3⟩
    · obtain ⟨c1, c2, c3⟩ := b1 i hi
      exact ⟨⟨by omega, c3⟩, c1, c2⟩
    · obtain ⟨c1, c2, c3, c4⟩ := b2 i hi
      exact ⟨⟨c1, c2⟩, c3, by omega⟩
def ntrB (n : Net) (t : NTr) : Bool := withinB t.wind n.wind.lo n.wind.hi && (withinB t.cur n.cur.lo n.cur.hi && (decide (t.grips.length = n.grips.length) && allB t.grips.length fun i => withinB (at0 t.grips i) (atG n.grips i).lo (atG n.grips i).hi))
structure TrOk (n : Net) (t : NTr) : Prop where
  w : n.wind.lo ≤ t.wind ∧ t.wind ≤ n.wind.hi
  c : n.cur.lo ≤ t.cur ∧ t.cur ≤ n.cur.hi
  l : t.grips.length = n.grips.length
  g : ∀ i, i < t.grips.length → (atG n.grips i).lo ≤ at0 t.grips i ∧ at0 t.grips i ≤ (atG n.grips i).hi
theorem ntrB_iff {n : Net} {t : NTr} : ntrB n t = true ↔ TrOk n t := by
  unfold ntrB
  simp only [Bool.and_eq_true, decide_eq_true_eq, allB_iff, withinB_true]
  constructor
  · rintro ⟨a, b, c, d⟩; exact ⟨a, b, c, d⟩
  · rintro ⟨a, b, c, d⟩; exact ⟨a, b, c, d⟩
/-! What an anchor bears -/
def halfL (n : Net) (t : NTr) (k : Nat) : Int := (atWl n.walls k).sail * t.wind + (atWl n.walls k).drag * t.cur
def sideL (n : Net) (t : NTr) (D k o : Nat) : Int := if D.testBit o then 2 * halfL n t k else halfL n t k
def lftL (n : Net) (t : NTr) (i D : Nat) : Int := if i = 0 then 0 else sideL n t D (i - 1) (i - 1)
def rgtL (n : Net) (t : NTr) (i D : Nat) : Int := if i < n.walls.length then sideL n t D i (i + 1) else 0
def bearsL (n : Net) (t : NTr) (i D : Nat) : Int := lftL n t i D + rgtL n t i D
def canL (n : Net) (t : NTr) (i : Nat) : Int := 2 * (atA n.an i).wt * at0 t.grips (atA n.an i).bt.toNat
def spareL (n : Net) (t : NTr) (i D : Nat) : Int := canL n t i - bearsL n t i D
def hitL (n : Net) (t : NTr) (D i : Nat) : Bool := !D.testBit i && decide (spareL n t i D < 0)
def stepTo (n : Net) (t : NTr) (D : Nat) : Nat → Nat
  | 0 => D
  | k + 1 => if hitL n t D k then stepTo n t D k ||| 2 ^ k else stepTo n t D k
def stepM (n : Net) (t : NTr) (D : Nat) : Nat := stepTo n t D n.an.length
theorem stepTo_bit {n : Net} {t : NTr} {D : Nat} {j : Nat} : ∀ k, (stepTo n t D k).testBit j = true ↔ D.testBit j = true ∨ (j < k ∧ hitL n t D j = true)
  | 0 => by show D.testBit j = true ↔ _; simp
  | k + 1 => by
    have ih := stepTo_bit (n := n) (t := t) (D := D) (j := j) k
    unfold stepTo
    by_cases h : hitL n t D k = true
    · rw [if_pos h, Nat.testBit_or, Bool.or_eq_true, ih, Nat.testBit_two_pow]
      simp only [decide_eq_true_eq]
      constructor
      · rintro ((a | ⟨a, b⟩) | rfl)
        · exact .inl a
        · exact .inr ⟨by omega, b⟩
        · exact .inr ⟨by omega, h⟩
      · rintro (a | ⟨a, b⟩)
        · exact .inl (.inl a)
        · by_cases e : k = j
          · exact .inr e
          · exact .inl (.inr ⟨by omega, b⟩)
    · rw [if_neg h, ih]
      constructor
      · rintro (a | ⟨a, b⟩)
        · exact .inl a
        · exact .inr ⟨by omega, b⟩
      · rintro (a | ⟨a, b⟩)
        · exact .inl a
        · by_cases e : j = k
          · rw [e] at b; exact absurd b h
          · exact .inr ⟨by omega, b⟩
theorem step_bit {n : Net} {t : NTr} {D j : Nat} : (stepM n t D).testBit j = true ↔ D.testBit j = true ∨ (j < n.an.length ∧ spareL n t j D < 0) := by
  unfold stepM
  rw [stepTo_bit]
  unfold hitL
  rw [Bool.and_eq_true, decide_eq_true_eq, Bool.not_eq_true']
  constructor
  · rintro (a | ⟨a, _, b⟩)
    · exact .inl a
    · exact .inr ⟨a, b⟩
  · rintro (a | ⟨a, b⟩)
    · exact .inl a
    · cases h : D.testBit j
      · exact .inr ⟨a, rfl, b⟩
      · exact .inl rfl
def NSub (a b : Nat) : Prop := ∀ i, a.testBit i = true → b.testBit i = true
theorem NSub.le {a b : Nat} (h : NSub a b) : a ≤ b := by
  have e : a &&& b = a := Nat.eq_of_testBit_eq fun i => by
    rw [Nat.testBit_and]
    cases q : a.testBit i
    · rfl
    · rw [h i q]; rfl
  rw [← e]; exact Nat.and_le_right
theorem NSub.antisymm {a b : Nat} (h : NSub a b) (k : NSub b a) : a = b := Nat.le_antisymm h.le k.le
theorem step_sub {n : Net} {t : NTr} {D : Nat} : NSub D (stepM n t D) := fun _ h => step_bit.2 (.inl h)
/-- Loads that are not less. -/
structure Heavier (n o : Net) : Prop where
  an : o.an = n.an
  wl : o.walls.length = n.walls.length
  sail : ∀ i, i < n.walls.length → (atWl n.walls i).sail ≤ (atWl o.walls i).sail
  drag : ∀ i, i < n.walls.length → (atWl o.walls i).drag = (atWl n.walls i).drag
theorem Heavier.rfl' (n : Net) : Heavier n n := ⟨rfl, rfl, fun _ _ => Int.le_refl _, fun _ _ => rfl⟩
theorem Heavier.trans {a b c : Net} (h : Heavier a b) (k : Heavier b c) : Heavier a c :=
  ⟨k.an.trans h.an, k.wl.trans h.wl, fun i hi => Int.le_trans (h.sail i hi) (k.sail i (by rw [h.wl]; exact hi)), fun i hi => (k.drag i (by rw [h.wl]; exact hi)).trans (h.drag i hi)⟩
theorem half_le {n o : Net} (h : Heavier n o) {t : NTr} (hw : 0 ≤ t.wind) {k : Nat} (hk : k < n.walls.length) : halfL n t k ≤ halfL o t k := by
  unfold halfL
  rw [h.drag k hk]
  have := Int.mul_le_mul_of_nonneg_right (h.sail k hk) hw
  omega
theorem half_nn {n : Net} (hn : NetOk n) {t : NTr} (ht : TrOk n t) {k : Nat} (hk : k < n.walls.length) : 0 ≤ halfL n t k ∧ halfL n t k ≤ 360 := by
  unfold halfL
  obtain ⟨a, b, _⟩ := hn.x k hk
  have w1 := ht.w
  have w2 := hn.w
  have c1 := ht.c
  have c2 := hn.c
  have e1 : 0 ≤ (atWl n.walls k).sail * t.wind ∧ (atWl n.walls k).sail * t.wind ≤ 9 * 20 := ⟨Int.mul_nonneg a.1 (by omega), Int.mul_le_mul a.2 (by omega) (by omega) (by omega)⟩
  have e2 : 0 ≤ (atWl n.walls k).drag * t.cur ∧ (atWl n.walls k).drag * t.cur ≤ 9 * 20 := ⟨Int.mul_nonneg b.1 (by omega), Int.mul_le_mul b.2 (by omega) (by omega) (by omega)⟩
  omega
theorem side_le {n o : Net} (h : Heavier n o) (hn : NetOk n) {t : NTr} (ht : TrOk n t) {D E k j : Nat} (hs : NSub D E) (hk : k < n.walls.length) : sideL n t D k j ≤ sideL o t E k j := by
  have h0 := (half_nn hn ht hk).1
  have h1 := half_le h (t := t) (by have := ht.w; have := hn.w; omega) hk
  unfold sideL
  by_cases a : D.testBit j = true
  · rw [if_pos a, if_pos (hs j a)]; omega
  · rw [if_neg a]
    by_cases b : E.testBit j = true
    · rw [if_pos b]; omega
    · rw [if_neg b]; omega
theorem bears_le {n o : Net} (h : Heavier n o) (hn : NetOk n) {t : NTr} (ht : TrOk n t) {D E i : Nat} (hs : NSub D E) (hi : i < n.an.length) : bearsL n t i D ≤ bearsL o t i E := by
  have hw := hn.wl
  have e1 : lftL n t i D ≤ lftL o t i E := by
    unfold lftL
    by_cases e : i = 0
    · rw [if_pos e, if_pos e]; exact Int.le_refl _
    · rw [if_neg e, if_neg e]; exact side_le h hn ht hs (by omega)
  have e2 : rgtL n t i D ≤ rgtL o t i E := by
    unfold rgtL
    rw [h.wl]
    by_cases e : i < n.walls.length
    · rw [if_pos e, if_pos e]; exact side_le h hn ht hs e
    · rw [if_neg e, if_neg e]; exact Int.le_refl _
  unfold bearsL
  omega
theorem step_mono {n o : Net} (h : Heavier n o) (hn : NetOk n) {t : NTr} (ht : TrOk n t) {D E : Nat} (hs : NSub D E) : NSub (stepM n t D) (stepM o t E) := fun i hi => by
  rcases step_bit.1 hi with a | ⟨a, b⟩
  · exact step_bit.2 (.inl (hs i a))
  · refine step_bit.2 (.inr ⟨by rw [h.an]; exact a, ?_⟩)
    have := bears_le h hn ht hs a
    unfold spareL at b ⊢
    have e : canL o t i = canL n t i := by unfold canL; rw [h.an]
    rw [e]
    omega
/-- What can have dragged, as far as it was followed. -/
inductive Drg (n : Net) (t : NTr) : Nat → Prop where
  | none : Drg n t 0
  | more {D : Nat} : Drg n t D → Drg n t (stepM n t D)
/-- What has dragged at last. -/
def Fin (n : Net) (t : NTr) (D : Nat) : Prop := Drg n t D ∧ stepM n t D = D
theorem drg_fin {n o : Net} (h : Heavier n o) (hn : NetOk n) {t : NTr} (ht : TrOk n t) {D E : Nat} (hd : Drg n t D) (he : stepM o t E = E) : NSub D E := by
  induction hd with
  | none => intro i hi; simp at hi
  | more _ ih =>
    have := step_mono h hn ht ih
    rw [he] at this
    exact this
theorem fin_mono {n o : Net} (h : Heavier n o) (hn : NetOk n) {t : NTr} (ht : TrOk n t) {D E : Nat} (hd : Fin n t D) (he : Fin o t E) : NSub D E := drg_fin h hn ht hd.1 he.2
theorem fin_uniq {n : Net} (hn : NetOk n) {t : NTr} (ht : TrOk n t) {D E : Nat} (hd : Fin n t D) (he : Fin n t E) : D = E :=
  (fin_mono (.rfl' n) hn ht hd he).antisymm (fin_mono (.rfl' n) hn ht he hd)
theorem step_lt {n : Net} (hn : NetOk n) {t : NTr} {D : Nat} (hd : D < 64) : stepM n t D < 64 := by
  refine Nat.lt_pow_two_of_testBit (n := 6) _ fun i hi => ?_
  cases h : (stepM n t D).testBit i
  · rfl
  · rcases step_bit.1 h with a | ⟨a, _⟩
    · rw [Nat.testBit_lt_two_pow (Nat.lt_of_lt_of_le hd (Nat.pow_le_pow_right (n := 2) (by omega) hi))] at a; cases a
    · have := hn.al; omega
theorem stepTo_lt {n : Net} (hn : NetOk n) {t : NTr} {D k : Nat} (hd : D < 64) (hk : k ≤ n.an.length) : stepTo n t D k < 64 := by
  refine Nat.lt_pow_two_of_testBit (n := 6) _ fun i hi => ?_
  cases h : (stepTo n t D k).testBit i
  · rfl
  · rcases (stepTo_bit k).1 h with a | ⟨a, _⟩
    · rw [Nat.testBit_lt_two_pow (Nat.lt_of_lt_of_le hd (Nat.pow_le_pow_right (n := 2) (by omega) hi))] at a; cases a
    · have := hn.al; omega
theorem drg_lt {n : Net} (hn : NetOk n) {t : NTr} {D : Nat} (h : Drg n t D) : D < 64 := by
  induction h with
  | none => omega
  | more _ ih => exact step_lt hn ih
theorem drg_in {n : Net} {t : NTr} {D j : Nat} (h : Drg n t D) (hj : D.testBit j = true) : j < n.an.length := by
  induction h with
  | none => simp at hj
  | more _ ih =>
    rcases step_bit.1 hj with a | ⟨a, _⟩
    · exact ih a
    · exact a
/-! The anchors of a set, ascending -/
def blTo (D : Nat) : Nat → List Int
  | 0 => []
  | k + 1 => if D.testBit k then blTo D k ++ [(k : Int)] else blTo D k
def blOf (D : Nat) : List Int := blTo D 6
theorem mem_blTo {D : Nat} {p : Int} : ∀ k, p ∈ blTo D k ↔ ∃ i, i < k ∧ D.testBit i = true ∧ p = (i : Int)
  | 0 => by simp [blTo]
  | k + 1 => by
    have ih := mem_blTo (D := D) (p := p) k
    unfold blTo
    by_cases h : D.testBit k = true
    · rw [if_pos h, List.mem_append, ih, List.mem_singleton]
      constructor
      · rintro (⟨i, a, b, c⟩ | rfl)
        · exact ⟨i, by omega, b, c⟩
        · exact ⟨k, by omega, h, rfl⟩
      · rintro ⟨i, a, b, c⟩
        by_cases e : i = k
        · exact .inr (by rw [c, e])
        · exact .inl ⟨i, by omega, b, c⟩
    · rw [if_neg h, ih]
      constructor
      · rintro ⟨i, a, b, c⟩; exact ⟨i, by omega, b, c⟩
      · rintro ⟨i, a, b, c⟩
        by_cases e : i = k
        · rw [e] at b; exact absurd b h
        · exact ⟨i, by omega, b, c⟩
theorem blTo_len (D : Nat) : ∀ k, (blTo D k).length ≤ k
  | 0 => Nat.le_refl _
  | k + 1 => by
    have := blTo_len D k
    unfold blTo
    split
    · simp; omega
    · omega
theorem blTo_asc (D : Nat) : ∀ k, (blTo D k).Pairwise (· < ·)
  | 0 => .nil
  | k + 1 => by
    have ih := blTo_asc D k
    unfold blTo
    split
    · rw [List.pairwise_append]
      refine ⟨ih, List.pairwise_singleton _ _, fun a ha b hb => ?_⟩
      obtain ⟨i, h1, _, rfl⟩ := (mem_blTo k).1 ha
      rw [List.mem_singleton.1 hb]
      omega
    · exact ih
end Go.Proofs.YtkdcdhkhadhcfaaDoor
