/-
  lifts: seas, crews, what a boat must carry, whether a crew holds, the least cost of a crew that holds; a sea with a narrower weight is known no less. Plain laws.
-/
import Derived.Test.YtkdcdhkhadhcfaaData
namespace Go.Proofs.Ytkdcdhkhadhcfaa
set_option maxHeartbeats 1000000
structure LSp where
  lo : Int
  hi : Int
deriving DecidableEq, Inhabited
structure LBo where
  ca : Int
  pe : Int
deriving DecidableEq, Inhabited
structure LSea where
  w : LSp
  pl : List LSp
  bo : List LBo
deriving DecidableEq, Inhabited
def atS (l : List LSp) (i : Nat) : LSp := l.getD i default
def atBo (l : List LBo) (i : Nat) : LBo := l.getD i default
def lowsTo (l : List LSp) : Nat → Int
  | 0 => 0
  | k + 1 => lowsTo l k + (atS l k).lo
def highsTo (l : List LSp) : Nat → Int
  | 0 => 0
  | k + 1 => highsTo l k + (atS l k).hi
def plB (p : LSp) : Bool := withinB p.lo 0 p.hi && decide (p.hi ≤ 12)
def boB (b : LBo) : Bool := withinB b.ca 0 999 && withinB b.pe 0 99
def placesB (l : List LSp) : Bool := allB l.length fun i => plB (atS l i)
def boatsB (l : List LBo) : Bool := allB l.length fun i => boB (atBo l i)
/-- A valid sea. -/
structure LOk (s : LSea) : Prop where
  w : 0 ≤ s.w.lo ∧ s.w.lo ≤ s.w.hi ∧ s.w.hi ≤ 2000
  p4 : s.pl.length ≤ 4
  b6 : s.bo.length ≤ 6
  ps : placesB s.pl = true
  sum : lowsTo s.pl s.pl.length ≤ 12 ∧ 12 ≤ highsTo s.pl s.pl.length
  bs : boatsB s.bo = true
theorem LOk.p {s : LSea} (h : LOk s) {i : Nat} (hi : i < s.pl.length) : 0 ≤ (atS s.pl i).lo ∧ (atS s.pl i).lo ≤ (atS s.pl i).hi ∧ (atS s.pl i).hi ≤ 12 := by
  have h1 := h.ps
  unfold placesB at h1
  have := allB_iff.1 h1 i hi
  simp only [plB, withinB, Bool.and_eq_true, decide_eq_true_eq] at this
  omega
theorem LOk.b {s : LSea} (h : LOk s) {i : Nat} (hi : i < s.bo.length) : 0 ≤ (atBo s.bo i).ca ∧ (atBo s.bo i).ca ≤ 999 ∧ 0 ≤ (atBo s.bo i).pe ∧ (atBo s.bo i).pe ≤ 99 := by
  have h1 := h.bs
  unfold boatsB at h1
  have := allB_iff.1 h1 i hi
  simp only [boB, withinB, Bool.and_eq_true, decide_eq_true_eq] at this
  omega
theorem sums_b {l : List LSp} (h : ∀ i, i < l.length → 0 ≤ (atS l i).lo ∧ (atS l i).lo ≤ (atS l i).hi ∧ (atS l i).hi ≤ 12) : ∀ k, k ≤ l.length → 0 ≤ lowsTo l k ∧ lowsTo l k ≤ highsTo l k ∧ highsTo l k ≤ 12 * k
  | 0, _ => ⟨Int.le_refl _, Int.le_refl _, by show (0 : Int) ≤ _; omega⟩
  | k + 1, hk => by
    have ih := sums_b h k (by omega)
    have := h k (by omega)
    show 0 ≤ _ + _ ∧ _ + _ ≤ _ + _ ∧ _ + _ ≤ _
    omega
theorem lows_ge {l : List LSp} (h : ∀ i, i < l.length → 0 ≤ (atS l i).lo ∧ (atS l i).lo ≤ (atS l i).hi ∧ (atS l i).hi ≤ 12) {i : Nat} : ∀ k, k ≤ l.length → i < k → (atS l i).lo ≤ lowsTo l k
  | 0, _, h2 => by omega
  | k + 1, h1, h2 => by
    have hk := h k (by omega)
    have hs := sums_b h k (by omega)
    show _ ≤ _ + _
    by_cases e : i = k
    · rw [e]; omega
    · have := lows_ge h k (by omega) (show i < k by omega); omega
theorem highs_ge {l : List LSp} (h : ∀ i, i < l.length → 0 ≤ (atS l i).lo ∧ (atS l i).lo ≤ (atS l i).hi ∧ (atS l i).hi ≤ 12) {i : Nat} : ∀ k, k ≤ l.length → i < k → (atS l i).hi ≤ highsTo l k
  | 0, _, h2 => by omega
  | k + 1, h1, h2 => by
    have hk := h k (by omega)
    have hs := sums_b h k (by omega)
    show _ ≤ _ + _
    by_cases e : i = k
    · rw [e]; omega
    · have := highs_ge h k (by omega) (show i < k by omega); omega
def partLo (l : List LSp) (i : Nat) : Int := max (atS l i).lo (12 - (highsTo l l.length - (atS l i).hi))
def partHi (l : List LSp) (i : Nat) : Int := min (atS l i).hi (12 - (lowsTo l l.length - (atS l i).lo))
theorem LOk.part {s : LSea} (h : LOk s) {i : Nat} (hi : i < s.pl.length) : (atS s.pl i).lo ≤ partHi s.pl i ∧ partHi s.pl i ≤ (atS s.pl i).hi ∧ 0 ≤ partHi s.pl i ∧ partHi s.pl i ≤ 12 := by
  have h1 := h.p hi
  have h2 := h.sum
  have h3 := lows_ge (fun j hj => h.p hj) _ (Nat.le_refl _) hi
  unfold partHi
  omega
def sumF (f : Nat → Int) : Nat → Int
  | 0 => 0
  | k + 1 => sumF f k + f k
theorem sumF_le {f g : Nat → Int} : ∀ k, (∀ i, i < k → f i ≤ g i) → sumF f k ≤ sumF g k
  | 0, _ => Int.le_refl _
  | k + 1, h => by
    have := sumF_le (f := f) (g := g) k fun i hi => h i (by omega)
    have := h k (by omega)
    show _ + _ ≤ _ + _
    omega
theorem sumF_low {l : List LSp} : ∀ k, sumF (fun i => (atS l i).lo) k = lowsTo l k
  | 0 => rfl
  | k + 1 => by show sumF _ k + _ = lowsTo l k + _; rw [sumF_low k]
theorem sumF_high {l : List LSp} : ∀ k, sumF (fun i => (atS l i).hi) k = highsTo l k
  | 0 => rfl
  | k + 1 => by show sumF _ k + _ = highsTo l k + _; rw [sumF_high k]
theorem sumF_one {f g : Nat → Int} {j : Nat} : ∀ k, j < k → (∀ i, i < k → f i ≤ g i) → sumF f k + (g j - f j) ≤ sumF g k
  | 0, h, _ => by omega
  | k + 1, h, hle => by
    have hk := hle k (by omega)
    show _ + _ + _ ≤ _ + _
    by_cases e : j = k
    · subst e
      have := sumF_le (f := f) (g := g) j fun i hi => hle i (by omega)
      omega
    · have := sumF_one (f := f) (g := g) (j := j) k (by omega) fun i hi => hle i (by omega)
      omega
theorem LOk.parts {s : LSea} (h : LOk s) : 12 ≤ sumF (partHi s.pl) s.pl.length := by
  have hs := h.sum
  by_cases q : ∃ j, j < s.pl.length ∧ partHi s.pl j < (atS s.pl j).hi
  · obtain ⟨j, h1, h2⟩ := q
    have := sumF_one (f := fun i => (atS s.pl i).lo) (g := partHi s.pl) (j := j) s.pl.length h1 fun i hi => (h.part hi).1
    rw [sumF_low] at this
    have e : partHi s.pl j = 12 - (lowsTo s.pl s.pl.length - (atS s.pl j).lo) := by unfold partHi at h2 ⊢; omega
    rw [e] at this
    omega
  · have := sumF_le (f := fun i => (atS s.pl i).hi) (g := partHi s.pl) s.pl.length fun i hi => by
      rcases Int.lt_or_le (partHi s.pl i) (atS s.pl i).hi with a | a
      · exact absurd ⟨i, hi, a⟩ q
      · exact a
    rw [sumF_high] at this
    omega
def needV (s : LSea) (i : Nat) : Int := (s.w.hi * partHi s.pl i + 11) / 12
/-- A crew: a boat of its own for each place. -/
def crewB (s : LSea) (c : List Int) : Bool := decide (c.length = s.pl.length) && allB c.length fun i => withinB (at0 c i) 0 ((s.bo.length : Int) - 1) && allB i fun j => !decide (at0 c j = at0 c i)
theorem crew_in {s : LSea} {c : List Int} (h : crewB s c = true) : c.length = s.pl.length ∧ ∀ i, i < c.length → 0 ≤ at0 c i ∧ at0 c i < s.bo.length := by
  unfold crewB at h
  rw [Bool.and_eq_true, decide_eq_true_eq, allB_iff] at h
  refine ⟨h.1, fun i hi => ?_⟩
  have := h.2 i hi
  rw [Bool.and_eq_true, withinB_true] at this
  omega
def carryV (s : LSea) (c : List Int) (i : Nat) : Int := (atBo s.bo (at0 c i).toNat).ca
def holdsV (s : LSea) (c : List Int) : Bool := allB c.length fun i => !decide (carryV s c i < needV s i)
def capV (s : LSea) (c : List Int) (i : Nat) : Int := if 0 < s.w.lo then min (atS s.pl i).hi (12 * carryV s c i / s.w.lo) else (atS s.pl i).hi
def capsTo (s : LSea) (c : List Int) : Nat → Option Int
  | 0 => some 0
  | k + 1 => match capsTo s c k with
    | none => none
    | some m => if capV s c k < (atS s.pl k).lo then none else some (m + capV s c k)
def neverB (s : LSea) (c : List Int) : Bool := match capsTo s c c.length with
  | none => true
  | some m => decide (m < 12)
def safeV (s : LSea) (c : List Int) : Int := if holdsV s c then 1 else if neverB s c then 2 else 3
/-- The same sea with a narrower weight. -/
structure Nar (s t : LSea) : Prop where
  pl : s.pl = t.pl
  bo : s.bo = t.bo
  lo : t.w.lo ≤ s.w.lo
  hi : s.w.hi ≤ t.w.hi
theorem need_mono {s t : LSea} (ht : LOk t) (h : Nar s t) {i : Nat} (hi : i < t.pl.length) : needV s i ≤ needV t i := by
  unfold needV
  rw [h.pl]
  have h1 := (ht.part hi).2.2.1
  have := Int.mul_le_mul_of_nonneg_right h.hi h1
  exact Int.ediv_le_ediv (by omega) (by omega)
theorem holds_mono {s t : LSea} (ht : LOk t) (h : Nar s t) {c : List Int} (hc : c.length = t.pl.length) (k : holdsV t c = true) : holdsV s c = true := by
  unfold holdsV at k ⊢
  rw [allB_iff] at k ⊢
  intro i hi
  have h1 := k i hi
  have h2 := need_mono ht h (show i < t.pl.length by omega)
  rw [Bool.not_eq_true', decide_eq_false_iff_not] at h1 ⊢
  unfold carryV at h1 ⊢
  rw [h.bo]
  omega
theorem caps_some {s : LSea} {c : List Int} : ∀ k, (∀ i, i < k → (atS s.pl i).lo ≤ capV s c i) → capsTo s c k = some (sumF (capV s c) k)
  | 0, _ => rfl
  | k + 1, h => by
    unfold capsTo
    rw [caps_some k fun i hi => h i (by omega)]
    show (if _ then _ else _) = _
    rw [if_neg (by have := h k (by omega); omega)]
    rfl
theorem caps_in {s : LSea} {c : List Int} {m : Int} : ∀ k, capsTo s c k = some m → (∀ i, i < k → (atS s.pl i).lo ≤ capV s c i) ∧ m = sumF (capV s c) k
  | 0, h => by
    injection h with h
    exact ⟨fun i hi => by omega, h.symm⟩
  | k + 1, h => by
    unfold capsTo at h
    cases q : capsTo s c k with
    | none => rw [q] at h; cases h
    | some x =>
      rw [q] at h
      obtain ⟨h1, h2⟩ := caps_in k q
      by_cases hlt : capV s c k < (atS s.pl k).lo
      · simp only [if_pos hlt] at h; cases h
      · simp only [if_neg hlt] at h
        injection h with h
        refine ⟨fun i hi => ?_, by rw [← h, h2]; rfl⟩
        by_cases e : i = k
        · rw [e]; omega
        · exact h1 i (by omega)
theorem never_iff {s : LSea} {c : List Int} : neverB s c = false ↔ (∀ i, i < c.length → (atS s.pl i).lo ≤ capV s c i) ∧ 12 ≤ sumF (capV s c) c.length := by
  unfold neverB
  constructor
  · intro h
    cases q : capsTo s c c.length with
    | none => rw [q] at h; cases h
    | some m =>
      rw [q] at h
      obtain ⟨h1, h2⟩ := caps_in _ q
      have := of_decide_eq_false h
      exact ⟨h1, by omega⟩
  · rintro ⟨h1, h2⟩
    rw [caps_some _ h1]
    exact decide_eq_false (by omega)
theorem cap_mono {s t : LSea} (ht : LOk t) (h : Nar s t) {c : List Int} {i : Nat} (hc : 0 ≤ carryV t c i) : capV s c i ≤ capV t c i := by
  have hw := ht.w
  have h1 := h.lo
  have e : carryV s c i = carryV t c i := by unfold carryV; rw [h.bo]
  unfold capV
  rw [e, h.pl]
  by_cases q : 0 < t.w.lo
  · rw [if_pos q, if_pos (by omega)]
    have : 12 * carryV t c i / s.w.lo ≤ 12 * carryV t c i / t.w.lo := Int.ediv_le_ediv_of_le_left' (by omega) (by omega) q h1
    omega
  · rw [if_neg q]
    split
    · omega
    · omega
where
  Int.ediv_le_ediv_of_le_left' {a b c : Int} (ha : 0 ≤ a) (hb : 0 < b) (hc : 0 < c) (h : c ≤ b) : a / b ≤ a / c := by
    rw [Int.le_ediv_iff_mul_le hc]
    have h1 := Int.mul_le_mul_of_nonneg_left h (Int.ediv_nonneg ha (by omega : (0 : Int) ≤ b))
    have h2 := Int.ediv_mul_le a (show b ≠ 0 by omega)
    omega
theorem hold_cap {s t : LSea} (ht : LOk t) (hs : 0 ≤ s.w.lo ∧ s.w.lo ≤ s.w.hi) (h : Nar s t) {c : List Int} {i : Nat} (hi : i < t.pl.length) (k : needV s i ≤ carryV s c i) : partHi t.pl i ≤ capV t c i := by
  have hp := ht.part hi
  have e : carryV s c i = carryV t c i := by unfold carryV; rw [h.bo]
  unfold capV
  by_cases q : 0 < t.w.lo
  · rw [if_pos q]
    have h1 : partHi t.pl i ≤ 12 * carryV t c i / t.w.lo := by
      rw [Int.le_ediv_iff_mul_le q]
      unfold needV at k
      rw [h.pl, e] at k
      have h2 : s.w.hi * partHi t.pl i + 11 < (carryV t c i + 1) * 12 := by
        have := Int.lt_ediv_add_one_mul_self (s.w.hi * partHi t.pl i + 11) (show (0 : Int) < 12 by omega)
        have h5 := Int.mul_le_mul_of_nonneg_right (show (s.w.hi * partHi t.pl i + 11) / 12 + 1 ≤ carryV t c i + 1 by omega) (show (0 : Int) ≤ 12 by omega)
        omega
      have h3 := Int.mul_le_mul_of_nonneg_left (show t.w.lo ≤ s.w.hi by have := h.lo; omega) hp.2.2.1
      rw [Int.mul_comm (partHi t.pl i) s.w.hi] at h3
      omega
    omega
  · rw [if_neg q]; omega
/-- A sea with a narrower weight is known no less. -/
theorem safe_mono {s t : LSea} (ht : LOk t) (hs : 0 ≤ s.w.lo ∧ s.w.lo ≤ s.w.hi) (h : Nar s t) {c : List Int} (hc : crewB t c = true) (k : safeV t c ≠ 3) : safeV s c = safeV t c := by
  obtain ⟨hl, hin⟩ := crew_in hc
  have hca : ∀ i, i < c.length → 0 ≤ carryV t c i := fun i hi => (ht.b (i := (at0 c i).toNat) (by have := hin i hi; omega)).1
  by_cases a : holdsV t c = true
  · unfold safeV
    rw [if_pos a, if_pos (holds_mono ht h hl a)]
  · have hn : neverB t c = true := by
      cases q : neverB t c with
      | true => rfl
      | false => exact absurd (by unfold safeV; rw [if_neg a, if_neg (by rw [q]; simp)]) k
    have h2 : ¬ holdsV s c = true := fun b => by
      unfold holdsV at b
      rw [allB_iff] at b
      have hb : ∀ i, i < c.length → partHi t.pl i ≤ capV t c i := fun i hi => by
        have := b i hi
        rw [Bool.not_eq_true', decide_eq_false_iff_not] at this
        exact hold_cap ht hs h (by omega) (by omega)
      have : neverB t c = false := never_iff.2 ⟨fun i hi => Int.le_trans (ht.part (show i < t.pl.length by omega)).1 (hb i hi), by
        have h1 := sumF_le (f := partHi t.pl) (g := capV t c) c.length hb
        have h2 := ht.parts
        rw [← hl] at h2
        omega⟩
      rw [hn] at this; cases this
    have h3 : neverB s c = true := by
      cases q : neverB s c with
      | true => rfl
      | false =>
        obtain ⟨q1, q2⟩ := never_iff.1 q
        have : neverB t c = false := never_iff.2 ⟨fun i hi => by have := q1 i hi; have := cap_mono ht h (hca i hi); rw [h.pl] at q1; have := q1 i hi; omega, by
          have := sumF_le (f := capV s c) (g := capV t c) c.length fun i hi => cap_mono ht h (hca i hi)
          omega⟩
        rw [hn] at this; cases this
    unfold safeV
    rw [if_neg a, if_pos hn, if_neg h2, if_pos h3]
/-! crews -/
def crewsTo (rec : List Int → List (List Int)) (l : List Int) : Nat → List (List Int)
  | 0 => []
  | k + 1 => crewsTo rec l k ++ (if inB l k then [] else rec (l ++ [(k : Int)]))
/-- The crews that begin with these, where so many are left. -/
def crewsL (m : Nat) : Nat → List Int → List (List Int)
  | 0, l => [l]
  | k + 1, l => crewsTo (crewsL m k) l m
def costTo (s : LSea) (c : List Int) : Nat → Int
  | 0 => 0
  | k + 1 => costTo s c k + (atBo s.bo (at0 c k).toNat).pe
def costV (s : LSea) (c : List Int) : Int := costTo s c c.length
theorem mem_crewsTo {rec : List Int → List (List Int)} {l o : List Int} : ∀ k, o ∈ crewsTo rec l k ↔ ∃ j : Nat, j < k ∧ inB l j = false ∧ o ∈ rec (l ++ [(j : Int)])
  | 0 => by simp [crewsTo]
  | k + 1 => by
    have ih := mem_crewsTo (rec := rec) (l := l) (o := o) k
    unfold crewsTo
    rw [List.mem_append, ih]
    constructor
    · rintro (⟨j, a, b, c⟩ | h)
      · exact ⟨j, by omega, b, c⟩
      · cases hc : inB l k with
        | true => rw [hc, if_pos rfl] at h; cases h
        | false => rw [hc] at h; exact ⟨k, by omega, hc, h⟩
    · rintro ⟨j, a, b, c⟩
      by_cases e : j = k
      · right; rw [← e, b]; exact c
      · exact .inl ⟨j, by omega, b, c⟩
theorem crews_in {m : Nat} : ∀ (k : Nat) (l o : List Int), (∀ x, x ∈ l → 0 ≤ x ∧ x < m) → o ∈ crewsL m k l → (∀ x, x ∈ o → 0 ≤ x ∧ x < m) ∧ o.length = l.length + k
  | 0, l, o, hl, ho => by
    have : o = l := by simpa [crewsL] using ho
    rw [this]; exact ⟨hl, rfl⟩
  | k + 1, l, o, hl, ho => by
    unfold crewsL at ho
    obtain ⟨j, h1, h2, h3⟩ := (mem_crewsTo _).1 ho
    obtain ⟨h4, h5⟩ := crews_in k _ o (fun x hx => by
      rw [List.mem_append, List.mem_singleton] at hx
      rcases hx with hx | rfl
      · exact hl x hx
      · omega) h3
    refine ⟨h4, ?_⟩
    rw [h5, List.length_append, List.length_singleton]
    omega
theorem crewsTo_pre {rec : List Int → List (List Int)} {L : List Int} : ∀ (j k : Nat), ∃ post, crewsTo rec L (k + j) = crewsTo rec L k ++ post
  | 0, k => ⟨[], by simp⟩
  | j + 1, k => by
    obtain ⟨post, h⟩ := crewsTo_pre (rec := rec) (L := L) j k
    exact ⟨post ++ (if inB L (k + j : Nat) then [] else rec (L ++ [((k + j : Nat) : Int)])), by rw [show crewsTo rec L (k + (j + 1)) = crewsTo rec L (k + j) ++ (if inB L (k + j : Nat) then [] else rec (L ++ [((k + j : Nat) : Int)])) from rfl, h, List.append_assoc]⟩
theorem crews_pre {m r k : Nat} {L : List Int} (hk : k < m) : ∃ post, crewsL m (r + 1) L = crewsTo (crewsL m r) L k ++ (if inB L k then [] else crewsL m r (L ++ [(k : Int)])) ++ post := by
  obtain ⟨j, hj⟩ := Nat.le.dest (show k + 1 ≤ m from hk)
  obtain ⟨post, hp⟩ := crewsTo_pre (rec := crewsL m r) (L := L) j (k + 1)
  rw [hj] at hp
  exact ⟨post, hp⟩
/-- The least cost of the crews that hold, of the first so many; below 0: there is none. -/
def chNext (s : LSea) (c : List Int) (x : Int) : Int := if holdsV s c && (decide (x < 0) || decide (costV s c < x)) then costV s c else x
def chV (s : LSea) : List (List Int) → Int → Int
  | [], x => x
  | c :: l, x => chV s l (chNext s c x)
theorem chV_append (s : LSea) : ∀ (a b : List (List Int)) (x : Int), chV s (a ++ b) x = chV s b (chV s a x)
  | [], _, _ => rfl
  | c :: a, b, x => chV_append s a b (chNext s c x)
def cheapV (s : LSea) : Int := chV s (crewsL s.bo.length s.pl.length []) (-1)
theorem cost_nn {s : LSea} (hs : LOk s) {c : List Int} (hc : ∀ x, x ∈ c → 0 ≤ x ∧ x < s.bo.length) : ∀ k, k ≤ c.length → 0 ≤ costTo s c k ∧ costTo s c k ≤ 99 * k
  | 0, _ => ⟨Int.le_refl _, by show (0 : Int) ≤ _; omega⟩
  | k + 1, hk => by
    have ih := cost_nn hs hc k (by omega)
    have h1 := hc (at0 c k) (getD_mem c k 0 (by omega))
    have h2 := hs.b (i := (at0 c k).toNat) (by omega)
    show 0 ≤ _ + _ ∧ _ + _ ≤ _
    omega
theorem chV_mono {s t : LSea} (ht : LOk t) (h : Nar s t) : ∀ (l : List (List Int)) (x y : Int), (∀ c, c ∈ l → (∀ z, z ∈ c → 0 ≤ z ∧ z < t.bo.length) ∧ c.length = t.pl.length) → (0 ≤ y → 0 ≤ x ∧ x ≤ y) → 0 ≤ chV t l y → 0 ≤ chV s l x ∧ chV s l x ≤ chV t l y
  | [], x, y, _, h0, h1 => h0 h1
  | c :: l, x, y, hl, h0, h1 => by
    refine chV_mono ht h l _ _ (fun d hd => hl d (List.mem_cons_of_mem _ hd)) (fun h2 => ?_) h1
    obtain ⟨c1, c2⟩ := hl c (List.mem_cons_self ..)
    have hcost : costV s c = costV t c := by
      have : ∀ k, costTo s c k = costTo t c k := by
        intro k
        induction k with
        | zero => rfl
        | succ k ih => show _ + _ = _ + _; rw [ih, h.bo]
      exact this _
    have hc0 := (cost_nn ht c1 c.length (Nat.le_refl _)).1
    have hm := holds_mono ht h c2
    have hc0 : 0 ≤ costV t c := hc0
    unfold chNext at h2 ⊢
    rw [hcost]
    cases hb : holdsV t c with
    | true =>
      rw [hm hb]
      rw [hb] at h2
      simp only [Bool.true_and, Bool.or_eq_true, decide_eq_true_eq] at h2 ⊢
      split at h2 <;> split <;> (try split) <;> omega
    | false =>
      rw [hb] at h2
      simp only [Bool.false_and, Bool.false_eq_true, if_false] at h2 ⊢
      have := h0 h2
      split
      · rename_i q
        simp only [Bool.and_eq_true, Bool.or_eq_true, decide_eq_true_eq] at q
        omega
      · omega
theorem cheap_mono {s t : LSea} (ht : LOk t) (h : Nar s t) (k : 0 ≤ cheapV t) : 0 ≤ cheapV s ∧ cheapV s ≤ cheapV t := by
  unfold cheapV at k ⊢
  rw [h.bo, h.pl]
  refine chV_mono ht h _ _ _ (fun c hc => ?_) (fun q => by omega) k
  have := crews_in _ _ _ (fun x hx => by cases hx) hc
  exact ⟨this.1, by simpa using this.2⟩
/-- The example. -/
def exSea : LSea := ⟨⟨100, 120⟩, [⟨2, 6⟩, ⟨3, 5⟩, ⟨4, 6⟩], [⟨50, 4⟩, ⟨60, 7⟩, ⟨45, 2⟩, ⟨70, 9⟩]⟩
theorem exSea_ok : LOk exSea := ⟨by decide, by decide, by decide, by decide, by decide, by decide⟩
theorem exSea_cheap : cheapV exSea = 20 := by decide +kernel
end Go.Proofs.Ytkdcdhkhadhcfaa
