/-
  mesh: nets of holes, orders, list scheduling, the least loss and the least last hour of all orders; with fewer holes and no pairs neither is greater. Plain laws.
-/
import Derived.Test.YtkdcdhkhadhcfaaDoorData
namespace Go.Proofs.YtkdcdhkhadhcfaaDoor
structure Hole where
  frm : Int
  lo : Int
  hi : Int
  hrs : Int
deriving DecidableEq, Inhabited
structure HPr where
  a : Int
  b : Int
deriving DecidableEq, Inhabited
structure MNet where
  men : Int
  holes : List Hole
  prs : List HPr
deriving DecidableEq, Inhabited
def atH (l : List Hole) (i : Nat) : Hole := l.getD i default
def atP (l : List HPr) (i : Nat) : HPr := l.getD i default
def holeB (h : Hole) : Bool := withinB h.frm 0 20 && (withinB h.hi 0 20 && (withinB h.lo 0 h.hi && withinB h.hrs 1 9))
def holesB (l : List Hole) : Bool := allB l.length fun i => holeB (atH l i)
/-! readiness and orders -/
def prB (p : HPr) (h : Int) (l : List Int) : Bool := decide (p.b = h) && !inB l p.a
def prsB (ps : List HPr) (h : Int) (l : List Int) : Bool := allB ps.length fun i => !prB (atP ps i) h l
def canB (n : MNet) (h : Int) (l : List Int) : Bool := !inB l h && prsB n.prs h l
/-- The orders that begin with these, where so many are left, among the next steps from 0 to k. -/
def ordsTo (rec : List Int → List (List Int)) (n : MNet) (l : List Int) : Nat → List (List Int)
  | 0 => []
  | k + 1 => ordsTo rec n l k ++ (if canB n k l then rec (l ++ [(k : Int)]) else [])
def ords (n : MNet) : Nat → List Int → List (List Int)
  | 0, l => [l]
  | k + 1, l => ordsTo (ords n k) n l n.holes.length
/-! an order's times -/
def ownTo (fr : List Int) : Nat → Nat
  | 0 => 0
  | k + 1 => if at0 fr k < at0 fr (ownTo fr k) then k else ownTo fr k
def begTo (ps : List HPr) (h : Int) (out : List Int) (b0 : Int) : Nat → Int
  | 0 => b0
  | k + 1 => if (atP ps k).b = h then max (begTo ps h out b0 k) (at0 out (atP ps k).a.toNat) else begTo ps h out b0 k
def endOf (n : MNet) (h : Int) (fr out : List Int) : Int := begTo n.prs h out (max (at0 fr (ownTo fr fr.length)) (atH n.holes h.toNat).frm) n.prs.length + (atH n.holes h.toNat).hrs
def stFr (n : MNet) (o : List Int) : Nat → List Int × List Int
  | 0 => (List.replicate n.men.toNat 0, List.replicate n.holes.length 0)
  | k + 1 =>
    let s := stFr n o k
    (s.1.set (ownTo s.1 s.1.length) (endOf n (at0 o k) s.1 s.2), s.2.set (at0 o k).toNat (endOf n (at0 o k) s.1 s.2))
def timesV (n : MNet) (o : List Int) : List Int := (stFr n o o.length).2
def lostTo (r : Hole → Int) (hs : List Hole) (out : List Int) : Nat → Int
  | 0 => 0
  | k + 1 => lostTo r hs out k + r (atH hs k) * (at0 out k - (atH hs k).frm)
def highV (n : MNet) (o : List Int) : Int := lostTo Hole.hi n.holes (timesV n o) n.holes.length
def lowV (n : MNet) (o : List Int) : Int := lostTo Hole.lo n.holes (timesV n o) n.holes.length
def lastTo (out : List Int) : Nat → Int
  | 0 => 0
  | k + 1 => max (lastTo out k) (at0 out k)
def lastV (n : MNet) (o : List Int) : Int := lastTo (timesV n o) n.holes.length
/-- The first of which a number is the least, and the number. -/
def bestTo (f : List Int → Int) (l : List (List Int)) : Nat → Option (List Int × Int)
  | 0 => none
  | k + 1 => match bestTo f l k with
    | none => some (atL l k, f (atL l k))
    | some (o, x) => if f (atL l k) < x then some (atL l k, f (atL l k)) else some (o, x)
def bestV (f : List Int → Int) (l : List (List Int)) : Option (List Int × Int) := bestTo f l l.length
theorem bestTo_spec (f : List Int → Int) (l : List (List Int)) : ∀ k, k ≤ l.length → (k = 0 ∧ bestTo f l k = none) ∨ ∃ o x, bestTo f l k = some (o, x) ∧ o ∈ l ∧ x = f o ∧ ∀ j, j < k → x ≤ f (atL l j)
  | 0, _ => .inl ⟨rfl, rfl⟩
  | k + 1, hk => by
    right
    have hm : atL l k ∈ l := getD_mem l k [] (by omega)
    rcases bestTo_spec f l k (by omega) with ⟨h0, h1⟩ | ⟨o, x, h1, h2, h3, h4⟩
    · refine ⟨atL l k, f (atL l k), by unfold bestTo; rw [h1], hm, rfl, fun j hj => ?_⟩
      obtain rfl : j = k := by omega
      exact Int.le_refl _
    · by_cases hlt : f (atL l k) < x
      · refine ⟨atL l k, f (atL l k), by unfold bestTo; rw [h1]; exact if_pos hlt, hm, rfl, fun j hj => ?_⟩
        by_cases e : j = k
        · rw [e]; exact Int.le_refl _
        · have := h4 j (by omega); omega
      · refine ⟨o, x, by unfold bestTo; rw [h1]; exact if_neg hlt, h2, h3, fun j hj => ?_⟩
        by_cases e : j = k
        · rw [e]; omega
        · exact h4 j (by omega)
theorem bestV_spec {f : List Int → Int} {l : List (List Int)} (h : l ≠ []) : ∃ o x, bestV f l = some (o, x) ∧ o ∈ l ∧ x = f o ∧ ∀ p, p ∈ l → x ≤ f p := by
  rcases bestTo_spec f l l.length (Nat.le_refl _) with ⟨h0, _⟩ | ⟨o, x, h1, h2, h3, h4⟩
  · exact absurd (List.length_eq_zero_iff.1 h0) h
  · refine ⟨o, x, h1, h2, h3, fun p hp => ?_⟩
    obtain ⟨j, hj, e⟩ := mem_getD l p [] hp
    have := h4 j hj
    unfold atL at this
    rw [e] at this
    exact this
/-! orders without pairs are all orders -/
theorem mem_ordsTo {rec : List Int → List (List Int)} {n : MNet} {l o : List Int} : ∀ k, o ∈ ordsTo rec n l k ↔ ∃ j : Nat, j < k ∧ canB n j l = true ∧ o ∈ rec (l ++ [(j : Int)])
  | 0 => by simp [ordsTo]
  | k + 1 => by
    have ih := mem_ordsTo (rec := rec) (n := n) (l := l) (o := o) k
    unfold ordsTo
    rw [List.mem_append, ih]
    constructor
    · rintro (⟨j, a, b, c⟩ | h)
      · exact ⟨j, by omega, b, c⟩
      · by_cases hc : canB n k l = true
        · rw [if_pos hc] at h; exact ⟨k, by omega, hc, h⟩
        · rw [if_neg hc] at h; cases h
    · rintro ⟨j, a, b, c⟩
      by_cases e : j = k
      · right; rw [← e, if_pos b]; exact c
      · exact .inl ⟨j, by omega, b, c⟩
/-- Distinct numbers of holes. -/
def Dst (m : Nat) (l : List Int) : Prop := l.Nodup ∧ ∀ x, x ∈ l → 0 ≤ x ∧ x < m
theorem dst_nil (m : Nat) : Dst m [] := ⟨List.nodup_nil, fun _ h => by cases h⟩
theorem dst_snoc {m : Nat} {l : List Int} {j : Nat} (h : Dst m l) (hj : j < m) (hn : inB l (j : Int) = false) : Dst m (l ++ [(j : Int)]) := by
  refine ⟨?_, fun x hx => ?_⟩
  · rw [List.nodup_append]
    refine ⟨h.1, by simp, fun a ha b hb => ?_⟩
    rw [List.mem_singleton] at hb
    intro e
    rw [hb] at e
    exact inB_false.1 hn (e ▸ ha)
  · rw [List.mem_append, List.mem_singleton] at hx
    rcases hx with hx | rfl
    · exact h.2 x hx
    · omega
theorem ords_dst {n : MNet} : ∀ (k : Nat) (l o : List Int), Dst n.holes.length l → o ∈ ords n k l → Dst n.holes.length o ∧ o.length = l.length + k
  | 0, l, o, hl, ho => by
    have : o = l := by simpa [ords] using ho
    rw [this]; exact ⟨hl, rfl⟩
  | k + 1, l, o, hl, ho => by
    unfold ords at ho
    obtain ⟨j, h1, h2, h3⟩ := (mem_ordsTo _).1 ho
    unfold canB at h2
    rw [Bool.and_eq_true, Bool.not_eq_true'] at h2
    obtain ⟨h4, h5⟩ := ords_dst k _ o (dst_snoc hl h1 h2.1) h3
    refine ⟨h4, ?_⟩
    rw [h5, List.length_append, List.length_singleton]
    omega
theorem ords_all {n : MNet} (hp : n.prs = []) : ∀ (k : Nat) (l r : List Int), r.length = k → Dst n.holes.length (l ++ r) → l ++ r ∈ ords n k l
  | 0, l, r, hr, _ => by
    have : r = [] := List.length_eq_zero_iff.1 hr
    rw [this, List.append_nil]
    exact List.mem_singleton.2 rfl
  | k + 1, l, r, hr, hd => by
    match r, hr with
    | x :: r, hr =>
      have hx := hd.2 x (by simp)
      obtain ⟨j, rfl⟩ : ∃ j : Nat, x = (j : Int) := ⟨x.toNat, by omega⟩
      unfold ords
      refine (mem_ordsTo _).2 ⟨j, by omega, ?_, ?_⟩
      · unfold canB prsB
        rw [hp, Bool.and_eq_true]
        refine ⟨?_, rfl⟩
        rw [Bool.not_eq_true']
        refine inB_false.2 fun hm => ?_
        have := (List.nodup_append.1 hd.1).2.2 _ hm _ (List.mem_cons_self ..)
        exact this rfl
      · have := ords_all hp k (l ++ [(j : Int)]) r (by simpa using hr) (by rw [List.append_assoc]; exact hd)
        rw [List.append_assoc] at this
        exact this
/-! a sequence of holes -/
theorem ownTo_lt {fr : List Int} (h : 0 < fr.length) : ∀ k, k ≤ fr.length → ownTo fr k < fr.length
  | 0, _ => h
  | k + 1, hk => by
    unfold ownTo
    split
    · omega
    · exact ownTo_lt h k (by omega)
theorem ownTo_le {fr : List Int} : ∀ k j, j < k → at0 fr (ownTo fr k) ≤ at0 fr j
  | 0, j, h => by omega
  | k + 1, j, h => by
    have ih := ownTo_le (fr := fr) k
    unfold ownTo
    split
    · rename_i hlt
      by_cases e : j = k
      · rw [e]; exact Int.le_refl _
      · have := ih j (by omega); omega
    · rename_i hlt
      by_cases e : j = k
      · rw [e]; omega
      · exact ih j (by omega)
def endS (fr : List Int) (h : Hole) : Int := max (at0 fr (ownTo fr fr.length)) h.frm + h.hrs
def stepS (fr : List Int) (h : Hole) : List Int := fr.set (ownTo fr fr.length) (endS fr h)
def endsS : List Int → List Hole → List Int
  | _, [] => []
  | fr, h :: hs => endS fr h :: endsS (stepS fr h) hs
def lossS : List Int → List Hole → Int
  | _, [] => 0
  | fr, h :: hs => h.hi * (endS fr h - h.frm) + lossS (stepS fr h) hs
def maxS : List Int → List Hole → Int
  | _, [] => 0
  | fr, h :: hs => max (endS fr h) (maxS (stepS fr h) hs)
def cnt (l : List Int) (x : Int) : Nat := l.countP fun y => decide (y ≤ x)
/-- The menders of a are free no later than those of b. -/
def Dom (a b : List Int) : Prop := 0 < a.length ∧ 0 < b.length ∧ ∀ x, cnt b x ≤ cnt a x
theorem cnt_pos {l : List Int} (h : 0 < l.length) {x : Int} : 0 < cnt l x ↔ at0 l (ownTo l l.length) ≤ x := by
  unfold cnt
  rw [List.countP_pos_iff]
  constructor
  · rintro ⟨a, ha, hx⟩
    obtain ⟨j, hj, e⟩ := mem_getD l a 0 ha
    have := ownTo_le (fr := l) l.length j hj
    unfold at0 at this ⊢
    rw [e] at this
    simp only [decide_eq_true_eq] at hx
    omega
  · intro hx
    exact ⟨_, getD_mem l _ 0 (ownTo_lt h _ (Nat.le_refl _)), decide_eq_true hx⟩
theorem cnt_set {l : List Int} {i : Nat} (h : i < l.length) (e x : Int) : cnt (l.set i e) x + (if at0 l i ≤ x then 1 else 0) = cnt l x + (if e ≤ x then 1 else 0) := by
  unfold cnt
  rw [List.countP_set (h := h)]
  have hp : at0 l i ≤ x → 0 < l.countP fun y => decide (y ≤ x) := fun q => List.countP_pos_iff.2 ⟨at0 l i, getD_mem l i 0 h, by simpa using q⟩
  have he : l[i] = at0 l i := (getD_lt l i 0 h).symm
  rw [he]
  simp only [decide_eq_true_eq]
  by_cases q : at0 l i ≤ x
  · have := hp q
    simp only [q, if_true]; omega
  · simp only [q, if_false]; omega
theorem dom_min {a b : List Int} (h : Dom a b) : at0 a (ownTo a a.length) ≤ at0 b (ownTo b b.length) := by
  have h1 := (cnt_pos h.2.1 (x := at0 b (ownTo b b.length))).2 (Int.le_refl _)
  have h2 := h.2.2 (at0 b (ownTo b b.length))
  exact (cnt_pos h.1).1 (by omega)
theorem dom_end {a b : List Int} (h : Dom a b) (x : Hole) : endS a x ≤ endS b x := by
  have := dom_min h
  unfold endS
  omega
theorem dom_step {a b : List Int} (h : Dom a b) (x : Hole) (hx : 0 ≤ x.hrs) : Dom (stepS a x) (stepS b x) := by
  have h1 := dom_min h
  have h2 := dom_end h x
  refine ⟨by unfold stepS; rw [List.length_set]; exact h.1, by unfold stepS; rw [List.length_set]; exact h.2.1, fun y => ?_⟩
  have ca := cnt_set (ownTo_lt h.1 _ (Nat.le_refl _)) (endS a x) y
  have cb := cnt_set (ownTo_lt h.2.1 _ (Nat.le_refl _)) (endS b x) y
  have pa := cnt_pos h.1 (x := y)
  have pb := cnt_pos h.2.1 (x := y)
  have hd := h.2.2 y
  have eb : at0 b (ownTo b b.length) ≤ endS b x := by unfold endS; omega
  show cnt (b.set _ _) y ≤ cnt (a.set _ _) y
  by_cases q1 : at0 a (ownTo a a.length) ≤ y <;> by_cases q2 : at0 b (ownTo b b.length) ≤ y <;> by_cases q3 : endS a x ≤ y <;> by_cases q4 : endS b x ≤ y <;> simp only [q1, q2, q3, q4, if_true, if_false, iff_true, iff_false] at ca cb pa pb <;> omega
theorem dom_skip {a b : List Int} (h : Dom a b) (x : Hole) (hx : 0 ≤ x.hrs) : Dom a (stepS b x) := by
  refine ⟨h.1, by unfold stepS; rw [List.length_set]; exact h.2.1, fun y => ?_⟩
  have cb := cnt_set (ownTo_lt h.2.1 _ (Nat.le_refl _)) (endS b x) y
  have hd := h.2.2 y
  have eb : at0 b (ownTo b b.length) ≤ endS b x := by unfold endS; omega
  show cnt (b.set _ _) y ≤ cnt a y
  by_cases q2 : at0 b (ownTo b b.length) ≤ y <;> by_cases q4 : endS b x ≤ y <;> simp only [q2, q4, if_true, if_false] at cb <;> omega
def HoleOk (h : Hole) : Prop := 0 ≤ h.frm ∧ 0 ≤ h.lo ∧ h.lo ≤ h.hi ∧ 1 ≤ h.hrs
theorem end_frm {fr : List Int} {h : Hole} (k : HoleOk h) : 0 ≤ endS fr h - h.frm := by
  unfold endS
  have := k.2.2.2
  omega
theorem loss_nn {hs : List Hole} : ∀ {fr : List Int}, (∀ h, h ∈ hs → HoleOk h) → 0 ≤ lossS fr hs ∧ 0 ≤ maxS fr hs := by
  induction hs with
  | nil => intro fr _; exact ⟨Int.le_refl _, Int.le_refl _⟩
  | cons h hs ih =>
    intro fr hk
    have h1 := hk h (List.mem_cons_self ..)
    have h2 := ih (fr := stepS fr h) fun x hx => hk x (List.mem_cons_of_mem _ hx)
    have h3 := Int.mul_nonneg (show 0 ≤ h.hi by have := h1.2.1; have := h1.2.2.1; omega) (end_frm (fr := fr) h1)
    exact ⟨by show 0 ≤ _ + _; omega, by show 0 ≤ max _ _; omega⟩
theorem loss_mono {xs ys : List Hole} (hs : xs.Sublist ys) : ∀ {a b : List Int}, Dom a b → (∀ h, h ∈ ys → HoleOk h) → lossS a xs ≤ lossS b ys ∧ maxS a xs ≤ maxS b ys := by
  induction hs with
  | slnil => intro a b _ _; exact ⟨Int.le_refl _, Int.le_refl _⟩
  | cons h hsub ih =>
    intro a b hd hk
    have h1 := hk h (List.mem_cons_self ..)
    have h2 := ih (dom_skip hd h (by have := h1.2.2.2; omega)) fun x hx => hk x (List.mem_cons_of_mem _ hx)
    have h3 := Int.mul_nonneg (show 0 ≤ h.hi by have := h1.2.1; have := h1.2.2.1; omega) (end_frm (fr := b) h1)
    exact ⟨by show _ ≤ _ + _; omega, by show _ ≤ max _ _; omega⟩
  | cons_cons h hsub ih =>
    intro a b hd hk
    have h1 := hk h (List.mem_cons_self ..)
    have h2 := ih (dom_step hd h (by have := h1.2.2.2; omega)) fun x hx => hk x (List.mem_cons_of_mem _ hx)
    have h4 := dom_end hd h
    have h3 := Int.mul_le_mul_of_nonneg_left (show endS a h - h.frm ≤ endS b h - h.frm by omega) (show 0 ≤ h.hi by have := h1.2.1; have := h1.2.2.1; omega)
    exact ⟨by show _ + _ ≤ _ + _; omega, by show max _ _ ≤ max _ _; omega⟩
/-! an order's numbers are those of its sequence -/
def isum : List Int → Int
  | [] => 0
  | x :: l => x + isum l
theorem isum_perm {a b : List Int} (h : a.Perm b) : isum a = isum b := by
  induction h with
  | nil => rfl
  | cons x _ ih => show x + _ = x + _; rw [ih]
  | swap x y l => show y + (x + _) = x + (y + _); omega
  | trans _ _ h1 h2 => exact h1.trans h2
def imax : List Int → Int
  | [] => 0
  | x :: l => max x (imax l)
theorem imax_perm {a b : List Int} (h : a.Perm b) : imax a = imax b := by
  induction h with
  | nil => rfl
  | cons x _ ih => show max x _ = max x _; rw [ih]
  | swap x y l => show max y (max x _) = max x (max y _); omega
  | trans _ _ h1 h2 => exact h1.trans h2
theorem isum_append (a b : List Int) : isum (a ++ b) = isum a + isum b := by
  induction a with
  | nil => show isum b = 0 + isum b; omega
  | cons x a ih => show x + isum (a ++ b) = x + isum a + isum b; rw [ih]; omega
theorem imax_append (a b : List Int) : imax (a ++ b) = max (imax a) (max 0 (imax b)) ∨ (a = [] ∧ imax (a ++ b) = imax b) := by
  induction a with
  | nil => exact .inr ⟨rfl, rfl⟩
  | cons x a ih =>
    left
    show max x (imax (a ++ b)) = max (max x (imax a)) (max 0 (imax b))
    rcases ih with h | ⟨rfl, h⟩
    · rw [h]; omega
    · have : (0:Int) ≤ imax b ∨ imax b < 0 := by omega
      have hb : 0 ≤ imax b := by
        clear h this
        induction b with
        | nil => exact Int.le_refl _
        | cons y b ih => show 0 ≤ max y (imax b); omega
      show max x (imax ([] ++ b)) = max (max x 0) _
      rw [List.nil_append]; omega
def nums (k : Nat) : List Int := (List.range k).map fun (i : Nat) => (i : Int)
theorem nums_succ (k : Nat) : nums (k + 1) = nums k ++ [(k : Int)] := by
  unfold nums
  rw [List.range_succ, List.map_append]; rfl
theorem lost_nums (r : Hole → Int) (hs : List Hole) (out : List Int) : ∀ k, lostTo r hs out k = isum ((nums k).map fun i => r (atH hs i.toNat) * (at0 out i.toNat - (atH hs i.toNat).frm))
  | 0 => rfl
  | k + 1 => by
    rw [nums_succ, List.map_append, isum_append, ← lost_nums r hs out k]
    show _ + _ = _ + (_ + 0)
    rw [Int.add_zero]; rfl
theorem last_nums (out : List Int) : ∀ k, lastTo out k = imax ((nums k).map fun i => at0 out i.toNat)
  | 0 => rfl
  | k + 1 => by
    have ih := last_nums out k
    rw [nums_succ, List.map_append]
    show max (lastTo out k) _ = _
    have e : imax ([(k : Int)].map fun i => at0 out i.toNat) = max (at0 out k) 0 := rfl
    rcases imax_append ((nums k).map fun i => at0 out i.toNat) ([(k : Int)].map fun i => at0 out i.toNat) with h | ⟨h1, h2⟩
    · rw [h, ← ih, e]
      have : 0 ≤ lastTo out k := by
        clear h ih e
        induction k with
        | zero => exact Int.le_refl _
        | succ k ih => show 0 ≤ max _ _; omega
      omega
    · rw [h2, e, ih, h1]
      show max 0 _ = _
      omega
theorem nums_nodup (k : Nat) : (nums k).Nodup := by
  unfold nums
  refine List.Pairwise.map _ (fun a b (h : a ≠ b) => ?_) (List.nodup_range (n := k))
  omega
theorem mem_nums {k : Nat} {x : Int} : x ∈ nums k ↔ 0 ≤ x ∧ x < k := by
  unfold nums
  rw [List.mem_map]
  constructor
  · rintro ⟨a, h, rfl⟩; rw [List.mem_range] at h; omega
  · intro h; exact ⟨x.toNat, by rw [List.mem_range]; omega, by omega⟩
theorem perm_of_dst {m : Nat} {l : List Int} (h : Dst m l) (hl : l.length = m) : l.Perm (nums m) := by
  have hs : l.Subset (nums m) := fun x hx => mem_nums.2 (h.2 x hx)
  have : ∀ (a b : List Int), a.Nodup → a ⊆ b → b.length ≤ a.length → b.Nodup → a.Perm b := by
    intro a
    induction a with
    | nil => intro b _ _ hb _; rw [List.length_eq_zero_iff.1 (Nat.le_zero.1 hb)]
    | cons x a ih =>
      intro b ha hs hb hn
      have hx : x ∈ b := hs (List.mem_cons_self ..)
      rw [List.nodup_cons] at ha
      have h1 := List.perm_cons_erase hx
      refine (List.Perm.cons x (ih (b.erase x) ha.2 (fun y hy => ?_) ?_ (hn.erase x))).trans h1.symm
      · exact (List.mem_erase_of_ne (fun e => ha.1 (by rw [← e]; exact hy))).2 (hs (List.mem_cons_of_mem _ hy))
      · have := h1.length_eq; simp only [List.length_cons] at this hb; omega
  exact this l (nums m) h.1 hs (by unfold nums; simp; omega) (nums_nodup m)
theorem at0_set {l : List Int} {i j : Nat} (h : i < l.length) (x : Int) : at0 (l.set i x) j = if i = j then x else at0 l j := by
  unfold at0
  rw [List.getD_eq_getElem?_getD, List.getElem?_set]
  by_cases e : i = j
  · rw [if_pos e, if_pos e, if_pos h]; rfl
  · rw [if_neg e, if_neg e]; rfl
theorem stFr_len (n : MNet) (o : List Int) : ∀ k, (stFr n o k).1.length = n.men.toNat ∧ (stFr n o k).2.length = n.holes.length
  | 0 => by simp [stFr]
  | k + 1 => by
    have := stFr_len n o k
    simp only [stFr, List.length_set]
    exact this
theorem begTo_nil {h : Int} {out : List Int} {b0 : Int} : begTo [] h out b0 ([] : List HPr).length = b0 := rfl
/-- Behind the first k of an order: what is to come, by the sequence. -/
theorem seq_rest {n : MNet} (hp : n.prs = []) {o : List Int} (hd : Dst n.holes.length o) (F : Hole → Int → Int) : ∀ (r k : Nat), k + r = o.length →
    ((o.drop k).map fun i => at0 (timesV n o) i.toNat) = endsS (stFr n o k).1 ((o.drop k).map fun i => atH n.holes i.toNat) ∧
    (∀ j, j < k → at0 (timesV n o) (at0 o j).toNat = at0 (stFr n o k).2 (at0 o j).toNat)
  | 0, k, hk => by
    have hk : k = o.length := by omega
    subst hk
    rw [List.drop_length]
    exact ⟨rfl, fun j _ => rfl⟩
  | r + 1, k, hk => by
    obtain ⟨h1, h2⟩ := seq_rest hp hd F r (k + 1) (by omega)
    have hlt : k < o.length := by omega
    have hke : o.drop k = at0 o k :: o.drop (k + 1) := by
      rw [List.drop_eq_getElem_cons hlt]; congr 1; exact (getD_lt o k 0 hlt).symm
    have hin := hd.2 (at0 o k) (getD_mem o k 0 hlt)
    have hlen := stFr_len n o k
    have hend : endOf n (at0 o k) (stFr n o k).1 (stFr n o k).2 = endS (stFr n o k).1 (atH n.holes (at0 o k).toNat) := by
      unfold endOf endS; rw [hp]; rfl
    have hs1 : (stFr n o (k + 1)).1 = stepS (stFr n o k).1 (atH n.holes (at0 o k).toNat) := by
      show (stFr n o k).1.set _ _ = _
      rw [hend]; rfl
    have hs2 : (stFr n o (k + 1)).2 = (stFr n o k).2.set (at0 o k).toNat (endS (stFr n o k).1 (atH n.holes (at0 o k).toNat)) := by
      show (stFr n o k).2.set _ _ = _
      rw [hend]
    have hne : ∀ j, j < k → (at0 o k).toNat ≠ (at0 o j).toNat := by
      intro j hj e
      have hb := hd.2 (at0 o j) (getD_mem o j 0 (by omega))
      have e2 : o[k] = o[j]'(by omega) := by
        have a1 : at0 o k = o[k] := getD_lt o k 0 hlt
        have a2 : at0 o j = o[j]'(by omega) := getD_lt o j 0 (by omega)
        rw [← a1, ← a2]
        omega
      have := List.pairwise_iff_getElem.1 hd.1 j k (by omega) hlt hj
      exact this e2.symm
    constructor
    · rw [hke, List.map_cons, List.map_cons, h1, hs1]
      show _ :: _ = endS _ _ :: _
      congr 1
      rw [h2 k (by omega), hs2, at0_set (by rw [hlen.2]; omega), if_pos rfl]
    · intro j hj
      rw [h2 j (by omega), hs2, at0_set (by rw [hlen.2]; omega), if_neg (hne j hj)]
theorem loss_ends : ∀ (fr : List Int) (hs : List Hole), lossS fr hs = isum ((hs.zip (endsS fr hs)).map fun p => p.1.hi * (p.2 - p.1.frm)) ∧ maxS fr hs = imax (endsS fr hs)
  | _, [] => ⟨rfl, rfl⟩
  | fr, h :: hs => by
    obtain ⟨h1, h2⟩ := loss_ends (stepS fr h) hs
    exact ⟨by show _ + _ = _ + _; rw [h1]; rfl, by show max _ _ = max _ _; rw [h2]⟩
theorem high_seq {n : MNet} (hp : n.prs = []) {o : List Int} (hd : Dst n.holes.length o) (hl : o.length = n.holes.length) :
    highV n o = lossS (List.replicate n.men.toNat 0) (o.map fun i => atH n.holes i.toNat) ∧ lastV n o = maxS (List.replicate n.men.toNat 0) (o.map fun i => atH n.holes i.toNat) := by
  have hperm := perm_of_dst hd hl
  obtain ⟨h1, _⟩ := seq_rest hp hd (fun _ x => x) o.length 0 (by omega)
  rw [List.drop_zero] at h1
  have h0 : (stFr n o 0).1 = List.replicate n.men.toNat 0 := rfl
  rw [h0] at h1
  obtain ⟨e1, e2⟩ := loss_ends (List.replicate n.men.toNat 0) (o.map fun i => atH n.holes i.toNat)
  constructor
  · unfold highV
    rw [lost_nums, e1, ← h1, ← isum_perm (hperm.map _)]
    congr 1
    rw [List.zip_map', List.map_map]
    rfl
  · unfold lastV
    rw [last_nums, e2, ← h1, imax_perm (hperm.map _)]
/-! fewer holes -/
theorem perm_sub {α : Type} {a p : List α} (h : a.Perm p) : ∀ {b : List α}, b.Sublist a → ∃ q : List α, q.Perm b ∧ q.Sublist p := by
  induction h with
  | nil => intro b hb; exact ⟨b, .refl _, hb⟩
  | cons x _ ih =>
    intro b hb
    cases hb with
    | cons _ hb => obtain ⟨q, h1, h2⟩ := ih hb; exact ⟨q, h1, h2.cons _⟩
    | cons_cons _ hb => obtain ⟨q, h1, h2⟩ := ih hb; exact ⟨x :: q, h1.cons _, h2.cons_cons _⟩
  | swap x y l =>
    intro b hb
    cases hb with
    | cons _ hb =>
      cases hb with
      | cons _ hb => exact ⟨_, .refl _, (hb.cons _).cons _⟩
      | cons_cons _ hb => exact ⟨_, .refl _, (hb.cons _).cons_cons _⟩
    | cons_cons _ hb =>
      cases hb with
      | cons _ hb => exact ⟨_, .refl _, (hb.cons_cons _).cons _⟩
      | cons_cons _ hb => exact ⟨_, .swap .., (hb.cons_cons _).cons_cons _⟩
  | trans _ _ h1 h2 =>
    intro b hb
    obtain ⟨q, a1, a2⟩ := h1 hb
    obtain ⟨r, b1, b2⟩ := h2 a2
    exact ⟨r, b1.trans a1, b2⟩
theorem dom_refl {a : List Int} (h : 0 < a.length) : Dom a a := ⟨h, h, fun _ => Nat.le_refl _⟩
theorem map_nums {α : Type} [Inhabited α] (hs : List α) : (nums hs.length).map (fun i => hs.getD i.toNat default) = hs := by
  apply List.ext_getElem (by unfold nums; simp)
  intro i h1 h2
  unfold nums
  simp [List.getD, h2]
theorem map_holes (hs : List Hole) : (nums hs.length).map (fun i => atH hs i.toNat) = hs := map_nums hs
theorem lift_perm {hs : List Hole} {q : List Hole} (h : q.Perm hs) : ∃ o, Dst hs.length o ∧ o.length = hs.length ∧ (o.map fun i => atH hs i.toNat) = q := by
  have key : ∀ (a b : List Hole), a.Perm b → ∀ (L : List Int) (f : Int → Hole), L.map f = b → ∃ M : List Int, M.Perm L ∧ M.map f = a := by
    intro a b hab
    induction hab with
    | nil => intro L f e; exact ⟨L, .refl _, e⟩
    | cons x _ ih =>
      intro L f e
      match L, e with
      | y :: L, e =>
        rw [List.map_cons] at e
        injection e with e1 e2
        obtain ⟨M, m1, m2⟩ := ih L f e2
        exact ⟨y :: M, m1.cons _, by rw [List.map_cons, m2, e1]⟩
    | swap x y l =>
      intro L f e
      match L, e with
      | u :: v :: L, e =>
        simp only [List.map_cons] at e
        injection e with e1 e2
        injection e2 with e2 e3
        exact ⟨v :: u :: L, .swap .., by simp only [List.map_cons, e1, e2, e3]⟩
    | trans _ _ h1 h2 =>
      intro L f e
      obtain ⟨M, m1, m2⟩ := h2 L f e
      obtain ⟨K, k1, k2⟩ := h1 M f m2
      exact ⟨K, k1.trans m1, k2⟩
  obtain ⟨o, h1, h2⟩ := key q hs h (nums hs.length) (fun i => atH hs i.toNat) (map_holes hs)
  refine ⟨o, ⟨h1.nodup_iff.2 (nums_nodup _), fun x hx => mem_nums.1 (h1.mem_iff.1 hx)⟩, ?_, h2⟩
  rw [h1.length_eq]; unfold nums; simp
/-- With fewer holes, and no pairs: the least loss and the least last hour are not greater. -/
theorem best_mono {m : Int} {xs ys : List Hole} (hm : 1 ≤ m) (hs : xs.Sublist ys) (hk : ∀ h, h ∈ ys → HoleOk h) :
    ∃ o x p y u a v b, bestV (highV ⟨m, xs, []⟩) (ords ⟨m, xs, []⟩ xs.length []) = some (o, x) ∧ bestV (highV ⟨m, ys, []⟩) (ords ⟨m, ys, []⟩ ys.length []) = some (p, y) ∧ 0 ≤ x ∧ x ≤ y ∧
      bestV (lastV ⟨m, xs, []⟩) (ords ⟨m, xs, []⟩ xs.length []) = some (u, a) ∧ bestV (lastV ⟨m, ys, []⟩) (ords ⟨m, ys, []⟩ ys.length []) = some (v, b) ∧ 0 ≤ a ∧ a ≤ b := by
  have ne : ∀ zs : List Hole, ords ⟨m, zs, []⟩ zs.length [] ≠ [] := fun zs h => by
    have := ords_all (n := ⟨m, zs, []⟩) rfl zs.length [] (nums zs.length) (by unfold nums; simp) ⟨nums_nodup _, fun x hx => mem_nums.1 hx⟩
    rw [h] at this; cases this
  have hmen : 0 < (List.replicate m.toNat (0 : Int)).length := by rw [List.length_replicate]; omega
  have hkx : ∀ h, h ∈ xs → HoleOk h := fun h hh => hk h (hs.subset hh)
  have down : ∀ p, p ∈ ords ⟨m, ys, []⟩ ys.length [] → ∃ q, q ∈ ords ⟨m, xs, []⟩ xs.length [] ∧ highV ⟨m, xs, []⟩ q ≤ highV ⟨m, ys, []⟩ p ∧ lastV ⟨m, xs, []⟩ q ≤ lastV ⟨m, ys, []⟩ p := by
    intro p hp
    obtain ⟨d1, d2⟩ := ords_dst (n := ⟨m, ys, []⟩) _ _ _ (dst_nil _) hp
    simp only [List.length_nil, Nat.zero_add] at d2
    have hpp : (p.map fun i => atH ys i.toNat).Perm ys := by
      have := (perm_of_dst d1 d2).map fun i => atH ys i.toNat
      rwa [map_holes] at this
    obtain ⟨q, q1, q2⟩ := perm_sub hpp.symm hs
    obtain ⟨o, o1, o2, o3⟩ := lift_perm q1
    obtain ⟨a1, a2⟩ := high_seq (n := ⟨m, ys, []⟩) rfl d1 d2
    obtain ⟨b1, b2⟩ := high_seq (n := ⟨m, xs, []⟩) rfl o1 o2
    have hmono := loss_mono q2 (dom_refl hmen) fun h hh => hk h (hpp.mem_iff.1 hh)
    refine ⟨o, ords_all (n := ⟨m, xs, []⟩) rfl xs.length [] o o2 o1, ?_, ?_⟩
    · rw [a1, b1]; show lossS _ (o.map fun i => atH xs i.toNat) ≤ _; rw [o3]; exact hmono.1
    · rw [a2, b2]; show maxS _ (o.map fun i => atH xs i.toNat) ≤ _; rw [o3]; exact hmono.2
  have nn : ∀ p, p ∈ ords ⟨m, xs, []⟩ xs.length [] → 0 ≤ highV ⟨m, xs, []⟩ p ∧ 0 ≤ lastV ⟨m, xs, []⟩ p := by
    intro p hp
    obtain ⟨d1, d2⟩ := ords_dst (n := ⟨m, xs, []⟩) _ _ _ (dst_nil _) hp
    simp only [List.length_nil, Nat.zero_add] at d2
    have hpp : (p.map fun i => atH xs i.toNat).Perm xs := by
      have := (perm_of_dst d1 d2).map fun i => atH xs i.toNat
      rwa [map_holes] at this
    obtain ⟨a1, a2⟩ := high_seq (n := ⟨m, xs, []⟩) rfl d1 d2
    have := loss_nn (fr := List.replicate m.toNat 0) (hs := p.map fun i => atH xs i.toNat) fun h hh => hkx h (hpp.mem_iff.1 hh)
    exact ⟨by rw [a1]; exact this.1, by rw [a2]; exact this.2⟩
  obtain ⟨o, x, h1, h2, h3, h4⟩ := bestV_spec (f := highV ⟨m, xs, []⟩) (ne xs)
  obtain ⟨p, y, k1, k2, k3, k4⟩ := bestV_spec (f := highV ⟨m, ys, []⟩) (ne ys)
  obtain ⟨u, a, i1, i2, i3, i4⟩ := bestV_spec (f := lastV ⟨m, xs, []⟩) (ne xs)
  obtain ⟨v, b, j1, j2, j3, j4⟩ := bestV_spec (f := lastV ⟨m, ys, []⟩) (ne ys)
  refine ⟨o, x, p, y, u, a, v, b, h1, k1, ?_, ?_, i1, j1, ?_, ?_⟩
  · rw [h3]; exact (nn o h2).1
  · obtain ⟨q, q1, q2, _⟩ := down p k2
    have := h4 q q1
    omega
  · rw [i3]; exact (nn u i2).2
  · obtain ⟨q, q1, _, q2⟩ := down v j2
    have := i4 q q1
    omega
end Go.Proofs.YtkdcdhkhadhcfaaDoor
