/-
  shares: the nodes below a node as a list, and what is folded over it. Plain laws.
-/
import Derived.Test.YtkdcdhkhadhcfaaShMap
namespace Go.Proofs.Ytkdcdhkhadhcfaa
set_option maxHeartbeats 1000000
/-- The nodes below m, of the first k ones. -/
def kidsTo (l : List SNd) (m : Int) : Nat → List Nat
  | 0 => []
  | k + 1 => if kidB l m k then kidsTo l m k ++ [k] else kidsTo l m k
def kidsL (l : List SNd) (m : Int) : List Nat := kidsTo l m l.length
def kidsI (l : List SNd) (m : Int) (k : Nat) : List Int := (kidsTo l m k).map fun (k : Nat) => (k : Int)
theorem fold_kids {σ : Type} {l : List SNd} {m : Int} (f : σ → Nat → σ) (g : Nat → σ) (hs : ∀ k, g (k + 1) = if kidB l m k then f (g k) k else g k) : ∀ k, (kidsTo l m k).foldl f (g 0) = g k
  | 0 => rfl
  | k + 1 => by
    have ih := fold_kids f g hs k
    rw [hs k]
    unfold kidsTo
    by_cases h : kidB l m k = true
    · rw [if_pos h, if_pos h, List.foldl_append, ih]; rfl
    · rw [if_neg h, if_neg h, ih]
theorem kids_len (l : List SNd) (m : Int) : ∀ k, (kidsTo l m k).length ≤ k
  | 0 => Nat.le_refl _
  | k + 1 => by
    have := kids_len l m k
    unfold kidsTo
    by_cases h : kidB l m k = true
    · rw [if_pos h, List.length_append, List.length_singleton]; omega
    · rw [if_neg h]; omega
theorem kids_mem {l : List SNd} {m : Int} {x : Nat} : ∀ k, x ∈ kidsTo l m k ↔ x < k ∧ kidB l m x = true
  | 0 => by unfold kidsTo; simp
  | k + 1 => by
    have ih := kids_mem (l := l) (m := m) (x := x) k
    unfold kidsTo
    by_cases h : kidB l m k = true
    · rw [if_pos h, List.mem_append, ih, List.mem_singleton]
      constructor
      · rintro (⟨h1, h2⟩ | rfl)
        · exact ⟨by omega, h2⟩
        · exact ⟨by omega, h⟩
      · rintro ⟨h1, h2⟩
        by_cases e : x = k
        · exact .inr e
        · exact .inl ⟨by omega, h2⟩
    · rw [if_neg h, ih]
      constructor
      · rintro ⟨h1, h2⟩; exact ⟨by omega, h2⟩
      · rintro ⟨h1, h2⟩
        refine ⟨?_, h2⟩
        by_cases e : x = k
        · rw [e] at h2; exact absurd h2 h
        · omega
theorem kids_pre {l : List SNd} {m : Int} {k : Nat} : ∀ n, k ≤ n → ∃ post, kidsTo l m n = kidsTo l m k ++ post
  | 0, h => ⟨[], by rw [show k = 0 by omega]; simp⟩
  | n + 1, h => by
    by_cases e : k = n + 1
    · exact ⟨[], by rw [e]; simp⟩
    · obtain ⟨post, hp⟩ := kids_pre (l := l) (m := m) (k := k) n (by omega)
      by_cases g : kidB l m n = true
      · exact ⟨post ++ [n], by rw [show kidsTo l m (n + 1) = kidsTo l m n ++ [n] by rw [kidsTo, if_pos g], hp, List.append_assoc]⟩
      · exact ⟨post, by rw [show kidsTo l m (n + 1) = kidsTo l m n by rw [kidsTo, if_neg g], hp]⟩
theorem kids_at {l : List SNd} {m : Int} {k : Nat} (hk : k < l.length) (h : kidB l m k = true) : ∃ post, kidsL l m = kidsTo l m k ++ k :: post := by
  obtain ⟨post, hp⟩ := kids_pre (l := l) (m := m) (k := k + 1) l.length (by omega)
  refine ⟨post, ?_⟩
  unfold kidsL
  rw [hp, show kidsTo l m (k + 1) = kidsTo l m k ++ [k] by rw [kidsTo, if_pos h], List.append_assoc]; rfl
theorem kids_of {l : List SNd} {m : Int} {pre post : List Nat} {x : Nat} (h : kidsL l m = pre ++ x :: post) : x < l.length ∧ kidB l m x = true :=
  (kids_mem l.length).1 (show x ∈ kidsL l m by rw [h]; simp)
theorem kids_nodup (l : List SNd) (m : Int) : ∀ k, (kidsTo l m k).Nodup
  | 0 => by unfold kidsTo; exact List.nodup_nil
  | k + 1 => by
    have ih := kids_nodup l m k
    unfold kidsTo
    by_cases h : kidB l m k = true
    · rw [if_pos h, List.nodup_append]
      refine ⟨ih, by simp, fun a ha b hb e => ?_⟩
      have := ((kids_mem k).1 ha).1
      simp at hb
      omega
    · rw [if_neg h]; exact ih
theorem split_uniq {x : Nat} {b d : List Nat} : ∀ {a c : List Nat}, x ∉ a → x ∉ c → a ++ x :: b = c ++ x :: d → a = c
  | [], [], _, _, _ => rfl
  | [], y :: c, _, h2, h => by
    simp only [List.nil_append, List.cons_append, List.cons.injEq] at h
    exact absurd (by rw [h.1]; simp) h2
  | y :: a, [], h1, _, h => by
    simp only [List.nil_append, List.cons_append, List.cons.injEq] at h
    exact absurd (by rw [← h.1]; simp) h1
  | y :: a, z :: c, h1, h2, h => by
    simp only [List.cons_append, List.cons.injEq] at h
    have := split_uniq (fun q => h1 (by simp [q])) (fun q => h2 (by simp [q])) h.2
    rw [h.1, this]
theorem kids_split {l : List SNd} {m : Int} {pre post : List Nat} {x : Nat} (h : kidsL l m = pre ++ x :: post) : pre = kidsTo l m x ∧ x < l.length ∧ kidB l m x = true := by
  obtain ⟨h1, h2⟩ := kids_of h
  refine ⟨?_, h1, h2⟩
  obtain ⟨post2, hp⟩ := kids_at h1 h2
  have hn := kids_nodup l m l.length
  rw [show kidsTo l m l.length = kidsL l m from rfl, h, List.nodup_append] at hn
  refine split_uniq (x := x) (b := post) (d := post2) (fun q => hn.2.2 x q x (by simp) rfl) (fun q => by have := ((kids_mem x).1 q).1; omega) ?_
  rw [← h, hp]
/-! the first one with a weight -/
def frS (l : List SNd) (s : Int) (k : Nat) : Int := if decide (s < 0) && decide (0 < (atS l k).wt) then (k : Int) else s
def frTo (l : List SNd) (m : Int) : Nat → Int
  | 0 => -1
  | k + 1 => if kidB l m k then frS l (frTo l m k) k else frTo l m k
theorem fr_inv {l : List SNd} {m : Int} : ∀ k, (frTo l m k = -1 ∧ rankTo l m k = 0) ∨ (0 < rankTo l m k ∧ ∃ j : Nat, frTo l m k = j ∧ j < k ∧ kidB l m j = true ∧ 0 < (atS l j).wt ∧ rankTo l m j = 0)
  | 0 => .inl ⟨rfl, rfl⟩
  | k + 1 => by
    have ih := fr_inv (l := l) (m := m) k
    rw [show frTo l m (k + 1) = if kidB l m k then frS l (frTo l m k) k else frTo l m k from rfl, show rankTo l m (k + 1) = if kidB l m k && decide (0 < (atS l k).wt) then rankTo l m k + 1 else rankTo l m k from rfl]
    by_cases h : kidB l m k = true
    · rw [if_pos h, h, Bool.true_and]
      unfold frS
      by_cases hw : 0 < (atS l k).wt
      · rw [decide_eq_true hw, Bool.and_true, if_pos rfl]
        rcases ih with ⟨h1, h2⟩ | ⟨h1, j, h2, h3, h4, h5, h6⟩
        · rw [h1, if_pos (by decide)]
          exact .inr ⟨by omega, k, rfl, by omega, h, hw, h2⟩
        · rw [h2, if_neg (by simp)]
          exact .inr ⟨by omega, j, rfl, by omega, h4, h5, h6⟩
      · rw [decide_eq_false hw, Bool.and_false, if_neg (by decide), if_neg (by decide)]
        rcases ih with ⟨h1, h2⟩ | ⟨h1, j, h2, h3, h4, h5, h6⟩
        · exact .inl ⟨h1, h2⟩
        · exact .inr ⟨h1, j, h2, by omega, h4, h5, h6⟩
    · rw [if_neg h]
      have : kidB l m k = false := by simpa using h
      rw [this, Bool.false_and, if_neg (by decide)]
      rcases ih with ⟨h1, h2⟩ | ⟨h1, j, h2, h3, h4, h5, h6⟩
      · exact .inl ⟨h1, h2⟩
      · exact .inr ⟨h1, j, h2, by omega, h4, h5, h6⟩
theorem rank_nn (l : List SNd) (m : Int) : ∀ k, 0 ≤ rankTo l m k
  | 0 => Int.le_refl _
  | k + 1 => by
    have := rank_nn l m k
    unfold rankTo
    split <;> omega
theorem rank_mono {l : List SNd} {m : Int} {k : Nat} : ∀ n, k ≤ n → rankTo l m k ≤ rankTo l m n
  | 0, h => by rw [show k = 0 by omega]; exact Int.le_refl _
  | n + 1, h => by
    by_cases e : k = n + 1
    · rw [e]; exact Int.le_refl _
    · have := rank_mono (l := l) (m := m) (k := k) n (by omega)
      have h2 : rankTo l m (n + 1) = if kidB l m n && decide (0 < (atS l n).wt) then rankTo l m n + 1 else rankTo l m n := rfl
      rw [h2]
      split <;> omega
theorem fr_iff {l : List SNd} {k : Nat} (h0 : 0 < k) (hk : k < l.length) : decide (frTo l (atS l k).up l.length = (k : Int)) = (decide (rankTo l (atS l k).up k = 0) && decide (0 < (atS l k).wt)) := by
  have hs := kid_self (l := l) h0
  generalize hm : (atS l k).up = m at *
  rcases fr_inv (l := l) (m := m) l.length with ⟨h1, h2⟩ | ⟨h1, j, h2, h3, h4, h5, h6⟩
  · have hr : rankTo l m (k + 1) ≤ rankTo l m l.length := rank_mono _ (by omega)
    have hn := rank_nn l m k
    rw [h1, decide_eq_false (by omega)]
    have h3 : rankTo l m (k + 1) = if kidB l m k && decide (0 < (atS l k).wt) then rankTo l m k + 1 else rankTo l m k := rfl
    rw [hs, Bool.true_and] at h3
    by_cases hw : 0 < (atS l k).wt
    · rw [decide_eq_true hw, if_pos rfl] at h3; omega
    · rw [decide_eq_false hw, Bool.and_false]
  · rw [h2]
    by_cases e : j = k
    · subst e
      rw [decide_eq_true rfl, decide_eq_true h6, decide_eq_true h5]; rfl
    · rw [decide_eq_false (by omega)]
      symm
      rw [Bool.and_eq_false_iff]
      by_cases q : j < k
      · left
        have hr : rankTo l m (j + 1) ≤ rankTo l m k := rank_mono _ (by omega)
        have h7 : rankTo l m (j + 1) = if kidB l m j && decide (0 < (atS l j).wt) then rankTo l m j + 1 else rankTo l m j := rfl
        rw [h4, decide_eq_true h5, Bool.and_self, if_pos rfl] at h7
        exact decide_eq_false (by omega)
      · right
        by_cases hw : 0 < (atS l k).wt
        · exfalso
          have hr : rankTo l m (k + 1) ≤ rankTo l m j := rank_mono _ (by omega)
          have hn := rank_nn l m k
          have h7 : rankTo l m (k + 1) = if kidB l m k && decide (0 < (atS l k).wt) then rankTo l m k + 1 else rankTo l m k := rfl
          rw [hs, decide_eq_true hw, Bool.and_self, if_pos rfl] at h7
          omega
        · exact decide_eq_false hw
theorem first_enough {l : List SNd} (hc : CusOk l) : ∀ f k, k < l.length → k ≤ f → firstTo l f k = firstTo l k k
  | 0, k, _, h => by rw [show k = 0 by omega]
  | f + 1, k, hk, h => by
    by_cases e0 : k = 0
    · subst e0; unfold firstTo; rw [if_pos rfl]
    · obtain ⟨q, rfl⟩ : ∃ q, k = q + 1 := ⟨k - 1, by omega⟩
      have hu := hc.up (q + 1) hk (by omega)
      unfold firstTo
      rw [if_neg (by omega), if_neg (by omega), first_enough hc f _ (by omega) (by omega), first_enough hc q _ (by omega) (by omega)]
theorem first_zero {l : List SNd} (h1 : 1 ≤ l.length) : firstV l 0 = true := by
  unfold firstV
  obtain ⟨q, hq⟩ : ∃ q, l.length = q + 1 := ⟨l.length - 1, by omega⟩
  rw [hq]
  unfold firstTo
  rw [if_pos rfl]
theorem first_step {l : List SNd} (hc : CusOk l) {k : Nat} (h0 : 0 < k) (hk : k < l.length) : firstV l k = (decide (frTo l (atS l k).up l.length = (k : Int)) && firstV l (atS l k).up.toNat) := by
  have hu := hc.up k hk h0
  rw [fr_iff h0 hk]
  unfold firstV
  rw [first_enough hc l.length k hk (by omega), first_enough hc l.length (atS l k).up.toNat (by omega) (by omega)]
  obtain ⟨q, rfl⟩ : ∃ q, k = q + 1 := ⟨k - 1, by omega⟩
  rw [show firstTo l (q + 1) (q + 1) = (if q + 1 = 0 then true else decide (rankTo l (atS l (q + 1)).up (q + 1) = 0) && (decide (0 < (atS l (q + 1)).wt) && firstTo l q (atS l (q + 1)).up.toNat)) from rfl, if_neg (by omega), first_enough hc q _ (by omega) (by omega), Bool.and_assoc]
end Go.Proofs.Ytkdcdhkhadhcfaa
