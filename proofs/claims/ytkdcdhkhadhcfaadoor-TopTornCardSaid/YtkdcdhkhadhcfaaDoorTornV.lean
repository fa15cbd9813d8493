/-
  the top law: in a calmer truth no more drags; the holes of what drags. Plain laws.
-/
import Derived.Test.YtkdcdhkhadhcfaaDoorNSet
import Derived.Test.YtkdcdhkhadhcfaaDoorHoBest
namespace Go.Proofs.YtkdcdhkhadhcfaaDoor
set_option maxHeartbeats 1000000
/-- A truth that is no stronger. -/
structure Calm (t u : NTr) : Prop where
  w : u.wind ≤ t.wind
  c : u.cur ≤ t.cur
  g : ∀ i, i < t.grips.length → at0 t.grips i ≤ at0 u.grips i
theorem calm_half {n : Net} (hn : NetOk n) {t u : NTr} (h : Calm t u) {k : Nat} (hk : k < n.walls.length) : halfL n u k ≤ halfL n t k := by
  unfold halfL
  obtain ⟨a, b, _⟩ := hn.x k hk
  have e1 := Int.mul_le_mul_of_nonneg_left h.w a.1
  have e2 := Int.mul_le_mul_of_nonneg_left h.c b.1
  omega
theorem calm_side {n : Net} (hn : NetOk n) {t u : NTr} (hu : TrOk n u) (h : Calm t u) {D E k j : Nat} (hs : NSub D E) (hk : k < n.walls.length) : sideL n u D k j ≤ sideL n t E k j := by
  have h0 := (half_nn hn hu hk).1
  have h1 := calm_half hn h hk
  unfold sideL
  by_cases a : D.testBit j = true
  · rw [if_pos a, if_pos (hs j a)]; omega
  · rw [if_neg a]
    by_cases b : E.testBit j = true
    · rw [if_pos b]; omega
    · rw [if_neg b]; omega
theorem calm_bears {n : Net} (hn : NetOk n) {t u : NTr} (hu : TrOk n u) (h : Calm t u) {D E i : Nat} (hs : NSub D E) (hi : i < n.an.length) : bearsL n u i D ≤ bearsL n t i E := by
  have hw := hn.wl
  have e1 : lftL n u i D ≤ lftL n t i E := by
    unfold lftL
    by_cases e : i = 0
    · rw [if_pos e, if_pos e]; exact Int.le_refl _
    · rw [if_neg e, if_neg e]; exact calm_side hn hu h hs (by omega)
  have e2 : rgtL n u i D ≤ rgtL n t i E := by
    unfold rgtL
    by_cases e : i < n.walls.length
    · rw [if_pos e, if_pos e]; exact calm_side hn hu h hs e
    · rw [if_neg e, if_neg e]; exact Int.le_refl _
  unfold bearsL
  omega
theorem calm_step {n : Net} (hn : NetOk n) {t u : NTr} (ht : TrOk n t) (hu : TrOk n u) (h : Calm t u) {D E : Nat} (hs : NSub D E) : NSub (stepM n u D) (stepM n t E) := fun i hi => by
  rcases step_bit.1 hi with a | ⟨a, b⟩
  · exact step_bit.2 (.inl (hs i a))
  · refine step_bit.2 (.inr ⟨a, ?_⟩)
    have := calm_bears hn hu h hs a
    unfold spareL at b ⊢
    have e : canL n t i ≤ canL n u i := by
      obtain ⟨q1, _, q3, q4⟩ := hn.a i a
      unfold canL
      exact Int.mul_le_mul_of_nonneg_left (h.g _ (by rw [ht.l]; omega)) (by omega)
    omega
theorem calm_fin {n : Net} (hn : NetOk n) {t u : NTr} (ht : TrOk n t) (hu : TrOk n u) (h : Calm t u) {D E : Nat} (hd : Fin n u D) (he : Fin n t E) : NSub D E := by
  have key : ∀ {D : Nat}, Drg n u D → NSub D E := by
    intro D hd
    induction hd with
    | none => intro i hi; simp at hi
    | more _ ih =>
      have := calm_step hn ht hu h ih
      rw [he.2] at this
      exact this
  exact key hd.1
theorem bl_sub {D E : Nat} (h : NSub D E) : ∀ k, (blTo D k).Sublist (blTo E k)
  | 0 => .slnil
  | k + 1 => by
    have ih := bl_sub h k
    unfold blTo
    by_cases a : D.testBit k = true
    · rw [if_pos a, if_pos (h k a)]; exact ih.append (List.Sublist.refl _)
    · rw [if_neg a]
      by_cases b : E.testBit k = true
      · rw [if_pos b]; exact ih.trans (List.sublist_append_left ..)
      · rw [if_neg b]; exact ih
/-- The holes of some anchors. -/
def pickH (hs : List Hole) (l : List Int) : List Hole := l.map fun i => atH hs i.toNat
theorem pick_len {hs : List Hole} {l : List Int} : (pickH hs l).length = l.length := by unfold pickH; simp
theorem pick_at {hs : List Hole} {l : List Int} {k : Nat} (h : k < l.length) : atH (pickH hs l) k = atH hs (at0 l k).toNat := by
  unfold pickH atH at0
  simp [List.getD, h]
theorem pick_take {hs : List Hole} {l : List Int} {k : Nat} (h : k < l.length) : pickH hs (l.take (k + 1)) = pickH hs (l.take k) ++ [atH hs (at0 l k).toNat] := by
  unfold pickH at0
  rw [List.take_add_one, List.map_append]
  simp [List.getD, h]
theorem holes_in {hs : List Hole} (h : holesB hs = true) {i : Nat} (hi : i < hs.length) : holeB (atH hs i) = true := by
  unfold holesB at h
  exact allB_iff.1 h i hi
theorem holeB_ok {h : Hole} (k : holeB h = true) : HoleOk h := by
  simp only [holeB, withinB, Bool.and_eq_true, decide_eq_true_eq] at k
  unfold HoleOk
  omega
theorem has_nil (m : Int) (zs : List Hole) : hasV ⟨m, zs, []⟩ = true := by
  have h : ords ⟨m, zs, []⟩ zs.length [] ≠ [] := fun h => by
    have := ords_all (n := ⟨m, zs, []⟩) rfl zs.length [] (nums zs.length) (by unfold nums; simp) ⟨nums_nodup _, fun x hx => mem_nums.1 hx⟩
    rw [h] at this; cases this
  have e : hasV ⟨m, zs, []⟩ = !(ords ⟨m, zs, []⟩ zs.length []).isEmpty := rfl
  rw [e]
  generalize ords ⟨m, zs, []⟩ zs.length [] = l at *
  cases l with
  | nil => exact absurd rfl h
  | cons a l => rfl
theorem pick_ok {m : Int} {hs : List Hole} {l : List Int} (hm : 1 ≤ m ∧ m ≤ 3) (h : holesB hs = true) (hl : l.length ≤ 6) (hi : ∀ k, k < l.length → 0 ≤ at0 l k ∧ at0 l k < hs.length) : MOk ⟨m, pickH hs l, []⟩ where
  h6 := by show (pickH hs l).length ≤ 6; rw [pick_len]; exact hl
  p8 := by show (0 : Nat) ≤ 8; omega
  m1 := hm.1
  m3 := hm.2
  hs := by
    show holesB (pickH hs l) = true
    unfold holesB
    rw [allB_iff]
    intro i hi2
    rw [pick_len] at hi2
    rw [pick_at hi2]
    exact holes_in h (by have := hi i hi2; omega)
  ps := rfl
  has := has_nil _ _
theorem pick_mono {m : Int} {hs : List Hole} {a b : List Int} (hm : 1 ≤ m) (h : holesB hs = true) (hab : a.Sublist b) (hi : ∀ k, k < b.length → 0 ≤ at0 b k ∧ at0 b k < hs.length) :
    ∃ o x p y u s v t, bestV (highV ⟨m, pickH hs a, []⟩) (ords ⟨m, pickH hs a, []⟩ (pickH hs a).length []) = some (o, x) ∧ bestV (highV ⟨m, pickH hs b, []⟩) (ords ⟨m, pickH hs b, []⟩ (pickH hs b).length []) = some (p, y) ∧ 0 ≤ x ∧ x ≤ y ∧
      bestV (lastV ⟨m, pickH hs a, []⟩) (ords ⟨m, pickH hs a, []⟩ (pickH hs a).length []) = some (u, s) ∧ bestV (lastV ⟨m, pickH hs b, []⟩) (ords ⟨m, pickH hs b, []⟩ (pickH hs b).length []) = some (v, t) ∧ 0 ≤ s ∧ s ≤ t := by
  refine best_mono hm (hab.map _) fun x hx => ?_
  obtain ⟨i, h1, rfl⟩ := List.mem_map.1 hx
  obtain ⟨k, h2, h3⟩ := mem_getD b i 0 h1
  have := hi k h2
  unfold at0 at this
  rw [h3] at this
  exact holeB_ok (holes_in h (by omega))
/-- With no hole at all both are 0. -/
theorem none_zero (m : Int) : (∃ o, bestV (highV ⟨m, [], []⟩) (ords ⟨m, [], []⟩ ([] : List Hole).length []) = some (o, 0)) ∧ ∃ o, bestV (lastV ⟨m, [], []⟩) (ords ⟨m, [], []⟩ ([] : List Hole).length []) = some (o, 0) := ⟨⟨[], rfl⟩, ⟨[], rfl⟩⟩
/-- The mesh's example. -/
def exM (m : Int) : MNet := ⟨m, [⟨0, 2, 3, 2⟩, ⟨0, 5, 6, 3⟩, ⟨1, 4, 8, 1⟩], [⟨0, 2⟩]⟩
theorem exM_ok : MOk (exM 1) := ⟨by decide, by decide, by decide, by decide, by decide, by decide, by decide +kernel⟩
theorem exM_best {o : List Int} {k : Int} (h : bestV (highV (exM 1)) (ords (exM 1) (exM 1).holes.length []) = some (o, k)) : o = [0, 2, 1] := by
  have e : bestV (highV (exM 1)) (ords (exM 1) (exM 1).holes.length []) = some ([0, 2, 1], 58) := by decide +kernel
  rw [e] at h
  injection h with h
  injection h with h1 h2
  exact h1.symm
end Go.Proofs.YtkdcdhkhadhcfaaDoor
