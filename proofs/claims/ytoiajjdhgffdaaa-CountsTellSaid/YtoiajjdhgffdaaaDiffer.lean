/-
  reference: cut, differ.
-/
import Derived.Test.YtoiajjdhgffdaaaSpans
import Derived.Deep.DeepCutAuto
namespace Go.Proofs.Ytoiajjdhgffdaaa
open Go Go.RowKit
set_option maxHeartbeats 1000000
set_option maxRecDepth 100000
theorem cut_any (a b c d : Int) (w : World) :
    Calls Try.prog 106 #[.agg #[.int .i64 a, .int .i64 b], .agg #[.int .i64 c, .int .i64 d]] w fun e w' => e = .returned (.agg #[.int .i64 (max a c), .int .i64 (min b d)]) ∧ Bel w w' := by
  go_enter Try.func106, Try.ntmps106
  go_wp2
  all_goals exact bodyPost_ret (v := .agg #[.int .i64 (max a c), .int .i64 (min b d)]) (by simp [results, Try.results106, go_sem] <;> omega) rfl ⟨rfl, (by repeat (first | assumption | exact Bel.refl _ | refine Bel.drew ?_ | refine Bel.drewN ?_ _ | refine Bel.alloc ?_ _ | refine Bel.setCell ?_ (by simp <;> omega) _ | refine Bel.trans ?_ (by assumption)))⟩
def upd2 (f : Nat → Nat → Int) (i c : Nat) (x : Int) : Nat → Nat → Int := fun a b => if a = i ∧ b = c then x else f a b
theorem upd2_same (f : Nat → Nat → Int) (i c : Nat) (x : Int) : upd2 f i c x i c = x := by unfold upd2; rw [if_pos ⟨rfl, rfl⟩]
theorem upd2_other (f : Nat → Nat → Int) (i c j d : Nat) (x : Int) (h : ¬ (j = i ∧ d = c)) : upd2 f i c x j d = f j d := by unfold upd2; rw [if_neg h]
theorem SpP.put {w : World} {base ob T n : Nat} {rb : Nat → Nat} {lo hi : Nat → Nat → Int} (h : SpP w base ob T n rb lo hi) {i c : Nat} (hi' : i < T) (hc : c < n) (x y : Int) :
    SpP ((w.setCell ⟨rb i, c * 2, none⟩ (.int .i64 x)).setCell ⟨rb i, c * 2 + 1, none⟩ (.int .i64 y)) base ob T n rb (upd2 lo i c x) (upd2 hi i c y) := by
  have hne := (h.far i hi').2
  refine ⟨fun j hj => ?_, fun j hj => ?_, h.inj, h.far, h.obase, by simpa using h.olt⟩
  · rw [World.cell?_setCell_other _ _ _ _ (by intro q; injection q; omega), World.cell?_setCell_other _ _ _ _ (by intro q; injection q; omega)]
    exact h.out j hj
  · by_cases e : j = i
    · subst e
      exact (((h.row j hj).setLo hc x).setHi hc y).congr (fun b _ => by unfold upd2; simp) (fun b _ => by unfold upd2; simp)
    · have hb : rb i ≠ rb j := fun q => e (h.inj i j hi' hj q).symm
      exact ((h.row j hj).of_block (by simp) (by rw [heap_setCell_other _ _ _ _ (fun q => hb q.symm), heap_setCell_other _ _ _ _ (fun q => hb q.symm)])).congr
        (fun b _ => upd2_other _ _ _ _ _ _ (by omega)) (fun b _ => upd2_other _ _ _ _ _ _ (by omega))
theorem SpP.bel {w w' : World} {base ob T n : Nat} {rb : Nat → Nat} {lo hi : Nat → Nat → Int} (h : SpP w base ob T n rb lo hi) (k : Bel w w') : SpP w' base ob T n rb lo hi :=
  ⟨fun i hi => k.cell (h.out i hi), fun i hi => (h.row i hi).bel k, h.inj, h.far, h.obase, Nat.lt_of_lt_of_le h.olt k.szle⟩
theorem SpP.putF {w w0 : World} {base ob T n : Nat} {rb : Nat → Nat} {lo hi : Nat → Nat → Int} (h : SpP w base ob T n rb lo hi) (hB : Bel w0 w) (hb : w0.heap.size ≤ base) {i c : Nat} (hi' : i < T) (hc : c < n) (x y : Int) :
    SpP ((w.setCell ⟨rb i, c * 2, none⟩ (.int .i64 x)).setCell ⟨rb i, c * 2 + 1, none⟩ (.int .i64 y)) base ob T n rb (upd2 lo i c x) (upd2 hi i c y) ∧
    Bel w0 ((w.setCell ⟨rb i, c * 2, none⟩ (.int .i64 x)).setCell ⟨rb i, c * 2 + 1, none⟩ (.int .i64 y)) ∧
    (∀ p : Addr, p.block ≠ rb i → ((w.setCell ⟨rb i, c * 2, none⟩ (.int .i64 x)).setCell ⟨rb i, c * 2 + 1, none⟩ (.int .i64 y)).cell? p = w.cell? p) ∧
    ((w.setCell ⟨rb i, c * 2, none⟩ (.int .i64 x)).setCell ⟨rb i, c * 2 + 1, none⟩ (.int .i64 y)).heap.size = w.heap.size ∧
    (∀ k, k ≠ rb i → ((w.setCell ⟨rb i, c * 2, none⟩ (.int .i64 x)).setCell ⟨rb i, c * 2 + 1, none⟩ (.int .i64 y)).heap[k]? = w.heap[k]?) := by
  have hf := (h.far i hi').1
  refine ⟨h.put hi' hc x y, (hB.setCell (by show _ ≤ rb i; omega) _).setCell (by show _ ≤ rb i; omega) _, fun p hp => ?_, by simp, fun k hk => (heap_setCell_other _ _ _ _ (by exact hk)).trans (heap_setCell_other _ _ _ _ (by exact hk))⟩
  rw [World.cell?_setCell_other _ _ _ _ (by intro q; apply hp; rw [← q]), World.cell?_setCell_other _ _ _ _ (by intro q; apply hp; rw [← q])]
def KeepSt (w : World) (a b : Nat) (w' : World) : Prop := w.heap.size ≤ w'.heap.size ∧ ∀ k, k < w.heap.size → k ≠ a → k ≠ b → w'.heap[k]? = w.heap[k]?
theorem KeepSt.bel {w wx wy : World} {a b : Nat} (h : KeepSt w a b wx) (q : Bel wx wy) : KeepSt w a b wy :=
  ⟨Nat.le_trans h.1 q.szle, fun k hk h1 h2 => (q.below.block k (Nat.lt_of_lt_of_le hk h.1)).trans (h.2 k hk h1 h2)⟩
theorem differ_any (w w0 : World) (base ob cap T n : Nat) (rb : Nat → Nat) (lo hi : Nat → Nat → Int) (i c j d : Nat) (low high : Int) (hS : SpP w base ob T n rb lo hi)
    (h1 : i < T) (h2 : c < n) (h3 : j < T) (h4 : d < n) (hne : ¬ (j = i ∧ d = c)) (hB : Bel w0 w) (hb : w0.heap.size ≤ base)
    (hla : -100000 ≤ lo i c ∧ lo i c ≤ 100000) (hha : -100000 ≤ hi i c ∧ hi i c ≤ 100000) (hlb : -100000 ≤ lo j d ∧ lo j d ≤ 100000) (hhb : -100000 ≤ hi j d ∧ hi j d ≤ 100000)
    (hlow : -100000 ≤ low ∧ low ≤ 100000) (hhigh : -100000 ≤ high ∧ high ≤ 100000) :
    Calls Try.prog 99 #[.slice (some ⟨ob, 0, none⟩) T cap, .int .i64 i, .int .i64 c, .int .i64 j, .int .i64 d, .int .i64 low, .int .i64 high] w fun e w' =>
      e = .returned (.bool (!(decide (max (lo i c) (lo j d + low) = lo i c) && decide (min (hi i c) (hi j d + high) = hi i c)) || !(decide (max (lo j d) (lo i c - high) = lo j d) && decide (min (hi j d) (hi i c - low) = hi j d)))) ∧
      Bel w0 w' ∧ SpP w' base ob T n rb (upd2 (upd2 lo i c (max (lo i c) (lo j d + low))) j d (max (lo j d) (lo i c - high))) (upd2 (upd2 hi i c (min (hi i c) (hi j d + high))) j d (min (hi j d) (hi i c - low))) ∧
      w.heap.size ≤ w'.heap.size ∧ ∀ k, k < w.heap.size → k ≠ rb i → k ≠ rb j → w'.heap[k]? = w.heap[k]? := by
  have hixo := idxSpans (c := cap) (n := T) (b := ob) (off := 0) (a := some ⟨ob, 0, none⟩) (fun _ => rfl)
  have hixi := fun (q : Nat) => idxSpan (c := n) (n := n) (b := rb q) (off := 0) (a := some ⟨rb q, 0, none⟩) (fun _ => rfl)
  have o1 := hS.out i h1
  have o2 := hS.out j h3
  have c1 := (hS.row i h1).lo c h2
  have c2 := (hS.row i h1).hi c h2
  have c3 := (hS.row j h3).lo d h4
  have c4 := (hS.row j h3).hi d h4
  have l1 := cell_lt o1
  have l2 := cell_lt c1
  have l3 := cell_lt c3
  go_enter Try.func99, Try.ntmps99
  go_upto_region 1 with fail
  go_cut [15, 16] (fun s15 s16 wx => ∃ p q : Nat, s15 = .pointer (some ⟨p, 0, none⟩) ∧ s16 = .pointer (some ⟨q, 0, none⟩) ∧ p ≠ q ∧ w.heap.size ≤ p ∧ w.heap.size ≤ q ∧ Bel w wx ∧
    wx.cell? ⟨p, 0, none⟩ = some (.int .i64 (lo i c)) ∧ wx.cell? ⟨p, 1, none⟩ = some (.int .i64 (hi i c)) ∧ wx.cell? ⟨q, 0, none⟩ = some (.int .i64 (lo j d)) ∧ wx.cell? ⟨q, 1, none⟩ = some (.int .i64 (hi j d)))
  case first =>
    refine wp_region_mixB (Plan.seq [0, 1, 2, 3, 4, 5, 6, 7, 8, 9, 10, 11, 12, 13] (.both 14 (Plan.seq [1015, 1016, 1017] .nil) 15 (Plan.seq [1014, 1016, 1017] .nil))) (by kernel_rfl) (by kernel_rfl) (fun hcur => ?_)
    simp only [Plan.seq, Plan.fill, List.getD_cons_zero, List.getD_cons_succ, Nat.reduceLT, ↓reduceIte, Nat.reduceSub]
    apply mix_pure _ rfl
    · intro w' hw'
      have hcr := hw'.cells
      go_simp
      rfl
    intro K hK
    go_simp
    refine hK _ ?_
    clear hK K
    apply mix_pure _ rfl
    · intro w' hw'
      have hcr := hw'.cells
      go_simp
      rfl
    intro K hK
    go_simp
    refine hK _ ?_
    clear hK K
    apply mix_pure _ rfl
    · intro w' hw'
      have hcr := hw'.cells
      go_simp
      rfl
    intro K hK
    go_simp
    refine hK _ ?_
    clear hK K
    apply mix_pure _ rfl
    · intro w' hw'
      have hcr := hw'.cells
      go_simp
      rfl
    intro K hK
    go_simp
    refine hK _ ?_
    clear hK K
    apply mix_pure _ rfl
    · intro w' hw'
      have hcr := hw'.cells
      go_simp
      rfl
    intro K hK
    go_simp
    refine hK _ ?_
    clear hK K
    apply mix_pure _ rfl
    · intro w' hw'
      have hcr := hw'.cells
      go_simp
      rfl
    intro K hK
    go_simp
    refine hK _ ?_
    clear hK K
    apply mix_pure _ rfl
    · intro w' hw'
      have hcr := hw'.cells
      go_simp
      rfl
    intro K hK
    go_simp
    refine hK _ ?_
    clear hK K
    apply mix_pure _ rfl
    · intro w' hw'
      have hcr := hw'.cells
      go_simp
      rfl
    intro K hK
    go_simp
    refine hK _ ?_
    clear hK K
    apply mix_pure _ rfl
    · intro w' hw'
      have hcr := hw'.cells
      go_simp
      rfl
    intro K hK
    go_simp
    refine hK _ ?_
    clear hK K
    apply mix_pure _ rfl
    · intro w' hw'
      have hcr := hw'.cells
      go_simp
      rfl
    intro K hK
    go_simp
    refine hK _ ?_
    clear hK K
    apply mix_pure _ rfl
    · intro w' hw'
      have hcr := hw'.cells
      go_simp
      rfl
    intro K hK
    go_simp
    refine hK _ ?_
    clear hK K
    apply mix_pure _ rfl
    · intro w' hw'
      have hcr := hw'.cells
      go_simp
      rfl
    intro K hK
    go_simp
    refine hK _ ?_
    clear hK K
    apply mix_pure _ rfl
    · intro w' hw'
      have hcr := hw'.cells
      go_simp
      rfl
    intro K hK
    go_simp
    refine hK _ ?_
    clear hK K
    apply mix_pure _ rfl
    · intro w' hw'
      have hcr := hw'.cells
      go_simp
      rfl
    intro K hK
    go_simp
    refine hK _ ?_
    clear hK K
    refine mix_both ?_ ?_
    · refine mix_act rfl (fun K hK => ?_)
      go_simp
      refine hK _ _ (by repeat (first | assumption | exact Bel.refl _ | refine Bel.drew ?_ | refine Bel.drewN ?_ _ | refine Bel.alloc ?_ _ | refine Bel.setCell ?_ (by simp <;> omega) _ | refine Bel.trans ?_ (by assumption))) (fun hcur => ?_)
      clear hK K
      refine mix_act rfl (fun K hK => ?_)
      go_simp
      refine hK _ _ (by repeat (first | assumption | exact Bel.refl _ | refine Bel.drew ?_ | refine Bel.drewN ?_ _ | refine Bel.alloc ?_ _ | refine Bel.setCell ?_ (by simp <;> omega) _ | refine Bel.trans ?_ (by assumption))) (fun hcur => ?_)
      clear hK K
      refine mix_act rfl (fun K hK => ?_)
      go_simp
      refine hK _ _ (by repeat (first | assumption | exact Bel.refl _ | refine Bel.drew ?_ | refine Bel.drewN ?_ _ | refine Bel.alloc ?_ _ | refine Bel.setCell ?_ (by simp <;> omega) _ | refine Bel.trans ?_ (by assumption))) (fun hcur => ?_)
      clear hK K
      refine mix_act rfl (fun K hK => ?_)
      go_simp
      refine hK _ _ (by repeat (first | assumption | exact Bel.refl _ | refine Bel.drew ?_ | refine Bel.drewN ?_ _ | refine Bel.alloc ?_ _ | refine Bel.setCell ?_ (by simp <;> omega) _ | refine Bel.trans ?_ (by assumption))) (fun hcur => ?_)
      clear hK K
      refine mix_nil ?_
      go_wp2_with fail
      go_meet
      first
        | exact ⟨w.heap.size, w.heap.size + 1, rfl, rfl, by omega, by omega, by omega, (by repeat (first | assumption | exact Bel.refl _ | refine Bel.drew ?_ | refine Bel.drewN ?_ _ | refine Bel.alloc ?_ _ | refine Bel.setCell ?_ (by simp <;> omega) _ | refine Bel.trans ?_ (by assumption))), by simp [World.cell?_alloc_lt], by simp [World.cell?_alloc_lt], by simp [], by simp []⟩
        | exact ⟨w.heap.size + 1, w.heap.size, rfl, rfl, by omega, by omega, by omega, (by repeat (first | assumption | exact Bel.refl _ | refine Bel.drew ?_ | refine Bel.drewN ?_ _ | refine Bel.alloc ?_ _ | refine Bel.setCell ?_ (by simp <;> omega) _ | refine Bel.trans ?_ (by assumption))), by simp [World.cell?_alloc_lt], by simp [World.cell?_alloc_lt], by simp [World.cell?_alloc_lt], by simp [World.cell?_alloc_lt]⟩
    · refine mix_act rfl (fun K hK => ?_)
      go_simp
      refine hK _ _ (by repeat (first | assumption | exact Bel.refl _ | refine Bel.drew ?_ | refine Bel.drewN ?_ _ | refine Bel.alloc ?_ _ | refine Bel.setCell ?_ (by simp <;> omega) _ | refine Bel.trans ?_ (by assumption))) (fun hcur => ?_)
      clear hK K
      refine mix_act rfl (fun K hK => ?_)
      go_simp
      refine hK _ _ (by repeat (first | assumption | exact Bel.refl _ | refine Bel.drew ?_ | refine Bel.drewN ?_ _ | refine Bel.alloc ?_ _ | refine Bel.setCell ?_ (by simp <;> omega) _ | refine Bel.trans ?_ (by assumption))) (fun hcur => ?_)
      clear hK K
      refine mix_act rfl (fun K hK => ?_)
      go_simp
      refine hK _ _ (by repeat (first | assumption | exact Bel.refl _ | refine Bel.drew ?_ | refine Bel.drewN ?_ _ | refine Bel.alloc ?_ _ | refine Bel.setCell ?_ (by simp <;> omega) _ | refine Bel.trans ?_ (by assumption))) (fun hcur => ?_)
      clear hK K
      refine mix_act rfl (fun K hK => ?_)
      go_simp
      refine hK _ _ (by repeat (first | assumption | exact Bel.refl _ | refine Bel.drew ?_ | refine Bel.drewN ?_ _ | refine Bel.alloc ?_ _ | refine Bel.setCell ?_ (by simp <;> omega) _ | refine Bel.trans ?_ (by assumption))) (fun hcur => ?_)
      clear hK K
      refine mix_nil ?_
      go_wp2_with fail
      go_meet
      first
        | exact ⟨w.heap.size, w.heap.size + 1, rfl, rfl, by omega, by omega, by omega, (by repeat (first | assumption | exact Bel.refl _ | refine Bel.drew ?_ | refine Bel.drewN ?_ _ | refine Bel.alloc ?_ _ | refine Bel.setCell ?_ (by simp <;> omega) _ | refine Bel.trans ?_ (by assumption))), by simp [World.cell?_alloc_lt], by simp [World.cell?_alloc_lt], by simp [], by simp []⟩
        | exact ⟨w.heap.size + 1, w.heap.size, rfl, rfl, by omega, by omega, by omega, (by repeat (first | assumption | exact Bel.refl _ | refine Bel.drew ?_ | refine Bel.drewN ?_ _ | refine Bel.alloc ?_ _ | refine Bel.setCell ?_ (by simp <;> omega) _ | refine Bel.trans ?_ (by assumption))), by simp [], by simp [], by simp [World.cell?_alloc_lt], by simp [World.cell?_alloc_lt]⟩
  case rest =>
    obtain ⟨p, q, rfl, rfl, hpq, hp, hq, hB1, e1, e2, e3, e4⟩ := hcut
    have hS1 := hS.bel hB1
    have hBc := hB.trans hB1
    have k1 : p ≠ rb i := by have := (hS.row i h1).lt; omega
    have k2 : p ≠ rb j := by have := (hS.row j h3).lt; omega
    have k3 : q ≠ rb i := by have := (hS.row i h1).lt; omega
    have k4 : q ≠ rb j := by have := (hS.row j h3).lt; omega
    have HK1 := Lib.hid (show w.heap.size ≤ wc.heap.size ∧ ∀ k, k < w.heap.size → wc.heap[k]? = w.heap[k]? from ⟨hB1.szle, hB1.below.block⟩)
    clear o1 o2 c1 c2 c3 c4 l1 l2 l3 hB1 hS hp hq
    have o1 := hS1.out i h1
    have c1 := (hS1.row i h1).lo c h2
    have c2 := (hS1.row i h1).hi c h2
    have l1 := cell_lt o1
    have l2 := cell_lt c1
    have l3 := cell_lt e1
    have l4 := cell_lt e3
    go_wp2
    refine wp_region_mixTB (Plan.seq [0, 1, 2, 3, 4, 5, 6, 7, 8, 9, 10, 11, 12, 13, 14, 1015, 16] .nil) (by kernel_rfl) (by kernel_rfl) (fun hcur => ?_)
    simp only [Plan.seq, Plan.fill, List.getD_cons_zero, List.getD_cons_succ, Nat.reduceLT, ↓reduceIte, Nat.reduceSub]
    apply mix_pure _ rfl
    · intro w' hw'
      have hcr := hw'.cells
      go_simp
      rfl
    intro K hK
    go_simp
    refine hK _ ?_
    clear hK K
    apply mix_pure _ rfl
    · intro w' hw'
      have hcr := hw'.cells
      go_simp
      rfl
    intro K hK
    go_simp
    refine hK _ ?_
    clear hK K
    apply mix_pure _ rfl
    · intro w' hw'
      have hcr := hw'.cells
      go_simp
      rfl
    intro K hK
    go_simp
    refine hK _ ?_
    clear hK K
    apply mix_pure _ rfl
    · intro w' hw'
      have hcr := hw'.cells
      go_simp
      rfl
    intro K hK
    go_simp
    refine hK _ ?_
    clear hK K
    apply mix_pure _ rfl
    · intro w' hw'
      have hcr := hw'.cells
      go_simp
      rfl
    intro K hK
    go_simp
    refine hK _ ?_
    clear hK K
    apply mix_pure _ rfl
    · intro w' hw'
      have hcr := hw'.cells
      go_simp
      rfl
    intro K hK
    go_simp
    refine hK _ ?_
    clear hK K
    apply mix_pure _ rfl
    · intro w' hw'
      have hcr := hw'.cells
      go_simp
      rfl
    intro K hK
    go_simp
    refine hK _ ?_
    clear hK K
    apply mix_pure _ rfl
    · intro w' hw'
      have hcr := hw'.cells
      go_simp
      rfl
    intro K hK
    go_simp
    refine hK _ ?_
    clear hK K
    apply mix_pure _ rfl
    · intro w' hw'
      have hcr := hw'.cells
      go_simp
      rfl
    intro K hK
    go_simp
    refine hK _ ?_
    clear hK K
    apply mix_pure _ rfl
    · intro w' hw'
      have hcr := hw'.cells
      go_simp
      first | (rw [IntWalk.i64_in]; all_goals first | omega | rfl) | rfl
    intro K hK
    go_simp
    refine hK _ ?_
    clear hK K
    apply mix_pure _ rfl
    · intro w' hw'
      have hcr := hw'.cells
      go_simp
      rfl
    intro K hK
    go_simp
    refine hK _ ?_
    clear hK K
    apply mix_pure _ rfl
    · intro w' hw'
      have hcr := hw'.cells
      go_simp
      rfl
    intro K hK
    go_simp
    refine hK _ ?_
    clear hK K
    apply mix_pure _ rfl
    · intro w' hw'
      have hcr := hw'.cells
      go_simp
      rfl
    intro K hK
    go_simp
    refine hK _ ?_
    clear hK K
    apply mix_pure _ rfl
    · intro w' hw'
      have hcr := hw'.cells
      go_simp
      first | (rw [IntWalk.i64_in]; all_goals first | omega | rfl) | rfl
    intro K hK
    go_simp
    refine hK _ ?_
    clear hK K
    apply mix_pure _ rfl
    · intro w' hw'
      have hcr := hw'.cells
      go_simp
      rfl
    intro K hK
    go_simp
    refine hK _ ?_
    clear hK K
    refine mix_act rfl (fun K hK => ?_)
    go_simp
    refine (cut_any _ _ _ _ _).mono ?_
    rintro e w' ⟨rfl, hb'⟩
    have hcr := hb'.cells
    have hfr := hb'.frozens
    simp only []
    refine hK _ _ (hcur.trans hb') (fun hcur => ?_)
    clear hK K
    apply mix_pure _ rfl
    · intro w' hw'
      have hcr := hw'.cells
      go_simp
      rfl
    intro K hK
    go_simp
    refine hK _ ?_
    clear hK K
    refine mix_tailK rfl (fun K hK => ?_)
    have hSx := hS1.bel hcur
    have x1 := (hSx.row i h1).lo c h2
    have x2 := (hSx.row i h1).hi c h2
    have x3 := (hSx.row i h1).fz (c * 2)
    have x4 := (hSx.row i h1).fz (c * 2 + 1)
    have HF := Lib.hid (hSx.putF (hBc.trans hcur) hb h1 h2 (max (lo i c) (lo j d + low)) (min (hi i c) (hi j d + high)))
    have y1 := hcur.cell e1
    have y2 := hcur.cell e2
    have y3 := hcur.cell e3
    have y4 := hcur.cell e4
    go_simp
    refine hK _ _ ?_
    clear hK K
    generalize hW3 : (World.setCell (World.setCell w' ⟨rb i, c * 2, none⟩ (.int .i64 (max (lo i c) (lo j d + low)))) ⟨rb i, c * 2 + 1, none⟩ (.int .i64 (min (hi i c) (hi j d + high)))) = W3 at *
    clear hW3
    obtain ⟨hS2, hB2, hO2, hz2, hH2⟩ := HF.out
    have HK2 := Lib.hid (show w.heap.size ≤ W3.heap.size ∧ ∀ k, k < w.heap.size → k ≠ rb i → W3.heap[k]? = w.heap[k]? from
      ⟨by have := HK1.out.1; have := hcur.szle; omega, fun k hk hn => (hH2 k hn).trans ((hcur.below.block k (Nat.lt_of_lt_of_le hk HK1.out.1)).trans (HK1.out.2 k hk))⟩)
    clear hH2
    have g1 := (hO2 ⟨p, 0, none⟩ k1).trans y1
    have g2 := (hO2 ⟨p, 1, none⟩ k1).trans y2
    have g3 := (hO2 ⟨q, 0, none⟩ k3).trans y3
    have g4 := (hO2 ⟨q, 1, none⟩ k3).trans y4
    clear HF hO2 hz2 y1 y2 y3 y4 x1 x2 x3 x4 e1 e2 e3 e4 o1 c1 c2 l1 l2 l3 l4 hS1 hSx hcur hcr hfr hBc
    have o2 := hS2.out j h3
    have l1 := cell_lt o2
    have l2 := (hS2.row j h3).lt
    have l3 := cell_lt g1
    have l4 := cell_lt g3
    go_wp2
    refine wp_region_mixTB (Plan.seq [0, 1, 2, 3, 4, 5, 6, 7, 8, 9, 10, 11, 12, 13, 14, 1015, 16] .nil) (by kernel_rfl) (by kernel_rfl) (fun hcur => ?_)
    simp only [Plan.seq, Plan.fill, List.getD_cons_zero, List.getD_cons_succ, Nat.reduceLT, ↓reduceIte, Nat.reduceSub]
    apply mix_pure _ rfl
    · intro w' hw'
      have hcr := hw'.cells
      go_simp
      rfl
    intro K hK
    go_simp
    refine hK _ ?_
    clear hK K
    apply mix_pure _ rfl
    · intro w' hw'
      have hcr := hw'.cells
      go_simp
      rfl
    intro K hK
    go_simp
    refine hK _ ?_
    clear hK K
    apply mix_pure _ rfl
    · intro w' hw'
      have hcr := hw'.cells
      go_simp
      rfl
    intro K hK
    go_simp
    refine hK _ ?_
    clear hK K
    apply mix_pure _ rfl
    · intro w' hw'
      have hcr := hw'.cells
      go_simp
      rfl
    intro K hK
    go_simp
    refine hK _ ?_
    clear hK K
    apply mix_pure _ rfl
    · intro w' hw'
      have hcr := hw'.cells
      go_simp
      rfl
    intro K hK
    go_simp
    refine hK _ ?_
    clear hK K
    apply mix_pure _ rfl
    · intro w' hw'
      have hcr := hw'.cells
      go_simp
      rfl
    intro K hK
    go_simp
    refine hK _ ?_
    clear hK K
    apply mix_pure _ rfl
    · intro w' hw'
      have hcr := hw'.cells
      go_simp
      rfl
    intro K hK
    go_simp
    refine hK _ ?_
    clear hK K
    apply mix_pure _ rfl
    · intro w' hw'
      have hcr := hw'.cells
      go_simp
      rfl
    intro K hK
    go_simp
    refine hK _ ?_
    clear hK K
    apply mix_pure _ rfl
    · intro w' hw'
      have hcr := hw'.cells
      go_simp
      rfl
    intro K hK
    go_simp
    refine hK _ ?_
    clear hK K
    apply mix_pure _ rfl
    · intro w' hw'
      have hcr := hw'.cells
      go_simp
      first | (rw [IntWalk.i64_in]; all_goals first | omega | rfl) | rfl
    intro K hK
    go_simp
    refine hK _ ?_
    clear hK K
    apply mix_pure _ rfl
    · intro w' hw'
      have hcr := hw'.cells
      go_simp
      rfl
    intro K hK
    go_simp
    refine hK _ ?_
    clear hK K
    apply mix_pure _ rfl
    · intro w' hw'
      have hcr := hw'.cells
      go_simp
      rfl
    intro K hK
    go_simp
    refine hK _ ?_
    clear hK K
    apply mix_pure _ rfl
    · intro w' hw'
      have hcr := hw'.cells
      go_simp
      rfl
    intro K hK
    go_simp
    refine hK _ ?_
    clear hK K
    apply mix_pure _ rfl
    · intro w' hw'
      have hcr := hw'.cells
      go_simp
      first | (rw [IntWalk.i64_in]; all_goals first | omega | rfl) | rfl
    intro K hK
    go_simp
    refine hK _ ?_
    clear hK K
    apply mix_pure _ rfl
    · intro w' hw'
      have hcr := hw'.cells
      go_simp
      rfl
    intro K hK
    go_simp
    refine hK _ ?_
    clear hK K
    refine mix_act rfl (fun K hK => ?_)
    go_simp
    refine (cut_any _ _ _ _ _).mono ?_
    rintro e w' ⟨rfl, hb'⟩
    have hcr := hb'.cells
    have hfr := hb'.frozens
    simp only []
    refine hK _ _ (hcur.trans hb') (fun hcur => ?_)
    clear hK K
    apply mix_pure _ rfl
    · intro w' hw'
      have hcr := hw'.cells
      go_simp
      rfl
    intro K hK
    go_simp
    refine hK _ ?_
    clear hK K
    refine mix_tailK rfl (fun K hK => ?_)
    have hSx := hS2.bel hcur
    have x1 := (hSx.row j h3).lo d h4
    have x2 := (hSx.row j h3).hi d h4
    have x3 := (hSx.row j h3).fz (d * 2)
    have x4 := (hSx.row j h3).fz (d * 2 + 1)
    have HF := Lib.hid (hSx.putF (hB2.trans hcur) hb h3 h4 (max (lo j d) (lo i c - high)) (min (hi j d) (hi i c - low)))
    have y1 := hcur.cell g1
    have y2 := hcur.cell g2
    have y3 := hcur.cell g3
    have y4 := hcur.cell g4
    go_simp
    refine hK _ _ ?_
    clear hK K
    generalize hW3 : (World.setCell (World.setCell w' ⟨rb j, d * 2, none⟩ (.int .i64 (max (lo j d) (lo i c - high)))) ⟨rb j, d * 2 + 1, none⟩ (.int .i64 (min (hi j d) (hi i c - low)))) = W5 at *
    clear hW3
    obtain ⟨hS3, hB3, hO3, hz3, hH3⟩ := HF.out
    have HK3 := Lib.hid (show KeepSt w (rb i) (rb j) W5 from
      ⟨by have := HK2.out.1; have := hcur.szle; omega, fun k hk hn hn2 => (hH3 k hn2).trans ((hcur.below.block k (Nat.lt_of_lt_of_le hk HK2.out.1)).trans (HK2.out.2 k hk hn))⟩)
    clear hH3
    have e1 := (hO3 ⟨p, 0, none⟩ k2).trans y1
    have e2 := (hO3 ⟨p, 1, none⟩ k2).trans y2
    have e3 := (hO3 ⟨q, 0, none⟩ k4).trans y3
    have e4 := (hO3 ⟨q, 1, none⟩ k4).trans y4
    clear HF hO3 hz3 y1 y2 y3 y4 x1 x2 x3 x4 g1 g2 g3 g4 o2 l1 l2 l3 l4 hS2 hSx hcur hcr hfr hB2
    have o1 := hS3.out i h1
    have o2 := hS3.out j h3
    have c1 := (hS3.row i h1).lo c h2
    have c2 := (hS3.row i h1).hi c h2
    have c3 := (hS3.row j h3).lo d h4
    have c4 := (hS3.row j h3).hi d h4
    have hne' : ¬ (i = j ∧ c = d) := fun q => hne ⟨q.1.symm, q.2.symm⟩
    rw [upd2_other _ _ _ _ _ _ hne', upd2_same] at c1 c2
    rw [upd2_same] at c3 c4
    have l1 := cell_lt o1
    have l2 := (hS3.row i h1).lt
    have l3 := cell_lt e1
    have l4 := cell_lt e3
    have l5 := (hS3.row j h3).lt
    have HS3 := Lib.hid hS3
    clear hS3
    generalize hX : max (lo i c) (lo j d + low) = X at *
    have HX := Lib.hid hX
    clear hX
    generalize hX' : min (hi i c) (hi j d + high) = X' at *
    have HX' := Lib.hid hX'
    clear hX'
    generalize hY : max (lo j d) (lo i c - high) = Y at *
    have HY := Lib.hid hY
    clear hY
    generalize hY' : min (hi j d) (hi i c - low) = Y' at *
    have HY' := Lib.hid hY'
    clear hY'
    by_cases eA : X = lo i c ∧ X' = hi i c
    · have EA := Lib.hid eA
      clear eA
      by_cases eB : Y = lo j d ∧ Y' = hi j d
      · have EB := Lib.hid eB
        clear eB
        go_wp2
        refine wp_region_mixB (Plan.seq [0, 1, 2, 3, 4, 5, 6, 7, 8, 9, 10, 11, 12, 13, 14, 15, 16, 17, 18, 19, 20] .nil) (by kernel_rfl) (by kernel_rfl) (fun hcur => ?_)
        simp only [Plan.seq, Plan.fill, List.getD_cons_zero, List.getD_cons_succ, Nat.reduceLT, ↓reduceIte]
        apply mix_pure _ rfl
        · intro w' hw'
          have hcr := hw'.cells
          go_simp
          rfl
        intro K hK
        go_simp
        refine hK _ ?_
        clear hK K
        apply mix_pure _ rfl
        · intro w' hw'
          have hcr := hw'.cells
          go_simp
          rfl
        intro K hK
        go_simp
        refine hK _ ?_
        clear hK K
        apply mix_pure _ rfl
        · intro w' hw'
          have hcr := hw'.cells
          go_simp
          rfl
        intro K hK
        go_simp
        refine hK _ ?_
        clear hK K
        apply mix_pure _ rfl
        · intro w' hw'
          have hcr := hw'.cells
          go_simp
          rfl
        intro K hK
        go_simp
        refine hK _ ?_
        clear hK K
        apply mix_pure _ rfl
        · intro w' hw'
          have hcr := hw'.cells
          go_simp
          rfl
        intro K hK
        go_simp
        refine hK _ ?_
        clear hK K
        apply mix_pure _ rfl
        · intro w' hw'
          have hcr := hw'.cells
          go_simp
          rfl
        intro K hK
        go_simp
        refine hK _ ?_
        clear hK K
        apply mix_pure _ rfl
        · intro w' hw'
          have hcr := hw'.cells
          go_simp
          rfl
        intro K hK
        go_simp
        refine hK _ ?_
        clear hK K
        apply mix_pure _ rfl
        · intro w' hw'
          have hcr := hw'.cells
          go_simp
          rfl
        intro K hK
        go_simp
        refine hK _ ?_
        clear hK K
        apply mix_pure _ rfl
        · intro w' hw'
          have hcr := hw'.cells
          go_simp
          exact (show _ = Result.ok (Next.value (Value.bool false)) w' by rw [if_pos EA.out.1, if_pos EA.out.2])
        intro K hK
        go_simp
        refine hK _ ?_
        clear hK K
        apply mix_pure _ rfl
        · intro w' hw'
          have hcr := hw'.cells
          go_simp
          rfl
        intro K hK
        go_simp
        refine hK _ ?_
        clear hK K
        apply mix_pureG _ (by go_simp)
        · intro w' hw'
          have hcr := hw'.cells
          go_simp
          rfl
        intro K hK
        go_simp
        refine hK _ ?_
        clear hK K
        apply mix_pureG _ (by go_simp)
        · intro w' hw'
          have hcr := hw'.cells
          go_simp
          rfl
        intro K hK
        go_simp
        refine hK _ ?_
        clear hK K
        apply mix_pureG _ (by go_simp)
        · intro w' hw'
          have hcr := hw'.cells
          go_simp
          rfl
        intro K hK
        go_simp
        refine hK _ ?_
        clear hK K
        apply mix_pureG _ (by go_simp)
        · intro w' hw'
          have hcr := hw'.cells
          go_simp
          rfl
        intro K hK
        go_simp
        refine hK _ ?_
        clear hK K
        apply mix_pureG _ (by go_simp)
        · intro w' hw'
          have hcr := hw'.cells
          go_simp
          rfl
        intro K hK
        go_simp
        refine hK _ ?_
        clear hK K
        apply mix_pureG _ (by go_simp)
        · intro w' hw'
          have hcr := hw'.cells
          go_simp
          rfl
        intro K hK
        go_simp
        refine hK _ ?_
        clear hK K
        apply mix_pureG _ (by go_simp)
        · intro w' hw'
          have hcr := hw'.cells
          go_simp
          rfl
        intro K hK
        go_simp
        refine hK _ ?_
        clear hK K
        apply mix_pureG _ (by go_simp)
        · intro w' hw'
          have hcr := hw'.cells
          go_simp
          rfl
        intro K hK
        go_simp
        refine hK _ ?_
        clear hK K
        apply mix_pureG _ (by go_simp)
        · intro w' hw'
          have hcr := hw'.cells
          go_simp
          exact (show _ = Result.ok (Next.value (Value.bool false)) w' by rw [if_pos EB.out.1, if_pos EB.out.2])
        intro K hK
        go_simp
        refine hK _ ?_
        clear hK K
        apply mix_pure _ rfl
        · intro w' hw'
          have hcr := hw'.cells
          go_simp
          rfl
        intro K hK
        go_simp
        refine hK _ ?_
        clear hK K
        apply mix_pure _ rfl
        · intro w' hw'
          have hcr := hw'.cells
          go_simp
          rfl
        intro K hK
        go_simp
        refine hK _ ?_
        clear hK K
        refine mix_nil ?_
        have HBF := Lib.hid (hB3.trans (Bel.refl _ |>.trans hcur))
        have HSF := Lib.hid (HS3.out.bel hcur)
        have HKF := Lib.hid (KeepSt.bel HK3.out hcur)
        go_wp2
        exact bodyPost_ret (v := .bool false) (by simp [results, Try.results99, go_sem]) rfl ⟨Go.Proofs.Ytoiajjdhgffdaaa.rb (by rw [HX.out, HX'.out, HY.out, HY'.out]; rw [decide_eq_true EA.out.1, decide_eq_true EA.out.2, decide_eq_true EB.out.1, decide_eq_true EB.out.2]; rfl), HBF.out, by rw [HX.out, HX'.out, HY.out, HY'.out]; exact HSF.out, HKF.out.1, HKF.out.2⟩

      · have EB := Lib.hid eB
        clear eB
        go_wp2
        refine wp_region_mixB (Plan.seq [0, 1, 2, 3, 4, 5, 6, 7, 8, 9, 10, 11, 12, 13, 14, 15, 16, 17, 18, 19, 20] .nil) (by kernel_rfl) (by kernel_rfl) (fun hcur => ?_)
        simp only [Plan.seq, Plan.fill, List.getD_cons_zero, List.getD_cons_succ, Nat.reduceLT, ↓reduceIte]
        apply mix_pure _ rfl
        · intro w' hw'
          have hcr := hw'.cells
          go_simp
          rfl
        intro K hK
        go_simp
        refine hK _ ?_
        clear hK K
        apply mix_pure _ rfl
        · intro w' hw'
          have hcr := hw'.cells
          go_simp
          rfl
        intro K hK
        go_simp
        refine hK _ ?_
        clear hK K
        apply mix_pure _ rfl
        · intro w' hw'
          have hcr := hw'.cells
          go_simp
          rfl
        intro K hK
        go_simp
        refine hK _ ?_
        clear hK K
        apply mix_pure _ rfl
        · intro w' hw'
          have hcr := hw'.cells
          go_simp
          rfl
        intro K hK
        go_simp
        refine hK _ ?_
        clear hK K
        apply mix_pure _ rfl
        · intro w' hw'
          have hcr := hw'.cells
          go_simp
          rfl
        intro K hK
        go_simp
        refine hK _ ?_
        clear hK K
        apply mix_pure _ rfl
        · intro w' hw'
          have hcr := hw'.cells
          go_simp
          rfl
        intro K hK
        go_simp
        refine hK _ ?_
        clear hK K
        apply mix_pure _ rfl
        · intro w' hw'
          have hcr := hw'.cells
          go_simp
          rfl
        intro K hK
        go_simp
        refine hK _ ?_
        clear hK K
        apply mix_pure _ rfl
        · intro w' hw'
          have hcr := hw'.cells
          go_simp
          rfl
        intro K hK
        go_simp
        refine hK _ ?_
        clear hK K
        apply mix_pure _ rfl
        · intro w' hw'
          have hcr := hw'.cells
          go_simp
          exact (show _ = Result.ok (Next.value (Value.bool false)) w' by rw [if_pos EA.out.1, if_pos EA.out.2])
        intro K hK
        go_simp
        refine hK _ ?_
        clear hK K
        apply mix_pure _ rfl
        · intro w' hw'
          have hcr := hw'.cells
          go_simp
          rfl
        intro K hK
        go_simp
        refine hK _ ?_
        clear hK K
        apply mix_pureG _ (by go_simp)
        · intro w' hw'
          have hcr := hw'.cells
          go_simp
          rfl
        intro K hK
        go_simp
        refine hK _ ?_
        clear hK K
        apply mix_pureG _ (by go_simp)
        · intro w' hw'
          have hcr := hw'.cells
          go_simp
          rfl
        intro K hK
        go_simp
        refine hK _ ?_
        clear hK K
        apply mix_pureG _ (by go_simp)
        · intro w' hw'
          have hcr := hw'.cells
          go_simp
          rfl
        intro K hK
        go_simp
        refine hK _ ?_
        clear hK K
        apply mix_pureG _ (by go_simp)
        · intro w' hw'
          have hcr := hw'.cells
          go_simp
          rfl
        intro K hK
        go_simp
        refine hK _ ?_
        clear hK K
        apply mix_pureG _ (by go_simp)
        · intro w' hw'
          have hcr := hw'.cells
          go_simp
          rfl
        intro K hK
        go_simp
        refine hK _ ?_
        clear hK K
        apply mix_pureG _ (by go_simp)
        · intro w' hw'
          have hcr := hw'.cells
          go_simp
          rfl
        intro K hK
        go_simp
        refine hK _ ?_
        clear hK K
        apply mix_pureG _ (by go_simp)
        · intro w' hw'
          have hcr := hw'.cells
          go_simp
          rfl
        intro K hK
        go_simp
        refine hK _ ?_
        clear hK K
        apply mix_pureG _ (by go_simp)
        · intro w' hw'
          have hcr := hw'.cells
          go_simp
          rfl
        intro K hK
        go_simp
        refine hK _ ?_
        clear hK K
        apply mix_pureG _ (by go_simp)
        · intro w' hw'
          have hcr := hw'.cells
          go_simp
          exact (show _ = Result.ok (Next.value (Value.bool true)) w' by
            by_cases q1 : Y = lo j d
            · rw [if_pos q1, if_neg (fun q2 => EB.out ⟨q1, q2⟩)]
            · rw [if_neg q1])
        intro K hK
        go_simp
        refine hK _ ?_
        clear hK K
        apply mix_pure _ rfl
        · intro w' hw'
          have hcr := hw'.cells
          go_simp
          rfl
        intro K hK
        go_simp
        refine hK _ ?_
        clear hK K
        apply mix_pure _ rfl
        · intro w' hw'
          have hcr := hw'.cells
          go_simp
          rfl
        intro K hK
        go_simp
        refine hK _ ?_
        clear hK K
        refine mix_nil ?_
        have HBF := Lib.hid (hB3.trans (Bel.refl _ |>.trans hcur))
        have HSF := Lib.hid (HS3.out.bel hcur)
        have HKF := Lib.hid (KeepSt.bel HK3.out hcur)
        go_wp2
        exact bodyPost_ret (v := .bool true) (by simp [results, Try.results99, go_sem]) rfl ⟨Go.Proofs.Ytoiajjdhgffdaaa.rb (by rw [HX.out, HX'.out, HY.out, HY'.out]; rw [show (decide (Y = lo j d) && decide (Y' = hi j d)) = false by simp; exact fun q1 q2 => EB.out ⟨q1, q2⟩]; simp), HBF.out, by rw [HX.out, HX'.out, HY.out, HY'.out]; exact HSF.out, HKF.out.1, HKF.out.2⟩

    · have EA := Lib.hid eA
      clear eA
      go_wp2
      refine wp_region_mixB (Plan.seq [0, 1, 2, 3, 4, 5, 6, 7, 8, 9, 10, 11, 12, 13, 14, 15, 16, 17, 18, 19, 20] .nil) (by kernel_rfl) (by kernel_rfl) (fun hcur => ?_)
      simp only [Plan.seq, Plan.fill, List.getD_cons_zero, List.getD_cons_succ, Nat.reduceLT, ↓reduceIte]
      apply mix_pure _ rfl
      · intro w' hw'
        have hcr := hw'.cells
        go_simp
        rfl
      intro K hK
      go_simp
      refine hK _ ?_
      clear hK K
      apply mix_pure _ rfl
      · intro w' hw'
        have hcr := hw'.cells
        go_simp
        rfl
      intro K hK
      go_simp
      refine hK _ ?_
      clear hK K
      apply mix_pure _ rfl
      · intro w' hw'
        have hcr := hw'.cells
        go_simp
        rfl
      intro K hK
      go_simp
      refine hK _ ?_
      clear hK K
      apply mix_pure _ rfl
      · intro w' hw'
        have hcr := hw'.cells
        go_simp
        rfl
      intro K hK
      go_simp
      refine hK _ ?_
      clear hK K
      apply mix_pure _ rfl
      · intro w' hw'
        have hcr := hw'.cells
        go_simp
        rfl
      intro K hK
      go_simp
      refine hK _ ?_
      clear hK K
      apply mix_pure _ rfl
      · intro w' hw'
        have hcr := hw'.cells
        go_simp
        rfl
      intro K hK
      go_simp
      refine hK _ ?_
      clear hK K
      apply mix_pure _ rfl
      · intro w' hw'
        have hcr := hw'.cells
        go_simp
        rfl
      intro K hK
      go_simp
      refine hK _ ?_
      clear hK K
      apply mix_pure _ rfl
      · intro w' hw'
        have hcr := hw'.cells
        go_simp
        rfl
      intro K hK
      go_simp
      refine hK _ ?_
      clear hK K
      apply mix_pure _ rfl
      · intro w' hw'
        have hcr := hw'.cells
        go_simp
        exact (show _ = Result.ok (Next.value (Value.bool true)) w' by
          by_cases q1 : X = lo i c
          · rw [if_pos q1, if_neg (fun q2 => EA.out ⟨q1, q2⟩)]
          · rw [if_neg q1])
      intro K hK
      go_simp
      refine hK _ ?_
      clear hK K
      apply mix_pure _ rfl
      · intro w' hw'
        have hcr := hw'.cells
        go_simp
        rfl
      intro K hK
      go_simp
      refine hK _ ?_
      clear hK K
      refine mix_skip (by go_simp) ?_
      intro K hK
      go_simp
      refine hK _ ?_
      clear hK K
      refine mix_skip (by go_simp) ?_
      intro K hK
      go_simp
      refine hK _ ?_
      clear hK K
      refine mix_skip (by go_simp) ?_
      intro K hK
      go_simp
      refine hK _ ?_
      clear hK K
      refine mix_skip (by go_simp) ?_
      intro K hK
      go_simp
      refine hK _ ?_
      clear hK K
      refine mix_skip (by go_simp) ?_
      intro K hK
      go_simp
      refine hK _ ?_
      clear hK K
      refine mix_skip (by go_simp) ?_
      intro K hK
      go_simp
      refine hK _ ?_
      clear hK K
      refine mix_skip (by go_simp) ?_
      intro K hK
      go_simp
      refine hK _ ?_
      clear hK K
      refine mix_skip (by go_simp) ?_
      intro K hK
      go_simp
      refine hK _ ?_
      clear hK K
      refine mix_skip (by go_simp) ?_
      intro K hK
      go_simp
      refine hK _ ?_
      clear hK K
      apply mix_pure _ rfl
      · intro w' hw'
        have hcr := hw'.cells
        go_simp
        rfl
      intro K hK
      go_simp
      refine hK _ ?_
      clear hK K
      apply mix_pure _ rfl
      · intro w' hw'
        have hcr := hw'.cells
        go_simp
        rfl
      intro K hK
      go_simp
      refine hK _ ?_
      clear hK K
      refine mix_nil ?_
      have HBF := Lib.hid (hB3.trans (Bel.refl _ |>.trans hcur))
      have HSF := Lib.hid (HS3.out.bel hcur)
      have HKF := Lib.hid (KeepSt.bel HK3.out hcur)
      go_wp2
      exact bodyPost_ret (v := .bool true) (by simp [results, Try.results99, go_sem]) rfl ⟨Go.Proofs.Ytoiajjdhgffdaaa.rb (by rw [HX.out, HX'.out, HY.out, HY'.out]; rw [show (decide (X = lo i c) && decide (X' = hi i c)) = false by simp; exact fun q1 q2 => EA.out ⟨q1, q2⟩]; simp), HBF.out, by rw [HX.out, HX'.out, HY.out, HY'.out]; exact HSF.out, HKF.out.1, HKF.out.2⟩
end Go.Proofs.Ytoiajjdhgffdaaa
