/-
  beasts: the law's long; a box made and filled while calls make memory around it.
-/
import Derived.Test.YtogiidkofddhaaaDoorBStage
import Derived.Test.YtogiidkofddhaaaDoorBArg
namespace Go.Proofs.YtogiidkofddhaaaDoor
open Go Go.RowKit Go.Shelf
set_option maxHeartbeats 4000000
set_option maxRecDepth 100000
def longB (l : List BS) (ans ps : List Int) : Bool := decide (40 < l.length) || (decide (40 < ans.length) || decide (40 < ps.length))
theorem longB_false {l : List BS} {ans ps : List Int} (h : longB l ans ps = false) : l.length ≤ 40 ∧ ans.length ≤ 40 ∧ ps.length ≤ 40 := by
  unfold longB at h
  simp only [Bool.or_eq_false_iff, decide_eq_false_iff_not] at h
  omega
theorem blong_any (l : List BS) (ans ps : List Int) (n : Int) (v : Value) (w : World) (hv : TourAt w v l ans ps n) : Calls Tryd.prog 52 #[v] w fun e w' => e = .returned (.bool (longB l ans ps)) ∧ Bel w w' := by
  have HH := Lib.hid (show longB l ans ps = (decide (40 < l.length) || (decide (40 < ans.length) || decide (40 < ps.length))) from rfl)
  obtain ⟨lv, av, pv, rfl, ⟨la, lc, _, _, rfl, _⟩, ⟨aa, ac, _, _, rfl, _⟩, ⟨pa, pc, _, _, rfl, _⟩⟩ := hv
  cases h1 : decide (40 < l.length) <;> cases h2 : decide (40 < ans.length) <;> cases h3 : decide (40 < ps.length)
  all_goals
    rw [h1, h2, h3] at HH
    have q1 : decide ((40 : Int) < (l.length : Int)) = _ := (decide_eq_decide.2 (by omega)).trans h1
    have q2 : decide ((40 : Int) < (ans.length : Int)) = _ := (decide_eq_decide.2 (by omega)).trans h2
    have q3 : decide ((40 : Int) < (ps.length : Int)) = _ := (decide_eq_decide.2 (by omega)).trans h3
    go_enter Tryd.func52, Tryd.ntmps52
    go_wp2
    go_ret
    exact ⟨rb (by rw [HH.out]; rfl), (by repeat (first | assumption | exact Bel.refl _ | refine Bel.drew ?_ | refine Bel.drewN ?_ _ | refine Bel.alloc ?_ _ | refine Bel.setCell ?_ (by simp <;> omega) _ | refine Bel.trans ?_ (by assumption)))⟩
theorem alloc_box {W WA : World} {T : TypeId} (h : W.alloc (.cells #[.int .i64 0, .slice none 0 0, .slice none 0 0, .int .i64 0, .int .i64 0, .slice none 0 0] T) = WA) :
    Bel W WA ∧ W.heap.size < WA.heap.size ∧ WA.cell? ⟨W.heap.size, 0, none⟩ = some (.int .i64 0) ∧ WA.cell? ⟨W.heap.size, 1, none⟩ = some (.slice none 0 0) ∧ WA.cell? ⟨W.heap.size, 2, none⟩ = some (.slice none 0 0) ∧
      WA.cell? ⟨W.heap.size, 3, none⟩ = some (.int .i64 0) ∧ WA.cell? ⟨W.heap.size, 4, none⟩ = some (.int .i64 0) ∧ WA.cell? ⟨W.heap.size, 5, none⟩ = some (.slice none 0 0) ∧ (∀ o, WA.frozen? ⟨W.heap.size, o, none⟩ = false) := by
  subst h
  obtain ⟨f1, f2⟩ := row_facts (new_row (w := W) (o := .cells #[.int .i64 0, .slice none 0 0, .slice none 0 0, .int .i64 0, .int .i64 0, .slice none 0 0] T) rfl)
  exact ⟨(Bel.refl W).alloc _, by simp, f1 0, f1 1, f1 2, f1 3, f1 4, f1 5, f2⟩
theorem alloc_box_drew {W WA : World} {T : TypeId} (h : (W.alloc (.cells #[.int .i64 0, .slice none 0 0, .slice none 0 0, .int .i64 0, .int .i64 0, .slice none 0 0] T)).drew = WA) :
    Bel W.drew WA ∧ W.heap.size < WA.heap.size ∧ WA.cell? ⟨W.heap.size, 0, none⟩ = some (.int .i64 0) ∧ WA.cell? ⟨W.heap.size, 1, none⟩ = some (.slice none 0 0) ∧ WA.cell? ⟨W.heap.size, 2, none⟩ = some (.slice none 0 0) ∧
      WA.cell? ⟨W.heap.size, 3, none⟩ = some (.int .i64 0) ∧ WA.cell? ⟨W.heap.size, 4, none⟩ = some (.int .i64 0) ∧ WA.cell? ⟨W.heap.size, 5, none⟩ = some (.slice none 0 0) ∧ (∀ o, WA.frozen? ⟨W.heap.size, o, none⟩ = false) :=
  alloc_box (W := W.drew) h
theorem store_box {W WS : World} {p : Nat} {v0 v1 v2 v3 v4 v5 u0 u1 u2 u3 u4 u5 : Value}
    (h : (((((W.setCell ⟨p, 0, none⟩ v0).setCell ⟨p, 1, none⟩ v1).setCell ⟨p, 2, none⟩ v2).setCell ⟨p, 3, none⟩ v3).setCell ⟨p, 4, none⟩ v4).setCell ⟨p, 5, none⟩ v5 = WS)
    (z0 : W.cell? ⟨p, 0, none⟩ = some u0) (z1 : W.cell? ⟨p, 1, none⟩ = some u1) (z2 : W.cell? ⟨p, 2, none⟩ = some u2) (z3 : W.cell? ⟨p, 3, none⟩ = some u3) (z4 : W.cell? ⟨p, 4, none⟩ = some u4) (z5 : W.cell? ⟨p, 5, none⟩ = some u5) :
    (∀ a, Bel a W → a.heap.size ≤ p → Bel a WS) ∧ WS.heap.size = W.heap.size ∧ (∀ k, k ≠ p → WS.heap[k]? = W.heap[k]?) ∧
      WS.cell? ⟨p, 0, none⟩ = some v0 ∧ WS.cell? ⟨p, 1, none⟩ = some v1 ∧ WS.cell? ⟨p, 2, none⟩ = some v2 ∧ WS.cell? ⟨p, 3, none⟩ = some v3 ∧ WS.cell? ⟨p, 4, none⟩ = some v4 ∧ WS.cell? ⟨p, 5, none⟩ = some v5 := by
  subst h
  refine ⟨fun a ha hp => (((((ha.setCell hp _).setCell hp _).setCell hp _).setCell hp _).setCell hp _).setCell hp _, by simp only [World.size_setCell], fun k hk => ?_, ?_, ?_, ?_, ?_, ?_, ?_⟩
  · rw [Below.heap_setCell _ _ _ _ hk, Below.heap_setCell _ _ _ _ hk, Below.heap_setCell _ _ _ _ hk, Below.heap_setCell _ _ _ _ hk, Below.heap_setCell _ _ _ _ hk, Below.heap_setCell _ _ _ _ hk]
  · exact set_o (set_o (set_o (set_o (set_o (World.cell?_setCell_same _ _ _ z0) (by omega)) (by omega)) (by omega)) (by omega)) (by omega)
  · exact set_o (set_o (set_o (set_o (World.cell?_setCell_same _ _ _ (set_o z1 (by omega))) (by omega)) (by omega)) (by omega)) (by omega)
  · exact set_o (set_o (set_o (World.cell?_setCell_same _ _ _ (set_o (set_o z2 (by omega)) (by omega))) (by omega)) (by omega)) (by omega)
  · exact set_o (set_o (World.cell?_setCell_same _ _ _ (set_o (set_o (set_o z3 (by omega)) (by omega)) (by omega))) (by omega)) (by omega)
  · exact set_o (World.cell?_setCell_same _ _ _ (set_o (set_o (set_o (set_o z4 (by omega)) (by omega)) (by omega)) (by omega))) (by omega)
  · exact World.cell?_setCell_same _ _ _ (set_o (set_o (set_o (set_o (set_o z5 (by omega)) (by omega)) (by omega)) (by omega)) (by omega))
/-- Behind the copies: the box of the trap's copy, the steps', answers' and places' copies. -/
structure RunM (b : BT) (l : List BS) (ans ps : List Int) (w : World) (p gd cd gs cs gp cp : Nat) (lv av pv : Value) (W : World) : Prop where
  bel : Bel w W
  lt : p < W.heap.size
  c0 : W.cell? ⟨p, 0, none⟩ = some (.int .i64 b.n)
  c1 : W.cell? ⟨p, 1, none⟩ = some (.slice (some ⟨gd, 0, none⟩) b.doors.length cd)
  c2 : W.cell? ⟨p, 2, none⟩ = some (.slice (some ⟨gs, 0, none⟩) b.seen.length cs)
  c3 : W.cell? ⟨p, 3, none⟩ = some (.int .i64 b.look)
  c4 : W.cell? ⟨p, 4, none⟩ = some (.int .i64 b.eats)
  c5 : W.cell? ⟨p, 5, none⟩ = some (.slice (some ⟨gp, 0, none⟩) b.places.length cp)
  trap : BTrapAt W (trapAgg b gd cd gs cs gp cp) b
  st : StepsAt W lv l
  an : IntsAt W av ans
  pl : IntsAt W pv ps
/-- What a call made: its block lies between the call's start and its end. -/
def Between (lo hi : Nat) (v : Value) : Prop := ∀ g, v.ownBlock = some g → lo ≤ g ∧ g < hi
theorem IntSt.between {l : List Int} {w w' : World} {V : Value} (h : IntSt l w V w') : Between w.heap.size w'.heap.size V := fun g hg => ⟨h.far g hg, own_lt h.own hg⟩
theorem StepSt.between {l : List BS} {w w' : World} {V : Value} (h : StepSt l w V w') : Between w.heap.size w'.heap.size V := fun g hg => ⟨h.far g hg, own_lt h.own hg⟩
theorem run_end {b : BT} {l : List BS} {ans ps : List Int} {w wa W WS wc wl wn wp : World} {p gd cd gs cs gp cp a1 b1 a2 b2 a3 b3 : Nat} {lv av pv u0 u1 u2 u3 u4 u5 : Value}
    (h : (((((W.setCell ⟨p, 0, none⟩ (.int .i64 b.n)).setCell ⟨p, 1, none⟩ (.slice (some ⟨gd, 0, none⟩) b.doors.length cd)).setCell ⟨p, 2, none⟩ (.slice (some ⟨gs, 0, none⟩) b.seen.length cs)).setCell ⟨p, 3, none⟩ (.int .i64 b.look)).setCell ⟨p, 4, none⟩ (.int .i64 b.eats)).setCell ⟨p, 5, none⟩ (.slice (some ⟨gp, 0, none⟩) b.places.length cp) = WS)
    (z0 : W.cell? ⟨p, 0, none⟩ = some u0) (z1 : W.cell? ⟨p, 1, none⟩ = some u1) (z2 : W.cell? ⟨p, 2, none⟩ = some u2) (z3 : W.cell? ⟨p, 3, none⟩ = some u3) (z4 : W.cell? ⟨p, 4, none⟩ = some u4) (z5 : W.cell? ⟨p, 5, none⟩ = some u5)
    (hb : Bel w W) (hp : w.heap.size ≤ p) (hl : p < W.heap.size)
    (ho : OwnTrap b wa gd cd gs cs gp cp wc) (kc : Bel wc W) (n1 : gd ≠ p) (n2 : gs ≠ p) (n3 : gp ≠ p)
    (hs : wl.ownsRow 0 50 2 lv l.length (stepCells l)) (kl : Bel wl W) (n4 : Between a1 b1 lv) (m4 : p < a1 ∨ b1 ≤ p)
    (ha : wn.ownsRow 0 3 1 av ans.length (ans.map (Value.int .i64))) (kn : Bel wn W) (n5 : Between a2 b2 av) (m5 : p < a2 ∨ b2 ≤ p)
    (hq : wp.ownsRow 0 3 1 pv ps.length (ps.map (Value.int .i64))) (kp : Bel wp W) (n6 : Between a3 b3 pv) (m6 : p < a3 ∨ b3 ≤ p)
    (d1 : b.doors.length ≤ 1000) (d2 : b.seen.length ≤ 1000) (d3 : b.places.length ≤ 1000) (d4 : l.length ≤ 1000) (d5 : ans.length ≤ 1000) (d6 : ps.length ≤ 1000) :
    RunM b l ans ps w p gd cd gs cs gp cp lv av pv WS := by
  obtain ⟨k1, k2, k3, c0, c1, c2, c3, c4, c5⟩ := store_box h z0 z1 z2 z3 z4 z5
  refine ⟨k1 w hb hp, by omega, c0, c1, c2, c3, c4, c5, ⟨_, _, _, rfl, ?_, ?_, ?_⟩, ?_, ?_, ?_⟩
  · exact DoorsAt.own (l := b.doors) (by omega) (own_keep (ownsRow_bel ho.od kc) fun g hg => by injection hg with hg; subst hg; exact k3 gd n1)
  · exact ownInts (l := b.seen) (by omega) (own_keep (ownsRow_bel ho.os kc) fun g hg => by injection hg with hg; subst hg; exact k3 gs n2)
  · exact ownInts (l := b.places) (by omega) (own_keep (ownsRow_bel ho.op kc) fun g hg => by injection hg with hg; subst hg; exact k3 gp n3)
  · exact StepsAt.own (by omega) (own_keep (ownsRow_bel hs kl) fun g hg => k3 g (by have := n4 g hg; omega))
  · exact ownInts (l := ans) (by omega) (own_keep (ownsRow_bel ha kn) fun g hg => k3 g (by have := n5 g hg; omega))
  · exact ownInts (l := ps) (by omega) (own_keep (ownsRow_bel hq kp) fun g hg => k3 g (by have := n6 g hg; omega))
end Go.Proofs.YtogiidkofddhaaaDoor
namespace Go.Proofs.YtogiidkofddhaaaDoor
open Go Go.RowKit
theorem SameInts_eq (v v2 : Value) (l : List Int) (w : World) (hv : IntsAt w v l) (hv2 : IntsAt w v2 l) : Calls Tryd.prog 29 #[v, v2] w fun e w' => e = .returned (.bool true) ∧ Bel w w' :=
  (SameInts_any v v2 l l w hv hv2).mono fun e w' q => ⟨by rw [q.1, show sameB l l = true by unfold sameB; exact decide_eq_true rfl], q.2⟩
theorem TourAt.bel {w w' : World} {v : Value} {l : List BS} {ans ps : List Int} {n : Int} (h : TourAt w v l ans ps n) (k : Bel w w') : TourAt w' v l ans ps n := by
  obtain ⟨lv, av, pv, e, h1, h2, h3⟩ := h
  exact ⟨lv, av, pv, e, h1.bel k, h2.bel k, h3.bel k⟩
end Go.Proofs.YtogiidkofddhaaaDoor
