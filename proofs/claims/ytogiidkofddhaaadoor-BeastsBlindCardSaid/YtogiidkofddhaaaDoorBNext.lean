/-
  beasts: next: the first step with which a plan of the least price can begin.
-/
import Derived.Test.YtogiidkofddhaaaDoorBStart
namespace Go.Proofs.YtogiidkofddhaaaDoor
open Go Go.RowKit Go.Shelf
attribute [local go_sem] Oper.semAt_some
set_option maxHeartbeats 8000000
set_option maxRecDepth 100000
def isB (sm : Bool) (p q : Int × Int) : Bool := if sm then decide (p = q) else decide (p.1 = q.1)
theorem cheap_any (p q : Int × Int) (w : World) : Calls Tryd.prog 67 #[.agg #[.int .i64 p.1, .int .i64 p.2], .agg #[.int .i64 q.1, .int .i64 q.2]] w fun e w' => e = .returned (.bool (isB false p q)) ∧ Bel w w' := by
  have H := Lib.hid (show isB false p q = decide (p.1 = q.1) from rfl)
  by_cases h : p.1 = q.1
  · have hb : (p.1 == q.1) = true := by simpa using h
    rw [decide_eq_true h] at H
    clear h
    go_enter Tryd.func67, Tryd.ntmps67
    go_wp2
    go_ret
    exact ⟨rb H.out, (by repeat (first | assumption | exact Bel.refl _ | refine Bel.drew ?_ | refine Bel.drewN ?_ _ | refine Bel.alloc ?_ _ | refine Bel.setCell ?_ (by simp <;> omega) _ | refine Bel.trans ?_ (by assumption)))⟩
  · have hb : (p.1 == q.1) = false := by simpa using h
    rw [decide_eq_false h] at H
    clear h
    go_enter Tryd.func67, Tryd.ntmps67
    go_wp2
    go_ret
    exact ⟨rb H.out, (by repeat (first | assumption | exact Bel.refl _ | refine Bel.drew ?_ | refine Bel.drewN ?_ _ | refine Bel.alloc ?_ _ | refine Bel.setCell ?_ (by simp <;> omega) _ | refine Bel.trans ?_ (by assumption)))⟩
theorem same_any (p q : Int × Int) (w : World) : Calls Tryd.prog 85 #[.agg #[.int .i64 p.1, .int .i64 p.2], .agg #[.int .i64 q.1, .int .i64 q.2]] w fun e w' => e = .returned (.bool (isB true p q)) ∧ Bel w w' := by
  have H := Lib.hid (show isB true p q = decide (p = q) from rfl)
  obtain ⟨a, b⟩ := p
  obtain ⟨c, d⟩ := q
  simp only [] at H ⊢
  by_cases h : a = c
  · have hb : (a == c) = true := by simpa using h
    by_cases h2 : b = d
    · have hb2 : (b == d) = true := by simpa using h2
      rw [decide_eq_true (by rw [h, h2])] at H
      clear h h2
      go_enter Tryd.func85, Tryd.ntmps85
      go_wp2
      go_ret
      exact ⟨rb H.out, (by repeat (first | assumption | exact Bel.refl _ | refine Bel.drew ?_ | refine Bel.drewN ?_ _ | refine Bel.alloc ?_ _ | refine Bel.setCell ?_ (by simp <;> omega) _ | refine Bel.trans ?_ (by assumption)))⟩
    · have hb2 : (b == d) = false := by simpa using h2
      rw [decide_eq_false (fun e => h2 (congrArg Prod.snd e))] at H
      clear h h2
      go_enter Tryd.func85, Tryd.ntmps85
      go_wp2
      go_ret
      exact ⟨rb H.out, (by repeat (first | assumption | exact Bel.refl _ | refine Bel.drew ?_ | refine Bel.drewN ?_ _ | refine Bel.alloc ?_ _ | refine Bel.setCell ?_ (by simp <;> omega) _ | refine Bel.trans ?_ (by assumption)))⟩
  · have hb : (a == c) = false := by simpa using h
    rw [decide_eq_false (fun e => h (congrArg Prod.fst e))] at H
    clear h
    go_enter Tryd.func85, Tryd.ntmps85
    go_wp2
    go_ret
    exact ⟨rb H.out, (by repeat (first | assumption | exact Bel.refl _ | refine Bel.drew ?_ | refine Bel.drewN ?_ _ | refine Bel.alloc ?_ _ | refine Bel.setCell ?_ (by simp <;> omega) _ | refine Bel.trans ?_ (by assumption)))⟩
/-- The step that next finds. -/
def nextP (b : BT) (looks : Bool) (pr : PrT) (sm : Bool) (s : Nat) : Option (BS × List Nat) := (stepsOf b looks s).find? fun x => isB sm (withP b pr x) (ofP pr s)
theorem find_at {α : Type} {p : α → Bool} {x : α} {post : List α} : ∀ {pre : List α}, (∀ y, y ∈ pre → p y = false) → p x = true → (pre ++ x :: post).find? p = some x
  | [], _, h => by simp [h]
  | y :: pre, h, hx => by
    rw [List.cons_append, List.find?_cons, h y (by simp)]
    exact find_at (fun z hz => h z (by simp [hz])) hx
/-- The rounds of next: nothing that lay is turned, and no step was the right one. -/
def NextI (b : BT) (pr : PrT) (sm : Bool) (s : Nat) (wr : World) (pre : List (BS × List Nat)) (W : World) : Prop := Bel wr W ∧ ∀ y, y ∈ pre → isB sm (withP b pr y) (ofP pr s) = false
/-- A step is found. -/
def NextX (b : BT) (looks : Bool) (pr : PrT) (sm : Bool) (s : Nat) (w wr : World) (b6 b7 : Nat) (W : World) : Prop :=
  ∃ (x : BS × List Nat) (nv : Value), nextP b looks pr sm s = some x ∧ W.cell? ⟨b6, 0, none⟩ = some (.int .i64 x.1.k) ∧ W.cell? ⟨b6, 1, none⟩ = some (.int .i64 x.1.x) ∧ W.cell? ⟨b7, 0, none⟩ = some nv ∧ BelsAt W nv x.2 ∧ Bel w W ∧ wr.heap.size ≤ W.heap.size ∧ (∀ a n c, nv = .slice (some a) n c → w.heap.size ≤ a.block)
theorem BelsAt.keep {D : Nat → Prop} {w w' : World} {v : Value} {l : List Nat} (h : BelsAt w v l) (k : KeepC D w w') (hD : ∀ c, w.cell? c ≠ none → ¬ D c.block) : BelsAt w' v l := by
  obtain ⟨a, c, bg, bo, k1, k2, k3, k4⟩ := h
  exact ⟨a, c, bg, bo, k1, k2, k3, fun i hi => k.cell (hD _ (by rw [k4 i hi]; simp)) (k4 i hi)⟩
theorem BelsAt.set {w : World} {nv u v : Value} {l : List Nat} {p : Addr} (h : BelsAt w nv l) (hc : w.cell? p = some u) (hu : ∀ i : Int, u ≠ .int .u8 i) : BelsAt (w.setCell p v) nv l := by
  obtain ⟨a, c, bg, bo, k1, k2, k3, k4⟩ := h
  refine ⟨a, c, bg, bo, k1, k2, k3, fun i hi => ?_⟩
  have h4 := k4 i hi
  by_cases e : p = ⟨bg, bo + i, none⟩
  · rw [e, h4] at hc
    injection hc with hc
    exact absurd hc.symm (hu _)
  · rw [World.cell?_setCell_other _ _ _ _ (by first | exact e | exact fun q => e q.symm)]
    exact h4
theorem NextX.quiet {b : BT} {looks : Bool} {pr : PrT} {sm : Bool} {s : Nat} {w wr W W' : World} {b6 b7 : Nat} (h : NextX b looks pr sm s w wr b6 b7 W) (q : Quiet wr.heap.size W W') (hw : w.heap.size ≤ wr.heap.size) : NextX b looks pr sm s w wr b6 b7 W' := by
  obtain ⟨x, nv, h1, h2, h3, h4, h5, h6, h7, h8⟩ := h
  exact ⟨x, nv, h1, q.keep.cell (fun h => h) h2, q.keep.cell (fun h => h) h3, q.keep.cell (fun h => h) h4, h5.keep q.keep (fun _ _ h => h), Below.trans h6 (q.below.mono hw), Nat.le_trans h7 q.below.size, h8⟩
theorem hnext_same (hb mb s : Nat) (b : BT) (hval : validT b = true) (hs : s < 2 ^ (b.n.toNat + 1)) (dv sv pv : Value) (looks : Bool) (pr : PrT) (hpr : ∀ t, 0 ≤ (ofP pr t).1 ∧ (ofP pr t).1 ≤ 1073741824 ∧ 0 ≤ (ofP pr t).2 ∧ (ofP pr t).2 ≤ 1073741824)
    (x : BS × List Nat) (hx : nextP b looks pr true s = some x) (w : World) (hf : FarAt w) (hh : HuntAt w hb mb b dv sv pv looks) (hm : MapP w mb pr) (hv : BTrapAt w (.agg #[.int .i64 b.n, dv, sv, .int .i64 b.look, .int .i64 b.eats, pv]) b) :
    Calls Tryd.prog 66 #[.pointer (some ⟨hb, 0, none⟩), .int .u8 (s : Int), .func (.func 85) #[] #[]] w fun e w' => ∃ nv, e = .returned (.tuple #[.agg #[.int .i64 x.1.k, .int .i64 x.1.x], nv]) ∧ BelsAt w' nv x.2 ∧ Bel w w' ∧ (∀ a n c, nv = .slice (some a) n c → w.heap.size ≤ a.block) := by
  have HX := Lib.hid hx
  have HF := Lib.hid hf
  have HH := Lib.hid hh
  have HM := Lib.hid hm
  have HV := Lib.hid hv
  have HPR := Lib.hid hpr
  clear hx hf hh hm hv hpr
  refine (callsIn_wide (n := 4)).1 ?_
  refine callsIn_of_wp_marks Tryd.func66 rfl trivial ?_ rfl
  simp only [Tryd.ntmps66, List.size_toArray, List.length_cons, List.length_nil, Nat.reduceAdd, Nat.reduceSub, Array.replicate_succ, Array.replicate_zero, List.push_toArray, List.append_toArray, List.nil_append, List.cons_append]
  gi_wp2_with (refine ⟨trivial, ?_⟩; gi_at_call 104; refine (hsteps_in Fence.wide _ trivial rfl hb s _).mono ?_; rintro e w2 ⟨rfl, rfl⟩)
  generalize hWr : World.alloc _ _ = Wr
  have hbr : Bel w Wr := by rw [← hWr]; exact (((((((Bel.refl w).alloc _).alloc _).alloc _).alloc _).alloc _).alloc _).alloc _
  have zr : Wr.heap.size = w.heap.size + 1 + 1 + 1 + 1 + 1 + 1 + 1 := by rw [← hWr]; simp only [World.size_alloc]
  have r3 : Wr.heap[w.heap.size]? = some (.cells #[.pointer (some ⟨hb, 0, none⟩)] 78 (0, 0)) := by rw [← hWr]; exact (old_row (by first | (simp; done) | (simp; omega) | omega)).trans ((old_row (by first | (simp; done) | (simp; omega) | omega)).trans ((old_row (by first | (simp; done) | (simp; omega) | omega)).trans ((old_row (by first | (simp; done) | (simp; omega) | omega)).trans ((old_row (by first | (simp; done) | (simp; omega) | omega)).trans ((old_row (by first | (simp; done) | (simp; omega) | omega)).trans (new_row (by first | rfl | (simp; done) | (simp; omega) | omega)))))))
  have r4 : Wr.heap[w.heap.size + 1]? = some (.cells #[.int .u8 (s : Int)] 83 (0, 0)) := by rw [← hWr]; exact (old_row (by first | (simp; done) | (simp; omega) | omega)).trans ((old_row (by first | (simp; done) | (simp; omega) | omega)).trans ((old_row (by first | (simp; done) | (simp; omega) | omega)).trans ((old_row (by first | (simp; done) | (simp; omega) | omega)).trans ((old_row (by first | (simp; done) | (simp; omega) | omega)).trans (new_row (by first | rfl | (simp; done) | (simp; omega) | omega))))))
  have r5 : Wr.heap[w.heap.size + 1 + 1]? = some (.cells #[.func (.func 85) #[] #[]] 88 (0, 0)) := by rw [← hWr]; exact (old_row (by first | (simp; done) | (simp; omega) | omega)).trans ((old_row (by first | (simp; done) | (simp; omega) | omega)).trans ((old_row (by first | (simp; done) | (simp; omega) | omega)).trans ((old_row (by first | (simp; done) | (simp; omega) | omega)).trans (new_row (by first | rfl | (simp; done) | (simp; omega) | omega)))))
  have r6 : Wr.heap[w.heap.size + 1 + 1 + 1]? = some (.cells #[.int .i64 0, .int .i64 0] 50 (0, 0)) := by rw [← hWr]; exact (old_row (by first | (simp; done) | (simp; omega) | omega)).trans ((old_row (by first | (simp; done) | (simp; omega) | omega)).trans ((old_row (by first | (simp; done) | (simp; omega) | omega)).trans (new_row (by first | rfl | (simp; done) | (simp; omega) | omega))))
  have r7 : Wr.heap[w.heap.size + 1 + 1 + 1 + 1]? = some (.cells #[.slice none 0 0] 85 (0, 0)) := by rw [← hWr]; exact (old_row (by first | (simp; done) | (simp; omega) | omega)).trans ((old_row (by first | (simp; done) | (simp; omega) | omega)).trans (new_row (by first | rfl | (simp; done) | (simp; omega) | omega)))
  have c1 : Wr.cell? ⟨w.heap.size + 1 + 1 + 1 + 1 + 1, 0, none⟩ = some (.pointer (some ⟨hb, 0, none⟩)) := by rw [← hWr]; exact (row_facts ((old_row (by first | (simp; done) | (simp; omega) | omega)).trans (new_row (by first | rfl | (simp; done) | (simp; omega) | omega)))).1 0
  have c2 : Wr.cell? ⟨w.heap.size + 1 + 1 + 1 + 1 + 1 + 1, 0, none⟩ = some (.int .u8 (s : Int)) := by rw [← hWr]; exact (row_facts (new_row (by first | rfl | (simp; done)))).1 0
  clear hWr
  have hgv : GivesTo Fence.wide (4 - 1) Tryd.prog 113 #[.pointer (some ⟨w.heap.size + 1 + 1 + 1 + 1 + 1, 0, none⟩), .pointer (some ⟨w.heap.size + 1 + 1 + 1 + 1 + 1 + 1, 0, none⟩)] (StepAt w.heap.size) (fun _ => False) (stepsOf b looks s) Wr := by
    obtain ⟨dv', sv', pv', e, hd, hs', _⟩ := HV.out
    simp at e
    obtain ⟨rfl, rfl, rfl⟩ := e
    exact hsteps1_gives (4 - 1) (by omega) hb mb _ _ s b hval hs dv sv pv looks _ w Wr (fun g h => h.elim) (fun g h => h.elim) (fun h => h) (fun h => h) (fun h => h) hbr (HH.out.bel hbr) c1 c2 hd hs'
  have H3 := Lib.hid ((row_facts r3).1 0)
  have H4 := Lib.hid ((row_facts r4).1 0)
  have H5 := Lib.hid ((row_facts r5).1 0)
  have H6 := Lib.hid (And.intro ((row_facts r6).1 0) ((row_facts r6).1 1))
  have H6F := Lib.hid ((row_facts r6).2)
  have H7 := Lib.hid ((row_facts r7).1 0)
  have H7F := Lib.hid ((row_facts r7).2)
  have HBR := Lib.hid hbr
  have hle : w.heap.size + 1 + 1 + 1 + 1 + 1 < Wr.heap.size := by omega
  clear r3 r4 r5 r6 r7 c1 c2 zr
  refine range_clo rfl (by omega) (gf := 113) (lb := #[.pointer (some ⟨w.heap.size + 1 + 1 + 1 + 1 + 1, 0, none⟩), .pointer (some ⟨w.heap.size + 1 + 1 + 1 + 1 + 1 + 1, 0, none⟩)]) rfl trivial (enters_of Tryd.func113 (by kernel_rfl) rfl) hgv
    (fun x vs W h => by obtain ⟨nv, rfl, _, _⟩ := h; rfl)
    (NextI b pr true s Wr) (fun _ W => NextX b looks pr true s w Wr (w.heap.size + 1 + 1 + 1) (w.heap.size + 1 + 1 + 1 + 1) W)
    (fun pre A B h q => ⟨Below.trans h.1 q.below, h.2⟩) (fun pre A B h q => h.quiet q (by omega)) ⟨Bel.refl _, fun y hy => absurd hy (by simp)⟩
    (fun x a' W => ∃ (xb : Nat) (nv y10 y11 y12 y13 y14 y15 y16 y17 y18 y19 y20 y21 y22 y23 y24 y25 y26 y27 y28 : Value), a' = { tmps := #[.pointer (some ⟨hb, 0, none⟩), .int .u8 (s : Int), .func (.func 85) #[] #[], .pointer (some ⟨w.heap.size, 0, none⟩), .pointer (some ⟨w.heap.size + 1, 0, none⟩), .pointer (some ⟨w.heap.size + 1 + 1, 0, none⟩), .pointer (some ⟨w.heap.size + 1 + 1 + 1, 0, none⟩), .pointer (some ⟨w.heap.size + 1 + 1 + 1 + 1, 0, none⟩), .pointer (some ⟨xb, 0, none⟩), nv, y10, y11, y12, y13, y14, y15, y16, y17, y18, y19, y20, y21, y22, y23, y24, y25, y26, y27, y28], defers := [] } ∧
      W.cell? ⟨xb, 0, none⟩ = some (.int .i64 x.1.k) ∧ W.cell? ⟨xb, 1, none⟩ = some (.int .i64 x.1.x) ∧ BelsAt W nv x.2 ∧ (∀ a n c, nv = .slice (some a) n c → w.heap.size ≤ a.block))
    (fun x a' A B h q => by obtain ⟨xb, nv, y10, y11, y12, y13, y14, y15, y16, y17, y18, y19, y20, y21, y22, y23, y24, y25, y26, y27, y28, h1, h2, h3, h4, h5⟩ := h; exact ⟨xb, nv, y10, y11, y12, y13, y14, y15, y16, y17, y18, y19, y20, y21, y22, y23, y24, y25, y26, y27, y28, h1, q.keep.cell (fun h => h) h2, q.keep.cell (fun h => h) h3, h4.keep q.keep (fun _ _ h => h), h5⟩) ?assign ?body ?done ?stop
  case assign =>
    intro l pre x vs W3 K hat hI hK
    obtain ⟨nv, rfl, hbl, hfr⟩ := hat
    have HK := Lib.hid hK
    have HI := Lib.hid hI
    clear hK hI
    gi_wp2
    exact HK.out _ _ (((Bel.refl W3).alloc _).keeps.from _) (KeepC.of_bel ((Bel.refl W3).alloc _)) ⟨HI.out.1.alloc _, HI.out.2⟩ ⟨W3.heap.size, nv, _, _, _, _, _, _, _, _, _, _, _, _, _, _, _, _, _, _, _, rfl, (row_facts (new_row rfl)).1 0, (row_facts (new_row rfl)).1 1, hbl.bel ((Bel.refl W3).alloc _), hfr⟩
  case body =>
    rintro l pre ⟨xs, xn⟩ a' W3 ⟨post, hpost⟩ ⟨hI, hno⟩ ⟨xb, nv, y10, y11, y12, y13, y14, y15, y16, y17, y18, y19, y20, y21, y22, y23, y24, y25, y26, y27, y28, rfl, b0, b1, hbl, hfrs⟩
    simp only [] at b0 b1 hbl
    have HFRS := Lib.hid hfrs
    clear hfrs
    obtain ⟨ba, bc, rfl⟩ : ∃ ba bc, nv = .slice ba xn.length bc := by obtain ⟨ba, bc, _, _, e, _⟩ := hbl; exact ⟨ba, bc, e⟩
    have hmem : (xs, xn) ∈ stepsOf b looks s := by rw [hpost]; simp
    have HI := Lib.hid hI
    have hw3 : Bel w W3 := HBR.out.trans hI
    have HW3 := Lib.hid hw3
    have k3 := hI.cell H3.out
    have k4 := hI.cell H4.out
    have k5 := hI.cell H5.out
    have HWITH := Lib.hid (hwith_any hb mb b hval dv sv pv looks pr HPR.out xs (steps_stp hmem) _ xn W3 (HF.out.bel hw3) (HH.out.bel hw3) (HM.out.bel hw3) hbl (HV.out.bel hw3))
    have HOF := Lib.hid (fun wx (hx : Bel W3 wx) => hof_any hb mb s b dv sv pv looks pr wx (HF.out.bel (hw3.trans hx)) (HH.out.bel (hw3.trans hx)) (HM.out.bel (hw3.trans hx)))
    have HLS := Lib.hid (fun wx => same_any (withP b pr (xs, xn)) (ofP pr s) wx)
    have HYES := Lib.hid (fun (h : isB true (withP b pr (xs, xn)) (ofP pr s) = true) => show nextP b looks pr true s = some (xs, xn) by unfold nextP; rw [hpost]; exact find_at hno h)
    have HNO := Lib.hid (fun (h : isB true (withP b pr (xs, xn)) (ofP pr s) = false) => show ∀ y, y ∈ pre ++ [(xs, xn)] → isB true (withP b pr y) (ofP pr s) = false from fun y hy => by
      rcases List.mem_append.1 hy with hy | hy
      · exact hno y hy
      · rw [List.mem_singleton.1 hy]; exact h)
    have HBL := Lib.hid hbl
    have l3 : w.heap.size < W3.heap.size := cell_lt k3
    have lx : xb < W3.heap.size := cell_lt b0
    clear hI hmem hpost hbl hgv hw3 hno hbr
    generalize withP b pr (xs, xn) = wp at *
    generalize hop : ofP pr s = op at *
    have HOP := Lib.hid hop
    clear hop
    gi_wp2_with (refine ⟨trivial, ?_⟩; gi_at_call 105; refine (CallsIn.inRound l (callsIn_wide.2 HWITH.out)).mono ?_; rintro e w2 ⟨rfl, hb2⟩)
    generalize hW4 : World.alloc w2 _ = W4
    have hb4 : Bel W3 W4 := by rw [← hW4]; exact hb2.alloc _
    have p0 : W4.cell? ⟨w2.heap.size, 0, none⟩ = some (.int .i64 wp.1) := by rw [← hW4]; exact (row_facts (new_row rfl)).1 0
    have p1 : W4.cell? ⟨w2.heap.size, 1, none⟩ = some (.int .i64 wp.2) := by rw [← hW4]; exact (row_facts (new_row rfl)).1 1
    replace k3 := hb4.cell k3
    replace k4 := hb4.cell k4
    replace k5 := hb4.cell k5
    replace b0 := hb4.cell b0
    replace b1 := hb4.cell b1
    clear l3 lx
    have l3 : w.heap.size < W4.heap.size := cell_lt k3
    have l4 : w.heap.size + 1 < W4.heap.size := cell_lt k4
    have l5 : w.heap.size + 1 + 1 < W4.heap.size := cell_lt k5
    have lp : w2.heap.size < W4.heap.size := cell_lt p0
    have HB4 := Lib.hid hb4
    clear hW4 hb4 hb2 HWITH
    refine wpIn_round_mixB (Plan.seq [0, 1, 2, 3, 1004, 1005] .nil) (by kernel_rfl) (by kernel_rfl) (by kernel_rfl) (fun hcur => ?_)
    simp only [Plan.seq, Plan.fill, List.getD_cons_zero, List.getD_cons_succ, Nat.reduceLT, ↓reduceIte, Nat.reduceSub]
    apply mix_pure _ rfl
    · intro w' hw'
      have hcr := hw'.cells
      go_simp
      rfl
    intro K hK
    go_simp
    refine hK _ ?_
    clear hK K
    apply mix_pure _ rfl
    · intro w' hw'
      have hcr := hw'.cells
      go_simp
      rfl
    intro K hK
    go_simp
    refine hK _ ?_
    clear hK K
    apply mix_pure _ rfl
    · intro w' hw'
      have hcr := hw'.cells
      go_simp
      rfl
    intro K hK
    go_simp
    refine hK _ ?_
    clear hK K
    apply mix_pure _ rfl
    · intro w' hw'
      have hcr := hw'.cells
      go_simp
      rfl
    intro K hK
    go_simp
    refine hK _ ?_
    clear hK K
    refine mix_act rfl (fun K hK => ?_)
    go_simp
    refine (HOF.out _ (HB4.out.trans hcur)).mono ?_
    rintro e w5 ⟨rfl, hb⟩
    simp only []
    refine hK _ _ (hcur.trans hb) (fun hcur => ?_)
    clear hK K hb
    refine mix_act rfl (fun K hK => ?_)
    go_simp
    refine (HLS.out _).mono ?_
    rintro e w6 ⟨rfl, hb⟩
    simp only []
    refine hK _ _ (hcur.trans hb) (fun hcur => ?_)
    clear hK K hb
    refine mix_nilR ?_
    have HB6 := Lib.hid (HB4.out.trans hcur)
    replace b0 := hcur.cell b0
    replace b1 := hcur.cell b1
    clear hcur l3 l4 l5 lp k3 k4 k5 p0 p1 HOF HLS HB4
    cases hle2 : isB true wp op
    · have HE := Lib.hid (HNO.out hle2)
      clear hle2
      gi_wp2
      exact ⟨HB6.out.keeps.from _, KeepC.of_bel HB6.out, HI.out.trans HB6.out, by rw [HOP.out]; exact HE.out⟩
    · have HE := Lib.hid (HYES.out hle2)
      have hI6 := HI.out.trans HB6.out
      have k60 := hI6.cell H6.out.1
      have k61 := hI6.cell H6.out.2
      have k7 := hI6.cell H7.out
      have f60 := (hI6.frozens ⟨w.heap.size + 1 + 1 + 1, 0, none⟩ (cell_lt H6.out.1)).trans (H6F.out 0)
      have f61 := (hI6.frozens ⟨w.heap.size + 1 + 1 + 1, 1, none⟩ (cell_lt H6.out.2)).trans (H6F.out 1)
      have f7 := (hI6.frozens ⟨w.heap.size + 1 + 1 + 1 + 1, 0, none⟩ (cell_lt H7.out)).trans (H7F.out 0)
      have HI6 := Lib.hid hI6
      clear hle2 hI6
      gi_wp2
      obtain ⟨n0, n1⟩ := two_cells (u0 := .int .i64 xs.k) (u1 := .int .i64 xs.x) k60 k61
      have hb1 := (HBL.out.bel HB6.out).set (v := .int .i64 xs.k) k60 (by simp)
      have k61' : (w6.setCell ⟨w.heap.size + 1 + 1 + 1, 0, none⟩ (.int .i64 xs.k)).cell? ⟨w.heap.size + 1 + 1 + 1, 1, none⟩ = some (.int .i64 0) := by
        rw [World.cell?_setCell_other _ _ _ _ (by intro q; injection q; omega)]; exact k61
      have hb2 := hb1.set (v := .int .i64 xs.x) k61' (by simp)
      obtain ⟨X2, hX2⟩ : ∃ X2, X2 = (w6.setCell ⟨w.heap.size + 1 + 1 + 1, 0, none⟩ (.int .i64 xs.k)).setCell ⟨w.heap.size + 1 + 1 + 1, 1, none⟩ (.int .i64 xs.x) := ⟨_, rfl⟩
      have hKX : KeepC (fun g => g = w.heap.size + 1 + 1 + 1) w6 X2 := by rw [hX2]; exact (KeepC.set (D := fun g => g = w.heap.size + 1 + 1 + 1) _ ⟨w.heap.size + 1 + 1 + 1, 0, none⟩ _ rfl).t (KeepC.set (D := fun g => g = w.heap.size + 1 + 1 + 1) _ ⟨w.heap.size + 1 + 1 + 1, 1, none⟩ _ rfl)
      have hOX : KeepsOthers w6 X2 := by rw [hX2]; exact (KeepsOthers.setCell _ _ _).trans (KeepsOthers.setCell _ _ _)
      have hBX : Bel w X2 := by rw [hX2]; exact ((HBR.out.trans HI6.out).setCell (p := ⟨w.heap.size + 1 + 1 + 1, 0, none⟩) (by show _ ≤ w.heap.size + 1 + 1 + 1; omega) _).setCell (p := ⟨w.heap.size + 1 + 1 + 1, 1, none⟩) (by show _ ≤ w.heap.size + 1 + 1 + 1; omega) _
      rw [← hX2] at n0 n1 hb2 ⊢
      have k72 := hKX.cell (p := ⟨w.heap.size + 1 + 1 + 1 + 1, 0, none⟩) (by show ¬ (w.heap.size + 1 + 1 + 1 + 1 = _); omega) k7
      have hKY : KeepC (fun g => g = w.heap.size + 1 + 1 + 1 + 1) X2 (X2.setCell ⟨w.heap.size + 1 + 1 + 1 + 1, 0, none⟩ (.slice ba xn.length bc)) := KeepC.set _ ⟨w.heap.size + 1 + 1 + 1 + 1, 0, none⟩ _ rfl
      exact ⟨(HB6.out.keeps.trans (hOX.trans (KeepsOthers.setCell _ _ _))).from _, (xs, xn), _, HE.out, hKY.cell (by show ¬ (w.heap.size + 1 + 1 + 1 = _); omega) n0, hKY.cell (by show ¬ (w.heap.size + 1 + 1 + 1 = _); omega) n1, World.cell?_setCell_same _ _ _ (by rw [k72]),
        hb2.set k72 (by simp), hBX.setCell (p := ⟨w.heap.size + 1 + 1 + 1 + 1, 0, none⟩) (by show _ ≤ w.heap.size + 1 + 1 + 1 + 1; omega) _, Nat.le_trans HI6.out.szle (Nat.le_trans hKX.size hKY.size), HFRS.out⟩
  case done =>
    rintro B W4 hB ⟨hI, hno⟩ hBd
    exfalso
    have h1 := HX.out
    unfold nextP at h1
    have h2 := List.find?_some h1
    have h3 := List.mem_of_find?_eq_some h1
    have h4 := hno x h3
    rw [h4] at h2
    cases h2
  case stop =>
    rintro B pre W4 hB ⟨y, nv, h1, h2, h3, h4, h5, h6, h7, hfrs⟩ hBd
    have hBl := (Array.getElem?_eq_some_iff.1 hBd).1
    have hmk : Marks w.heap.size W4 [{ target := .collected B, args := #[] }] W4.heap.size := ⟨B, rfl, by omega, hBl, hBd, trivial⟩
    have e : y = x := by have := HX.out; rw [h1] at this; injection this
    subst e
    have HMK := Lib.hid hmk
    have HA := Lib.hid (And.intro h2 (And.intro h3 (And.intro h4 (And.intro h5 h6))))
    clear h1 h2 h3 h4 h5 h6 hmk hBd
    gi_wp2
    refine leaves_marks HMK.out (fun w' hk hbl hm => ?_)
    obtain ⟨h2, h3, h4, h5, h6⟩ := HA.out
    have y0 := hk.cell (fun h => h) h2
    have y1 := hk.cell (fun h => h) h3
    have y2 := hk.cell (fun h => h) h4
    refine ⟨.tuple #[.agg #[.int .i64 y.1.k, .int .i64 y.1.x], nv], ?_, nv, rfl, h5.keep hk (fun _ _ h => h), Below.trans h6 hbl, hfrs⟩
    simp [results, Tryd.f66, go_sem, y0, y1, y2]
theorem hnext_cheap (hb mb s : Nat) (b : BT) (hval : validT b = true) (hs : s < 2 ^ (b.n.toNat + 1)) (dv sv pv : Value) (looks : Bool) (pr : PrT) (hpr : ∀ t, 0 ≤ (ofP pr t).1 ∧ (ofP pr t).1 ≤ 1073741824 ∧ 0 ≤ (ofP pr t).2 ∧ (ofP pr t).2 ≤ 1073741824)
    (x : BS × List Nat) (hx : nextP b looks pr false s = some x) (w : World) (hf : FarAt w) (hh : HuntAt w hb mb b dv sv pv looks) (hm : MapP w mb pr) (hv : BTrapAt w (.agg #[.int .i64 b.n, dv, sv, .int .i64 b.look, .int .i64 b.eats, pv]) b) :
    Calls Tryd.prog 66 #[.pointer (some ⟨hb, 0, none⟩), .int .u8 (s : Int), .func (.func 67) #[] #[]] w fun e w' => ∃ nv, e = .returned (.tuple #[.agg #[.int .i64 x.1.k, .int .i64 x.1.x], nv]) ∧ BelsAt w' nv x.2 ∧ Bel w w' ∧ (∀ a n c, nv = .slice (some a) n c → w.heap.size ≤ a.block) := by
  have HX := Lib.hid hx
  have HF := Lib.hid hf
  have HH := Lib.hid hh
  have HM := Lib.hid hm
  have HV := Lib.hid hv
  have HPR := Lib.hid hpr
  clear hx hf hh hm hv hpr
  refine (callsIn_wide (n := 4)).1 ?_
  refine callsIn_of_wp_marks Tryd.func66 rfl trivial ?_ rfl
  simp only [Tryd.ntmps66, List.size_toArray, List.length_cons, List.length_nil, Nat.reduceAdd, Nat.reduceSub, Array.replicate_succ, Array.replicate_zero, List.push_toArray, List.append_toArray, List.nil_append, List.cons_append]
  gi_wp2_with (refine ⟨trivial, ?_⟩; gi_at_call 104; refine (hsteps_in Fence.wide _ trivial rfl hb s _).mono ?_; rintro e w2 ⟨rfl, rfl⟩)
  generalize hWr : World.alloc _ _ = Wr
  have hbr : Bel w Wr := by rw [← hWr]; exact (((((((Bel.refl w).alloc _).alloc _).alloc _).alloc _).alloc _).alloc _).alloc _
  have zr : Wr.heap.size = w.heap.size + 1 + 1 + 1 + 1 + 1 + 1 + 1 := by rw [← hWr]; simp only [World.size_alloc]
  have r3 : Wr.heap[w.heap.size]? = some (.cells #[.pointer (some ⟨hb, 0, none⟩)] 78 (0, 0)) := by rw [← hWr]; exact (old_row (by first | (simp; done) | (simp; omega) | omega)).trans ((old_row (by first | (simp; done) | (simp; omega) | omega)).trans ((old_row (by first | (simp; done) | (simp; omega) | omega)).trans ((old_row (by first | (simp; done) | (simp; omega) | omega)).trans ((old_row (by first | (simp; done) | (simp; omega) | omega)).trans ((old_row (by first | (simp; done) | (simp; omega) | omega)).trans (new_row (by first | rfl | (simp; done) | (simp; omega) | omega)))))))
  have r4 : Wr.heap[w.heap.size + 1]? = some (.cells #[.int .u8 (s : Int)] 83 (0, 0)) := by rw [← hWr]; exact (old_row (by first | (simp; done) | (simp; omega) | omega)).trans ((old_row (by first | (simp; done) | (simp; omega) | omega)).trans ((old_row (by first | (simp; done) | (simp; omega) | omega)).trans ((old_row (by first | (simp; done) | (simp; omega) | omega)).trans ((old_row (by first | (simp; done) | (simp; omega) | omega)).trans (new_row (by first | rfl | (simp; done) | (simp; omega) | omega))))))
  have r5 : Wr.heap[w.heap.size + 1 + 1]? = some (.cells #[.func (.func 67) #[] #[]] 88 (0, 0)) := by rw [← hWr]; exact (old_row (by first | (simp; done) | (simp; omega) | omega)).trans ((old_row (by first | (simp; done) | (simp; omega) | omega)).trans ((old_row (by first | (simp; done) | (simp; omega) | omega)).trans ((old_row (by first | (simp; done) | (simp; omega) | omega)).trans (new_row (by first | rfl | (simp; done) | (simp; omega) | omega)))))
  have r6 : Wr.heap[w.heap.size + 1 + 1 + 1]? = some (.cells #[.int .i64 0, .int .i64 0] 50 (0, 0)) := by rw [← hWr]; exact (old_row (by first | (simp; done) | (simp; omega) | omega)).trans ((old_row (by first | (simp; done) | (simp; omega) | omega)).trans ((old_row (by first | (simp; done) | (simp; omega) | omega)).trans (new_row (by first | rfl | (simp; done) | (simp; omega) | omega))))
  have r7 : Wr.heap[w.heap.size + 1 + 1 + 1 + 1]? = some (.cells #[.slice none 0 0] 85 (0, 0)) := by rw [← hWr]; exact (old_row (by first | (simp; done) | (simp; omega) | omega)).trans ((old_row (by first | (simp; done) | (simp; omega) | omega)).trans (new_row (by first | rfl | (simp; done) | (simp; omega) | omega)))
  have c1 : Wr.cell? ⟨w.heap.size + 1 + 1 + 1 + 1 + 1, 0, none⟩ = some (.pointer (some ⟨hb, 0, none⟩)) := by rw [← hWr]; exact (row_facts ((old_row (by first | (simp; done) | (simp; omega) | omega)).trans (new_row (by first | rfl | (simp; done) | (simp; omega) | omega)))).1 0
  have c2 : Wr.cell? ⟨w.heap.size + 1 + 1 + 1 + 1 + 1 + 1, 0, none⟩ = some (.int .u8 (s : Int)) := by rw [← hWr]; exact (row_facts (new_row (by first | rfl | (simp; done)))).1 0
  clear hWr
  have hgv : GivesTo Fence.wide (4 - 1) Tryd.prog 113 #[.pointer (some ⟨w.heap.size + 1 + 1 + 1 + 1 + 1, 0, none⟩), .pointer (some ⟨w.heap.size + 1 + 1 + 1 + 1 + 1 + 1, 0, none⟩)] (StepAt w.heap.size) (fun _ => False) (stepsOf b looks s) Wr := by
    obtain ⟨dv', sv', pv', e, hd, hs', _⟩ := HV.out
    simp at e
    obtain ⟨rfl, rfl, rfl⟩ := e
    exact hsteps1_gives (4 - 1) (by omega) hb mb _ _ s b hval hs dv sv pv looks _ w Wr (fun g h => h.elim) (fun g h => h.elim) (fun h => h) (fun h => h) (fun h => h) hbr (HH.out.bel hbr) c1 c2 hd hs'
  have H3 := Lib.hid ((row_facts r3).1 0)
  have H4 := Lib.hid ((row_facts r4).1 0)
  have H5 := Lib.hid ((row_facts r5).1 0)
  have H6 := Lib.hid (And.intro ((row_facts r6).1 0) ((row_facts r6).1 1))
  have H6F := Lib.hid ((row_facts r6).2)
  have H7 := Lib.hid ((row_facts r7).1 0)
  have H7F := Lib.hid ((row_facts r7).2)
  have HBR := Lib.hid hbr
  have hle : w.heap.size + 1 + 1 + 1 + 1 + 1 < Wr.heap.size := by omega
  clear r3 r4 r5 r6 r7 c1 c2 zr
  refine range_clo rfl (by omega) (gf := 113) (lb := #[.pointer (some ⟨w.heap.size + 1 + 1 + 1 + 1 + 1, 0, none⟩), .pointer (some ⟨w.heap.size + 1 + 1 + 1 + 1 + 1 + 1, 0, none⟩)]) rfl trivial (enters_of Tryd.func113 (by kernel_rfl) rfl) hgv
    (fun x vs W h => by obtain ⟨nv, rfl, _, _⟩ := h; rfl)
    (NextI b pr false s Wr) (fun _ W => NextX b looks pr false s w Wr (w.heap.size + 1 + 1 + 1) (w.heap.size + 1 + 1 + 1 + 1) W)
    (fun pre A B h q => ⟨Below.trans h.1 q.below, h.2⟩) (fun pre A B h q => h.quiet q (by omega)) ⟨Bel.refl _, fun y hy => absurd hy (by simp)⟩
    (fun x a' W => ∃ (xb : Nat) (nv y10 y11 y12 y13 y14 y15 y16 y17 y18 y19 y20 y21 y22 y23 y24 y25 y26 y27 y28 : Value), a' = { tmps := #[.pointer (some ⟨hb, 0, none⟩), .int .u8 (s : Int), .func (.func 67) #[] #[], .pointer (some ⟨w.heap.size, 0, none⟩), .pointer (some ⟨w.heap.size + 1, 0, none⟩), .pointer (some ⟨w.heap.size + 1 + 1, 0, none⟩), .pointer (some ⟨w.heap.size + 1 + 1 + 1, 0, none⟩), .pointer (some ⟨w.heap.size + 1 + 1 + 1 + 1, 0, none⟩), .pointer (some ⟨xb, 0, none⟩), nv, y10, y11, y12, y13, y14, y15, y16, y17, y18, y19, y20, y21, y22, y23, y24, y25, y26, y27, y28], defers := [] } ∧
      W.cell? ⟨xb, 0, none⟩ = some (.int .i64 x.1.k) ∧ W.cell? ⟨xb, 1, none⟩ = some (.int .i64 x.1.x) ∧ BelsAt W nv x.2 ∧ (∀ a n c, nv = .slice (some a) n c → w.heap.size ≤ a.block))
    (fun x a' A B h q => by obtain ⟨xb, nv, y10, y11, y12, y13, y14, y15, y16, y17, y18, y19, y20, y21, y22, y23, y24, y25, y26, y27, y28, h1, h2, h3, h4, h5⟩ := h; exact ⟨xb, nv, y10, y11, y12, y13, y14, y15, y16, y17, y18, y19, y20, y21, y22, y23, y24, y25, y26, y27, y28, h1, q.keep.cell (fun h => h) h2, q.keep.cell (fun h => h) h3, h4.keep q.keep (fun _ _ h => h), h5⟩) ?assign ?body ?done ?stop
  case assign =>
    intro l pre x vs W3 K hat hI hK
    obtain ⟨nv, rfl, hbl, hfr⟩ := hat
    have HK := Lib.hid hK
    have HI := Lib.hid hI
    clear hK hI
    gi_wp2
    exact HK.out _ _ (((Bel.refl W3).alloc _).keeps.from _) (KeepC.of_bel ((Bel.refl W3).alloc _)) ⟨HI.out.1.alloc _, HI.out.2⟩ ⟨W3.heap.size, nv, _, _, _, _, _, _, _, _, _, _, _, _, _, _, _, _, _, _, _, rfl, (row_facts (new_row rfl)).1 0, (row_facts (new_row rfl)).1 1, hbl.bel ((Bel.refl W3).alloc _), hfr⟩
  case body =>
    rintro l pre ⟨xs, xn⟩ a' W3 ⟨post, hpost⟩ ⟨hI, hno⟩ ⟨xb, nv, y10, y11, y12, y13, y14, y15, y16, y17, y18, y19, y20, y21, y22, y23, y24, y25, y26, y27, y28, rfl, b0, b1, hbl, hfrs⟩
    simp only [] at b0 b1 hbl
    have HFRS := Lib.hid hfrs
    clear hfrs
    obtain ⟨ba, bc, rfl⟩ : ∃ ba bc, nv = .slice ba xn.length bc := by obtain ⟨ba, bc, _, _, e, _⟩ := hbl; exact ⟨ba, bc, e⟩
    have hmem : (xs, xn) ∈ stepsOf b looks s := by rw [hpost]; simp
    have HI := Lib.hid hI
    have hw3 : Bel w W3 := HBR.out.trans hI
    have HW3 := Lib.hid hw3
    have k3 := hI.cell H3.out
    have k4 := hI.cell H4.out
    have k5 := hI.cell H5.out
    have HWITH := Lib.hid (hwith_any hb mb b hval dv sv pv looks pr HPR.out xs (steps_stp hmem) _ xn W3 (HF.out.bel hw3) (HH.out.bel hw3) (HM.out.bel hw3) hbl (HV.out.bel hw3))
    have HOF := Lib.hid (fun wx (hx : Bel W3 wx) => hof_any hb mb s b dv sv pv looks pr wx (HF.out.bel (hw3.trans hx)) (HH.out.bel (hw3.trans hx)) (HM.out.bel (hw3.trans hx)))
    have HLS := Lib.hid (fun wx => cheap_any (withP b pr (xs, xn)) (ofP pr s) wx)
    have HYES := Lib.hid (fun (h : isB false (withP b pr (xs, xn)) (ofP pr s) = true) => show nextP b looks pr false s = some (xs, xn) by unfold nextP; rw [hpost]; exact find_at hno h)
    have HNO := Lib.hid (fun (h : isB false (withP b pr (xs, xn)) (ofP pr s) = false) => show ∀ y, y ∈ pre ++ [(xs, xn)] → isB false (withP b pr y) (ofP pr s) = false from fun y hy => by
      rcases List.mem_append.1 hy with hy | hy
      · exact hno y hy
      · rw [List.mem_singleton.1 hy]; exact h)
    have HBL := Lib.hid hbl
    have l3 : w.heap.size < W3.heap.size := cell_lt k3
    have lx : xb < W3.heap.size := cell_lt b0
    clear hI hmem hpost hbl hgv hw3 hno hbr
    generalize withP b pr (xs, xn) = wp at *
    generalize hop : ofP pr s = op at *
    have HOP := Lib.hid hop
    clear hop
    gi_wp2_with (refine ⟨trivial, ?_⟩; gi_at_call 105; refine (CallsIn.inRound l (callsIn_wide.2 HWITH.out)).mono ?_; rintro e w2 ⟨rfl, hb2⟩)
    generalize hW4 : World.alloc w2 _ = W4
    have hb4 : Bel W3 W4 := by rw [← hW4]; exact hb2.alloc _
    have p0 : W4.cell? ⟨w2.heap.size, 0, none⟩ = some (.int .i64 wp.1) := by rw [← hW4]; exact (row_facts (new_row rfl)).1 0
    have p1 : W4.cell? ⟨w2.heap.size, 1, none⟩ = some (.int .i64 wp.2) := by rw [← hW4]; exact (row_facts (new_row rfl)).1 1
    replace k3 := hb4.cell k3
    replace k4 := hb4.cell k4
    replace k5 := hb4.cell k5
    replace b0 := hb4.cell b0
    replace b1 := hb4.cell b1
    clear l3 lx
    have l3 : w.heap.size < W4.heap.size := cell_lt k3
    have l4 : w.heap.size + 1 < W4.heap.size := cell_lt k4
    have l5 : w.heap.size + 1 + 1 < W4.heap.size := cell_lt k5
    have lp : w2.heap.size < W4.heap.size := cell_lt p0
    have HB4 := Lib.hid hb4
    clear hW4 hb4 hb2 HWITH
    refine wpIn_round_mixB (Plan.seq [0, 1, 2, 3, 1004, 1005] .nil) (by kernel_rfl) (by kernel_rfl) (by kernel_rfl) (fun hcur => ?_)
    simp only [Plan.seq, Plan.fill, List.getD_cons_zero, List.getD_cons_succ, Nat.reduceLT, ↓reduceIte, Nat.reduceSub]
    apply mix_pure _ rfl
    · intro w' hw'
      have hcr := hw'.cells
      go_simp
      rfl
    intro K hK
    go_simp
    refine hK _ ?_
    clear hK K
    apply mix_pure _ rfl
    · intro w' hw'
      have hcr := hw'.cells
      go_simp
      rfl
    intro K hK
    go_simp
    refine hK _ ?_
    clear hK K
    apply mix_pure _ rfl
    · intro w' hw'
      have hcr := hw'.cells
      go_simp
      rfl
    intro K hK
    go_simp
    refine hK _ ?_
    clear hK K
    apply mix_pure _ rfl
    · intro w' hw'
      have hcr := hw'.cells
      go_simp
      rfl
    intro K hK
    go_simp
    refine hK _ ?_
    clear hK K
    refine mix_act rfl (fun K hK => ?_)
    go_simp
    refine (HOF.out _ (HB4.out.trans hcur)).mono ?_
    rintro e w5 ⟨rfl, hb⟩
    simp only []
    refine hK _ _ (hcur.trans hb) (fun hcur => ?_)
    clear hK K hb
    refine mix_act rfl (fun K hK => ?_)
    go_simp
    refine (HLS.out _).mono ?_
    rintro e w6 ⟨rfl, hb⟩
    simp only []
    refine hK _ _ (hcur.trans hb) (fun hcur => ?_)
    clear hK K hb
    refine mix_nilR ?_
    have HB6 := Lib.hid (HB4.out.trans hcur)
    replace b0 := hcur.cell b0
    replace b1 := hcur.cell b1
    clear hcur l3 l4 l5 lp k3 k4 k5 p0 p1 HOF HLS HB4
    cases hle2 : isB false wp op
    · have HE := Lib.hid (HNO.out hle2)
      clear hle2
      gi_wp2
      exact ⟨HB6.out.keeps.from _, KeepC.of_bel HB6.out, HI.out.trans HB6.out, by rw [HOP.out]; exact HE.out⟩
    · have HE := Lib.hid (HYES.out hle2)
      have hI6 := HI.out.trans HB6.out
      have k60 := hI6.cell H6.out.1
      have k61 := hI6.cell H6.out.2
      have k7 := hI6.cell H7.out
      have f60 := (hI6.frozens ⟨w.heap.size + 1 + 1 + 1, 0, none⟩ (cell_lt H6.out.1)).trans (H6F.out 0)
      have f61 := (hI6.frozens ⟨w.heap.size + 1 + 1 + 1, 1, none⟩ (cell_lt H6.out.2)).trans (H6F.out 1)
      have f7 := (hI6.frozens ⟨w.heap.size + 1 + 1 + 1 + 1, 0, none⟩ (cell_lt H7.out)).trans (H7F.out 0)
      have HI6 := Lib.hid hI6
      clear hle2 hI6
      gi_wp2
      obtain ⟨n0, n1⟩ := two_cells (u0 := .int .i64 xs.k) (u1 := .int .i64 xs.x) k60 k61
      have hb1 := (HBL.out.bel HB6.out).set (v := .int .i64 xs.k) k60 (by simp)
      have k61' : (w6.setCell ⟨w.heap.size + 1 + 1 + 1, 0, none⟩ (.int .i64 xs.k)).cell? ⟨w.heap.size + 1 + 1 + 1, 1, none⟩ = some (.int .i64 0) := by
        rw [World.cell?_setCell_other _ _ _ _ (by intro q; injection q; omega)]; exact k61
      have hb2 := hb1.set (v := .int .i64 xs.x) k61' (by simp)
      obtain ⟨X2, hX2⟩ : ∃ X2, X2 = (w6.setCell ⟨w.heap.size + 1 + 1 + 1, 0, none⟩ (.int .i64 xs.k)).setCell ⟨w.heap.size + 1 + 1 + 1, 1, none⟩ (.int .i64 xs.x) := ⟨_, rfl⟩
      have hKX : KeepC (fun g => g = w.heap.size + 1 + 1 + 1) w6 X2 := by rw [hX2]; exact (KeepC.set (D := fun g => g = w.heap.size + 1 + 1 + 1) _ ⟨w.heap.size + 1 + 1 + 1, 0, none⟩ _ rfl).t (KeepC.set (D := fun g => g = w.heap.size + 1 + 1 + 1) _ ⟨w.heap.size + 1 + 1 + 1, 1, none⟩ _ rfl)
      have hOX : KeepsOthers w6 X2 := by rw [hX2]; exact (KeepsOthers.setCell _ _ _).trans (KeepsOthers.setCell _ _ _)
      have hBX : Bel w X2 := by rw [hX2]; exact ((HBR.out.trans HI6.out).setCell (p := ⟨w.heap.size + 1 + 1 + 1, 0, none⟩) (by show _ ≤ w.heap.size + 1 + 1 + 1; omega) _).setCell (p := ⟨w.heap.size + 1 + 1 + 1, 1, none⟩) (by show _ ≤ w.heap.size + 1 + 1 + 1; omega) _
      rw [← hX2] at n0 n1 hb2 ⊢
      have k72 := hKX.cell (p := ⟨w.heap.size + 1 + 1 + 1 + 1, 0, none⟩) (by show ¬ (w.heap.size + 1 + 1 + 1 + 1 = _); omega) k7
      have hKY : KeepC (fun g => g = w.heap.size + 1 + 1 + 1 + 1) X2 (X2.setCell ⟨w.heap.size + 1 + 1 + 1 + 1, 0, none⟩ (.slice ba xn.length bc)) := KeepC.set _ ⟨w.heap.size + 1 + 1 + 1 + 1, 0, none⟩ _ rfl
      exact ⟨(HB6.out.keeps.trans (hOX.trans (KeepsOthers.setCell _ _ _))).from _, (xs, xn), _, HE.out, hKY.cell (by show ¬ (w.heap.size + 1 + 1 + 1 = _); omega) n0, hKY.cell (by show ¬ (w.heap.size + 1 + 1 + 1 = _); omega) n1, World.cell?_setCell_same _ _ _ (by rw [k72]),
        hb2.set k72 (by simp), hBX.setCell (p := ⟨w.heap.size + 1 + 1 + 1 + 1, 0, none⟩) (by show _ ≤ w.heap.size + 1 + 1 + 1 + 1; omega) _, Nat.le_trans HI6.out.szle (Nat.le_trans hKX.size hKY.size), HFRS.out⟩
  case done =>
    rintro B W4 hB ⟨hI, hno⟩ hBd
    exfalso
    have h1 := HX.out
    unfold nextP at h1
    have h2 := List.find?_some h1
    have h3 := List.mem_of_find?_eq_some h1
    have h4 := hno x h3
    rw [h4] at h2
    cases h2
  case stop =>
    rintro B pre W4 hB ⟨y, nv, h1, h2, h3, h4, h5, h6, h7, hfrs⟩ hBd
    have hBl := (Array.getElem?_eq_some_iff.1 hBd).1
    have hmk : Marks w.heap.size W4 [{ target := .collected B, args := #[] }] W4.heap.size := ⟨B, rfl, by omega, hBl, hBd, trivial⟩
    have e : y = x := by have := HX.out; rw [h1] at this; injection this
    subst e
    have HMK := Lib.hid hmk
    have HA := Lib.hid (And.intro h2 (And.intro h3 (And.intro h4 (And.intro h5 h6))))
    clear h1 h2 h3 h4 h5 h6 hmk hBd
    gi_wp2
    refine leaves_marks HMK.out (fun w' hk hbl hm => ?_)
    obtain ⟨h2, h3, h4, h5, h6⟩ := HA.out
    have y0 := hk.cell (fun h => h) h2
    have y1 := hk.cell (fun h => h) h3
    have y2 := hk.cell (fun h => h) h4
    refine ⟨.tuple #[.agg #[.int .i64 y.1.k, .int .i64 y.1.x], nv], ?_, nv, rfl, h5.keep hk (fun _ _ h => h), Below.trans h6 hbl, hfrs⟩
    simp [results, Tryd.f66, go_sem, y0, y1, y2]
end Go.Proofs.YtogiidkofddhaaaDoor
