/-
  beasts: an argument that came in reads as a trap, as numbers, as steps, as a tour; what is laid.
-/
import Derived.Test.YtogiidkofddhaaaDoorBRows
import Derived.Test.YtogiidkofddhaaaDoorBHunt
import Derived.Test.YtogiidkofddhaaaDoorRows
import Derived.WalkKit
import Derived.ProofKit
import Derived.OpenShut
import Derived.ChangeOld
import Derived.Below
import Derived.SizedLaws
import Derived.Deep.Matrix
import Derived.Lib.SmallJoins
import Derived.LaidMore
import Derived.LaidLaws
import Derived.LaidHandle
import Derived.Stop.Joined
namespace Go.Proofs.YtogiidkofddhaaaDoor
open Go Go.RowKit Go.ChangeShapes Go.WideShapes Go.ChangeAt Go.Deep Go.Joins
set_option maxRecDepth 100000
section
variable {H : Type} {enc : TypeId × Value → H} {w : World} {base : Nat} {held : Bool}
theorem bytesInt : Tryd.prog.bytesOf 3 = 8 := by kernel_rfl
theorem bytesDoor : Tryd.prog.bytesOf 43 = 24 := by kernel_rfl
theorem bytesStep : Tryd.prog.bytesOf 50 = 16 := by kernel_rfl
theorem cellsInt1 : Tryd.prog.cellsOf 3 = 1 := by kernel_rfl
theorem cellsTrap6 : Tryd.prog.cellsOf 25 = 6 := by kernel_rfl
theorem cellsTour4 : Tryd.prog.cellsOf 68 = 4 := by kernel_rfl
theorem cellsOther6 : Tryd.prog.cellsOf 63 = 6 := by kernel_rfl
theorem reach_le : reachBytes ≤ 140737488355328 := by decide
/-- A slice of one-cell elements, each read as a number. -/
theorem openInts {fuel : Nat} {cs : List Value} {x : DataW H × List MemPlace} (h : DataW.trod enc Tryd.prog w base (fun _ => true) held fuel 23 cs = some x) (hz : ∀ n ∈ x.1.weights Tryd.prog 23, n ≤ reachBytes) :
    ∃ v l, cs = [v] ∧ IntsAt w v l := by
  rcases open_slice Tryd.underlying23 h with ⟨rfl, rfl⟩ | ⟨a, len, cap, m, n, D, Pl, rfl, hb, hl, hm, hmm, rfl, hx⟩
  · exact ⟨_, [], rfl, IntsAt.nil w⟩
  · simp only [if_true] at hmm
    subst hmm
    have hlen : len * 8 ≤ reachBytes := by
      have := hz ((len + (m - len)) * 8) (by simp [DataW.weights, Tryd.underlying23, bytesInt])
      have : len * 8 ≤ (len + (m - len)) * 8 := Nat.mul_le_mul_right _ (by omega)
      omega
    have hR := reach_le
    have each : ∀ i, i < m → ∃ q : Int, w.cell? (a.add i) = some (.int .i64 q) := by
      intro i hi
      obtain ⟨cs', h1, h2⟩ := hx i hi
      rw [cellsInt1] at h1
      obtain ⟨_, hlen1, hcell⟩ := World.cells?_some h1
      match cs', hlen1 with
      | [c0], _ =>
        obtain ⟨n0, g0, _, _⟩ := DataW.trod_int Tryd.underlying3 h2
        injection g0 with g0
        subst g0
        have e0 := hcell 0 (by omega)
        rw [Go.Deep.add_add, Nat.mul_one] at e0
        exact ⟨n0, by simpa using e0⟩
    obtain ⟨q, hq⟩ := choose_lt each
    have hln : ((List.range len).map q).length = len := by simp
    refine ⟨_, (List.range len).map q, rfl, ?_⟩
    by_cases h0 : len = 0
    · exact ⟨some a, m, 0, 0, by rw [hln], fun r => by omega, by omega, fun i hi => by omega⟩
    · obtain ⟨b, off, spot⟩ := a
      have hspot : spot = none := by simpa [Addr.add] using World.cell?_spot (hq 0 (by omega))
      subst hspot
      refine ⟨some ⟨b, off, none⟩, m, b, off, by rw [hln], fun _ => rfl, by omega, fun i hi => ?_⟩
      rw [hln] at hi
      have e : at0 ((List.range len).map q) i = q i := by unfold at0; simp [List.getD, hi]
      rw [e]
      have k0 := hq i (by omega)
      rw [Go.WideShapes.add_plain] at k0
      exact k0
theorem openDoors {fuel : Nat} {cs : List Value} {x : DataW H × List MemPlace} (h : DataW.trod enc Tryd.prog w base (fun _ => true) held fuel 22 cs = some x) (hz : ∀ n ∈ x.1.weights Tryd.prog 22, n ≤ reachBytes) :
    ∃ v l, cs = [v] ∧ DoorsAt w v l := by
  rcases open_slice Tryd.underlying22 h with ⟨rfl, rfl⟩ | ⟨a, len, cap, m, n, D, Pl, rfl, hb, hl, hm, hmm, rfl, hx⟩
  · exact ⟨_, [], rfl, ⟨none, 0, 0, 0, rfl, fun q => absurd q (by simp), by simp, fun i hi => absurd hi (by simp)⟩⟩
  · simp only [if_true] at hmm
    subst hmm
    have hlen : len * 24 ≤ reachBytes := by
      have := hz ((len + (m - len)) * 24) (by simp [DataW.weights, Tryd.underlying22, bytesDoor])
      have : len * 24 ≤ (len + (m - len)) * 24 := Nat.mul_le_mul_right _ (by omega)
      omega
    have hR := reach_le
    have each : ∀ i, i < m → ∃ q : BD, w.cell? (a.add (i * 3)) = some (.int .i64 q.a) ∧ w.cell? (a.add (i * 3 + 1)) = some (.int .i64 q.b) ∧ w.cell? (a.add (i * 3 + 2)) = some (.int .i64 q.cost) := by
      intro i hi
      obtain ⟨cs', h1, h2⟩ := hx i hi
      rw [cellsDoor] at h1
      obtain ⟨_, hlen4, hcell⟩ := World.cells?_some h1
      obtain ⟨y0, y1, y2, k, _, _, f0, f1, f2⟩ := trod_struct3 Tryd.underlying43 h2
      match cs', hlen4 with
      | [c0, c1, c2], _ =>
        simp only [cellsInt1, List.drop_zero, List.take_succ_cons, List.take_zero, List.drop_succ_cons] at f0 f1 f2
        obtain ⟨n0, g0, _, _⟩ := DataW.trod_int Tryd.underlying3 f0
        obtain ⟨n1, g1, _, _⟩ := DataW.trod_int Tryd.underlying3 f1
        obtain ⟨n2, g2, _, _⟩ := DataW.trod_int Tryd.underlying3 f2
        injection g0 with g0
        injection g1 with g1
        injection g2 with g2
        subst g0 g1 g2
        have e0 := hcell 0 (by omega)
        have e1 := hcell 1 (by omega)
        have e2 := hcell 2 (by omega)
        rw [Go.Deep.add_add] at e0 e1 e2
        exact ⟨⟨n0, n1, n2⟩, by simpa using e0, by simpa using e1, by simpa using e2⟩
    obtain ⟨q, hq⟩ := choose_lt each
    have hln : ((List.range len).map q).length = len := by simp
    refine ⟨_, (List.range len).map q, rfl, ?_⟩
    by_cases h0 : len = 0
    · exact ⟨some a, m, 0, 0, by rw [hln], fun r => by omega, by omega, fun i hi => by omega⟩
    · obtain ⟨b, off, spot⟩ := a
      have hspot : spot = none := by simpa [Addr.add] using World.cell?_spot (hq 0 (by omega)).1
      subst hspot
      refine ⟨some ⟨b, off, none⟩, m, b, off, by rw [hln], fun _ => rfl, by omega, fun i hi => ?_⟩
      rw [hln] at hi
      have e : atD ((List.range len).map q) i = q i := by unfold atD; simp [List.getD, hi]
      rw [e]
      obtain ⟨k0, k1, k2⟩ := hq i (by omega)
      rw [Go.WideShapes.add_plain] at k0 k1 k2
      exact ⟨k0, by rw [Nat.add_assoc]; exact k1, by rw [Nat.add_assoc]; exact k2⟩
theorem openSteps {fuel : Nat} {cs : List Value} {x : DataW H × List MemPlace} (h : DataW.trod enc Tryd.prog w base (fun _ => true) held fuel 29 cs = some x) (hz : ∀ n ∈ x.1.weights Tryd.prog 29, n ≤ reachBytes) :
    ∃ v l, cs = [v] ∧ StepsAt w v l := by
  rcases open_slice Tryd.underlying29 h with ⟨rfl, rfl⟩ | ⟨a, len, cap, m, n, D, Pl, rfl, hb, hl, hm, hmm, rfl, hx⟩
  · exact ⟨_, [], rfl, StepsAt.nil w⟩
  · simp only [if_true] at hmm
    subst hmm
    have hlen : len * 16 ≤ reachBytes := by
      have := hz ((len + (m - len)) * 16) (by simp [DataW.weights, Tryd.underlying29, bytesStep])
      have : len * 16 ≤ (len + (m - len)) * 16 := Nat.mul_le_mul_right _ (by omega)
      omega
    have hR := reach_le
    have each : ∀ i, i < m → ∃ q : BS, w.cell? (a.add (i * 2)) = some (.int .i64 q.k) ∧ w.cell? (a.add (i * 2 + 1)) = some (.int .i64 q.x) := by
      intro i hi
      obtain ⟨cs', h1, h2⟩ := hx i hi
      rw [cellsStep] at h1
      obtain ⟨_, hlen4, hcell⟩ := World.cells?_some h1
      obtain ⟨y0, y1, k, _, _, f0, f1⟩ := trod_struct2 Tryd.underlying50 h2
      match cs', hlen4 with
      | [c0, c1], _ =>
        simp only [cellsInt1, List.drop_zero, List.take_succ_cons, List.take_zero, List.drop_succ_cons] at f0 f1
        obtain ⟨n0, g0, _, _⟩ := DataW.trod_int Tryd.underlying3 f0
        obtain ⟨n1, g1, _, _⟩ := DataW.trod_int Tryd.underlying3 f1
        injection g0 with g0
        injection g1 with g1
        subst g0 g1
        have e0 := hcell 0 (by omega)
        have e1 := hcell 1 (by omega)
        rw [Go.Deep.add_add] at e0 e1
        exact ⟨⟨n0, n1⟩, by simpa using e0, by simpa using e1⟩
    obtain ⟨q, hq⟩ := choose_lt each
    have hln : ((List.range len).map q).length = len := by simp
    refine ⟨_, (List.range len).map q, rfl, ?_⟩
    by_cases h0 : len = 0
    · exact ⟨some a, m, 0, 0, by rw [hln], fun r => by omega, by omega, fun i hi => by omega⟩
    · obtain ⟨b, off, spot⟩ := a
      have hspot : spot = none := by simpa [Addr.add] using World.cell?_spot (hq 0 (by omega)).1
      subst hspot
      refine ⟨some ⟨b, off, none⟩, m, b, off, by rw [hln], fun _ => rfl, by omega, fun i hi => ?_⟩
      rw [hln] at hi
      have e : atS ((List.range len).map q) i = q i := by unfold atS; simp [List.getD, hi]
      rw [e]
      obtain ⟨k0, k1⟩ := hq i (by omega)
      rw [Go.WideShapes.add_plain] at k0 k1
      exact ⟨k0, by rw [Nat.add_assoc]; exact k1⟩
theorem array6 {α : Type} {cs : Array α} (h : cs.size = 6) : ∃ c0 c1 c2 c3 c4 c5, cs = #[c0, c1, c2, c3, c4, c5] := by
  obtain ⟨l⟩ := cs
  match l, h with
  | [c0, c1, c2, c3, c4, c5], _ => exact ⟨c0, c1, c2, c3, c4, c5, rfl⟩
theorem openBTrap {r : Reach} {b0 : Nat} {v : Value} {d : DataW H} {p : List MemPlace} (hv : Value.okWide Tryd.prog w r b0 25 v)
    (h : DataW.Trod enc Tryd.prog w base (fun _ => true) held 25 v d p) (hz : ∀ n ∈ d.weights Tryd.prog 25, n ≤ reachBytes) : ∃ b, BTrapAt w v b := by
  obtain ⟨cs, rfl, hsz⟩ := okWide_struct Tryd.underlying25 hv
  obtain ⟨c0, c1, c2, c3, c4, c5, rfl⟩ := array6 (hsz.trans cellsTrap6)
  obtain ⟨fuel, hf⟩ := h
  obtain ⟨xs, n, _, hx, hl, hlen, hff⟩ := DataW.trod_struct Tryd.underlying25 hf
  match xs, hlen with
  | [y0, y1, y2, y3, y4, y5], _ =>
    simp only [Prod.mk.injEq] at hx
    obtain ⟨rfl, rfl⟩ := hx
    have f0 := hff 0 _ rfl
    have f1 := hff 1 _ rfl
    have f2 := hff 2 _ rfl
    have f3 := hff 3 _ rfl
    have f4 := hff 4 _ rfl
    have f5 := hff 5 _ rfl
    have cI : Tryd.prog.cellsOf 23 = 1 := by kernel_rfl
    have cD : Tryd.prog.cellsOf 22 = 1 := by kernel_rfl
    simp only [Value.cells, List.getElem?_cons_zero, List.getElem?_cons_succ] at f0 f1 f2 f3 f4 f5
    have hw : ∀ (j : Nat) (ty : TypeId) (y : DataW H), ([3, 22, 23, 3, 3, 23] : List TypeId)[j]? = some ty → ([y0.1, y1.1, y2.1, y3.1, y4.1, y5.1] : List (DataW H))[j]? = some y → ∀ n ∈ y.weights Tryd.prog ty, n ≤ reachBytes := by
      intro j ty y hj hy n hn
      refine hz n ?_
      simp only [DataW.weights, Tryd.underlying25]
      exact DataW.weights_mem_each hj hy n hn
    obtain ⟨n0, g0, _, _⟩ := DataW.trod_int Tryd.underlying3 f0
    obtain ⟨n3, g3, _, _⟩ := DataW.trod_int Tryd.underlying3 f3
    obtain ⟨n4, g4, _, _⟩ := DataW.trod_int Tryd.underlying3 f4
    injection g0 with g0
    injection g3 with g3
    injection g4 with g4
    subst g0 g3 g4
    obtain ⟨dv, ds, e1, hd⟩ := openDoors f1 (hw 1 _ _ rfl rfl)
    obtain ⟨sv, ss, e2, hs⟩ := openInts f2 (hw 2 _ _ rfl rfl)
    obtain ⟨pv, ps, e5, hp⟩ := openInts f5 (hw 5 _ _ rfl rfl)
    injection e1 with e1
    injection e2 with e2
    injection e5 with e5
    subst e1 e2 e5
    exact ⟨⟨n0, ds, ss, n3, n4, ps⟩, _, _, _, rfl, hd, hs, hp⟩
theorem openInts1 {r : Reach} {b0 : Nat} {v : Value} {d : DataW H} {p : List MemPlace} (hv : Value.okWide Tryd.prog w r b0 23 v)
    (h : DataW.Trod enc Tryd.prog w base (fun _ => true) held 23 v d p) (hz : ∀ n ∈ d.weights Tryd.prog 23, n ≤ reachBytes) : ∃ l, IntsAt w v l := by
  obtain ⟨a, n, c, rfl⟩ := okWide_slice Tryd.underlying23 hv
  obtain ⟨fuel, hf⟩ := h
  obtain ⟨v', l, e, hr⟩ := openInts hf hz
  have : v' = .slice a n c := by simpa [Value.cells] using e.symm
  rw [this] at hr
  exact ⟨l, hr⟩
/-- A tour: steps, answers, places, a number. -/
def TourAt (w : World) (v : Value) (l : List BS) (ans ps : List Int) (n : Int) : Prop := ∃ lv av pv, v = .agg #[lv, av, pv, .int .i64 n] ∧ StepsAt w lv l ∧ IntsAt w av ans ∧ IntsAt w pv ps
theorem openTour {r : Reach} {b0 : Nat} {v : Value} {d : DataW H} {p : List MemPlace} (hv : Value.okWide Tryd.prog w r b0 68 v)
    (h : DataW.Trod enc Tryd.prog w base (fun _ => true) held 68 v d p) (hz : ∀ n ∈ d.weights Tryd.prog 68, n ≤ reachBytes) : ∃ l ans ps n, TourAt w v l ans ps n := by
  obtain ⟨v0, v1, v2, v3, y0, y1, y2, y3, n, rfl, rfl, _, f0, f1, f2, f3⟩ := open_agg4 Tryd.underlying68 (by kernel_rfl) cellsTour4 hv h
  have hw : ∀ (j : Nat) (ty : TypeId) (y : DataW H), ([29, 23, 23, 3] : List TypeId)[j]? = some ty → ([y0.1, y1.1, y2.1, y3.1] : List (DataW H))[j]? = some y → ∀ n ∈ y.weights Tryd.prog ty, n ≤ reachBytes := by
    intro j ty y hj hy n hn
    refine hz n ?_
    simp only [DataW.weights, Tryd.underlying68]
    exact DataW.weights_mem_each hj hy n hn
  obtain ⟨n3, g3, _, _⟩ := DataW.trod_int Tryd.underlying3 f3
  injection g3 with g3
  subst g3
  obtain ⟨lv, l, e0, hl⟩ := openSteps f0 (hw 0 _ _ rfl rfl)
  obtain ⟨av, ans, e1, ha⟩ := openInts f1 (hw 1 _ _ rfl rfl)
  obtain ⟨pv, ps, e2, hp⟩ := openInts f2 (hw 2 _ _ rfl rfl)
  injection e0 with e0
  injection e1 with e1
  injection e2 with e2
  subst e0 e1 e2
  exact ⟨l, ans, ps, n3, _, _, _, rfl, hl, ha, hp⟩
/-- Another door, cost, how many times. -/
theorem openOther {r : Reach} {b0 : Nat} {v : Value} {d : DataW H} {p : List MemPlace} (hv : Value.okWide Tryd.prog w r b0 63 v)
    (h : DataW.Trod enc Tryd.prog w base (fun _ => true) held 63 v d p) : ∃ (i c : Int) (x : BD) (t : Int), v = .agg #[.int .i64 i, .int .i64 c, .int .i64 x.a, .int .i64 x.b, .int .i64 x.cost, .int .i64 t] := by
  obtain ⟨cs, rfl, hsz⟩ := okWide_struct Tryd.underlying63 hv
  obtain ⟨c0, c1, c2, c3, c4, c5, rfl⟩ := array6 (hsz.trans cellsOther6)
  obtain ⟨fuel, hf⟩ := h
  obtain ⟨xs, n, _, hx, hl, hlen, hff⟩ := DataW.trod_struct Tryd.underlying63 hf
  match xs, hlen with
  | [y0, y1, y2, y3], _ =>
    have f0 := hff 0 _ rfl
    have f1 := hff 1 _ rfl
    have f2 := hff 2 _ rfl
    have f3 := hff 3 _ rfl
    simp only [Value.cells, List.getElem?_cons_zero, List.getElem?_cons_succ] at f0 f1 f2 f3
    obtain ⟨z0, z1, z2, k, _, _, k0, k1, k2⟩ := trod_struct3 Tryd.underlying43 f2
    simp only [cellsInt1, List.drop_zero] at k0 k1 k2
    obtain ⟨n0, g0, _, _⟩ := DataW.trod_int Tryd.underlying3 f0
    obtain ⟨n1, g1, _, _⟩ := DataW.trod_int Tryd.underlying3 f1
    obtain ⟨n2, g2, _, _⟩ := DataW.trod_int Tryd.underlying3 k0
    obtain ⟨n3, g3, _, _⟩ := DataW.trod_int Tryd.underlying3 k1
    obtain ⟨n4, g4, _, _⟩ := DataW.trod_int Tryd.underlying3 k2
    obtain ⟨n5, g5, _, _⟩ := DataW.trod_int Tryd.underlying3 f3
    injection g0 with g0
    injection g1 with g1
    injection g2 with g2
    injection g3 with g3
    injection g4 with g4
    injection g5 with g5
    subst g0 g1 g2 g3 g4 g5
    exact ⟨n0, n1, ⟨n2, n3, n4⟩, n5, rfl⟩
end
theorem gFar : Tryd.prog.globalNamed "almadraba/beasts.far" = some 0 := by kernel_rfl
theorem tFar : (Tryd.prog.globals[0]?).map (·.type) = some 80 := by kernel_rfl
theorem cellsPrice : Tryd.prog.cellsOf 80 = 2 := by kernel_rfl
def laidFar : List (String × DataW Unit) := [("almadraba/beasts.far", Rows.laid_almadraba_beasts_far)]
/-- What is laid: the variable's two cells. -/
theorem far_of_laid {W : World} (h : laidMetH Tryd.prog laidFar W) : FarAt W := by
  rw [MakeChecks.laidMetH_plain _ _ _ (by kernel_rfl)] at h
  obtain ⟨ps, ⟨g0, t0, cs0, f0, p0, q0, hg0, ht0, hv0, hd0, _⟩, _⟩ := h
  obtain rfl := Option.some.inj (gFar.symm.trans hg0)
  obtain rfl := Option.some.inj (tFar.symm.trans ht0)
  obtain ⟨y0, y1, n, hx, hl, k0, k1⟩ := trod_struct2 Tryd.underlying80 hd0
  obtain ⟨l0⟩ := cs0
  rw [cellsPrice] at hl
  match l0, hl with
  | [c0, c1], _ =>
    simp only [cellsInt1, List.drop_zero, List.take_succ_cons, List.take_zero, List.drop_succ_cons] at k0 k1
    obtain ⟨n0, e0, e0', _⟩ := DataW.trod_int Tryd.underlying3 k0
    obtain ⟨n1, e1, e1', _⟩ := DataW.trod_int Tryd.underlying3 k1
    injection e0 with e0
    injection e1 with e1
    subst e0 e1
    simp only [Prod.mk.injEq, Rows.laid_almadraba_beasts_far, DataW.agg.injEq, List.cons.injEq] at hx
    rw [e0', e1'] at hx
    have h0 : n0 = 1073741824 := by simpa using hx.1.1.symm
    have h1 : n1 = 1073741824 := by simpa using hx.1.2.1.symm
    subst h0 h1
    exact ⟨by simpa using World.var?_cell hg0 hv0 0, by simpa using World.var?_cell hg0 hv0 1⟩
theorem door_met (os : Os) (args : Array Value) : laidMetH Tryd.prog laidFar ((World.doorLaid Tryd.prog 400 os).forCall (fun _ _ => 0) ⟨#[], args, []⟩).memory :=
  laidMetH_of_parts3 (fuel := 8) (laidMet_of_run' 8 (by kernel_rfl) (by kernel_rfl)) (by kernel_rfl) (by kernel_rfl)
end Go.Proofs.YtogiidkofddhaaaDoor
