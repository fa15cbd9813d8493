/-
  the top law TopPriced: an argument that came in reads as a table, as a custom, as a cut, weights and a node.
-/
import Derived.Test.YtkdcdhkhadhcfaaCtMem
import Derived.Test.YtkdcdhkhadhcfaaShMem
import Derived.Test.YtkdcdhkhadhcfaaRows
import Derived.WalkKit
import Derived.ProofKit
import Derived.OpenShut
import Derived.ChangeOld
import Derived.Below
import Derived.SizedLaws
import Derived.Deep.Matrix
import Derived.Lib.SmallJoins
namespace Go.Proofs.Ytkdcdhkhadhcfaa
open Go Go.RowKit Go.ChangeShapes Go.WideShapes Go.ChangeAt Go.Deep Go.Joins
set_option maxRecDepth 100000
theorem cellsInt1 : Try.prog.cellsOf 3 = 1 := by kernel_rfl
section
variable {H : Type} {enc : TypeId × Value → H} {w : World} {base : Nat} {held : Bool}
theorem openInts {fuel : Nat} {cs : List Value} {x : DataW H × List MemPlace} (h : DataW.trod enc Try.prog w base (fun _ => true) held fuel 26 cs = some x) (hz : ∀ n ∈ x.1.weights Try.prog 26, n ≤ reachBytes) :
    ∃ v l, cs = [v] ∧ IntsAt w v l := by
  rcases open_slice Try.underlying26 h with ⟨rfl, rfl⟩ | ⟨a, len, cap, m, n, D, Pl, rfl, hb, hl, hm, hmm, rfl, hx⟩
  · exact ⟨_, [], rfl, ⟨none, 0, 0, 0, rfl, fun q => absurd q (by simp), by simp, fun i hi => absurd hi (by simp)⟩⟩
  · simp only [if_true] at hmm
    subst hmm
    have hlen : len * 8 ≤ reachBytes := by
      have := hz ((len + (m - len)) * 8) (by simp [DataW.weights, Try.underlying26, show Try.prog.bytesOf 3 = 8 from by kernel_rfl])
      have : len * 8 ≤ (len + (m - len)) * 8 := Nat.mul_le_mul_right _ (by omega)
      omega
    have hR : reachBytes ≤ 140737488355328 := by decide
    have each : ∀ i, i < m → ∃ q : Int, w.cell? (a.add i) = some (.int .i64 q) := by
      intro i hi
      obtain ⟨cs', h1, h2⟩ := hx i hi
      rw [show Try.prog.cellsOf 3 = 1 from by kernel_rfl] at h1
      obtain ⟨_, hlenk, hcell⟩ := World.cells?_some h1
      match cs', hlenk with
      | [c0], _ =>
        obtain ⟨n0, g0, _, _⟩ := DataW.trod_int Try.underlying3 h2
        injection g0 with g0
        subst g0
        have b0 := hcell 0 (by omega)
        rw [Go.Deep.add_add, Nat.mul_one] at b0
        exact ⟨n0, by simpa using b0⟩
    obtain ⟨q, hq⟩ := choose_lt each
    have hln : ((List.range len).map q).length = len := by simp
    refine ⟨_, (List.range len).map q, rfl, ?_⟩
    by_cases h0 : len = 0
    · exact ⟨some a, m, 0, 0, by rw [hln], fun r => by omega, by omega, fun i hi => by omega⟩
    · obtain ⟨b, off, spot⟩ := a
      have hspot : spot = none := by simpa [Addr.add] using World.cell?_spot (hq 0 (by omega))
      subst hspot
      refine ⟨some ⟨b, off, none⟩, m, b, off, by rw [hln], fun _ => rfl, by omega, fun i hi => ?_⟩
      rw [hln] at hi
      have e : at0 ((List.range len).map q) i = q i := by unfold at0; simp [List.getD, hi]
      rw [e]
      have kk := hq i (by omega)
      simp only [Go.WideShapes.add_plain] at kk
      try simp only [Nat.add_assoc]
      exact kk
theorem openCps {fuel : Nat} {cs : List Value} {x : DataW H × List MemPlace} (h : DataW.trod enc Try.prog w base (fun _ => true) held fuel 22 cs = some x) (hz : ∀ n ∈ x.1.weights Try.prog 22, n ≤ reachBytes) :
    ∃ v l, cs = [v] ∧ CtAt w v l := by
  rcases open_slice Try.underlying22 h with ⟨rfl, rfl⟩ | ⟨a, len, cap, m, n, D, Pl, rfl, hb, hl, hm, hmm, rfl, hx⟩
  · exact ⟨_, [], rfl, ⟨none, 0, 0, 0, rfl, fun q => absurd q (by simp), by simp, fun i hi => absurd hi (by simp)⟩⟩
  · simp only [if_true] at hmm
    subst hmm
    have hlen : len * 48 ≤ reachBytes := by
      have := hz ((len + (m - len)) * 48) (by simp [DataW.weights, Try.underlying22, show Try.prog.bytesOf 70 = 48 from by kernel_rfl])
      have : len * 48 ≤ (len + (m - len)) * 48 := Nat.mul_le_mul_right _ (by omega)
      omega
    have hR : reachBytes ≤ 140737488355328 := by decide
    have each : ∀ i, i < m → ∃ q : CP, w.cell? (a.add (i * 6)) = some (.int .i64 q.of) ∧ w.cell? (a.add (i * 6 + 1)) = some (.int .i64 q.wlo) ∧ w.cell? (a.add (i * 6 + 2)) = some (.int .i64 q.whi) ∧ w.cell? (a.add (i * 6 + 3)) = some (.int .i64 q.slo) ∧ w.cell? (a.add (i * 6 + 4)) = some (.int .i64 q.shi) ∧ w.cell? (a.add (i * 6 + 5)) = some (.int .i64 q.pe) := by
      intro i hi
      obtain ⟨cs', h1, h2⟩ := hx i hi
      rw [show Try.prog.cellsOf 70 = 6 from by kernel_rfl] at h1
      obtain ⟨_, hlenk, hcell⟩ := World.cells?_some h1
      match cs', hlenk with
      | [c0, c1, c2, c3, c4, c5], _ =>
        obtain ⟨xs, nn, _, hxx, hll, hlenx, hff⟩ := DataW.trod_struct Try.underlying70 h2
        match xs, hlenx with
        | [y0, y1, y2, y3], _ =>
          have f0 := hff 0 _ rfl
          have f1 := hff 1 _ rfl
          have f2 := hff 2 _ rfl
          have f3 := hff 3 _ rfl
          simp only [List.getElem?_cons_zero, List.getElem?_cons_succ] at f0 f1 f2 f3
          obtain ⟨n0, g0, _, _⟩ := DataW.trod_int Try.underlying3 f0
          obtain ⟨zs1, mm1, _, _, _, hlz1, hfz1⟩ := DataW.trod_struct Try.underlying37 f1
          match zs1, hlz1 with
          | [u10, u11], _ =>
          have e10 := hfz1 0 _ rfl
          have e11 := hfz1 1 _ rfl
          simp only [List.getElem?_cons_zero, List.getElem?_cons_succ] at e10 e11
          obtain ⟨n1, g1, _, _⟩ := DataW.trod_int Try.underlying3 e10
          obtain ⟨n2, g2, _, _⟩ := DataW.trod_int Try.underlying3 e11
          obtain ⟨zs2, mm2, _, _, _, hlz2, hfz2⟩ := DataW.trod_struct Try.underlying37 f2
          match zs2, hlz2 with
          | [u20, u21], _ =>
          have e20 := hfz2 0 _ rfl
          have e21 := hfz2 1 _ rfl
          simp only [List.getElem?_cons_zero, List.getElem?_cons_succ] at e20 e21
          obtain ⟨n3, g3, _, _⟩ := DataW.trod_int Try.underlying3 e20
          obtain ⟨n4, g4, _, _⟩ := DataW.trod_int Try.underlying3 e21
          obtain ⟨n5, g5, _, _⟩ := DataW.trod_int Try.underlying3 f3
          injection g0 with g0
          injection g1 with g1
          injection g2 with g2
          injection g3 with g3
          injection g4 with g4
          injection g5 with g5
          subst g0 g1 g2 g3 g4 g5
          have b0 := hcell 0 (by omega)
          have b1 := hcell 1 (by omega)
          have b2 := hcell 2 (by omega)
          have b3 := hcell 3 (by omega)
          have b4 := hcell 4 (by omega)
          have b5 := hcell 5 (by omega)
          rw [Go.Deep.add_add] at b0 b1 b2 b3 b4 b5
          exact ⟨⟨n0, n1, n2, n3, n4, n5⟩, by simpa using b0, by simpa using b1, by simpa using b2, by simpa using b3, by simpa using b4, by simpa using b5⟩
    obtain ⟨q, hq⟩ := choose_lt each
    have hln : ((List.range len).map q).length = len := by simp
    refine ⟨_, (List.range len).map q, rfl, ?_⟩
    by_cases h0 : len = 0
    · exact ⟨some a, m, 0, 0, by rw [hln], fun r => by omega, by omega, fun i hi => by omega⟩
    · obtain ⟨b, off, spot⟩ := a
      have hspot : spot = none := by simpa [Addr.add] using World.cell?_spot (hq 0 (by omega)).1
      subst hspot
      refine ⟨some ⟨b, off, none⟩, m, b, off, by rw [hln], fun _ => rfl, by omega, fun i hi => ?_⟩
      rw [hln] at hi
      have e : atC ((List.range len).map q) i = q i := by unfold atC; simp [List.getD, hi]
      rw [e]
      have kk := hq i (by omega)
      simp only [Go.WideShapes.add_plain] at kk
      try simp only [Nat.add_assoc]
      exact kk
theorem openNds {fuel : Nat} {cs : List Value} {x : DataW H × List MemPlace} (h : DataW.trod enc Try.prog w base (fun _ => true) held fuel 23 cs = some x) (hz : ∀ n ∈ x.1.weights Try.prog 23, n ≤ reachBytes) :
    ∃ v l, cs = [v] ∧ NdsAt w v l := by
  rcases open_slice Try.underlying23 h with ⟨rfl, rfl⟩ | ⟨a, len, cap, m, n, D, Pl, rfl, hb, hl, hm, hmm, rfl, hx⟩
  · exact ⟨_, [], rfl, ⟨none, 0, 0, 0, rfl, fun q => absurd q (by simp), by simp, fun i hi => absurd hi (by simp)⟩⟩
  · simp only [if_true] at hmm
    subst hmm
    have hlen : len * 24 ≤ reachBytes := by
      have := hz ((len + (m - len)) * 24) (by simp [DataW.weights, Try.underlying23, show Try.prog.bytesOf 77 = 24 from by kernel_rfl])
      have : len * 24 ≤ (len + (m - len)) * 24 := Nat.mul_le_mul_right _ (by omega)
      omega
    have hR : reachBytes ≤ 140737488355328 := by decide
    have each : ∀ i, i < m → ∃ q : SNd, w.cell? (a.add (i * 3)) = some (.int .i64 q.up) ∧ w.cell? (a.add (i * 3 + 1)) = some (.int .i64 q.wt) ∧ w.cell? (a.add (i * 3 + 2)) = some (.int .i64 q.fx) := by
      intro i hi
      obtain ⟨cs', h1, h2⟩ := hx i hi
      rw [show Try.prog.cellsOf 77 = 3 from by kernel_rfl] at h1
      obtain ⟨_, hlenk, hcell⟩ := World.cells?_some h1
      match cs', hlenk with
      | [c0, c1, c2], _ =>
        obtain ⟨xs, nn, _, hxx, hll, hlenx, hff⟩ := DataW.trod_struct Try.underlying77 h2
        match xs, hlenx with
        | [y0, y1, y2], _ =>
          have f0 := hff 0 _ rfl
          have f1 := hff 1 _ rfl
          have f2 := hff 2 _ rfl
          simp only [List.getElem?_cons_zero, List.getElem?_cons_succ] at f0 f1 f2
          obtain ⟨n0, g0, _, _⟩ := DataW.trod_int Try.underlying3 f0
          obtain ⟨n1, g1, _, _⟩ := DataW.trod_int Try.underlying3 f1
          obtain ⟨n2, g2, _, _⟩ := DataW.trod_int Try.underlying3 f2
          injection g0 with g0
          injection g1 with g1
          injection g2 with g2
          subst g0 g1 g2
          have b0 := hcell 0 (by omega)
          have b1 := hcell 1 (by omega)
          have b2 := hcell 2 (by omega)
          rw [Go.Deep.add_add] at b0 b1 b2
          exact ⟨⟨n0, n1, n2⟩, by simpa using b0, by simpa using b1, by simpa using b2⟩
    obtain ⟨q, hq⟩ := choose_lt each
    have hln : ((List.range len).map q).length = len := by simp
    refine ⟨_, (List.range len).map q, rfl, ?_⟩
    by_cases h0 : len = 0
    · exact ⟨some a, m, 0, 0, by rw [hln], fun r => by omega, by omega, fun i hi => by omega⟩
    · obtain ⟨b, off, spot⟩ := a
      have hspot : spot = none := by simpa [Addr.add] using World.cell?_spot (hq 0 (by omega)).1
      subst hspot
      refine ⟨some ⟨b, off, none⟩, m, b, off, by rw [hln], fun _ => rfl, by omega, fun i hi => ?_⟩
      rw [hln] at hi
      have e : atS ((List.range len).map q) i = q i := by unfold atS; simp [List.getD, hi]
      rw [e]
      have kk := hq i (by omega)
      simp only [Go.WideShapes.add_plain] at kk
      try simp only [Nat.add_assoc]
      exact kk
theorem openTable {r : Reach} {b0 : Nat} {v : Value} {d : DataW H} {p : List MemPlace} (hv : Value.okWide Try.prog w r b0 22 v)
    (h : DataW.Trod enc Try.prog w base (fun _ => true) held 22 v d p) (hz : ∀ n ∈ d.weights Try.prog 22, n ≤ reachBytes) : ∃ l, CtAt w v l := by
  obtain ⟨a, n, c, rfl⟩ := okWide_slice Try.underlying22 hv
  obtain ⟨fuel, hf⟩ := h
  obtain ⟨v', l, e, hr⟩ := openCps hf hz
  have : v' = .slice a n c := by simpa [Value.cells] using e.symm
  rw [this] at hr
  exact ⟨l, hr⟩
theorem openCustom {r : Reach} {b0 : Nat} {v : Value} {d : DataW H} {p : List MemPlace} (hv : Value.okWide Try.prog w r b0 25 v)
    (h : DataW.Trod enc Try.prog w base (fun _ => true) held 25 v d p) (hz : ∀ n ∈ d.weights Try.prog 25, n ≤ reachBytes) : ∃ l, CusAt w v l := by
  obtain ⟨cs, rfl, hsz⟩ := okWide_struct Try.underlying25 hv
  rw [show Try.prog.cellsOf 25 = 1 from by kernel_rfl] at hsz
  obtain ⟨cl⟩ := cs
  match cl, hsz with
  | [c0], _ =>
    obtain ⟨fuel, hf⟩ := h
    obtain ⟨xs, n, _, hx, hl, hlen, hff⟩ := DataW.trod_struct Try.underlying25 hf
    match xs, hlen with
    | [y0], _ =>
      have f0 := hff 0 _ rfl
      simp only [Value.cells, List.getElem?_cons_zero] at f0
      have hd : d = .agg [y0.1] := by have := congrArg Prod.fst hx; simpa using this
      have hw : ∀ (j : Nat) (ty : TypeId) (y : DataW H), ([23] : List TypeId)[j]? = some ty → ([y0.1] : List (DataW H))[j]? = some y → ∀ n ∈ y.weights Try.prog ty, n ≤ reachBytes := by
        intro j ty y hj hy n hn
        refine hz n ?_
        rw [hd]
        simp only [DataW.weights, Try.underlying25]
        exact DataW.weights_mem_each hj hy n hn
      obtain ⟨lv, l, e0, hl0⟩ := openNds f0 (hw 0 _ _ rfl rfl)
      injection e0 with e0
      subst e0
      exact ⟨l, _, rfl, hl0⟩
theorem openPriced {r : Reach} {b0 : Nat} {v : Value} {d : DataW H} {p : List MemPlace} (hv : Value.okWide Try.prog w r b0 28 v)
    (h : DataW.Trod enc Try.prog w base (fun _ => true) held 28 v d p) (hz : ∀ n ∈ d.weights Try.prog 28, n ≤ reachBytes) : ∃ (cu y : List Int) (nd : Int) (vc vy : Value), v = .agg #[vc, vy, .int .i64 nd] ∧ IntsAt w vc cu ∧ IntsAt w vy y := by
  obtain ⟨cs, rfl, hsz⟩ := okWide_struct Try.underlying28 hv
  rw [show Try.prog.cellsOf 28 = 3 from by kernel_rfl] at hsz
  obtain ⟨cl⟩ := cs
  match cl, hsz with
  | [c0, c1, c2], _ =>
    obtain ⟨fuel, hf⟩ := h
    obtain ⟨xs, n, _, hx, hl, hlen, hff⟩ := DataW.trod_struct Try.underlying28 hf
    match xs, hlen with
    | [y0, y1, y2], _ =>
      have f0 := hff 0 _ rfl
      have f1 := hff 1 _ rfl
      have f2 := hff 2 _ rfl
      simp only [Value.cells, List.getElem?_cons_zero, List.getElem?_cons_succ] at f0 f1 f2
      have hd : d = .agg [y0.1, y1.1, y2.1] := by have := congrArg Prod.fst hx; simpa using this
      have hw : ∀ (j : Nat) (ty : TypeId) (y : DataW H), ([26, 26, 3] : List TypeId)[j]? = some ty → ([y0.1, y1.1, y2.1] : List (DataW H))[j]? = some y → ∀ n ∈ y.weights Try.prog ty, n ≤ reachBytes := by
        intro j ty y hj hy n hn
        refine hz n ?_
        rw [hd]
        simp only [DataW.weights, Try.underlying28]
        exact DataW.weights_mem_each hj hy n hn
      obtain ⟨lv, l, e0, hl0⟩ := openInts f0 (hw 0 _ _ rfl rfl)
      injection e0 with e0
      subst e0
      obtain ⟨yv, yl, e1, hl1⟩ := openInts f1 (hw 1 _ _ rfl rfl)
      injection e1 with e1
      subst e1
      obtain ⟨n0, g0, _, _⟩ := DataW.trod_int Try.underlying3 f2
      injection g0 with g0
      subst g0
      exact ⟨l, yl, n0, _, _, rfl, hl0, hl1⟩
end
end Go.Proofs.Ytkdcdhkhadhcfaa
