/-
  the top law TopWeighed: an argument that came in reads as a sea, as numbers, pounds, a crew, and a word.
-/
import Derived.Test.YtkdcdhkhadhcfaaArg
import Derived.Test.YtkdcdhkhadhcfaaLfMem
namespace Go.Proofs.Ytkdcdhkhadhcfaa
open Go Go.RowKit Go.ChangeShapes Go.WideShapes Go.ChangeAt Go.Deep Go.Joins
set_option maxRecDepth 100000
section
variable {H : Type} {enc : TypeId × Value → H} {w : World} {base : Nat} {held : Bool}
theorem openInts {fuel : Nat} {cs : List Value} {x : DataW H × List MemPlace} (h : DataW.trod enc Try.prog w base (fun _ => true) held fuel 26 cs = some x) (hz : ∀ n ∈ x.1.weights Try.prog 26, n ≤ reachBytes) :
    ∃ v l, cs = [v] ∧ IntsAt w v l := by
  rcases open_slice Try.underlying26 h with ⟨rfl, rfl⟩ | ⟨a, len, cap, m, n, D, Pl, rfl, hb, hl, hm, hmm, rfl, hx⟩
  · exact ⟨_, [], rfl, ⟨none, 0, 0, 0, rfl, fun q => absurd q (by simp), by simp, fun i hi => absurd hi (by simp)⟩⟩
  · simp only [if_true] at hmm
    subst hmm
    have hlen : len * 8 ≤ reachBytes := by
      have := hz ((len + (m - len)) * 8) (by simp [DataW.weights, Try.underlying26, show Try.prog.bytesOf 3 = 8 from by kernel_rfl])
      have : len * 8 ≤ (len + (m - len)) * 8 := Nat.mul_le_mul_right _ (by omega)
      omega
    have hR : reachBytes ≤ 140737488355328 := by decide
    have each : ∀ i, i < m → ∃ q : Int, w.cell? (a.add i) = some (.int .i64 q) := by
      intro i hi
      obtain ⟨cs', h1, h2⟩ := hx i hi
      rw [show Try.prog.cellsOf 3 = 1 from by kernel_rfl] at h1
      obtain ⟨_, hlenk, hcell⟩ := World.cells?_some h1
      match cs', hlenk with
      | [c0], _ =>
        obtain ⟨n0, g0, _, _⟩ := DataW.trod_int Try.underlying3 h2
        injection g0 with g0
        subst g0
        have b0 := hcell 0 (by omega)
        rw [Go.Deep.add_add, Nat.mul_one] at b0
        exact ⟨n0, by simpa using b0⟩
    obtain ⟨q, hq⟩ := choose_lt each
    have hln : ((List.range len).map q).length = len := by simp
    refine ⟨_, (List.range len).map q, rfl, ?_⟩
    by_cases h0 : len = 0
    · exact ⟨some a, m, 0, 0, by rw [hln], fun r => by omega, by omega, fun i hi => by omega⟩
    · obtain ⟨b, off, spot⟩ := a
      have hspot : spot = none := by simpa [Addr.add] using World.cell?_spot (hq 0 (by omega))
      subst hspot
      refine ⟨some ⟨b, off, none⟩, m, b, off, by rw [hln], fun _ => rfl, by omega, fun i hi => ?_⟩
      rw [hln] at hi
      have e : at0 ((List.range len).map q) i = q i := by unfold at0; simp [List.getD, hi]
      rw [e]
      have kk := hq i (by omega)
      simp only [Go.WideShapes.add_plain] at kk
      try simp only [Nat.add_assoc]
      exact kk
theorem openPls {fuel : Nat} {cs : List Value} {x : DataW H × List MemPlace} (h : DataW.trod enc Try.prog w base (fun _ => true) held fuel 48 cs = some x) (hz : ∀ n ∈ x.1.weights Try.prog 48, n ≤ reachBytes) :
    ∃ v l, cs = [v] ∧ PlAt w v l := by
  rcases open_slice Try.underlying48 h with ⟨rfl, rfl⟩ | ⟨a, len, cap, m, n, D, Pl, rfl, hb, hl, hm, hmm, rfl, hx⟩
  · exact ⟨_, [], rfl, ⟨none, 0, 0, 0, rfl, fun q => absurd q (by simp), by simp, fun i hi => absurd hi (by simp)⟩⟩
  · simp only [if_true] at hmm
    subst hmm
    have hlen : len * 16 ≤ reachBytes := by
      have := hz ((len + (m - len)) * 16) (by simp [DataW.weights, Try.underlying48, show Try.prog.bytesOf 37 = 16 from by kernel_rfl])
      have : len * 16 ≤ (len + (m - len)) * 16 := Nat.mul_le_mul_right _ (by omega)
      omega
    have hR : reachBytes ≤ 140737488355328 := by decide
    have each : ∀ i, i < m → ∃ q : LSp, w.cell? (a.add (i * 2)) = some (.int .i64 q.lo) ∧ w.cell? (a.add (i * 2 + 1)) = some (.int .i64 q.hi) := by
      intro i hi
      obtain ⟨cs', h1, h2⟩ := hx i hi
      rw [show Try.prog.cellsOf 37 = 2 from by kernel_rfl] at h1
      obtain ⟨_, hlenk, hcell⟩ := World.cells?_some h1
      match cs', hlenk with
      | [c0, c1], _ =>
        obtain ⟨xs, nn, _, hxx, hll, hlenx, hff⟩ := DataW.trod_struct Try.underlying37 h2
        match xs, hlenx with
        | [y0, y1], _ =>
          have f0 := hff 0 _ rfl
          have f1 := hff 1 _ rfl
          simp only [List.getElem?_cons_zero, List.getElem?_cons_succ] at f0 f1
          obtain ⟨n0, g0, _, _⟩ := DataW.trod_int Try.underlying3 f0
          obtain ⟨n1, g1, _, _⟩ := DataW.trod_int Try.underlying3 f1
          injection g0 with g0
          injection g1 with g1
          subst g0 g1
          have b0 := hcell 0 (by omega)
          have b1 := hcell 1 (by omega)
          rw [Go.Deep.add_add] at b0 b1
          exact ⟨⟨n0, n1⟩, by simpa using b0, by simpa using b1⟩
    obtain ⟨q, hq⟩ := choose_lt each
    have hln : ((List.range len).map q).length = len := by simp
    refine ⟨_, (List.range len).map q, rfl, ?_⟩
    by_cases h0 : len = 0
    · exact ⟨some a, m, 0, 0, by rw [hln], fun r => by omega, by omega, fun i hi => by omega⟩
    · obtain ⟨b, off, spot⟩ := a
      have hspot : spot = none := by simpa [Addr.add] using World.cell?_spot (hq 0 (by omega)).1
      subst hspot
      refine ⟨some ⟨b, off, none⟩, m, b, off, by rw [hln], fun _ => rfl, by omega, fun i hi => ?_⟩
      rw [hln] at hi
      have e : atS ((List.range len).map q) i = q i := by unfold atS; simp [List.getD, hi]
      rw [e]
      have kk := hq i (by omega)
      simp only [Go.WideShapes.add_plain] at kk
      try simp only [Nat.add_assoc]
      exact kk
theorem openBos {fuel : Nat} {cs : List Value} {x : DataW H × List MemPlace} (h : DataW.trod enc Try.prog w base (fun _ => true) held fuel 49 cs = some x) (hz : ∀ n ∈ x.1.weights Try.prog 49, n ≤ reachBytes) :
    ∃ v l, cs = [v] ∧ BoAt w v l := by
  rcases open_slice Try.underlying49 h with ⟨rfl, rfl⟩ | ⟨a, len, cap, m, n, D, Pl, rfl, hb, hl, hm, hmm, rfl, hx⟩
  · exact ⟨_, [], rfl, ⟨none, 0, 0, 0, rfl, fun q => absurd q (by simp), by simp, fun i hi => absurd hi (by simp)⟩⟩
  · simp only [if_true] at hmm
    subst hmm
    have hlen : len * 16 ≤ reachBytes := by
      have := hz ((len + (m - len)) * 16) (by simp [DataW.weights, Try.underlying49, show Try.prog.bytesOf 95 = 16 from by kernel_rfl])
      have : len * 16 ≤ (len + (m - len)) * 16 := Nat.mul_le_mul_right _ (by omega)
      omega
    have hR : reachBytes ≤ 140737488355328 := by decide
    have each : ∀ i, i < m → ∃ q : LBo, w.cell? (a.add (i * 2)) = some (.int .i64 q.ca) ∧ w.cell? (a.add (i * 2 + 1)) = some (.int .i64 q.pe) := by
      intro i hi
      obtain ⟨cs', h1, h2⟩ := hx i hi
      rw [show Try.prog.cellsOf 95 = 2 from by kernel_rfl] at h1
      obtain ⟨_, hlenk, hcell⟩ := World.cells?_some h1
      match cs', hlenk with
      | [c0, c1], _ =>
        obtain ⟨xs, nn, _, hxx, hll, hlenx, hff⟩ := DataW.trod_struct Try.underlying95 h2
        match xs, hlenx with
        | [y0, y1], _ =>
          have f0 := hff 0 _ rfl
          have f1 := hff 1 _ rfl
          simp only [List.getElem?_cons_zero, List.getElem?_cons_succ] at f0 f1
          obtain ⟨n0, g0, _, _⟩ := DataW.trod_int Try.underlying3 f0
          obtain ⟨n1, g1, _, _⟩ := DataW.trod_int Try.underlying3 f1
          injection g0 with g0
          injection g1 with g1
          subst g0 g1
          have b0 := hcell 0 (by omega)
          have b1 := hcell 1 (by omega)
          rw [Go.Deep.add_add] at b0 b1
          exact ⟨⟨n0, n1⟩, by simpa using b0, by simpa using b1⟩
    obtain ⟨q, hq⟩ := choose_lt each
    have hln : ((List.range len).map q).length = len := by simp
    refine ⟨_, (List.range len).map q, rfl, ?_⟩
    by_cases h0 : len = 0
    · exact ⟨some a, m, 0, 0, by rw [hln], fun r => by omega, by omega, fun i hi => by omega⟩
    · obtain ⟨b, off, spot⟩ := a
      have hspot : spot = none := by simpa [Addr.add] using World.cell?_spot (hq 0 (by omega)).1
      subst hspot
      refine ⟨some ⟨b, off, none⟩, m, b, off, by rw [hln], fun _ => rfl, by omega, fun i hi => ?_⟩
      rw [hln] at hi
      have e : atBo ((List.range len).map q) i = q i := by unfold atBo; simp [List.getD, hi]
      rw [e]
      have kk := hq i (by omega)
      simp only [Go.WideShapes.add_plain] at kk
      try simp only [Nat.add_assoc]
      exact kk
theorem openSea {r : Reach} {b0 : Nat} {v : Value} {d : DataW H} {p : List MemPlace} (hv : Value.okWide Try.prog w r b0 51 v)
    (h : DataW.Trod enc Try.prog w base (fun _ => true) held 51 v d p) (hz : ∀ n ∈ d.weights Try.prog 51, n ≤ reachBytes) : ∃ s, SeaAt w v s := by
  obtain ⟨cs, rfl, hsz⟩ := okWide_struct Try.underlying51 hv
  rw [show Try.prog.cellsOf 51 = 4 from by kernel_rfl] at hsz
  obtain ⟨cl⟩ := cs
  match cl, hsz with
  | [c0, c1, c2, c3], _ =>
    obtain ⟨fuel, hf⟩ := h
    obtain ⟨xs, n, _, hx, hl, hlen, hff⟩ := DataW.trod_struct Try.underlying51 hf
    match xs, hlen with
    | [y0, y1, y2], _ =>
      have f0 := hff 0 _ rfl
      have f1 := hff 1 _ rfl
      have f2 := hff 2 _ rfl
      simp only [Value.cells, List.getElem?_cons_zero, List.getElem?_cons_succ] at f0 f1 f2
      have hd : d = .agg [y0.1, y1.1, y2.1] := by have := congrArg Prod.fst hx; simpa using this
      have hw : ∀ (j : Nat) (ty : TypeId) (y : DataW H), ([37, 48, 49] : List TypeId)[j]? = some ty → ([y0.1, y1.1, y2.1] : List (DataW H))[j]? = some y → ∀ n ∈ y.weights Try.prog ty, n ≤ reachBytes := by
        intro j ty y hj hy n hn
        refine hz n ?_
        rw [hd]
        simp only [DataW.weights, Try.underlying51]
        exact DataW.weights_mem_each hj hy n hn
      obtain ⟨zs0, mm0, _, _, _, hlz0, hfz0⟩ := DataW.trod_struct Try.underlying37 f0
      match zs0, hlz0 with
      | [u00, u01], _ =>
      have e00 := hfz0 0 _ rfl
      have e01 := hfz0 1 _ rfl
      simp only [List.getElem?_cons_zero, List.getElem?_cons_succ] at e00 e01
      obtain ⟨n0, g0, _, _⟩ := DataW.trod_int Try.underlying3 e00
      injection g0 with g0
      subst g0
      obtain ⟨n1, g1, _, _⟩ := DataW.trod_int Try.underlying3 e01
      injection g1 with g1
      subst g1
      obtain ⟨pv, pl, e1, hp⟩ := openPls f1 (hw 1 _ _ rfl rfl)
      obtain ⟨bv, bl, e2, hb⟩ := openBos f2 (hw 2 _ _ rfl rfl)
      injection e1 with e1
      injection e2 with e2
      subst e1 e2
      exact ⟨⟨⟨n0, n1⟩, pl, bl⟩, _, _, rfl, hp, hb⟩
theorem openWeighed {r : Reach} {b0 : Nat} {v : Value} {d : DataW H} {p : List MemPlace} (hv : Value.okWide Try.prog w r b0 55 v)
    (h : DataW.Trod enc Try.prog w base (fun _ => true) held 55 v d p) (hz : ∀ n ∈ d.weights Try.prog 55, n ≤ reachBytes) : ∃ (l : List (List Int)) (m : Int) (cr : List Int) (x : CW) (vl vc : Value), v = .agg #[vl, .int .i64 m, vc, .int .i64 x.time, .int .i64 x.chamber, .int .i64 x.low, .int .i64 x.high] ∧ RowsAt w vl l ∧ IntsAt w vc cr := by
  obtain ⟨cs, rfl, hsz⟩ := okWide_struct Try.underlying55 hv
  rw [show Try.prog.cellsOf 55 = 7 from by kernel_rfl] at hsz
  obtain ⟨cl⟩ := cs
  match cl, hsz with
  | [c0, c1, c2, c3, c4, c5, c6], _ =>
    obtain ⟨fuel, hf⟩ := h
    obtain ⟨xs, n, _, hx, hl, hlen, hff⟩ := DataW.trod_struct Try.underlying55 hf
    match xs, hlen with
    | [y0, y1, y2, y3], _ =>
      have f0 := hff 0 _ rfl
      have f1 := hff 1 _ rfl
      have f2 := hff 2 _ rfl
      have f3 := hff 3 _ rfl
      simp only [Value.cells, List.getElem?_cons_zero, List.getElem?_cons_succ] at f0 f1 f2 f3
      have hd : d = .agg [y0.1, y1.1, y2.1, y3.1] := by have := congrArg Prod.fst hx; simpa using this
      have hw : ∀ (j : Nat) (ty : TypeId) (y : DataW H), ([44, 3, 26, 53] : List TypeId)[j]? = some ty → ([y0.1, y1.1, y2.1, y3.1] : List (DataW H))[j]? = some y → ∀ n ∈ y.weights Try.prog ty, n ≤ reachBytes := by
        intro j ty y hj hy n hn
        refine hz n ?_
        rw [hd]
        simp only [DataW.weights, Try.underlying55]
        exact DataW.weights_mem_each hj hy n hn
      obtain ⟨lv, l, e0, hl0, _⟩ := openRows f0 (hw 0 _ _ rfl rfl)
      injection e0 with e0
      subst e0
      obtain ⟨n0, g0, _, _⟩ := DataW.trod_int Try.underlying3 f1
      injection g0 with g0
      subst g0
      obtain ⟨cv, cl, e2, hc2⟩ := openInts f2 (hw 2 _ _ rfl rfl)
      injection e2 with e2
      subst e2
      obtain ⟨zs3, mm3, _, _, _, hlz3, hfz3⟩ := DataW.trod_struct Try.underlying53 f3
      match zs3, hlz3 with
      | [u30, u31, u32, u33], _ =>
      have e30 := hfz3 0 _ rfl
      have e31 := hfz3 1 _ rfl
      have e32 := hfz3 2 _ rfl
      have e33 := hfz3 3 _ rfl
      simp only [List.getElem?_cons_zero, List.getElem?_cons_succ] at e30 e31 e32 e33
      obtain ⟨n1, g1, _, _⟩ := DataW.trod_int Try.underlying3 e30
      injection g1 with g1
      subst g1
      obtain ⟨n2, g2, _, _⟩ := DataW.trod_int Try.underlying3 e31
      injection g2 with g2
      subst g2
      obtain ⟨n3, g3, _, _⟩ := DataW.trod_int Try.underlying3 e32
      injection g3 with g3
      subst g3
      obtain ⟨n4, g4, _, _⟩ := DataW.trod_int Try.underlying3 e33
      injection g4 with g4
      subst g4
      exact ⟨l, n0, cl, ⟨n1, n2, n3, n4⟩, _, _, rfl, hl0, hc2⟩
end
end Go.Proofs.Ytkdcdhkhadhcfaa
