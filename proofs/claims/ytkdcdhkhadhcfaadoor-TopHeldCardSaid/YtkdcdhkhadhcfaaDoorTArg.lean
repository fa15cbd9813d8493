/-
  the top laws: an argument that came in reads as a net, a truth, as numbers; what is laid.
-/
import Derived.Test.YtkdcdhkhadhcfaaDoorArg
import Derived.Test.YtkdcdhkhadhcfaaDoorLHeld
import Derived.Test.YtkdcdhkhadhcfaaDoorRows
import Derived.LaidMore
import Derived.LaidLaws
import Derived.LaidHandle
import Derived.Stop.Joined
import Derived.Lib.LaidU8
namespace Go.Proofs.YtkdcdhkhadhcfaaDoor
open Go Go.RowKit Go.ChangeShapes Go.WideShapes Go.ChangeAt Go.Deep Go.Joins
set_option maxRecDepth 100000
section
variable {H : Type} {enc : TypeId × Value → H} {w : World} {base : Nat} {held : Bool}
theorem openInts {fuel : Nat} {cs : List Value} {x : DataW H × List MemPlace} (h : DataW.trod enc Tryd.prog w base (fun _ => true) held fuel 33 cs = some x) (hz : ∀ n ∈ x.1.weights Tryd.prog 33, n ≤ reachBytes) :
    ∃ v l, cs = [v] ∧ IntsAt w v l := by
  rcases open_slice Tryd.underlying33 h with ⟨rfl, rfl⟩ | ⟨a, len, cap, m, n, D, Pl, rfl, hb, hl, hm, hmm, rfl, hx⟩
  · exact ⟨_, [], rfl, ⟨none, 0, 0, 0, rfl, fun q => absurd q (by simp), by simp, fun i hi => absurd hi (by simp)⟩⟩
  · simp only [if_true] at hmm
    subst hmm
    have hlen : len * 8 ≤ reachBytes := by
      have := hz ((len + (m - len)) * 8) (by simp [DataW.weights, Tryd.underlying33, show Tryd.prog.bytesOf 3 = 8 from by kernel_rfl])
      have : len * 8 ≤ (len + (m - len)) * 8 := Nat.mul_le_mul_right _ (by omega)
      omega
    have hR : reachBytes ≤ 140737488355328 := by decide
    have each : ∀ i, i < m → ∃ q : Int, w.cell? (a.add i) = some (.int .i64 q) := by
      intro i hi
      obtain ⟨cs', h1, h2⟩ := hx i hi
      rw [show Tryd.prog.cellsOf 3 = 1 from by kernel_rfl] at h1
      obtain ⟨_, hlenk, hcell⟩ := World.cells?_some h1
      match cs', hlenk with
      | [c0], _ =>
        obtain ⟨n0, g0, _, _⟩ := DataW.trod_int Tryd.underlying3 h2
        injection g0 with g0
        subst g0
        have b0 := hcell 0 (by omega)
        rw [Go.Deep.add_add, Nat.mul_one] at b0
        exact ⟨n0, by simpa using b0⟩
    obtain ⟨q, hq⟩ := choose_lt each
    have hln : ((List.range len).map q).length = len := by simp
    refine ⟨_, (List.range len).map q, rfl, ?_⟩
    by_cases h0 : len = 0
    · exact ⟨some a, m, 0, 0, by rw [hln], fun r => by omega, by omega, fun i hi => by omega⟩
    · obtain ⟨b, off, spot⟩ := a
      have hspot : spot = none := by simpa [Addr.add] using World.cell?_spot (hq 0 (by omega))
      subst hspot
      refine ⟨some ⟨b, off, none⟩, m, b, off, by rw [hln], fun _ => rfl, by omega, fun i hi => ?_⟩
      rw [hln] at hi
      have e : at0 ((List.range len).map q) i = q i := by unfold at0; simp [List.getD, hi]
      rw [e]
      have kk := hq i (by omega)
      simp only [Go.WideShapes.add_plain] at kk
      try simp only [Nat.add_assoc]
      exact kk
theorem openGrips {fuel : Nat} {cs : List Value} {x : DataW H × List MemPlace} (h : DataW.trod enc Tryd.prog w base (fun _ => true) held fuel 28 cs = some x) (hz : ∀ n ∈ x.1.weights Tryd.prog 28, n ≤ reachBytes) :
    ∃ v l, cs = [v] ∧ GripsAt w v l := by
  rcases open_slice Tryd.underlying28 h with ⟨rfl, rfl⟩ | ⟨a, len, cap, m, n, D, Pl, rfl, hb, hl, hm, hmm, rfl, hx⟩
  · exact ⟨_, [], rfl, ⟨none, 0, 0, 0, rfl, fun q => absurd q (by simp), by simp, fun i hi => absurd hi (by simp)⟩⟩
  · simp only [if_true] at hmm
    subst hmm
    have hlen : len * 16 ≤ reachBytes := by
      have := hz ((len + (m - len)) * 16) (by simp [DataW.weights, Tryd.underlying28, show Tryd.prog.bytesOf 27 = 16 from by kernel_rfl])
      have : len * 16 ≤ (len + (m - len)) * 16 := Nat.mul_le_mul_right _ (by omega)
      omega
    have hR : reachBytes ≤ 140737488355328 := by decide
    have each : ∀ i, i < m → ∃ q : NSp, w.cell? (a.add (i * 2)) = some (.int .i64 q.lo) ∧ w.cell? (a.add (i * 2 + 1)) = some (.int .i64 q.hi) := by
      intro i hi
      obtain ⟨cs', h1, h2⟩ := hx i hi
      rw [show Tryd.prog.cellsOf 27 = 2 from by kernel_rfl] at h1
      obtain ⟨_, hlenk, hcell⟩ := World.cells?_some h1
      match cs', hlenk with
      | [c0, c1], _ =>
        obtain ⟨xs, nn, _, hxx, hll, hlenx, hff⟩ := DataW.trod_struct Tryd.underlying27 h2
        match xs, hlenx with
        | [y0, y1], _ =>
          have f0 := hff 0 _ rfl
          have f1 := hff 1 _ rfl
          simp only [List.getElem?_cons_zero, List.getElem?_cons_succ] at f0 f1
          obtain ⟨n0, g0, _, _⟩ := DataW.trod_int Tryd.underlying3 f0
          obtain ⟨n1, g1, _, _⟩ := DataW.trod_int Tryd.underlying3 f1
          injection g0 with g0
          injection g1 with g1
          subst g0 g1
          have b0 := hcell 0 (by omega)
          have b1 := hcell 1 (by omega)
          rw [Go.Deep.add_add] at b0 b1
          exact ⟨⟨n0, n1⟩, by simpa using b0, by simpa using b1⟩
    obtain ⟨q, hq⟩ := choose_lt each
    have hln : ((List.range len).map q).length = len := by simp
    refine ⟨_, (List.range len).map q, rfl, ?_⟩
    by_cases h0 : len = 0
    · exact ⟨some a, m, 0, 0, by rw [hln], fun r => by omega, by omega, fun i hi => by omega⟩
    · obtain ⟨b, off, spot⟩ := a
      have hspot : spot = none := by simpa [Addr.add] using World.cell?_spot (hq 0 (by omega)).1
      subst hspot
      refine ⟨some ⟨b, off, none⟩, m, b, off, by rw [hln], fun _ => rfl, by omega, fun i hi => ?_⟩
      rw [hln] at hi
      have e : atG ((List.range len).map q) i = q i := by unfold atG; simp [List.getD, hi]
      rw [e]
      have kk := hq i (by omega)
      simp only [Go.WideShapes.add_plain] at kk
      try simp only [Nat.add_assoc]
      exact kk
theorem openAns {fuel : Nat} {cs : List Value} {x : DataW H × List MemPlace} (h : DataW.trod enc Tryd.prog w base (fun _ => true) held fuel 29 cs = some x) (hz : ∀ n ∈ x.1.weights Tryd.prog 29, n ≤ reachBytes) :
    ∃ v l, cs = [v] ∧ AnsAt w v l := by
  rcases open_slice Tryd.underlying29 h with ⟨rfl, rfl⟩ | ⟨a, len, cap, m, n, D, Pl, rfl, hb, hl, hm, hmm, rfl, hx⟩
  · exact ⟨_, [], rfl, ⟨none, 0, 0, 0, rfl, fun q => absurd q (by simp), by simp, fun i hi => absurd hi (by simp)⟩⟩
  · simp only [if_true] at hmm
    subst hmm
    have hlen : len * 16 ≤ reachBytes := by
      have := hz ((len + (m - len)) * 16) (by simp [DataW.weights, Tryd.underlying29, show Tryd.prog.bytesOf 72 = 16 from by kernel_rfl])
      have : len * 16 ≤ (len + (m - len)) * 16 := Nat.mul_le_mul_right _ (by omega)
      omega
    have hR : reachBytes ≤ 140737488355328 := by decide
    have each : ∀ i, i < m → ∃ q : NAn, w.cell? (a.add (i * 2)) = some (.int .i64 q.wt) ∧ w.cell? (a.add (i * 2 + 1)) = some (.int .i64 q.bt) := by
      intro i hi
      obtain ⟨cs', h1, h2⟩ := hx i hi
      rw [show Tryd.prog.cellsOf 72 = 2 from by kernel_rfl] at h1
      obtain ⟨_, hlenk, hcell⟩ := World.cells?_some h1
      match cs', hlenk with
      | [c0, c1], _ =>
        obtain ⟨xs, nn, _, hxx, hll, hlenx, hff⟩ := DataW.trod_struct Tryd.underlying72 h2
        match xs, hlenx with
        | [y0, y1], _ =>
          have f0 := hff 0 _ rfl
          have f1 := hff 1 _ rfl
          simp only [List.getElem?_cons_zero, List.getElem?_cons_succ] at f0 f1
          obtain ⟨n0, g0, _, _⟩ := DataW.trod_int Tryd.underlying3 f0
          obtain ⟨n1, g1, _, _⟩ := DataW.trod_int Tryd.underlying3 f1
          injection g0 with g0
          injection g1 with g1
          subst g0 g1
          have b0 := hcell 0 (by omega)
          have b1 := hcell 1 (by omega)
          rw [Go.Deep.add_add] at b0 b1
          exact ⟨⟨n0, n1⟩, by simpa using b0, by simpa using b1⟩
    obtain ⟨q, hq⟩ := choose_lt each
    have hln : ((List.range len).map q).length = len := by simp
    refine ⟨_, (List.range len).map q, rfl, ?_⟩
    by_cases h0 : len = 0
    · exact ⟨some a, m, 0, 0, by rw [hln], fun r => by omega, by omega, fun i hi => by omega⟩
    · obtain ⟨b, off, spot⟩ := a
      have hspot : spot = none := by simpa [Addr.add] using World.cell?_spot (hq 0 (by omega)).1
      subst hspot
      refine ⟨some ⟨b, off, none⟩, m, b, off, by rw [hln], fun _ => rfl, by omega, fun i hi => ?_⟩
      rw [hln] at hi
      have e : atA ((List.range len).map q) i = q i := by unfold atA; simp [List.getD, hi]
      rw [e]
      have kk := hq i (by omega)
      simp only [Go.WideShapes.add_plain] at kk
      try simp only [Nat.add_assoc]
      exact kk
theorem openWalls {fuel : Nat} {cs : List Value} {x : DataW H × List MemPlace} (h : DataW.trod enc Tryd.prog w base (fun _ => true) held fuel 30 cs = some x) (hz : ∀ n ∈ x.1.weights Tryd.prog 30, n ≤ reachBytes) :
    ∃ v l, cs = [v] ∧ WallsAt w v l := by
  rcases open_slice Tryd.underlying30 h with ⟨rfl, rfl⟩ | ⟨a, len, cap, m, n, D, Pl, rfl, hb, hl, hm, hmm, rfl, hx⟩
  · exact ⟨_, [], rfl, ⟨none, 0, 0, 0, rfl, fun q => absurd q (by simp), by simp, fun i hi => absurd hi (by simp)⟩⟩
  · simp only [if_true] at hmm
    subst hmm
    have hlen : len * 40 ≤ reachBytes := by
      have := hz ((len + (m - len)) * 40) (by simp [DataW.weights, Tryd.underlying30, show Tryd.prog.bytesOf 74 = 40 from by kernel_rfl])
      have : len * 40 ≤ (len + (m - len)) * 40 := Nat.mul_le_mul_right _ (by omega)
      omega
    have hR : reachBytes ≤ 140737488355328 := by decide
    have each : ∀ i, i < m → ∃ q : NWl, w.cell? (a.add (i * 5)) = some (.int .i64 q.sail) ∧ w.cell? (a.add (i * 5 + 1)) = some (.int .i64 q.drag) ∧ w.cell? (a.add (i * 5 + 2)) = some (.int .i64 q.lean) ∧ w.cell? (a.add (i * 5 + 3)) = some (.int .i64 q.corks) ∧ w.cell? (a.add (i * 5 + 4)) = some (.int .i64 q.stones) := by
      intro i hi
      obtain ⟨cs', h1, h2⟩ := hx i hi
      rw [show Tryd.prog.cellsOf 74 = 5 from by kernel_rfl] at h1
      obtain ⟨_, hlenk, hcell⟩ := World.cells?_some h1
      match cs', hlenk with
      | [c0, c1, c2, c3, c4], _ =>
        obtain ⟨xs, nn, _, hxx, hll, hlenx, hff⟩ := DataW.trod_struct Tryd.underlying74 h2
        match xs, hlenx with
        | [y0, y1, y2, y3, y4], _ =>
          have f0 := hff 0 _ rfl
          have f1 := hff 1 _ rfl
          have f2 := hff 2 _ rfl
          have f3 := hff 3 _ rfl
          have f4 := hff 4 _ rfl
          simp only [List.getElem?_cons_zero, List.getElem?_cons_succ] at f0 f1 f2 f3 f4
          obtain ⟨n0, g0, _, _⟩ := DataW.trod_int Tryd.underlying3 f0
          obtain ⟨n1, g1, _, _⟩ := DataW.trod_int Tryd.underlying3 f1
          obtain ⟨n2, g2, _, _⟩ := DataW.trod_int Tryd.underlying3 f2
          obtain ⟨n3, g3, _, _⟩ := DataW.trod_int Tryd.underlying3 f3
          obtain ⟨n4, g4, _, _⟩ := DataW.trod_int Tryd.underlying3 f4
          injection g0 with g0
          injection g1 with g1
          injection g2 with g2
          injection g3 with g3
          injection g4 with g4
          subst g0 g1 g2 g3 g4
          have b0 := hcell 0 (by omega)
          have b1 := hcell 1 (by omega)
          have b2 := hcell 2 (by omega)
          have b3 := hcell 3 (by omega)
          have b4 := hcell 4 (by omega)
          rw [Go.Deep.add_add] at b0 b1 b2 b3 b4
          exact ⟨⟨n0, n1, n2, n3, n4⟩, by simpa using b0, by simpa using b1, by simpa using b2, by simpa using b3, by simpa using b4⟩
    obtain ⟨q, hq⟩ := choose_lt each
    have hln : ((List.range len).map q).length = len := by simp
    refine ⟨_, (List.range len).map q, rfl, ?_⟩
    by_cases h0 : len = 0
    · exact ⟨some a, m, 0, 0, by rw [hln], fun r => by omega, by omega, fun i hi => by omega⟩
    · obtain ⟨b, off, spot⟩ := a
      have hspot : spot = none := by simpa [Addr.add] using World.cell?_spot (hq 0 (by omega)).1
      subst hspot
      refine ⟨some ⟨b, off, none⟩, m, b, off, by rw [hln], fun _ => rfl, by omega, fun i hi => ?_⟩
      rw [hln] at hi
      have e : atWl ((List.range len).map q) i = q i := by unfold atWl; simp [List.getD, hi]
      rw [e]
      have kk := hq i (by omega)
      simp only [Go.WideShapes.add_plain] at kk
      try simp only [Nat.add_assoc]
      exact kk
theorem openNet {r : Reach} {b0 : Nat} {v : Value} {d : DataW H} {p : List MemPlace} (hv : Value.okWide Tryd.prog w r b0 32 v)
    (h : DataW.Trod enc Tryd.prog w base (fun _ => true) held 32 v d p) (hz : ∀ n ∈ d.weights Tryd.prog 32, n ≤ reachBytes) : ∃ n, NetAt w v n := by
  obtain ⟨cs, rfl, hsz⟩ := okWide_struct Tryd.underlying32 hv
  rw [show Tryd.prog.cellsOf 32 = 7 from by kernel_rfl] at hsz
  obtain ⟨cl⟩ := cs
  match cl, hsz with
  | [c0, c1, c2, c3, c4, c5, c6], _ =>
    obtain ⟨fuel, hf⟩ := h
    obtain ⟨xs, n, _, hx, hl, hlen, hff⟩ := DataW.trod_struct Tryd.underlying32 hf
    match xs, hlen with
    | [y0, y1, y2, y3, y4], _ =>
      have f0 := hff 0 _ rfl
      have f1 := hff 1 _ rfl
      have f2 := hff 2 _ rfl
      have f3 := hff 3 _ rfl
      have f4 := hff 4 _ rfl
      simp only [Value.cells, List.getElem?_cons_zero, List.getElem?_cons_succ] at f0 f1 f2 f3 f4
      have hd : d = .agg [y0.1, y1.1, y2.1, y3.1, y4.1] := by have := congrArg Prod.fst hx; simpa using this
      have hw : ∀ (j : Nat) (ty : TypeId) (y : DataW H), ([27, 27, 28, 29, 30] : List TypeId)[j]? = some ty → ([y0.1, y1.1, y2.1, y3.1, y4.1] : List (DataW H))[j]? = some y → ∀ n ∈ y.weights Tryd.prog ty, n ≤ reachBytes := by
        intro j ty y hj hy n hn
        refine hz n ?_
        rw [hd]
        simp only [DataW.weights, Tryd.underlying32]
        exact DataW.weights_mem_each hj hy n hn
      obtain ⟨zs0, mm0, _, _, _, hlz0, hfz0⟩ := DataW.trod_struct Tryd.underlying27 f0
      match zs0, hlz0 with
      | [u00, u01], _ =>
      have e00 := hfz0 0 _ rfl
      have e01 := hfz0 1 _ rfl
      simp only [List.getElem?_cons_zero, List.getElem?_cons_succ] at e00 e01
      obtain ⟨n0, g0, _, _⟩ := DataW.trod_int Tryd.underlying3 e00
      injection g0 with g0
      subst g0
      obtain ⟨n1, g1, _, _⟩ := DataW.trod_int Tryd.underlying3 e01
      injection g1 with g1
      subst g1
      obtain ⟨zs1, mm1, _, _, _, hlz1, hfz1⟩ := DataW.trod_struct Tryd.underlying27 f1
      match zs1, hlz1 with
      | [u10, u11], _ =>
      have e10 := hfz1 0 _ rfl
      have e11 := hfz1 1 _ rfl
      simp only [List.getElem?_cons_zero, List.getElem?_cons_succ] at e10 e11
      obtain ⟨n2, g2, _, _⟩ := DataW.trod_int Tryd.underlying3 e10
      injection g2 with g2
      subst g2
      obtain ⟨n3, g3, _, _⟩ := DataW.trod_int Tryd.underlying3 e11
      injection g3 with g3
      subst g3
      obtain ⟨gv, gl, e2, hg⟩ := openGrips f2 (hw 2 _ _ rfl rfl)
      obtain ⟨av, al, e3, ha⟩ := openAns f3 (hw 3 _ _ rfl rfl)
      obtain ⟨wv, wl, e4, hwl⟩ := openWalls f4 (hw 4 _ _ rfl rfl)
      injection e2 with e2
      injection e3 with e3
      injection e4 with e4
      subst e2 e3 e4
      exact ⟨⟨⟨n0, n1⟩, ⟨n2, n3⟩, gl, al, wl⟩, _, _, _, rfl, hg, ha, hwl⟩
theorem openHeld {r : Reach} {b0 : Nat} {v : Value} {d : DataW H} {p : List MemPlace} (hv : Value.okWide Tryd.prog w r b0 39 v)
    (h : DataW.Trod enc Tryd.prog w base (fun _ => true) held 39 v d p) (hz : ∀ n ∈ d.weights Tryd.prog 39, n ≤ reachBytes) : ∃ (l : List (List Int)) (ti : Int) (u : NTr) (x : CW) (vl vg : Value), v = .agg #[vl, .int .i64 ti, .int .i64 u.wind, .int .i64 u.cur, vg, .int .i64 x.time, .int .i64 x.chamber, .int .i64 x.low, .int .i64 x.high] ∧ RowsAt w vl l ∧ IntsAt w vg u.grips := by
  obtain ⟨cs, rfl, hsz⟩ := okWide_struct Tryd.underlying39 hv
  rw [show Tryd.prog.cellsOf 39 = 9 from by kernel_rfl] at hsz
  obtain ⟨cl⟩ := cs
  match cl, hsz with
  | [c0, c1, c2, c3, c4, c5, c6, c7, c8], _ =>
    obtain ⟨fuel, hf⟩ := h
    obtain ⟨xs, n, _, hx, hl, hlen, hff⟩ := DataW.trod_struct Tryd.underlying39 hf
    match xs, hlen with
    | [y0, y1, y2, y3], _ =>
      have f0 := hff 0 _ rfl
      have f1 := hff 1 _ rfl
      have f2 := hff 2 _ rfl
      have f3 := hff 3 _ rfl
      simp only [Value.cells, List.getElem?_cons_zero, List.getElem?_cons_succ] at f0 f1 f2 f3
      have hd : d = .agg [y0.1, y1.1, y2.1, y3.1] := by have := congrArg Prod.fst hx; simpa using this
      have hw : ∀ (j : Nat) (ty : TypeId) (y : DataW H), ([22, 3, 35, 37] : List TypeId)[j]? = some ty → ([y0.1, y1.1, y2.1, y3.1] : List (DataW H))[j]? = some y → ∀ n ∈ y.weights Tryd.prog ty, n ≤ reachBytes := by
        intro j ty y hj hy n hn
        refine hz n ?_
        rw [hd]
        simp only [DataW.weights, Tryd.underlying39]
        exact DataW.weights_mem_each hj hy n hn
      obtain ⟨lv, l, e0, hl0, _⟩ := openRows f0 (hw 0 _ _ rfl rfl)
      injection e0 with e0
      subst e0
      obtain ⟨n0, g0, _, _⟩ := DataW.trod_int Tryd.underlying3 f1
      injection g0 with g0
      subst g0
      obtain ⟨zs2, mm2, _, hxz2, _, hlz2, hfz2⟩ := DataW.trod_struct Tryd.underlying35 f2
      match zs2, hlz2 with
      | [u20, u21, u22], _ =>
      have e20 := hfz2 0 _ rfl
      have e21 := hfz2 1 _ rfl
      have e22 := hfz2 2 _ rfl
      simp only [List.getElem?_cons_zero, List.getElem?_cons_succ] at e20 e21 e22
      obtain ⟨n1, g1, _, _⟩ := DataW.trod_int Tryd.underlying3 e20
      injection g1 with g1
      subst g1
      obtain ⟨n2, g2, _, _⟩ := DataW.trod_int Tryd.underlying3 e21
      injection g2 with g2
      subst g2
      have hwz2 : ∀ n ∈ u22.1.weights Tryd.prog 33, n ≤ reachBytes := fun n hn => hw 2 _ _ rfl rfl n (by
        have hd2 : y2.1 = .agg [u20.1, u21.1, u22.1] := by have := congrArg Prod.fst hxz2; simpa using this
        rw [hd2]
        simp only [DataW.weights, Tryd.underlying35]
        exact DataW.weights_mem_each (j := 2) (t := 33) rfl rfl n hn)
      obtain ⟨tv2, tl2, et2, hti2⟩ := openInts e22 hwz2
      injection et2 with et2
      subst et2
      obtain ⟨zs3, mm3, _, _, _, hlz3, hfz3⟩ := DataW.trod_struct Tryd.underlying37 f3
      match zs3, hlz3 with
      | [u30, u31, u32, u33], _ =>
      have e30 := hfz3 0 _ rfl
      have e31 := hfz3 1 _ rfl
      have e32 := hfz3 2 _ rfl
      have e33 := hfz3 3 _ rfl
      simp only [List.getElem?_cons_zero, List.getElem?_cons_succ] at e30 e31 e32 e33
      obtain ⟨n3, g3, _, _⟩ := DataW.trod_int Tryd.underlying3 e30
      injection g3 with g3
      subst g3
      obtain ⟨n4, g4, _, _⟩ := DataW.trod_int Tryd.underlying3 e31
      injection g4 with g4
      subst g4
      obtain ⟨n5, g5, _, _⟩ := DataW.trod_int Tryd.underlying3 e32
      injection g5 with g5
      subst g5
      obtain ⟨n6, g6, _, _⟩ := DataW.trod_int Tryd.underlying3 e33
      injection g6 with g6
      subst g6
      exact ⟨l, n0, ⟨n1, n2, tl2⟩, ⟨n3, n4, n5, n6⟩, _, _, rfl, hl0, hti2⟩
end
/-! what is laid: the library's tables -/
def laidBru : List (String × DataW Unit) := [("math/bits.deBruijn32tab", Rows.laid_math_bits_deBruijn32tab), ("math/bits.deBruijn64tab", Rows.laid_math_bits_deBruijn64tab)]
theorem gBru : Tryd.prog.globalNamed "math/bits.deBruijn64tab" = some 1 := by kernel_rfl
theorem bru_of_laid {W : World} (h : laidMetH Tryd.prog laidBru W) : BruAt W := by
  rw [MakeChecks.laidMetH_plain _ _ _ (by kernel_rfl)] at h
  obtain ⟨g, t, cs, fuel, p, hg, hty, hvar, hd⟩ := Lib.laidMet.reads h (.tail _ (.head _))
  obtain rfl := Option.some.inj (gBru.symm.trans hg)
  obtain rfl := Option.some.inj ((show (Tryd.prog.globals[1]?).map (·.type) = some 173 by kernel_rfl).symm.trans hty)
  have hd' : DataW.trod (fun _ => ()) Tryd.prog W 0 (fun _ => true) false fuel 173 cs.toList = some (Lib.tabData .u8 (Lib.deBruijn64tab.map fun (x : Nat) => (x : Int)), p) := hd
  have hcs := Lib.cells_of_tab Tryd.underlying173 Tryd.underlying5 (by kernel_rfl) (by kernel_rfl) hd'
  intro j hj
  have := World.var?_cell hg hvar j
  rw [this, ← Array.getElem?_toList, hcs]
  simp only [List.map_map, List.getElem?_map, List.getD_eq_getElem?_getD]
  rw [List.getElem?_eq_getElem hj]
  rfl
theorem door_met (os : Os) (args : Array Value) : laidMetH Tryd.prog laidBru ((World.doorLaid Tryd.prog 4000 os).forCall (fun _ _ => 0) ⟨#[], args, []⟩).memory :=
  laidMetH_of_parts3 (fuel := 10) (laidMet_of_run' 10 (by kernel_rfl) (by kernel_rfl)) (by kernel_rfl) (by kernel_rfl)
end Go.Proofs.YtkdcdhkhadhcfaaDoor
