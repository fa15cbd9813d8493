/-
  the top law TopTorn: an argument that came in reads as a net, two truths, holes; what is laid.
-/
import Derived.Test.YtkdcdhkhadhcfaaDoorTornV
import Derived.Test.YtkdcdhkhadhcfaaDoorNCheck
import Derived.Test.YtkdcdhkhadhcfaaDoorRows
import Derived.WalkKit
import Derived.ProofKit
import Derived.OpenShut
import Derived.ChangeOld
import Derived.Below
import Derived.SizedLaws
import Derived.Deep.Matrix
import Derived.Lib.SmallJoins
import Derived.LaidMore
import Derived.LaidLaws
import Derived.LaidHandle
import Derived.Stop.Joined
import Derived.Lib.LaidU8
namespace Go.Proofs.YtkdcdhkhadhcfaaDoor
open Go Go.RowKit Go.ChangeShapes Go.WideShapes Go.ChangeAt Go.Deep Go.Joins
set_option maxRecDepth 100000
section
variable {H : Type} {enc : TypeId × Value → H} {w : World} {base : Nat} {held : Bool}
theorem cellsInt1 : Tryd.prog.cellsOf 3 = 1 := by kernel_rfl
theorem cellsInts1 : Tryd.prog.cellsOf 33 = 1 := by kernel_rfl
theorem openInts {fuel : Nat} {cs : List Value} {x : DataW H × List MemPlace} (h : DataW.trod enc Tryd.prog w base (fun _ => true) held fuel 33 cs = some x) (hz : ∀ n ∈ x.1.weights Tryd.prog 33, n ≤ reachBytes) :
    ∃ v l, cs = [v] ∧ IntsAt w v l := by
  rcases open_slice Tryd.underlying33 h with ⟨rfl, rfl⟩ | ⟨a, len, cap, m, n, D, Pl, rfl, hb, hl, hm, hmm, rfl, hx⟩
  · exact ⟨_, [], rfl, ⟨none, 0, 0, 0, rfl, fun q => absurd q (by simp), by simp, fun i hi => absurd hi (by simp)⟩⟩
  · simp only [if_true] at hmm
    subst hmm
    have hlen : len * 8 ≤ reachBytes := by
      have := hz ((len + (m - len)) * 8) (by simp [DataW.weights, Tryd.underlying33, show Tryd.prog.bytesOf 3 = 8 from by kernel_rfl])
      have : len * 8 ≤ (len + (m - len)) * 8 := Nat.mul_le_mul_right _ (by omega)
      omega
    have hR : reachBytes ≤ 140737488355328 := by decide
    have each : ∀ i, i < m → ∃ q : Int, w.cell? (a.add i) = some (.int .i64 q) := by
      intro i hi
      obtain ⟨cs', h1, h2⟩ := hx i hi
      rw [show Tryd.prog.cellsOf 3 = 1 from by kernel_rfl] at h1
      obtain ⟨_, hlenk, hcell⟩ := World.cells?_some h1
      match cs', hlenk with
      | [c0], _ =>
        obtain ⟨n0, g0, _, _⟩ := DataW.trod_int Tryd.underlying3 h2
        injection g0 with g0
        subst g0
        have b0 := hcell 0 (by omega)
        rw [Go.Deep.add_add, Nat.mul_one] at b0
        exact ⟨n0, by simpa using b0⟩
    obtain ⟨q, hq⟩ := choose_lt each
    have hln : ((List.range len).map q).length = len := by simp
    refine ⟨_, (List.range len).map q, rfl, ?_⟩
    by_cases h0 : len = 0
    · exact ⟨some a, m, 0, 0, by rw [hln], fun r => by omega, by omega, fun i hi => by omega⟩
    · obtain ⟨b, off, spot⟩ := a
      have hspot : spot = none := by simpa [Addr.add] using World.cell?_spot (hq 0 (by omega))
      subst hspot
      refine ⟨some ⟨b, off, none⟩, m, b, off, by rw [hln], fun _ => rfl, by omega, fun i hi => ?_⟩
      rw [hln] at hi
      have e : at0 ((List.range len).map q) i = q i := by unfold at0; simp [List.getD, hi]
      rw [e]
      have kk := hq i (by omega)
      simp only [Go.WideShapes.add_plain] at kk
      try simp only [Nat.add_assoc]
      exact kk
theorem openGrips {fuel : Nat} {cs : List Value} {x : DataW H × List MemPlace} (h : DataW.trod enc Tryd.prog w base (fun _ => true) held fuel 28 cs = some x) (hz : ∀ n ∈ x.1.weights Tryd.prog 28, n ≤ reachBytes) :
    ∃ v l, cs = [v] ∧ GripsAt w v l := by
  rcases open_slice Tryd.underlying28 h with ⟨rfl, rfl⟩ | ⟨a, len, cap, m, n, D, Pl, rfl, hb, hl, hm, hmm, rfl, hx⟩
  · exact ⟨_, [], rfl, ⟨none, 0, 0, 0, rfl, fun q => absurd q (by simp), by simp, fun i hi => absurd hi (by simp)⟩⟩
  · simp only [if_true] at hmm
    subst hmm
    have hlen : len * 16 ≤ reachBytes := by
      have := hz ((len + (m - len)) * 16) (by simp [DataW.weights, Tryd.underlying28, show Tryd.prog.bytesOf 27 = 16 from by kernel_rfl])
      have : len * 16 ≤ (len + (m - len)) * 16 := Nat.mul_le_mul_right _ (by omega)
      omega
    have hR : reachBytes ≤ 140737488355328 := by decide
    have each : ∀ i, i < m → ∃ q : NSp, w.cell? (a.add (i * 2)) = some (.int .i64 q.lo) ∧ w.cell? (a.add (i * 2 + 1)) = some (.int .i64 q.hi) := by
      intro i hi
      obtain ⟨cs', h1, h2⟩ := hx i hi
      rw [show Tryd.prog.cellsOf 27 = 2 from by kernel_rfl] at h1
      obtain ⟨_, hlenk, hcell⟩ := World.cells?_some h1
      match cs', hlenk with
      | [c0, c1], _ =>
        obtain ⟨xs, nn, _, hxx, hll, hlenx, hff⟩ := DataW.trod_struct Tryd.underlying27 h2
        match xs, hlenx with
        | [y0, y1], _ =>
          have f0 := hff 0 _ rfl
          have f1 := hff 1 _ rfl
          simp only [List.getElem?_cons_zero, List.getElem?_cons_succ] at f0 f1
          obtain ⟨n0, g0, _, _⟩ := DataW.trod_int Tryd.underlying3 f0
          obtain ⟨n1, g1, _, _⟩ := DataW.trod_int Tryd.underlying3 f1
          injection g0 with g0
          injection g1 with g1
          subst g0 g1
          have b0 := hcell 0 (by omega)
          have b1 := hcell 1 (by omega)
          rw [Go.Deep.add_add] at b0 b1
          exact ⟨⟨n0, n1⟩, by simpa using b0, by simpa using b1⟩
    obtain ⟨q, hq⟩ := choose_lt each
    have hln : ((List.range len).map q).length = len := by simp
    refine ⟨_, (List.range len).map q, rfl, ?_⟩
    by_cases h0 : len = 0
    · exact ⟨some a, m, 0, 0, by rw [hln], fun r => by omega, by omega, fun i hi => by omega⟩
    · obtain ⟨b, off, spot⟩ := a
      have hspot : spot = none := by simpa [Addr.add] using World.cell?_spot (hq 0 (by omega)).1
      subst hspot
      refine ⟨some ⟨b, off, none⟩, m, b, off, by rw [hln], fun _ => rfl, by omega, fun i hi => ?_⟩
      rw [hln] at hi
      have e : atG ((List.range len).map q) i = q i := by unfold atG; simp [List.getD, hi]
      rw [e]
      have kk := hq i (by omega)
      simp only [Go.WideShapes.add_plain] at kk
      try simp only [Nat.add_assoc]
      exact kk
theorem openAns {fuel : Nat} {cs : List Value} {x : DataW H × List MemPlace} (h : DataW.trod enc Tryd.prog w base (fun _ => true) held fuel 29 cs = some x) (hz : ∀ n ∈ x.1.weights Tryd.prog 29, n ≤ reachBytes) :
    ∃ v l, cs = [v] ∧ AnsAt w v l := by
  rcases open_slice Tryd.underlying29 h with ⟨rfl, rfl⟩ | ⟨a, len, cap, m, n, D, Pl, rfl, hb, hl, hm, hmm, rfl, hx⟩
  · exact ⟨_, [], rfl, ⟨none, 0, 0, 0, rfl, fun q => absurd q (by simp), by simp, fun i hi => absurd hi (by simp)⟩⟩
  · simp only [if_true] at hmm
    subst hmm
    have hlen : len * 16 ≤ reachBytes := by
      have := hz ((len + (m - len)) * 16) (by simp [DataW.weights, Tryd.underlying29, show Tryd.prog.bytesOf 72 = 16 from by kernel_rfl])
      have : len * 16 ≤ (len + (m - len)) * 16 := Nat.mul_le_mul_right _ (by omega)
      omega
    have hR : reachBytes ≤ 140737488355328 := by decide
    have each : ∀ i, i < m → ∃ q : NAn, w.cell? (a.add (i * 2)) = some (.int .i64 q.wt) ∧ w.cell? (a.add (i * 2 + 1)) = some (.int .i64 q.bt) := by
      intro i hi
      obtain ⟨cs', h1, h2⟩ := hx i hi
      rw [show Tryd.prog.cellsOf 72 = 2 from by kernel_rfl] at h1
      obtain ⟨_, hlenk, hcell⟩ := World.cells?_some h1
      match cs', hlenk with
      | [c0, c1], _ =>
        obtain ⟨xs, nn, _, hxx, hll, hlenx, hff⟩ := DataW.trod_struct Tryd.underlying72 h2
        match xs, hlenx with
        | [y0, y1], _ =>
          have f0 := hff 0 _ rfl
          have f1 := hff 1 _ rfl
          simp only [List.getElem?_cons_zero, List.getElem?_cons_succ] at f0 f1
          obtain ⟨n0, g0, _, _⟩ := DataW.trod_int Tryd.underlying3 f0
          obtain ⟨n1, g1, _, _⟩ := DataW.trod_int Tryd.underlying3 f1
          injection g0 with g0
          injection g1 with g1
          subst g0 g1
          have b0 := hcell 0 (by omega)
          have b1 := hcell 1 (by omega)
          rw [Go.Deep.add_add] at b0 b1
          exact ⟨⟨n0, n1⟩, by simpa using b0, by simpa using b1⟩
    obtain ⟨q, hq⟩ := choose_lt each
    have hln : ((List.range len).map q).length = len := by simp
    refine ⟨_, (List.range len).map q, rfl, ?_⟩
    by_cases h0 : len = 0
    · exact ⟨some a, m, 0, 0, by rw [hln], fun r => by omega, by omega, fun i hi => by omega⟩
    · obtain ⟨b, off, spot⟩ := a
      have hspot : spot = none := by simpa [Addr.add] using World.cell?_spot (hq 0 (by omega)).1
      subst hspot
      refine ⟨some ⟨b, off, none⟩, m, b, off, by rw [hln], fun _ => rfl, by omega, fun i hi => ?_⟩
      rw [hln] at hi
      have e : atA ((List.range len).map q) i = q i := by unfold atA; simp [List.getD, hi]
      rw [e]
      have kk := hq i (by omega)
      simp only [Go.WideShapes.add_plain] at kk
      try simp only [Nat.add_assoc]
      exact kk
theorem openWalls {fuel : Nat} {cs : List Value} {x : DataW H × List MemPlace} (h : DataW.trod enc Tryd.prog w base (fun _ => true) held fuel 30 cs = some x) (hz : ∀ n ∈ x.1.weights Tryd.prog 30, n ≤ reachBytes) :
    ∃ v l, cs = [v] ∧ WallsAt w v l := by
  rcases open_slice Tryd.underlying30 h with ⟨rfl, rfl⟩ | ⟨a, len, cap, m, n, D, Pl, rfl, hb, hl, hm, hmm, rfl, hx⟩
  · exact ⟨_, [], rfl, ⟨none, 0, 0, 0, rfl, fun q => absurd q (by simp), by simp, fun i hi => absurd hi (by simp)⟩⟩
  · simp only [if_true] at hmm
    subst hmm
    have hlen : len * 40 ≤ reachBytes := by
      have := hz ((len + (m - len)) * 40) (by simp [DataW.weights, Tryd.underlying30, show Tryd.prog.bytesOf 74 = 40 from by kernel_rfl])
      have : len * 40 ≤ (len + (m - len)) * 40 := Nat.mul_le_mul_right _ (by omega)
      omega
    have hR : reachBytes ≤ 140737488355328 := by decide
    have each : ∀ i, i < m → ∃ q : NWl, w.cell? (a.add (i * 5)) = some (.int .i64 q.sail) ∧ w.cell? (a.add (i * 5 + 1)) = some (.int .i64 q.drag) ∧ w.cell? (a.add (i * 5 + 2)) = some (.int .i64 q.lean) ∧ w.cell? (a.add (i * 5 + 3)) = some (.int .i64 q.corks) ∧ w.cell? (a.add (i * 5 + 4)) = some (.int .i64 q.stones) := by
      intro i hi
      obtain ⟨cs', h1, h2⟩ := hx i hi
      rw [show Tryd.prog.cellsOf 74 = 5 from by kernel_rfl] at h1
      obtain ⟨_, hlenk, hcell⟩ := World.cells?_some h1
      match cs', hlenk with
      | [c0, c1, c2, c3, c4], _ =>
        obtain ⟨xs, nn, _, hxx, hll, hlenx, hff⟩ := DataW.trod_struct Tryd.underlying74 h2
        match xs, hlenx with
        | [y0, y1, y2, y3, y4], _ =>
          have f0 := hff 0 _ rfl
          have f1 := hff 1 _ rfl
          have f2 := hff 2 _ rfl
          have f3 := hff 3 _ rfl
          have f4 := hff 4 _ rfl
          simp only [List.getElem?_cons_zero, List.getElem?_cons_succ] at f0 f1 f2 f3 f4
          obtain ⟨n0, g0, _, _⟩ := DataW.trod_int Tryd.underlying3 f0
          obtain ⟨n1, g1, _, _⟩ := DataW.trod_int Tryd.underlying3 f1
          obtain ⟨n2, g2, _, _⟩ := DataW.trod_int Tryd.underlying3 f2
          obtain ⟨n3, g3, _, _⟩ := DataW.trod_int Tryd.underlying3 f3
          obtain ⟨n4, g4, _, _⟩ := DataW.trod_int Tryd.underlying3 f4
          injection g0 with g0
          injection g1 with g1
          injection g2 with g2
          injection g3 with g3
          injection g4 with g4
          subst g0 g1 g2 g3 g4
          have b0 := hcell 0 (by omega)
          have b1 := hcell 1 (by omega)
          have b2 := hcell 2 (by omega)
          have b3 := hcell 3 (by omega)
          have b4 := hcell 4 (by omega)
          rw [Go.Deep.add_add] at b0 b1 b2 b3 b4
          exact ⟨⟨n0, n1, n2, n3, n4⟩, by simpa using b0, by simpa using b1, by simpa using b2, by simpa using b3, by simpa using b4⟩
    obtain ⟨q, hq⟩ := choose_lt each
    have hln : ((List.range len).map q).length = len := by simp
    refine ⟨_, (List.range len).map q, rfl, ?_⟩
    by_cases h0 : len = 0
    · exact ⟨some a, m, 0, 0, by rw [hln], fun r => by omega, by omega, fun i hi => by omega⟩
    · obtain ⟨b, off, spot⟩ := a
      have hspot : spot = none := by simpa [Addr.add] using World.cell?_spot (hq 0 (by omega)).1
      subst hspot
      refine ⟨some ⟨b, off, none⟩, m, b, off, by rw [hln], fun _ => rfl, by omega, fun i hi => ?_⟩
      rw [hln] at hi
      have e : atWl ((List.range len).map q) i = q i := by unfold atWl; simp [List.getD, hi]
      rw [e]
      have kk := hq i (by omega)
      simp only [Go.WideShapes.add_plain] at kk
      try simp only [Nat.add_assoc]
      exact kk
theorem openHoles {fuel : Nat} {cs : List Value} {x : DataW H × List MemPlace} (h : DataW.trod enc Tryd.prog w base (fun _ => true) held fuel 56 cs = some x) (hz : ∀ n ∈ x.1.weights Tryd.prog 56, n ≤ reachBytes) :
    ∃ v l, cs = [v] ∧ HolesAt w v l := by
  rcases open_slice Tryd.underlying56 h with ⟨rfl, rfl⟩ | ⟨a, len, cap, m, n, D, Pl, rfl, hb, hl, hm, hmm, rfl, hx⟩
  · exact ⟨_, [], rfl, ⟨none, 0, 0, 0, rfl, fun q => absurd q (by simp), by simp, fun i hi => absurd hi (by simp)⟩⟩
  · simp only [if_true] at hmm
    subst hmm
    have hlen : len * 32 ≤ reachBytes := by
      have := hz ((len + (m - len)) * 32) (by simp [DataW.weights, Tryd.underlying56, show Tryd.prog.bytesOf 89 = 32 from by kernel_rfl])
      have : len * 32 ≤ (len + (m - len)) * 32 := Nat.mul_le_mul_right _ (by omega)
      omega
    have hR : reachBytes ≤ 140737488355328 := by decide
    have each : ∀ i, i < m → ∃ q : Hole, w.cell? (a.add (i * 4)) = some (.int .i64 q.frm) ∧ w.cell? (a.add (i * 4 + 1)) = some (.int .i64 q.lo) ∧ w.cell? (a.add (i * 4 + 2)) = some (.int .i64 q.hi) ∧ w.cell? (a.add (i * 4 + 3)) = some (.int .i64 q.hrs) := by
      intro i hi
      obtain ⟨cs', h1, h2⟩ := hx i hi
      rw [show Tryd.prog.cellsOf 89 = 4 from by kernel_rfl] at h1
      obtain ⟨_, hlenk, hcell⟩ := World.cells?_some h1
      match cs', hlenk with
      | [c0, c1, c2, c3], _ =>
        obtain ⟨xs, nn, _, hxx, hll, hlenx, hff⟩ := DataW.trod_struct Tryd.underlying89 h2
        match xs, hlenx with
        | [y0, y1, y2], _ =>
          have f0 := hff 0 _ rfl
          have f1 := hff 1 _ rfl
          have f2 := hff 2 _ rfl
          simp only [List.getElem?_cons_zero, List.getElem?_cons_succ] at f0 f1 f2
          obtain ⟨n0, g0, _, _⟩ := DataW.trod_int Tryd.underlying3 f0
          obtain ⟨zs1, mm1, _, _, _, hlz1, hfz1⟩ := DataW.trod_struct Tryd.underlying27 f1
          match zs1, hlz1 with
          | [u10, u11], _ =>
          have e10 := hfz1 0 _ rfl
          have e11 := hfz1 1 _ rfl
          simp only [List.getElem?_cons_zero, List.getElem?_cons_succ] at e10 e11
          obtain ⟨n1, g1, _, _⟩ := DataW.trod_int Tryd.underlying3 e10
          obtain ⟨n2, g2, _, _⟩ := DataW.trod_int Tryd.underlying3 e11
          obtain ⟨n3, g3, _, _⟩ := DataW.trod_int Tryd.underlying3 f2
          injection g0 with g0
          injection g1 with g1
          injection g2 with g2
          injection g3 with g3
          subst g0 g1 g2 g3
          have b0 := hcell 0 (by omega)
          have b1 := hcell 1 (by omega)
          have b2 := hcell 2 (by omega)
          have b3 := hcell 3 (by omega)
          rw [Go.Deep.add_add] at b0 b1 b2 b3
          exact ⟨⟨n0, n1, n2, n3⟩, by simpa using b0, by simpa using b1, by simpa using b2, by simpa using b3⟩
    obtain ⟨q, hq⟩ := choose_lt each
    have hln : ((List.range len).map q).length = len := by simp
    refine ⟨_, (List.range len).map q, rfl, ?_⟩
    by_cases h0 : len = 0
    · exact ⟨some a, m, 0, 0, by rw [hln], fun r => by omega, by omega, fun i hi => by omega⟩
    · obtain ⟨b, off, spot⟩ := a
      have hspot : spot = none := by simpa [Addr.add] using World.cell?_spot (hq 0 (by omega)).1
      subst hspot
      refine ⟨some ⟨b, off, none⟩, m, b, off, by rw [hln], fun _ => rfl, by omega, fun i hi => ?_⟩
      rw [hln] at hi
      have e : atH ((List.range len).map q) i = q i := by unfold atH; simp [List.getD, hi]
      rw [e]
      have kk := hq i (by omega)
      simp only [Go.WideShapes.add_plain] at kk
      try simp only [Nat.add_assoc]
      exact kk
theorem openNet {r : Reach} {b0 : Nat} {v : Value} {d : DataW H} {p : List MemPlace} (hv : Value.okWide Tryd.prog w r b0 32 v)
    (h : DataW.Trod enc Tryd.prog w base (fun _ => true) held 32 v d p) (hz : ∀ n ∈ d.weights Tryd.prog 32, n ≤ reachBytes) : ∃ n, NetAt w v n := by
  obtain ⟨cs, rfl, hsz⟩ := okWide_struct Tryd.underlying32 hv
  rw [show Tryd.prog.cellsOf 32 = 7 from by kernel_rfl] at hsz
  obtain ⟨cl⟩ := cs
  match cl, hsz with
  | [c0, c1, c2, c3, c4, c5, c6], _ =>
    obtain ⟨fuel, hf⟩ := h
    obtain ⟨xs, n, _, hx, hl, hlen, hff⟩ := DataW.trod_struct Tryd.underlying32 hf
    match xs, hlen with
    | [y0, y1, y2, y3, y4], _ =>
      have f0 := hff 0 _ rfl
      have f1 := hff 1 _ rfl
      have f2 := hff 2 _ rfl
      have f3 := hff 3 _ rfl
      have f4 := hff 4 _ rfl
      simp only [Value.cells, List.getElem?_cons_zero, List.getElem?_cons_succ] at f0 f1 f2 f3 f4
      have hd : d = .agg [y0.1, y1.1, y2.1, y3.1, y4.1] := by have := congrArg Prod.fst hx; simpa using this
      have hw : ∀ (j : Nat) (ty : TypeId) (y : DataW H), ([27, 27, 28, 29, 30] : List TypeId)[j]? = some ty → ([y0.1, y1.1, y2.1, y3.1, y4.1] : List (DataW H))[j]? = some y → ∀ n ∈ y.weights Tryd.prog ty, n ≤ reachBytes := by
        intro j ty y hj hy n hn
        refine hz n ?_
        rw [hd]
        simp only [DataW.weights, Tryd.underlying32]
        exact DataW.weights_mem_each hj hy n hn
      obtain ⟨zs0, mm0, _, _, _, hlz0, hfz0⟩ := DataW.trod_struct Tryd.underlying27 f0
      match zs0, hlz0 with
      | [u00, u01], _ =>
      have e00 := hfz0 0 _ rfl
      have e01 := hfz0 1 _ rfl
      simp only [List.getElem?_cons_zero, List.getElem?_cons_succ] at e00 e01
      obtain ⟨n0, g0, _, _⟩ := DataW.trod_int Tryd.underlying3 e00
      injection g0 with g0
      subst g0
      obtain ⟨n1, g1, _, _⟩ := DataW.trod_int Tryd.underlying3 e01
      injection g1 with g1
      subst g1
      obtain ⟨zs1, mm1, _, _, _, hlz1, hfz1⟩ := DataW.trod_struct Tryd.underlying27 f1
      match zs1, hlz1 with
      | [u10, u11], _ =>
      have e10 := hfz1 0 _ rfl
      have e11 := hfz1 1 _ rfl
      simp only [List.getElem?_cons_zero, List.getElem?_cons_succ] at e10 e11
      obtain ⟨n2, g2, _, _⟩ := DataW.trod_int Tryd.underlying3 e10
      injection g2 with g2
      subst g2
      obtain ⟨n3, g3, _, _⟩ := DataW.trod_int Tryd.underlying3 e11
      injection g3 with g3
      subst g3
      obtain ⟨gv, gl, e2, hg⟩ := openGrips f2 (hw 2 _ _ rfl rfl)
      obtain ⟨av, al, e3, ha⟩ := openAns f3 (hw 3 _ _ rfl rfl)
      obtain ⟨wv, wl, e4, hwl⟩ := openWalls f4 (hw 4 _ _ rfl rfl)
      injection e2 with e2
      injection e3 with e3
      injection e4 with e4
      subst e2 e3 e4
      exact ⟨⟨⟨n0, n1⟩, ⟨n2, n3⟩, gl, al, wl⟩, _, _, _, rfl, hg, ha, hwl⟩
theorem openTorn {r : Reach} {b0 : Nat} {v : Value} {d : DataW H} {p : List MemPlace} (hv : Value.okWide Tryd.prog w r b0 58 v)
    (h : DataW.Trod enc Tryd.prog w base (fun _ => true) held 58 v d p) (hz : ∀ n ∈ d.weights Tryd.prog 58, n ≤ reachBytes) : ∃ (u c : NTr) (hs : List Hole) (m : Int) (vu vc vh : Value), v = .agg #[.int .i64 u.wind, .int .i64 u.cur, vu, .int .i64 c.wind, .int .i64 c.cur, vc, vh, .int .i64 m] ∧ IntsAt w vu u.grips ∧ IntsAt w vc c.grips ∧ HolesAt w vh hs := by
  obtain ⟨cs, rfl, hsz⟩ := okWide_struct Tryd.underlying58 hv
  rw [show Tryd.prog.cellsOf 58 = 8 from by kernel_rfl] at hsz
  obtain ⟨cl⟩ := cs
  match cl, hsz with
  | [c0, c1, c2, c3, c4, c5, c6, c7], _ =>
    obtain ⟨fuel, hf⟩ := h
    obtain ⟨xs, n, _, hx, hl, hlen, hff⟩ := DataW.trod_struct Tryd.underlying58 hf
    match xs, hlen with
    | [y0, y1, y2, y3], _ =>
      have f0 := hff 0 _ rfl
      have f1 := hff 1 _ rfl
      have f2 := hff 2 _ rfl
      have f3 := hff 3 _ rfl
      simp only [Value.cells, List.getElem?_cons_zero, List.getElem?_cons_succ] at f0 f1 f2 f3
      have hd : d = .agg [y0.1, y1.1, y2.1, y3.1] := by have := congrArg Prod.fst hx; simpa using this
      have hw : ∀ (j : Nat) (ty : TypeId) (y : DataW H), ([35, 35, 56, 3] : List TypeId)[j]? = some ty → ([y0.1, y1.1, y2.1, y3.1] : List (DataW H))[j]? = some y → ∀ n ∈ y.weights Tryd.prog ty, n ≤ reachBytes := by
        intro j ty y hj hy n hn
        refine hz n ?_
        rw [hd]
        simp only [DataW.weights, Tryd.underlying58]
        exact DataW.weights_mem_each hj hy n hn
      obtain ⟨zs0, mm0, _, hxz0, _, hlz0, hfz0⟩ := DataW.trod_struct Tryd.underlying35 f0
      match zs0, hlz0 with
      | [u00, u01, u02], _ =>
      have e00 := hfz0 0 _ rfl
      have e01 := hfz0 1 _ rfl
      have e02 := hfz0 2 _ rfl
      simp only [List.getElem?_cons_zero, List.getElem?_cons_succ] at e00 e01 e02
      obtain ⟨n0, g0, _, _⟩ := DataW.trod_int Tryd.underlying3 e00
      injection g0 with g0
      subst g0
      obtain ⟨n1, g1, _, _⟩ := DataW.trod_int Tryd.underlying3 e01
      injection g1 with g1
      subst g1
      have hwz0 : ∀ n ∈ u02.1.weights Tryd.prog 33, n ≤ reachBytes := fun n hn => hw 0 _ _ rfl rfl n (by
        have hd2 : y0.1 = .agg [u00.1, u01.1, u02.1] := by have := congrArg Prod.fst hxz0; simpa using this
        rw [hd2]
        simp only [DataW.weights, Tryd.underlying35]
        exact DataW.weights_mem_each (j := 2) (t := 33) rfl rfl n hn)
      obtain ⟨tv0, tl0, et0, hti0⟩ := openInts e02 hwz0
      injection et0 with et0
      subst et0
      obtain ⟨zs1, mm1, _, hxz1, _, hlz1, hfz1⟩ := DataW.trod_struct Tryd.underlying35 f1
      match zs1, hlz1 with
      | [u10, u11, u12], _ =>
      have e10 := hfz1 0 _ rfl
      have e11 := hfz1 1 _ rfl
      have e12 := hfz1 2 _ rfl
      simp only [List.getElem?_cons_zero, List.getElem?_cons_succ] at e10 e11 e12
      obtain ⟨n2, g2, _, _⟩ := DataW.trod_int Tryd.underlying3 e10
      injection g2 with g2
      subst g2
      obtain ⟨n3, g3, _, _⟩ := DataW.trod_int Tryd.underlying3 e11
      injection g3 with g3
      subst g3
      have hwz1 : ∀ n ∈ u12.1.weights Tryd.prog 33, n ≤ reachBytes := fun n hn => hw 1 _ _ rfl rfl n (by
        have hd2 : y1.1 = .agg [u10.1, u11.1, u12.1] := by have := congrArg Prod.fst hxz1; simpa using this
        rw [hd2]
        simp only [DataW.weights, Tryd.underlying35]
        exact DataW.weights_mem_each (j := 2) (t := 33) rfl rfl n hn)
      obtain ⟨tv1, tl1, et1, hti1⟩ := openInts e12 hwz1
      injection et1 with et1
      subst et1
      obtain ⟨ov, ol, e2, oh⟩ := openHoles f2 (hw 2 _ _ rfl rfl)
      injection e2 with e2
      subst e2
      obtain ⟨n4, g4, _, _⟩ := DataW.trod_int Tryd.underlying3 f3
      injection g4 with g4
      subst g4
      exact ⟨⟨n0, n1, tl0⟩, ⟨n2, n3, tl1⟩, ol, n4, _, _, _, rfl, hti0, hti1, oh⟩
end
/-! what is laid: the library's tables -/
def laidBru : List (String × DataW Unit) := [("math/bits.deBruijn32tab", Rows.laid_math_bits_deBruijn32tab), ("math/bits.deBruijn64tab", Rows.laid_math_bits_deBruijn64tab)]
theorem gBru : Tryd.prog.globalNamed "math/bits.deBruijn64tab" = some 1 := by kernel_rfl
theorem bru_of_laid {W : World} (h : laidMetH Tryd.prog laidBru W) : BruAt W := by
  rw [MakeChecks.laidMetH_plain _ _ _ (by kernel_rfl)] at h
  obtain ⟨g, t, cs, fuel, p, hg, hty, hvar, hd⟩ := Lib.laidMet.reads h (.tail _ (.head _))
  obtain rfl := Option.some.inj (gBru.symm.trans hg)
  obtain rfl := Option.some.inj ((show (Tryd.prog.globals[1]?).map (·.type) = some 173 by kernel_rfl).symm.trans hty)
  have hd' : DataW.trod (fun _ => ()) Tryd.prog W 0 (fun _ => true) false fuel 173 cs.toList = some (Lib.tabData .u8 (Lib.deBruijn64tab.map fun (x : Nat) => (x : Int)), p) := hd
  have hcs := Lib.cells_of_tab Tryd.underlying173 Tryd.underlying5 (by kernel_rfl) (by kernel_rfl) hd'
  intro j hj
  have := World.var?_cell hg hvar j
  rw [this, ← Array.getElem?_toList, hcs]
  simp only [List.map_map, List.getElem?_map, List.getD_eq_getElem?_getD]
  rw [List.getElem?_eq_getElem hj]
  rfl
theorem door_met (os : Os) (args : Array Value) : laidMetH Tryd.prog laidBru ((World.doorLaid Tryd.prog 4000 os).forCall (fun _ _ => 0) ⟨#[], args, []⟩).memory :=
  laidMetH_of_parts3 (fuel := 10) (laidMet_of_run' 10 (by kernel_rfl) (by kernel_rfl)) (by kernel_rfl) (by kernel_rfl)
end Go.Proofs.YtkdcdhkhadhcfaaDoor
