/-
  an argument that came in reads as a trap, as lists of numbers, as a word, as a place.
-/
import Derived.Test.YtkdcdhkhadhcfaaCopy
import Derived.Test.YtkdcdhkhadhcfaaRows
import Derived.WalkKit
import Derived.ProofKit
import Derived.OpenShut
import Derived.ChangeOld
import Derived.Below
import Derived.SizedLaws
import Derived.Deep.Matrix
import Derived.Lib.SmallJoins
namespace Go.Proofs.Ytkdcdhkhadhcfaa
open Go Go.RowKit Go.ChangeShapes Go.WideShapes Go.ChangeAt Go.Deep Go.Joins
set_option maxRecDepth 100000
theorem mem_weightsAll {H : Type} {P : Program} {e : TypeId} : ∀ {xs : List (DataW H)} {d : DataW H} {n : Nat}, d ∈ xs → n ∈ d.weights P e → n ∈ DataW.weightsAll P e xs
  | x :: xs, d, n, hd, hn => by
    simp only [DataW.weightsAll, List.mem_append]
    rcases List.mem_cons.1 hd with rfl | h
    · exact .inl hn
    · exact .inr (mem_weightsAll h hn)
  | [], d, n, hd, hn => by cases hd
section
variable {H : Type} {enc : TypeId × Value → H} {w : World} {base : Nat} {held : Bool}
theorem bytesInt : Try.prog.bytesOf 3 = 8 := by kernel_rfl
theorem bytesInts : Try.prog.bytesOf 26 = 24 := by kernel_rfl
theorem bytesWord : Try.prog.bytesOf 53 = 32 := by kernel_rfl
theorem cellsInt1 : Try.prog.cellsOf 3 = 1 := by kernel_rfl
theorem cellsInts1 : Try.prog.cellsOf 26 = 1 := by kernel_rfl
theorem cellsWord4 : Try.prog.cellsOf 53 = 4 := by kernel_rfl
theorem cellsTrap4 : Try.prog.cellsOf 47 = 4 := by kernel_rfl
theorem openRows {fuel : Nat} {cs : List Value} {x : DataW H × List MemPlace} (h : DataW.trod enc Try.prog w base (fun _ => true) held fuel 44 cs = some x) (hz : ∀ n ∈ x.1.weights Try.prog 44, n ≤ reachBytes) :
    ∃ v l, cs = [v] ∧ RowsAt w v l ∧ l.length * 24 ≤ reachBytes ∧ ∀ i, i < l.length → (atL l i).length * 8 ≤ reachBytes := by
  rcases open_int_rows Try.underlying44 Try.underlying26 Try.underlying3 cellsInts1 cellsInt1 h with ⟨rfl, rfl⟩ | ⟨a, len, cap, Ad, L, C, Z, rfl, hb, hl, hm, rfl, hx⟩
  · exact ⟨_, [], rfl, ⟨none, 0, 0, 0, fun _ => undef, rfl, fun q => absurd q (by simp), by simp, fun i hi => absurd hi (by simp)⟩, by simp, fun i hi => absurd hi (by simp)⟩
  · have hlen : len * 24 ≤ reachBytes := by
      have := hz ((len + (cap - len)) * 24) (by simp [DataW.weights, Try.underlying44, bytesInts])
      have : len * 24 ≤ (len + (cap - len)) * 24 := Nat.mul_le_mul_right _ (by omega)
      omega
    have hrl : ∀ r, r < len → L r * 8 ≤ reachBytes := by
      intro r hr
      obtain ⟨_, k1, k2, k3, _, k5, _⟩ := hx r (by omega)
      cases hA : Ad r with
      | none => have := k5 hA; rw [show L r = 0 by omega, Nat.zero_mul]; exact Nat.zero_le _
      | some a' =>
        have := hz ((L r + (C r - L r)) * 8) (by
          simp only [DataW.weights, Try.underlying44]
          refine List.mem_cons_of_mem _ (List.mem_append_left _ (mem_weightsAll (d := intRow .i64 (Ad r) (L r) (Z r)) (List.mem_map.2 ⟨r, List.mem_range.2 hr, rfl⟩) ?_))
          simp only [intRow, hA, DataW.weights, Try.underlying26, bytesInt, lits, List.length_map, List.length_take, List.length_drop, k3, Nat.min_eq_left k1]
          exact List.mem_cons_self ..)
        have : L r * 8 ≤ (L r + (C r - L r)) * 8 := Nat.mul_le_mul_right _ (by omega)
        omega
    have hR : reachBytes ≤ 140737488355328 := by decide
    have hrow : ∀ r, r < len → IntsAt w (.slice (Ad r) (L r) (C r)) ((Z r).take (L r)) := by
      intro r hr
      obtain ⟨_, k1, k2, k3, _, k5, k6⟩ := hx r (by omega)
      have hln : ((Z r).take (L r)).length = L r := by rw [List.length_take, k3]; omega
      have hb8 := hrl r hr
      by_cases h0 : L r = 0
      · exact ⟨Ad r, C r, 0, 0, by rw [hln], fun q => by omega, by omega, fun i hi => by omega⟩
      · cases hA : Ad r with
        | none => have := k5 hA; omega
        | some a' =>
          obtain ⟨_, hc⟩ := k6 a' hA
          obtain ⟨b', off', rfl, hcc⟩ := ints_at (k := .i64) (zs := Z r) (a := a') (fun i hi => hc i (by omega)) (by omega)
          refine ⟨some ⟨b', off', none⟩, C r, b', off', by rw [hln], fun _ => rfl, by omega, fun i hi => ?_⟩
          rw [hln] at hi
          rw [hcc i (by omega)]
          unfold at0
          simp [List.getD, hi]
    have hln : ((List.range len).map (fun r => (Z r).take (L r))).length = len := by simp
    have hat : ∀ i, i < len → atL ((List.range len).map (fun r => (Z r).take (L r))) i = (Z i).take (L i) := fun i hi => by unfold atL; simp [List.getD, hi]
    refine ⟨_, (List.range len).map (fun r => (Z r).take (L r)), rfl, ?_, by rw [hln]; exact hlen, fun i hi => ?_⟩
    rotate_left
    · rw [hln] at hi
      obtain ⟨_, k1, _, k3, _⟩ := hx i (by omega)
      have := hrl i hi
      rw [hat i hi, List.length_take, k3, Nat.min_eq_left k1]; exact this
    by_cases h0 : len = 0
    · exact ⟨some a, cap, 0, 0, fun _ => undef, by rw [hln], fun q => by omega, by omega, fun i hi => by omega⟩
    · obtain ⟨b, off, spot⟩ := a
      have hspot : spot = none := by simpa [Addr.add] using World.cell?_spot (hx 0 (by omega)).1
      subst hspot
      refine ⟨some ⟨b, off, none⟩, cap, b, off, fun r => .slice (Ad r) (L r) (C r), by rw [hln], fun _ => rfl, by omega, fun i hi => ?_⟩
      rw [hln] at hi
      refine ⟨by rw [← Go.WideShapes.add_plain]; exact (hx i (by omega)).1, ?_⟩
      have e : atL ((List.range len).map (fun r => (Z r).take (L r))) i = (Z i).take (L i) := by unfold atL; simp [List.getD, hi]
      rw [e]
      exact hrow i hi
theorem openWords {fuel : Nat} {cs : List Value} {x : DataW H × List MemPlace} (h : DataW.trod enc Try.prog w base (fun _ => true) held fuel 45 cs = some x) (hz : ∀ n ∈ x.1.weights Try.prog 45, n ≤ reachBytes) :
    ∃ v l, cs = [v] ∧ WordsAt w v l ∧ l.length * 32 ≤ reachBytes := by
  rcases open_slice Try.underlying45 h with ⟨rfl, rfl⟩ | ⟨a, len, cap, m, n, D, Pl, rfl, hb, hl, hm, hmm, rfl, hx⟩
  · exact ⟨_, [], rfl, ⟨none, 0, 0, 0, rfl, fun q => absurd q (by simp), by simp, fun i hi => absurd hi (by simp)⟩, by simp⟩
  · simp only [if_true] at hmm
    subst hmm
    have hlen : len * 32 ≤ reachBytes := by
      have := hz ((len + (m - len)) * 32) (by simp [DataW.weights, Try.underlying45, bytesWord])
      have : len * 32 ≤ (len + (m - len)) * 32 := Nat.mul_le_mul_right _ (by omega)
      omega
    have hR : reachBytes ≤ 140737488355328 := by decide
    have each : ∀ i, i < m → ∃ q : CW, w.cell? (a.add (i * 4)) = some (.int .i64 q.time) ∧ w.cell? (a.add (i * 4 + 1)) = some (.int .i64 q.chamber) ∧ w.cell? (a.add (i * 4 + 2)) = some (.int .i64 q.low) ∧ w.cell? (a.add (i * 4 + 3)) = some (.int .i64 q.high) := by
      intro i hi
      obtain ⟨cs', h1, h2⟩ := hx i hi
      rw [cellsWord4] at h1
      obtain ⟨_, hlen4, hcell⟩ := World.cells?_some h1
      obtain ⟨y0, y1, y2, y3, k, _, _, f0, f1, f2, f3⟩ := trod_struct4 Try.underlying53 h2
      match cs', hlen4 with
      | [c0, c1, c2, c3], _ =>
        simp only [cellsInt1, List.drop_zero, List.take_succ_cons, List.take_zero, List.drop_succ_cons] at f0 f1 f2 f3
        obtain ⟨n0, g0, _, _⟩ := DataW.trod_int Try.underlying3 f0
        obtain ⟨n1, g1, _, _⟩ := DataW.trod_int Try.underlying3 f1
        obtain ⟨n2, g2, _, _⟩ := DataW.trod_int Try.underlying3 f2
        obtain ⟨n3, g3, _, _⟩ := DataW.trod_int Try.underlying3 f3
        injection g0 with g0
        injection g1 with g1
        injection g2 with g2
        injection g3 with g3
        subst g0 g1 g2 g3
        have e0 := hcell 0 (by omega)
        have e1 := hcell 1 (by omega)
        have e2 := hcell 2 (by omega)
        have e3 := hcell 3 (by omega)
        rw [Go.Deep.add_add] at e0 e1 e2 e3
        exact ⟨⟨n0, n1, n2, n3⟩, by simpa using e0, by simpa using e1, by simpa using e2, by simpa using e3⟩
    obtain ⟨q, hq⟩ := choose_lt each
    have hln : ((List.range len).map q).length = len := by simp
    refine ⟨_, (List.range len).map q, rfl, ?_, by rw [hln]; exact hlen⟩
    by_cases h0 : len = 0
    · exact ⟨some a, m, 0, 0, by rw [hln], fun r => by omega, by omega, fun i hi => by omega⟩
    · obtain ⟨b, off, spot⟩ := a
      have hspot : spot = none := by simpa [Addr.add] using World.cell?_spot (hq 0 (by omega)).1
      subst hspot
      refine ⟨some ⟨b, off, none⟩, m, b, off, by rw [hln], fun _ => rfl, by omega, fun i hi => ?_⟩
      rw [hln] at hi
      have e : atW ((List.range len).map q) i = q i := by unfold atW; simp [List.getD, hi]
      rw [e]
      obtain ⟨k0, k1, k2, k3⟩ := hq i (by omega)
      rw [Go.WideShapes.add_plain] at k0 k1 k2 k3
      exact ⟨k0, by rw [Nat.add_assoc]; exact k1, by rw [Nat.add_assoc]; exact k2, by rw [Nat.add_assoc]; exact k3⟩
theorem openTrap {r : Reach} {b0 : Nat} {v : Value} {d : DataW H} {p : List MemPlace} (hv : Value.okWide Try.prog w r b0 47 v)
    (h : DataW.Trod enc Try.prog w base (fun _ => true) held 47 v d p) (hz : ∀ n ∈ d.weights Try.prog 47, n ≤ reachBytes) : ∃ t, TrapAt w v t ∧ Room t := by
  obtain ⟨v0, v1, v2, v3, y0, y1, y2, y3, n, rfl, rfl, _, f0, f1, f2, f3⟩ := open_agg4 Try.underlying47 (by kernel_rfl) cellsTrap4 hv h
  have hw : ∀ (j : Nat) (ty : TypeId) (y : DataW H), ([3, 3, 44, 45] : List TypeId)[j]? = some ty → ([y0.1, y1.1, y2.1, y3.1] : List (DataW H))[j]? = some y → ∀ n ∈ y.weights Try.prog ty, n ≤ reachBytes := by
    intro j ty y hj hy n hn
    refine hz n ?_
    simp only [DataW.weights, Try.underlying47]
    exact DataW.weights_mem_each hj hy n hn
  obtain ⟨n0, g0, _, _⟩ := DataW.trod_int Try.underlying3 f0
  obtain ⟨n1, g1, _, _⟩ := DataW.trod_int Try.underlying3 f1
  injection g0 with g0
  injection g1 with g1
  subst g0 g1
  obtain ⟨ov, op, e2, hrows, hr1, hr2⟩ := openRows f2 (hw 2 _ _ rfl rfl)
  obtain ⟨wv, ws, e3, hwords, hr3⟩ := openWords f3 (hw 3 _ _ rfl rfl)
  injection e2 with e2
  injection e3 with e3
  subst e2 e3
  exact ⟨⟨n0, n1, op, ws⟩, ⟨_, _, rfl, hrows, hwords⟩, ⟨hr1, hr2, hr3⟩⟩
theorem openNums {r : Reach} {b0 : Nat} {v : Value} {d : DataW H} {p : List MemPlace} (hv : Value.okWide Try.prog w r b0 44 v)
    (h : DataW.Trod enc Try.prog w base (fun _ => true) held 44 v d p) (hz : ∀ n ∈ d.weights Try.prog 44, n ≤ reachBytes) : ∃ l, RowsAt w v l := by
  obtain ⟨a, n, c, rfl⟩ := okWide_slice Try.underlying44 hv
  obtain ⟨fuel, hf⟩ := h
  obtain ⟨v', l, e, hr, _⟩ := openRows hf hz
  have : v' = .slice a n c := by simpa [Value.cells] using e.symm
  rw [this] at hr
  exact ⟨l, hr⟩
theorem openWord {r : Reach} {b0 : Nat} {v : Value} {d : DataW H} {p : List MemPlace} (hv : Value.okWide Try.prog w r b0 53 v)
    (h : DataW.Trod enc Try.prog w base (fun _ => true) held 53 v d p) : ∃ x : CW, v = x.val := by
  obtain ⟨v0, v1, v2, v3, y0, y1, y2, y3, n, rfl, rfl, _, f0, f1, f2, f3⟩ := open_agg4 Try.underlying53 (by kernel_rfl) cellsWord4 hv h
  obtain ⟨n0, g0, _, _⟩ := DataW.trod_int Try.underlying3 f0
  obtain ⟨n1, g1, _, _⟩ := DataW.trod_int Try.underlying3 f1
  obtain ⟨n2, g2, _, _⟩ := DataW.trod_int Try.underlying3 f2
  obtain ⟨n3, g3, _, _⟩ := DataW.trod_int Try.underlying3 f3
  injection g0 with g0
  injection g1 with g1
  injection g2 with g2
  injection g3 with g3
  subst g0 g1 g2 g3
  exact ⟨⟨n0, n1, n2, n3⟩, rfl⟩
end
end Go.Proofs.Ytkdcdhkhadhcfaa
