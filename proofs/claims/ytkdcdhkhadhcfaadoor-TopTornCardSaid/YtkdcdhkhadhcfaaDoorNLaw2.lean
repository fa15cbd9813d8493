/-
  anchors: the reference's IsTruth, Copy, CopyTruth; the law's Huge.
-/
import Derived.Test.YtkdcdhkhadhcfaaDoorNLaw1
import Derived.Test.YtkdcdhkhadhcfaaDoorBox
import Derived.Deep.DeepCutAuto
namespace Go.Proofs.YtkdcdhkhadhcfaaDoor
open Go Go.RowKit
set_option maxHeartbeats 4000000
set_option maxRecDepth 100000
theorem NetAt.openL {w : World} {v : Value} {n : Net} (h : NetAt w v n) : ∃ ga gc aa ac xa xc, v = .agg #[.int .i64 n.wind.lo, .int .i64 n.wind.hi, .int .i64 n.cur.lo, .int .i64 n.cur.hi, .slice ga n.grips.length gc, .slice aa n.an.length ac, .slice xa n.walls.length xc] ∧
    n.grips.length ≤ 140737488355328 ∧ n.an.length ≤ 140737488355328 ∧ n.walls.length ≤ 140737488355328 := by
  obtain ⟨ga, gc, aa, ac, xa, xc, rfl, hg, ha, hx⟩ := h.open
  exact ⟨ga, gc, aa, ac, xa, xc, rfl, by obtain ⟨_, _, _, _, _, _, h, _⟩ := hg; exact h.1, by obtain ⟨_, _, _, _, _, _, h, _⟩ := ha; exact h.1, by obtain ⟨_, _, _, _, _, _, h, _⟩ := hx; exact h.1⟩
def hugeN (n : Net) (t : NTr) : Bool := decide (40 < n.grips.length) || (decide (40 < n.an.length) || (decide (40 < n.walls.length) || decide (40 < t.grips.length)))
theorem nHuge_any (n : Net) (t : NTr) (v vt : Value) (w : World) (hv : NetAt w v n) (ht : NTrAt w vt t) : Calls Tryd.prog 7 #[v, vt] w fun e w' => e = .returned (.bool (hugeN n t)) ∧ Bel w w' := by
  have HX := Lib.hid (show hugeN n t = (decide (40 < n.grips.length) || (decide (40 < n.an.length) || (decide (40 < n.walls.length) || decide (40 < t.grips.length)))) from rfl)
  obtain ⟨ga, gc, aa, ac, xa, xc, rfl, lg, la, lx⟩ := hv.openL
  obtain ⟨ta, tc, rfl, htg⟩ := ht.open
  clear hv ht htg
  generalize n.grips.length = G at *
  generalize n.an.length = A at *
  generalize n.walls.length = X at *
  generalize t.grips.length = T at *
  cases h0 : decide (40 < G)
  · have e0 : ¬ 40 < G := by simpa using h0
    have f0 : ¬ (40 : Int) < (G : Int) := by omega
    have g0 : decide ((40 : Int) < (G : Int)) = false := by simp; omega
    cases h1 : decide (40 < A)
    · have e1 : ¬ 40 < A := by simpa using h1
      have f1 : ¬ (40 : Int) < (A : Int) := by omega
      have g1 : decide ((40 : Int) < (A : Int)) = false := by simp; omega
      cases h2 : decide (40 < X)
      · have e2 : ¬ 40 < X := by simpa using h2
        have f2 : ¬ (40 : Int) < (X : Int) := by omega
        have g2 : decide ((40 : Int) < (X : Int)) = false := by simp; omega
        cases h3 : decide (40 < T)
        · have e3 : ¬ 40 < T := by simpa using h3
          have f3 : ¬ (40 : Int) < (T : Int) := by omega
          have g3 : decide ((40 : Int) < (T : Int)) = false := by simp; omega
          rw [h0, h1, h2, h3] at HX
          go_enter Tryd.func7, Tryd.ntmps7
          go_wp2
          go_ret
          exact ⟨rb (by rw [HX.out]; rfl), (by repeat (first | assumption | exact Bel.refl _ | refine Bel.drew ?_ | refine Bel.drewN ?_ _ | refine Bel.alloc ?_ _ | refine Bel.setCell ?_ (by simp <;> omega) _ | refine Bel.trans ?_ (by assumption)))⟩
        · have e3 :  40 < T := by simpa using h3
          have f3 :  (40 : Int) < (T : Int) := by omega
          have g3 : decide ((40 : Int) < (T : Int)) = true := by simp; omega
          rw [h0, h1, h2, h3] at HX
          go_enter Tryd.func7, Tryd.ntmps7
          go_wp2
          go_ret
          exact ⟨rb (by rw [HX.out]; rfl), (by repeat (first | assumption | exact Bel.refl _ | refine Bel.drew ?_ | refine Bel.drewN ?_ _ | refine Bel.alloc ?_ _ | refine Bel.setCell ?_ (by simp <;> omega) _ | refine Bel.trans ?_ (by assumption)))⟩
      · have e2 :  40 < X := by simpa using h2
        have f2 :  (40 : Int) < (X : Int) := by omega
        have g2 : decide ((40 : Int) < (X : Int)) = true := by simp; omega
        rw [h0, h1, h2] at HX
        go_enter Tryd.func7, Tryd.ntmps7
        go_wp2
        go_ret
        exact ⟨rb (by rw [HX.out]; rfl), (by repeat (first | assumption | exact Bel.refl _ | refine Bel.drew ?_ | refine Bel.drewN ?_ _ | refine Bel.alloc ?_ _ | refine Bel.setCell ?_ (by simp <;> omega) _ | refine Bel.trans ?_ (by assumption)))⟩
    · have e1 :  40 < A := by simpa using h1
      have f1 :  (40 : Int) < (A : Int) := by omega
      have g1 : decide ((40 : Int) < (A : Int)) = true := by simp; omega
      rw [h0, h1] at HX
      go_enter Tryd.func7, Tryd.ntmps7
      go_wp2
      go_ret
      exact ⟨rb (by rw [HX.out]; rfl), (by repeat (first | assumption | exact Bel.refl _ | refine Bel.drew ?_ | refine Bel.drewN ?_ _ | refine Bel.alloc ?_ _ | refine Bel.setCell ?_ (by simp <;> omega) _ | refine Bel.trans ?_ (by assumption)))⟩
  · have e0 :  40 < G := by simpa using h0
    have f0 :  (40 : Int) < (G : Int) := by omega
    have g0 : decide ((40 : Int) < (G : Int)) = true := by simp; omega
    rw [h0] at HX
    go_enter Tryd.func7, Tryd.ntmps7
    go_wp2
    go_ret
    exact ⟨rb (by rw [HX.out]; rfl), (by repeat (first | assumption | exact Bel.refl _ | refine Bel.drew ?_ | refine Bel.drewN ?_ _ | refine Bel.alloc ?_ _ | refine Bel.setCell ?_ (by simp <;> omega) _ | refine Bel.trans ?_ (by assumption)))⟩
theorem R2IsTruth_any (n : Net) (t : NTr) (v vt : Value) (w : World) (hv : NetAt w v n) (ht : NTrAt w vt t) :
    Calls Tryd.prog 9 #[v, vt] w fun e w' => e = .returned (.bool (ntrB n t)) ∧ Bel w w' := by
  have HX := Lib.hid (show ntrB n t = (withinB t.wind n.wind.lo n.wind.hi && (withinB t.cur n.cur.lo n.cur.hi && (decide (t.grips.length = n.grips.length) && allB t.grips.length fun i => withinB (at0 t.grips i) (atG n.grips i).lo (atG n.grips i).hi))) from rfl)
  obtain ⟨ga, gc, aa, ac, xa, xc, rfl, ⟨ga', gc', gb, go, ge, hga, ⟨hgl, _⟩, hgcell⟩, _, _⟩ := hv.open
  obtain ⟨ta, tc, rfl, ⟨ta', tc', tb, tof, te, hta, ⟨htl, _⟩, htcell⟩⟩ := ht.open
  injection ge with ge1 _ ge3
  injection te with te1 _ te3
  subst ge1 ge3 te1 te3
  have HGC := Lib.hid hgcell
  have HTC := Lib.hid htcell
  have hixg := idxGrips (c := gc) hga
  have hixt := idxInts (c := tc) hta
  clear hgcell htcell hga hta hv ht
  generalize hG : n.grips.length = G at *
  generalize n.an.length = A at *
  generalize n.walls.length = X at *
  generalize hT : t.grips.length = T at *
  cases h0 : withinB t.wind n.wind.lo n.wind.hi
  · rw [h0] at HX
    clear hG hT
    go_enter Tryd.func9, Tryd.ntmps9
    go_wp2_with (first | (go_at_call 27; refine (R2within_any _ _ _ _).mono ?_; rintro e w' ⟨rfl, rfl⟩))
    go_ret
    exact ⟨rb (by rw [HX.out]; rfl), (by repeat (first | assumption | exact Bel.refl _ | refine Bel.drew ?_ | refine Bel.drewN ?_ _ | refine Bel.alloc ?_ _ | refine Bel.setCell ?_ (by simp <;> omega) _ | refine Bel.trans ?_ (by assumption)))⟩
  rw [h0] at HX
  cases h1 : withinB t.cur n.cur.lo n.cur.hi
  · rw [h1] at HX
    clear hG hT
    go_enter Tryd.func9, Tryd.ntmps9
    go_wp2_with (first | (go_at_call 27; refine (R2within_any _ _ _ _).mono ?_; rintro e w' ⟨rfl, rfl⟩))
    go_ret
    exact ⟨rb (by rw [HX.out]; rfl), (by repeat (first | assumption | exact Bel.refl _ | refine Bel.drew ?_ | refine Bel.drewN ?_ _ | refine Bel.alloc ?_ _ | refine Bel.setCell ?_ (by simp <;> omega) _ | refine Bel.trans ?_ (by assumption)))⟩
  rw [h1] at HX
  by_cases hlen : T = G
  rotate_left
  · have hne : ((T : Int) != (G : Int)) = true := by rw [bne_iff_ne]; omega
    rw [decide_eq_false hlen] at HX
    clear hG hT hlen
    go_enter Tryd.func9, Tryd.ntmps9
    go_wp2_with (first | (go_at_call 27; refine (R2within_any _ _ _ _).mono ?_; rintro e w' ⟨rfl, rfl⟩))
    go_ret
    exact ⟨rb (by rw [HX.out]; rfl), (by repeat (first | assumption | exact Bel.refl _ | refine Bel.drew ?_ | refine Bel.drewN ?_ _ | refine Bel.alloc ?_ _ | refine Bel.setCell ?_ (by simp <;> omega) _ | refine Bel.trans ?_ (by assumption)))⟩
  have HTG := Lib.hid hlen
  have hne : ((T : Int) != (G : Int)) = false := by rw [hlen]; simp
  rw [decide_eq_true hlen] at HX
  clear hG hT hlen
  go_enter Tryd.func9, Tryd.ntmps9
  go_wp2_with (first | (go_at_call 27; refine (R2within_any _ _ _ _).mono ?_; rintro e w' ⟨rfl, rfl⟩))
  generalize hW : (w.alloc _).alloc _ = W2
  have HB2 := Lib.hid (show Bel w W2 by rw [← hW]; exact ((Bel.refl w).alloc _).alloc _)
  have HX4 := Lib.hid (show W2.cell? ⟨w.heap.size, 4, none⟩ = some (.slice ga G gc) by rw [← hW]; exact Bel.cell ((Bel.refl _).alloc _) ((row_facts (new_row rfl)).1 4))
  have HY2 := Lib.hid (show W2.cell? ⟨w.heap.size + 1, 2, none⟩ = some (.slice ta T tc) by rw [← hW]; exact (row_facts (new_row (by simp))).1 2)
  clear hW h0 h1 hne
  go_loopw [5] (fun i wr => ∃ k : Nat, k ≤ T ∧ i = .int .i64 k ∧ Hid (allB k (fun i => withinB (at0 t.grips i) (atG n.grips i).lo (atG n.grips i).hi) = true) ∧ Bel W2 wr) (fun i _ => T - (intOf i).toNat)
  case atStart => exact ⟨0, by omega, rfl, rfl, Bel.refl _⟩
  case round =>
    obtain ⟨k, hk, rfl, hno, hw⟩ := hrel
    have HW := Lib.hid hw
    have x4 := hw.cell HX4.out
    have y2 := hw.cell HY2.out
    have lx := cell_lt x4
    have ly := cell_lt y2
    by_cases hlt : k < T
    · have hlti : (k : Int) < (T : Int) := by omega
      have hkg : k < G := by have := HTG.out; omega
      have hkgi : (k : Int) < (G : Int) := by omega
      have hB := HB2.out.trans hw
      have k0 := hB.cell (HGC.out k hkg).1
      have k1 := hB.cell (HGC.out k hkg).2
      have k2 := hB.cell (HTC.out k hlt)
      have lk := cell_lt k0
      have HE := Lib.hid (fun (h : withinB (at0 t.grips k) (atG n.grips k).lo (atG n.grips k).hi = false) => show (allB T fun i => withinB (at0 t.grips i) (atG n.grips i).lo (atG n.grips i).hi) = false from allB_false k hlt h)
      have HR := Lib.hid (fun (h : withinB (at0 t.grips k) (atG n.grips k).lo (atG n.grips k).hi = true) => allB_succ hno.out (f := fun i => withinB (at0 t.grips i) (atG n.grips i).lo (atG n.grips i).hi) h)
      clear hw hB
      cases hwk : withinB (at0 t.grips k) (atG n.grips k).lo (atG n.grips k).hi
      · have HI2 := Lib.hid (HE.out hwk)
        clear HE HR
        generalize atG n.grips k = s at *
        generalize at0 t.grips k = u at *
        go_wp2
        refine wp_region_mixD (Plan.seq [0, 1, 2, 3, 4, 5, 6, 7, 8, 9, 10, 11, 12, 13, 14, 15, 16, 1017, 18] .nil) (by kernel_rfl) (by kernel_rfl) (fun hcur => ?_)
        simp only [Plan.seq, Plan.fill, List.getD_cons_zero, List.getD_cons_succ, Nat.reduceLT, ↓reduceIte, Nat.reduceSub]
        apply mix_pure _ rfl
        · intro w' hw'
          obtain ⟨n, rfl⟩ := hw'
          go_simp
          rfl
        intro K hK
        go_simp
        refine hK _ ?_
        clear hK K
        apply mix_pure _ rfl
        · intro w' hw'
          obtain ⟨n, rfl⟩ := hw'
          go_simp
          rfl
        intro K hK
        go_simp
        refine hK _ ?_
        clear hK K
        apply mix_pure _ rfl
        · intro w' hw'
          obtain ⟨n, rfl⟩ := hw'
          go_simp
          rfl
        intro K hK
        go_simp
        refine hK _ ?_
        clear hK K
        apply mix_pure _ rfl
        · intro w' hw'
          obtain ⟨n, rfl⟩ := hw'
          go_simp
          rfl
        intro K hK
        go_simp
        refine hK _ ?_
        clear hK K
        apply mix_pure _ rfl
        · intro w' hw'
          obtain ⟨n, rfl⟩ := hw'
          go_simp
          rfl
        intro K hK
        go_simp
        refine hK _ ?_
        clear hK K
        apply mix_pure _ rfl
        · intro w' hw'
          obtain ⟨n, rfl⟩ := hw'
          go_simp
          rfl
        intro K hK
        go_simp
        refine hK _ ?_
        clear hK K
        apply mix_pure _ rfl
        · intro w' hw'
          obtain ⟨n, rfl⟩ := hw'
          go_simp
          rfl
        intro K hK
        go_simp
        refine hK _ ?_
        clear hK K
        apply mix_pure _ rfl
        · intro w' hw'
          obtain ⟨n, rfl⟩ := hw'
          go_simp
          rfl
        intro K hK
        go_simp
        refine hK _ ?_
        clear hK K
        apply mix_pure _ rfl
        · intro w' hw'
          obtain ⟨n, rfl⟩ := hw'
          go_simp
          rfl
        intro K hK
        go_simp
        refine hK _ ?_
        clear hK K
        apply mix_pure _ rfl
        · intro w' hw'
          obtain ⟨n, rfl⟩ := hw'
          go_simp
          rfl
        intro K hK
        go_simp
        refine hK _ ?_
        clear hK K
        apply mix_pure _ rfl
        · intro w' hw'
          obtain ⟨n, rfl⟩ := hw'
          go_simp
          rfl
        intro K hK
        go_simp
        refine hK _ ?_
        clear hK K
        apply mix_pure _ rfl
        · intro w' hw'
          obtain ⟨n, rfl⟩ := hw'
          go_simp
          rfl
        intro K hK
        go_simp
        refine hK _ ?_
        clear hK K
        apply mix_pure _ rfl
        · intro w' hw'
          obtain ⟨n, rfl⟩ := hw'
          go_simp
          rfl
        intro K hK
        go_simp
        refine hK _ ?_
        clear hK K
        apply mix_pure _ rfl
        · intro w' hw'
          obtain ⟨n, rfl⟩ := hw'
          go_simp
          rfl
        intro K hK
        go_simp
        refine hK _ ?_
        clear hK K
        apply mix_pure _ rfl
        · intro w' hw'
          obtain ⟨n, rfl⟩ := hw'
          go_simp
          rfl
        intro K hK
        go_simp
        refine hK _ ?_
        clear hK K
        apply mix_pure _ rfl
        · intro w' hw'
          obtain ⟨n, rfl⟩ := hw'
          go_simp
          rfl
        intro K hK
        go_simp
        refine hK _ ?_
        clear hK K
        apply mix_pure _ rfl
        · intro w' hw'
          obtain ⟨n, rfl⟩ := hw'
          go_simp
          rfl
        intro K hK
        go_simp
        refine hK _ ?_
        clear hK K
        refine mix_act rfl (fun K hK => ?_)
        go_simp
        refine (R2within_any _ _ _ _).mono ?_
        rintro e w' ⟨rfl, rfl⟩
        simp only []
        refine hK _ _ hcur (fun hcur => ?_)
        clear hK K
        apply mix_pure _ rfl
        · intro w' hw'
          obtain ⟨n, rfl⟩ := hw'
          go_simp
          rfl
        intro K hK
        go_simp
        refine hK _ ?_
        clear hK K
        refine mix_nil ?_
        go_wp2
        go_ret
        exact ⟨rb (by rw [HX.out, HI2.out]; rfl), Bel.trans (HB2.out.trans HW.out) (by repeat (first | assumption | exact Bel.refl _ | refine Bel.drew ?_ | refine Bel.drewN ?_ _ | refine Bel.alloc ?_ _ | refine Bel.setCell ?_ (by simp <;> omega) _ | refine Bel.trans ?_ (by assumption)))⟩
      · have HR2 := Lib.hid (HR.out hwk)
        clear HE HR
        generalize atG n.grips k = s at *
        generalize at0 t.grips k = u at *
        go_wp2
        refine wp_region_mixD (Plan.seq [0, 1, 2, 3, 4, 5, 6, 7, 8, 9, 10, 11, 12, 13, 14, 15, 16, 1017, 18] .nil) (by kernel_rfl) (by kernel_rfl) (fun hcur => ?_)
        simp only [Plan.seq, Plan.fill, List.getD_cons_zero, List.getD_cons_succ, Nat.reduceLT, ↓reduceIte, Nat.reduceSub]
        apply mix_pure _ rfl
        · intro w' hw'
          obtain ⟨n, rfl⟩ := hw'
          go_simp
          rfl
        intro K hK
        go_simp
        refine hK _ ?_
        clear hK K
        apply mix_pure _ rfl
        · intro w' hw'
          obtain ⟨n, rfl⟩ := hw'
          go_simp
          rfl
        intro K hK
        go_simp
        refine hK _ ?_
        clear hK K
        apply mix_pure _ rfl
        · intro w' hw'
          obtain ⟨n, rfl⟩ := hw'
          go_simp
          rfl
        intro K hK
        go_simp
        refine hK _ ?_
        clear hK K
        apply mix_pure _ rfl
        · intro w' hw'
          obtain ⟨n, rfl⟩ := hw'
          go_simp
          rfl
        intro K hK
        go_simp
        refine hK _ ?_
        clear hK K
        apply mix_pure _ rfl
        · intro w' hw'
          obtain ⟨n, rfl⟩ := hw'
          go_simp
          rfl
        intro K hK
        go_simp
        refine hK _ ?_
        clear hK K
        apply mix_pure _ rfl
        · intro w' hw'
          obtain ⟨n, rfl⟩ := hw'
          go_simp
          rfl
        intro K hK
        go_simp
        refine hK _ ?_
        clear hK K
        apply mix_pure _ rfl
        · intro w' hw'
          obtain ⟨n, rfl⟩ := hw'
          go_simp
          rfl
        intro K hK
        go_simp
        refine hK _ ?_
        clear hK K
        apply mix_pure _ rfl
        · intro w' hw'
          obtain ⟨n, rfl⟩ := hw'
          go_simp
          rfl
        intro K hK
        go_simp
        refine hK _ ?_
        clear hK K
        apply mix_pure _ rfl
        · intro w' hw'
          obtain ⟨n, rfl⟩ := hw'
          go_simp
          rfl
        intro K hK
        go_simp
        refine hK _ ?_
        clear hK K
        apply mix_pure _ rfl
        · intro w' hw'
          obtain ⟨n, rfl⟩ := hw'
          go_simp
          rfl
        intro K hK
        go_simp
        refine hK _ ?_
        clear hK K
        apply mix_pure _ rfl
        · intro w' hw'
          obtain ⟨n, rfl⟩ := hw'
          go_simp
          rfl
        intro K hK
        go_simp
        refine hK _ ?_
        clear hK K
        apply mix_pure _ rfl
        · intro w' hw'
          obtain ⟨n, rfl⟩ := hw'
          go_simp
          rfl
        intro K hK
        go_simp
        refine hK _ ?_
        clear hK K
        apply mix_pure _ rfl
        · intro w' hw'
          obtain ⟨n, rfl⟩ := hw'
          go_simp
          rfl
        intro K hK
        go_simp
        refine hK _ ?_
        clear hK K
        apply mix_pure _ rfl
        · intro w' hw'
          obtain ⟨n, rfl⟩ := hw'
          go_simp
          rfl
        intro K hK
        go_simp
        refine hK _ ?_
        clear hK K
        apply mix_pure _ rfl
        · intro w' hw'
          obtain ⟨n, rfl⟩ := hw'
          go_simp
          rfl
        intro K hK
        go_simp
        refine hK _ ?_
        clear hK K
        apply mix_pure _ rfl
        · intro w' hw'
          obtain ⟨n, rfl⟩ := hw'
          go_simp
          rfl
        intro K hK
        go_simp
        refine hK _ ?_
        clear hK K
        apply mix_pure _ rfl
        · intro w' hw'
          obtain ⟨n, rfl⟩ := hw'
          go_simp
          rfl
        intro K hK
        go_simp
        refine hK _ ?_
        clear hK K
        refine mix_act rfl (fun K hK => ?_)
        go_simp
        refine (R2within_any _ _ _ _).mono ?_
        rintro e w' ⟨rfl, rfl⟩
        simp only []
        refine hK _ _ hcur (fun hcur => ?_)
        clear hK K
        apply mix_pure _ rfl
        · intro w' hw'
          obtain ⟨n, rfl⟩ := hw'
          go_simp
          rfl
        intro K hK
        go_simp
        refine hK _ ?_
        clear hK K
        refine mix_nil ?_
        go_wp2
        go_roundw
        case rel => exact ⟨k + 1, by omega, by go_num, HR2.out, Bel.trans HW.out (by repeat (first | assumption | exact Bel.refl _ | refine Bel.drew ?_ | refine Bel.drewN ?_ _ | refine Bel.alloc ?_ _ | refine Bel.setCell ?_ (by simp <;> omega) _ | refine Bel.trans ?_ (by assumption)))⟩
        case measure => simp [intOf]; omega
    · have HI2 := Lib.hid (show (allB T fun i => withinB (at0 t.grips i) (atG n.grips i).lo (atG n.grips i).hi) = true by rw [show T = k by omega]; exact hno.out)
      have hlti : ¬ (k : Int) < (T : Int) := by omega
      have HF := Lib.hid (HB2.out.trans hw)
      clear hw
      go_wp2
      go_ret
      exact ⟨rb (by rw [HX.out, HI2.out]; rfl), HF.out⟩
end Go.Proofs.YtkdcdhkhadhcfaaDoor
