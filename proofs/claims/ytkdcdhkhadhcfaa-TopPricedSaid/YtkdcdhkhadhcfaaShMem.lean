/-
  shares: customs in memory; within, Check of the reference and of the program, IsNode, Far.
-/
import Derived.Test.YtkdcdhkhadhcfaaShV
import Derived.Test.YtkdcdhkhadhcfaaCheck
import Derived.Test.YtkdcdhkhadhcfaaBox
import Derived.Deep.DeepCutAuto
namespace Go.Proofs.Ytkdcdhkhadhcfaa
open Go Go.RowKit
set_option maxHeartbeats 4000000
set_option maxRecDepth 100000
def ndCells (p : SNd) : List Value := [.int .i64 p.up, .int .i64 p.wt, .int .i64 p.fx]
def NdsAt (w : World) (v : Value) (l : List SNd) : Prop :=
  ∃ a c b off, v = .slice a l.length c ∧ (0 < l.length → a = some ⟨b, off, none⟩) ∧ (l.length ≤ 140737488355328 ∧ l.length ≤ c) ∧
    ∀ i, i < l.length → w.cell? ⟨b, off + i * 3, none⟩ = some (.int .i64 (atS l i).up) ∧ w.cell? ⟨b, off + i * 3 + 1, none⟩ = some (.int .i64 (atS l i).wt) ∧ w.cell? ⟨b, off + i * 3 + 2, none⟩ = some (.int .i64 (atS l i).fx)
theorem NdsAt.bel {w w' : World} {v : Value} {l : List SNd} (h : NdsAt w v l) (k : Bel w w') : NdsAt w' v l := by
  obtain ⟨a, c, b, off, h1, h2, h3, h4⟩ := h
  exact ⟨a, c, b, off, h1, h2, h3, fun i hi => by obtain ⟨q0, q1, q2⟩ := h4 i hi; exact ⟨k.cell q0, k.cell q1, k.cell q2⟩⟩
/-- A custom, as a value. -/
def CusAt (w : World) (v : Value) (l : List SNd) : Prop := ∃ s, v = .agg #[s] ∧ NdsAt w s l
theorem CusAt.bel {w w' : World} {v : Value} {l : List SNd} (h : CusAt w v l) (k : Bel w w') : CusAt w' v l := by
  obtain ⟨s, h1, h2⟩ := h
  exact ⟨s, h1, h2.bel k⟩
theorem infoNd : ∃ i, Try.prog.info? 77 = some i := Option.isSome_iff_exists.1 (by kernel_rfl)
theorem cellsNd : Try.prog.cellsOf 77 = 3 := by kernel_rfl
theorem idxNd {a : Option Addr} {n c b off : Nat} (ha : 0 < n → a = some ⟨b, off, none⟩) :
    ∀ (w : World) (i : Nat), i < n → (Instr.indexAt 23 (.slice a n c) (.int .i64 i)).run Try.prog w = .ok (.pointer (some ⟨b, off + i * 3, none⟩)) w := by
  obtain ⟨i0, hi0⟩ := infoNd
  exact idxRule (P := Try.prog) 23 77 3 Try.underlying23 hi0 cellsNd (c := c) ha
theorem R10within_any (n l h : Int) (w : World) : Calls Try.prog 35 #[.int .i64 n, .int .i64 l, .int .i64 h] w fun e w' => e = .returned (.bool (withinB n l h)) ∧ w = w' := by
  go_enter Try.func35, Try.ntmps35
  go_wp2_with (first | (go_at_call 20; refine (Within_any _ _ _ _).mono ?_; rintro e w' ⟨rfl, rfl⟩))
  go_ret
  exact ⟨rfl, rfl⟩
theorem Swithin_any (n l h : Int) (w : World) : Calls Try.prog 88 #[.int .i64 n, .int .i64 l, .int .i64 h] w fun e w' => e = .returned (.bool (withinB n l h)) ∧ w = w' := by
  have HX := Lib.hid (show withinB n l h = (decide (l ≤ n) && decide (n ≤ h)) from rfl)
  cases h1 : decide (l ≤ n) <;> cases h2 : decide (n ≤ h)
  all_goals
    rw [h1, h2] at HX
    go_enter Try.func88, Try.ntmps88
    go_wp2
    go_ret
    exact ⟨rb (by rw [HX.out]; rfl), rfl⟩
theorem Far10_any (l : List SNd) (v : Value) (w : World) (hv : CusAt w v l) : Calls Try.prog 8 #[v] w fun e w' => e = .returned (.bool (decide (40 < (l.length : Int)))) ∧ Bel w w' := by
  obtain ⟨s, rfl, a, c, b, off, rfl, ha, ⟨hl, _⟩, hc⟩ := hv
  clear ha hc
  go_enter Try.func8, Try.ntmps8
  go_wp2
  go_ret
  exact ⟨rfl, (by repeat (first | assumption | exact Bel.refl _ | refine Bel.drew ?_ | refine Bel.drewN ?_ _ | refine Bel.alloc ?_ _ | refine Bel.setCell ?_ (by simp <;> omega) _ | refine Bel.trans ?_ (by assumption)))⟩
theorem R10IsNode_any (l : List SNd) (n : Int) (v : Value) (w : World) (hv : CusAt w v l) : Calls Try.prog 10 #[v, .int .i64 n] w fun e w' => e = .returned (.bool (withinB n 0 ((l.length : Int) - 1))) ∧ Bel w w' := by
  obtain ⟨s, rfl, a, c, b, off, rfl, ha, ⟨hl, _⟩, hc⟩ := hv
  clear ha hc
  go_enter Try.func10, Try.ntmps10
  go_wp2_with (first | (go_at_call 35; refine (R10within_any _ _ _ _).mono ?_; rintro e w' ⟨rfl, rfl⟩))
  go_ret
  exact ⟨rfl, (by repeat (first | assumption | exact Bel.refl _ | refine Bel.drew ?_ | refine Bel.drewN ?_ _ | refine Bel.alloc ?_ _ | refine Bel.setCell ?_ (by simp <;> omega) _ | refine Bel.trans ?_ (by assumption)))⟩

theorem R10Check_any (l : List SNd) (v : Value) (w : World) (hv : CusAt w v l) :
    Calls Try.prog 9 #[v] w fun e w' => ∃ r : Int, e = .returned (.int .i64 r) ∧ (r = 0 → CusOk l) ∧ Bel w w' := by
  obtain ⟨s, rfl, a, c, b, off, rfl, ha, ⟨hl, _⟩, hc⟩ := hv
  have hix := idxNd (c := c) ha
  have HC := Lib.hid hc
  have HOK := Lib.hid (fun (h1 : withinB (l.length : Int) 1 8 = true) (h : allB l.length (fun i => sndB i (atS l i)) = true) => cusB_iff.1 (show cusB l = true by unfold cusB; rw [h1, h]; rfl))
  clear ha hc
  generalize hG : l.length = G at *
  clear hG
  cases h8 : withinB (G : Int) 1 8
  · skip
    go_enter Try.func9, Try.ntmps9
    go_wp2_with (first | (go_at_call 35; refine (R10within_any _ _ _ _).mono ?_; rintro e w' ⟨rfl, rfl⟩) | fail)
    go_ret
    exact ⟨100, rfl, (fun h => absurd h (by decide)), (by repeat (first | assumption | exact Bel.refl _ | refine Bel.drew ?_ | refine Bel.drewN ?_ _ | refine Bel.alloc ?_ _ | refine Bel.setCell ?_ (by simp <;> omega) _ | refine Bel.trans ?_ (by assumption)))⟩
  · skip
    have HO := Lib.hid (HOK.out h8)
    clear HOK
    go_enter Try.func9, Try.ntmps9
    go_wp2_with (first | (go_at_call 35; refine (R10within_any _ _ _ _).mono ?_; rintro e w' ⟨rfl, rfl⟩) | fail)
    generalize hW : World.alloc _ _ = W0
    have HX0 : Hid (Bx W0 w.heap.size [.slice a G c]) := Lib.hid (by rw [← hW]; exact Bx.new rfl)
    have HB0 : Hid (Bel w W0) := Lib.hid (by rw [← hW]; exact (Bel.refl w).alloc _)
    clear hW
    
    go_loopw [3] (fun i wr => ∃ k : Nat, k ≤ G ∧ i = .int .i64 k ∧ Hid (allB k (fun i => sndB i (atS l i)) = true) ∧ Hid (Bx wr w.heap.size [.slice a G c]) ∧ Hid (Bel w wr)) (fun i _ => G - (intOf i).toNat)
    case atStart => exact ⟨0, by omega, rfl, Lib.hid rfl, HX0, HB0⟩
    case round =>
      clear HX0 HB0
      obtain ⟨k, hk, rfl, hno, hx, hbr⟩ := hrel
      have c0 := hx.out.c 0 _ rfl
      have lc0 := cell_lt c0
      by_cases hlt : k < G
      · have hlti : (k : Int) < (G : Int) := by omega
        obtain ⟨q0, q1, q2⟩ := HC.out k hlt
        have k0 := hbr.out.cell q0
        have k1 := hbr.out.cell q1
        have k2 := hbr.out.cell q2
        have lk := cell_lt k0
        have HN := Lib.hid (fun (h : sndB k (atS l k) = true) => allB_succ hno.out (f := fun i => sndB i (atS l i)) h)
        have HX := Lib.hid (show sndB k (atS l k) = ((if k = 0 then decide ((atS l k).up = -1) else withinB (atS l k).up 0 ((k : Int) - 1)) && (withinB (atS l k).wt 0 9 && withinB (atS l k).fx 0 20)) from rfl)
        clear q0 q1 q2 HC HO hno
        generalize atS l k = p at *
        obtain ⟨up, wt, fx⟩ := p
        simp only at k0 k1 k2 HX HN
        go_upto_region 7 with fail
        generalize hW : World.alloc _ _ = W1
        have HP : Hid (Bx W1 wr.heap.size [.int .i64 up, .int .i64 wt, .int .i64 fx]) := Lib.hid (by rw [← hW]; exact Bx.new rfl)
        have HBW : Hid (Bel w W1) := Lib.hid (hbr.out.trans (by rw [← hW]; exact (Bel.refl wr).alloc _))
        have HXW : Hid (Bx W1 w.heap.size [.slice a G c]) := Lib.hid (hx.out.bel (by rw [← hW]; exact (Bel.refl wr).alloc _))
        clear hW k0 k1 k2 lk hbr hx c0 lc0
        have n0 := HP.out.c 0 _ rfl
        have n1 := HP.out.c 1 _ rfl
        have n2 := HP.out.c 2 _ rfl
        have ln := HP.out.lt
        by_cases e0 : k = 0
        · have z0 : ((k : Int) == 0) = true := by simp [e0]
          have z9 : decide ((0 : Int) < (k : Int)) = false := decide_eq_false (by omega)
          rw [if_pos e0] at HX
          clear e0
          have z2 : decide ((0 : Int) < (k : Int)) = false := z9
          have z3 : decide (0 < k) = false := by have := of_decide_eq_false z9; exact decide_eq_false (by omega)
          have HD := Lib.hid (show decide (up = -1) = (up == -1) by rw [Bool.eq_iff_iff]; simp)
          rw [HD.out] at HX
          cases g0 : (up == -1)
          · rw [g0] at HX
            have g0n : (up != -1) = true := by simpa using g0
            go_wp2_with (first | (go_at_call 35; refine (R10within_any _ _ _ _).mono ?_; rintro e w' ⟨rfl, rfl⟩) | fail)
            go_ret
            exact ⟨100, rfl, (fun h => absurd h (by decide)), HBW.out⟩
          · rw [g0] at HX
            have g0n : (up != -1) = false := by simpa using g0
            cases g1 : withinB wt 0 9
            · rw [g1] at HX
              go_wp2_with (first | (go_at_call 35; refine (R10within_any _ _ _ _).mono ?_; rintro e w' ⟨rfl, rfl⟩) | fail)
              go_ret
              exact ⟨100, rfl, (fun h => absurd h (by decide)), HBW.out⟩
            · rw [g1] at HX
              cases g2 : withinB fx 0 20
              · rw [g2] at HX
                go_wp2_with (first | (go_at_call 35; refine (R10within_any _ _ _ _).mono ?_; rintro e w' ⟨rfl, rfl⟩) | fail)
                go_ret
                exact ⟨100, rfl, (fun h => absurd h (by decide)), HBW.out⟩
              · rw [g2] at HX
                have HN2 := Lib.hid (HN.out (by rw [HX.out]; rfl))
                clear HN HX
                skip
                go_wp2_with (first | (go_at_call 35; refine (R10within_any _ _ _ _).mono ?_; rintro e w' ⟨rfl, rfl⟩) | fail)
                go_roundw
                case rel => exact ⟨k + 1, by omega, by go_num, HN2, HXW, HBW⟩
                case measure => simp [intOf]; omega
        · have z0 : ((k : Int) == 0) = false := by simpa using e0
          rw [if_neg e0] at HX
          clear e0
          have z1 : (0 : Int) < (k : Int) := by have : ((k : Int) == 0) = false := z0; simp at this; omega
          have z2 : decide ((0 : Int) < (k : Int)) = true := decide_eq_true z1
          have z4 : 0 < k := by omega
          have z3 : decide (0 < k) = true := decide_eq_true z4
          cases g0 : withinB up 0 ((k : Int) - 1)
          · rw [g0] at HX
            go_wp2_with (first | (go_at_call 35; refine (R10within_any _ _ _ _).mono ?_; rintro e w' ⟨rfl, rfl⟩) | fail)
            go_ret
            exact ⟨100, rfl, (fun h => absurd h (by decide)), HBW.out⟩
          · rw [g0] at HX
            cases g1 : withinB wt 0 9
            · rw [g1] at HX
              go_wp2_with (first | (go_at_call 35; refine (R10within_any _ _ _ _).mono ?_; rintro e w' ⟨rfl, rfl⟩) | fail)
              go_ret
              exact ⟨100, rfl, (fun h => absurd h (by decide)), HBW.out⟩
            · rw [g1] at HX
              cases g2 : withinB fx 0 20
              · rw [g2] at HX
                go_wp2_with (first | (go_at_call 35; refine (R10within_any _ _ _ _).mono ?_; rintro e w' ⟨rfl, rfl⟩) | fail)
                go_ret
                exact ⟨100, rfl, (fun h => absurd h (by decide)), HBW.out⟩
              · rw [g2] at HX
                have HN2 := Lib.hid (HN.out (by rw [HX.out]; rfl))
                clear HN HX
                go_wp2_with (first | (go_at_call 35; refine (R10within_any _ _ _ _).mono ?_; rintro e w' ⟨rfl, rfl⟩) | fail)
                go_roundw
                case rel => exact ⟨k + 1, by omega, by go_num, HN2, HXW, HBW⟩
                case measure => simp [intOf]; omega
      · have hlti : ¬ (k : Int) < (G : Int) := by omega
        obtain rfl : k = G := by omega
        have HO2 := Lib.hid (HO.out hno.out)
        clear HO hno
        go_wp2
        go_ret
        exact ⟨0, rfl, (fun _ => HO2.out), hbr.out⟩
theorem SCheck_any (l : List SNd) (v : Value) (w : World) (ht : CusOk l) (hv : CusAt w v l) :
    Calls Try.prog 84 #[v] w fun e w' => e = .returned (.int .i64 0) ∧ Bel w w' := by
  obtain ⟨s, rfl, a, c, b, off, rfl, ha, ⟨hl, _⟩, hc⟩ := hv
  have hix := idxNd (c := c) ha
  have HC := Lib.hid hc
  have HT := Lib.hid (fun i (hi : i < l.length) => show sndB i (atS l i) = true from allB_iff.1 (Bool.and_eq_true_iff.1 (cusB_iff.2 ht)).2 i hi)
  have h8 := (Bool.and_eq_true_iff.1 (cusB_iff.2 ht)).1
  clear ha hc ht
  generalize hG : l.length = G at *
  clear hG
  · skip
    go_enter Try.func84, Try.ntmps84
    go_wp2_with (first | (go_at_call 88; refine (Swithin_any _ _ _ _).mono ?_; rintro e w' ⟨rfl, rfl⟩) | fail)
    generalize hW : World.alloc _ _ = W0
    have HX0 : Hid (Bx W0 w.heap.size [.slice a G c]) := Lib.hid (by rw [← hW]; exact Bx.new rfl)
    have HB0 : Hid (Bel w W0) := Lib.hid (by rw [← hW]; exact (Bel.refl w).alloc _)
    clear hW
    have c00 := HX0.out.c 0 _ rfl
    have lc00 := cell_lt c00
    go_wp2
    clear c00 lc00
    go_loopw [14] (fun i wr => ∃ k : Nat, k ≤ G ∧ i = .int .i64 k ∧ Hid (Bx wr w.heap.size [.slice a G c]) ∧ Hid (Bel w wr)) (fun i _ => G - (intOf i).toNat)
    case atStart => exact ⟨0, by omega, rfl, HX0, HB0⟩
    case round =>
      clear HX0 HB0
      obtain ⟨k, hk, rfl, hx, hbr⟩ := hrel
      have c0 := hx.out.c 0 _ rfl
      have lc0 := cell_lt c0
      by_cases hlt : k < G
      · have hlti : (k : Int) < (G : Int) := by omega
        obtain ⟨q0, q1, q2⟩ := HC.out k hlt
        have k0 := hbr.out.cell q0
        have k1 := hbr.out.cell q1
        have k2 := hbr.out.cell q2
        have lk := cell_lt k0
        have hsn := HT.out k hlt
        have HX := Lib.hid (show sndB k (atS l k) = ((if k = 0 then decide ((atS l k).up = -1) else withinB (atS l k).up 0 ((k : Int) - 1)) && (withinB (atS l k).wt 0 9 && withinB (atS l k).fx 0 20)) from rfl)
        clear q0 q1 q2 HC HT
        generalize atS l k = p at *
        obtain ⟨up, wt, fx⟩ := p
        simp only at k0 k1 k2 HX hsn
        go_upto_region 6 with fail
        generalize hW : World.alloc _ _ = W1
        have HP : Hid (Bx W1 wr.heap.size [.int .i64 up, .int .i64 wt, .int .i64 fx]) := Lib.hid (by rw [← hW]; exact Bx.new rfl)
        have HBW : Hid (Bel w W1) := Lib.hid (hbr.out.trans (by rw [← hW]; exact (Bel.refl wr).alloc _))
        have HXW : Hid (Bx W1 w.heap.size [.slice a G c]) := Lib.hid (hx.out.bel (by rw [← hW]; exact (Bel.refl wr).alloc _))
        clear hW k0 k1 k2 lk hbr hx c0 lc0
        have n0 := HP.out.c 0 _ rfl
        have n1 := HP.out.c 1 _ rfl
        have n2 := HP.out.c 2 _ rfl
        have ln := HP.out.lt
        by_cases e0 : k = 0
        · have z0 : ((k : Int) == 0) = true := by simp [e0]
          have z9 : decide ((0 : Int) < (k : Int)) = false := decide_eq_false (by omega)
          rw [if_pos e0] at HX
          clear e0
          have z2 : decide ((0 : Int) < (k : Int)) = false := z9
          have z3 : decide (0 < k) = false := by have := of_decide_eq_false z9; exact decide_eq_false (by omega)
          have HD := Lib.hid (show decide (up = -1) = (up == -1) by rw [Bool.eq_iff_iff]; simp)
          rw [HD.out] at HX
          cases g0 : (up == -1)
          · rw [g0] at HX
            have g0n : (up != -1) = true := by simpa using g0
            rw [HX.out] at hsn
            simp at hsn
          · rw [g0] at HX
            have g0n : (up != -1) = false := by simpa using g0
            cases g1 : withinB wt 0 9
            · rw [g1] at HX
              rw [HX.out] at hsn
              simp at hsn
            · rw [g1] at HX
              cases g2 : withinB fx 0 20
              · rw [g2] at HX
                rw [HX.out] at hsn
                simp at hsn
              · rw [g2] at HX
                clear hsn HX
                skip
                go_wp2_with (first | (go_at_call 88; refine (Swithin_any _ _ _ _).mono ?_; rintro e w' ⟨rfl, rfl⟩) | fail)
                go_roundw
                case rel => exact ⟨k + 1, by omega, by go_num, HXW, HBW⟩
                case measure => simp [intOf]; omega
        · have z0 : ((k : Int) == 0) = false := by simpa using e0
          rw [if_neg e0] at HX
          clear e0
          have z1 : (0 : Int) < (k : Int) := by have : ((k : Int) == 0) = false := z0; simp at this; omega
          have z2 : decide ((0 : Int) < (k : Int)) = true := decide_eq_true z1
          have z4 : 0 < k := by omega
          have z3 : decide (0 < k) = true := decide_eq_true z4
          cases g0 : withinB up 0 ((k : Int) - 1)
          · rw [g0] at HX
            rw [HX.out] at hsn
            simp at hsn
          · rw [g0] at HX
            cases g1 : withinB wt 0 9
            · rw [g1] at HX
              rw [HX.out] at hsn
              simp at hsn
            · rw [g1] at HX
              cases g2 : withinB fx 0 20
              · rw [g2] at HX
                rw [HX.out] at hsn
                simp at hsn
              · rw [g2] at HX
                clear hsn HX
                go_wp2_with (first | (go_at_call 88; refine (Swithin_any _ _ _ _).mono ?_; rintro e w' ⟨rfl, rfl⟩) | fail)
                go_roundw
                case rel => exact ⟨k + 1, by omega, by go_num, HXW, HBW⟩
                case measure => simp [intOf]; omega
      · have hlti : ¬ (k : Int) < (G : Int) := by omega
        obtain rfl : k = G := by omega
        go_wp2
        go_ret
        exact ⟨rfl, hbr.out⟩
end Go.Proofs.Ytkdcdhkhadhcfaa
