/-
  cuts: tables in memory; within, isSpan, Check of the reference and of the program; ask.
-/
import Derived.Test.YtkdcdhkhadhcfaaCtW
import Derived.Test.YtkdcdhkhadhcfaaCheck
import Derived.Test.YtkdcdhkhadhcfaaBox
import Derived.Deep.DeepCutAuto
namespace Go.Proofs.Ytkdcdhkhadhcfaa
open Go Go.RowKit
set_option maxHeartbeats 4000000
set_option maxRecDepth 100000
def cpCells (p : CP) : List Value := [.int .i64 p.of, .int .i64 p.wlo, .int .i64 p.whi, .int .i64 p.slo, .int .i64 p.shi, .int .i64 p.pe]
def CtAt (w : World) (v : Value) (t : List CP) : Prop :=
  ∃ a c b off, v = .slice a t.length c ∧ (0 < t.length → a = some ⟨b, off, none⟩) ∧ (t.length ≤ 140737488355328 ∧ t.length ≤ c) ∧
    ∀ i, i < t.length → w.cell? ⟨b, off + i * 6, none⟩ = some (.int .i64 (atC t i).of) ∧ w.cell? ⟨b, off + i * 6 + 1, none⟩ = some (.int .i64 (atC t i).wlo) ∧ w.cell? ⟨b, off + i * 6 + 2, none⟩ = some (.int .i64 (atC t i).whi) ∧
      w.cell? ⟨b, off + i * 6 + 3, none⟩ = some (.int .i64 (atC t i).slo) ∧ w.cell? ⟨b, off + i * 6 + 4, none⟩ = some (.int .i64 (atC t i).shi) ∧ w.cell? ⟨b, off + i * 6 + 5, none⟩ = some (.int .i64 (atC t i).pe)
theorem CtAt.bel {w w' : World} {v : Value} {t : List CP} (h : CtAt w v t) (k : Bel w w') : CtAt w' v t := by
  obtain ⟨a, c, b, off, h1, h2, h3, h4⟩ := h
  exact ⟨a, c, b, off, h1, h2, h3, fun i hi => by obtain ⟨q0, q1, q2, q3, q4, q5⟩ := h4 i hi; exact ⟨k.cell q0, k.cell q1, k.cell q2, k.cell q3, k.cell q4, k.cell q5⟩⟩
theorem infoCP : ∃ i, Try.prog.info? 70 = some i := Option.isSome_iff_exists.1 (by kernel_rfl)
theorem cellsCP : Try.prog.cellsOf 70 = 6 := by kernel_rfl
theorem idxCP {a : Option Addr} {n c b off : Nat} (ha : 0 < n → a = some ⟨b, off, none⟩) :
    ∀ (w : World) (i : Nat), i < n → (Instr.indexAt 22 (.slice a n c) (.int .i64 i)).run Try.prog w = .ok (.pointer (some ⟨b, off + i * 6, none⟩)) w := by
  obtain ⟨i0, hi0⟩ := infoCP
  exact idxRule (P := Try.prog) 22 70 6 Try.underlying22 hi0 cellsCP (c := c) ha
theorem idxTab {a : Option Addr} {n c b off : Nat} (ha : 0 < n → a = some ⟨b, off, none⟩) :
    ∀ (w : World) (i : Nat), i < n → (Instr.indexAt 85 (.slice a n c) (.int .i64 i)).run Try.prog w = .ok (.pointer (some ⟨b, off + i * 6, none⟩)) w := by
  obtain ⟨i0, hi0⟩ := infoCP
  exact idxRule (P := Try.prog) 85 70 6 Try.underlying85 hi0 cellsCP (c := c) ha
theorem R7within_any (n l h : Int) (w : World) : Calls Try.prog 28 #[.int .i64 n, .int .i64 l, .int .i64 h] w fun e w' => e = .returned (.bool (withinB n l h)) ∧ w = w' := by
  go_enter Try.func28, Try.ntmps28
  go_wp2_with (first | (go_at_call 20; refine (Within_any _ _ _ _).mono ?_; rintro e w' ⟨rfl, rfl⟩))
  go_ret
  exact ⟨rfl, rfl⟩
theorem Cwithin_any (n l h : Int) (w : World) : Calls Try.prog 91 #[.int .i64 n, .int .i64 l, .int .i64 h] w fun e w' => e = .returned (.bool (withinB n l h)) ∧ w = w' := by
  have HX := Lib.hid (show withinB n l h = (decide (l ≤ n) && decide (n ≤ h)) from rfl)
  cases h1 : decide (l ≤ n) <;> cases h2 : decide (n ≤ h)
  all_goals
    rw [h1, h2] at HX
    go_enter Try.func91, Try.ntmps91
    go_wp2
    go_ret
    exact ⟨rb (by rw [HX.out]; rfl), rfl⟩
def spanR (a b : Int) : Bool := withinB b 0 30 && withinB a 0 b
theorem spanR_true {a b : Int} : spanR a b = true ↔ 0 ≤ a ∧ a ≤ b ∧ b ≤ 30 := by
  simp only [spanR, withinB, Bool.and_eq_true, decide_eq_true_eq]
  omega
theorem R7isSpan_any (a b : Int) (w : World) : Calls Try.prog 29 #[.agg #[.int .i64 a, .int .i64 b]] w fun e w' => e = .returned (.bool (spanR a b)) ∧ Bel w w' := by
  have HX := Lib.hid (show spanR a b = (withinB b 0 30 && withinB a 0 b) from rfl)
  cases h1 : withinB b 0 30
  · rw [h1] at HX
    go_enter Try.func29, Try.ntmps29
    go_wp2_with (first | (go_at_call 28; refine (R7within_any _ _ _ _).mono ?_; rintro e w' ⟨rfl, rfl⟩))
    go_ret
    exact ⟨rb (by rw [HX.out]; rfl), (by repeat (first | assumption | exact Bel.refl _ | refine Bel.drew ?_ | refine Bel.drewN ?_ _ | refine Bel.alloc ?_ _ | refine Bel.setCell ?_ (by simp <;> omega) _ | refine Bel.trans ?_ (by assumption)))⟩
  · rw [h1] at HX
    go_enter Try.func29, Try.ntmps29
    go_wp2_with (first | (go_at_call 28; refine (R7within_any _ _ _ _).mono ?_; rintro e w' ⟨rfl, rfl⟩))
    go_ret
    exact ⟨rb (by rw [HX.out]; rfl), (by repeat (first | assumption | exact Bel.refl _ | refine Bel.drew ?_ | refine Bel.drewN ?_ _ | refine Bel.alloc ?_ _ | refine Bel.setCell ?_ (by simp <;> omega) _ | refine Bel.trans ?_ (by assumption)))⟩
theorem CisSpan_any (a b : Int) (w : World) : Calls Try.prog 92 #[.agg #[.int .i64 a, .int .i64 b]] w fun e w' => e = .returned (.bool (spanR a b)) ∧ Bel w w' := by
  have HX := Lib.hid (show spanR a b = (withinB a 0 b && decide (b ≤ 30)) by unfold spanR withinB; by_cases h1 : 0 ≤ a <;> by_cases h2 : a ≤ b <;> by_cases h3 : b ≤ 30 <;> by_cases h4 : 0 ≤ b <;> simp [*] <;> omega)
  cases h4 : withinB a 0 b <;> cases h5 : decide (b ≤ 30)
  all_goals
    rw [h4, h5] at HX
    go_enter Try.func92, Try.ntmps92
    go_wp2_with (first | (go_at_call 91; refine (Cwithin_any _ _ _ _).mono ?_; rintro e w' ⟨rfl, rfl⟩))
    go_ret
    exact ⟨rb (by rw [HX.out]; rfl), (by repeat (first | assumption | exact Bel.refl _ | refine Bel.drew ?_ | refine Bel.drewN ?_ _ | refine Bel.alloc ?_ _ | refine Bel.setCell ?_ (by simp <;> omega) _ | refine Bel.trans ?_ (by assumption)))⟩
def cpB (i : Nat) (p : CP) : Bool := withinB p.of (-1) ((i : Int) - 1) && (spanR p.wlo p.whi && (spanR p.slo p.shi && withinB p.pe 0 99))
theorem ct_ok {t : List CP} (h8 : t.length ≤ 8) (h : allB t.length (fun i => cpB i (atC t i)) = true) : CtOk t := by
  rw [allB_iff] at h
  have h2 : ∀ i, i < t.length → (-1 ≤ (atC t i).of ∧ (atC t i).of ≤ (i : Int) - 1) ∧ (0 ≤ (atC t i).wlo ∧ (atC t i).wlo ≤ (atC t i).whi ∧ (atC t i).whi ≤ 30) ∧ (0 ≤ (atC t i).slo ∧ (atC t i).slo ≤ (atC t i).shi ∧ (atC t i).shi ≤ 30) ∧ 0 ≤ (atC t i).pe ∧ (atC t i).pe ≤ 99 := fun i hi => by
    have := h i hi
    unfold cpB at this
    simpa only [Bool.and_eq_true, withinB_true, spanR_true] using this
  exact ⟨h8, fun i hi => by have := (h2 i hi).1; omega, fun i hi => (h2 i hi).2.1, fun i hi => (h2 i hi).2.2.1, fun i hi => (h2 i hi).2.2.2⟩
theorem R7Check_any (t : List CP) (v : Value) (w : World) (hv : CtAt w v t) :
    Calls Try.prog 5 #[v] w fun e w' => ∃ r : Int, e = .returned (.int .i64 r) ∧ (r = 0 → CtOk t) ∧ Bel w w' := by
  obtain ⟨a, c, b, off, rfl, ha, ⟨hl, _⟩, hc⟩ := hv
  have hix := idxCP (c := c) ha
  have HC := Lib.hid hc
  have HOK := Lib.hid (fun (h8 : t.length ≤ 8) (h : allB t.length (fun i => cpB i (atC t i)) = true) => ct_ok h8 h)
  clear ha hc
  generalize hG : t.length = G at *
  clear hG
  by_cases h8 : G ≤ 8
  · have f8 : ¬ (8 : Int) < (G : Int) := by omega
    have g8 : decide ((8 : Int) < (G : Int)) = false := decide_eq_false f8
    have HO := Lib.hid (HOK.out h8)
    clear HOK
    go_enter Try.func5, Try.ntmps5
    go_wp2_with fail
    go_loopw [3] (fun i wr => ∃ k : Nat, k ≤ G ∧ i = .int .i64 k ∧ Hid (allB k (fun i => cpB i (atC t i)) = true) ∧ Hid (Bel w wr)) (fun i _ => G - (intOf i).toNat)
    case atStart => exact ⟨0, by omega, rfl, Lib.hid rfl, Lib.hid (Bel.refl _)⟩
    case round =>
      obtain ⟨k, hk, rfl, hno, hbr⟩ := hrel
      by_cases hlt : k < G
      · have hlti : (k : Int) < (G : Int) := by omega
        obtain ⟨q0, q1, q2, q3, q4, q5⟩ := HC.out k hlt
        have k0 := hbr.out.cell q0
        have k1 := hbr.out.cell q1
        have k2 := hbr.out.cell q2
        have k3 := hbr.out.cell q3
        have k4 := hbr.out.cell q4
        have k5 := hbr.out.cell q5
        have lk := cell_lt k0
        have HN := Lib.hid (fun (h : cpB k (atC t k) = true) => allB_succ hno.out (f := fun i => cpB i (atC t i)) h)
        have HX := Lib.hid (show cpB k (atC t k) = (withinB (atC t k).of (-1) ((k : Int) - 1) && (spanR (atC t k).wlo (atC t k).whi && (spanR (atC t k).slo (atC t k).shi && withinB (atC t k).pe 0 99))) from rfl)
        clear q0 q1 q2 q3 q4 q5 hno HO HC
        generalize atC t k = p at *
        obtain ⟨of, wlo, whi, slo, shi, pe⟩ := p
        simp only at k0 k1 k2 k3 k4 k5 HN HX
        go_wp2_with fail
        generalize hW : World.alloc _ _ = W1
        have HP : Hid (Bx W1 wr.heap.size [.int .i64 of, .int .i64 wlo, .int .i64 whi, .int .i64 slo, .int .i64 shi, .int .i64 pe]) := Lib.hid (by rw [← hW]; exact Bx.new rfl)
        have HBW : Hid (Bel w W1) := Lib.hid (hbr.out.trans (by rw [← hW]; exact (Bel.refl wr).alloc _))
        clear hW k0 k1 k2 k3 k4 k5 lk hbr
        have n0 := HP.out.c 0 _ rfl
        have n1 := HP.out.c 1 _ rfl
        have n2 := HP.out.c 2 _ rfl
        have n3 := HP.out.c 3 _ rfl
        have n4 := HP.out.c 4 _ rfl
        have n5 := HP.out.c 5 _ rfl
        have ln := HP.out.lt
        cases h1 : withinB of (-1) ((k : Int) - 1)
        · skip
          go_wp2_with (first
            | (go_at_call 28; refine (R7within_any _ _ _ _).mono ?_; rintro e w' ⟨rfl, rfl⟩)
            | (go_at_call 29; refine (R7isSpan_any _ _ _).mono ?_; rintro e w2 ⟨rfl, hb⟩; replace HBW := Lib.hid (HBW.out.trans hb); replace n0 := hb.cell n0; replace n1 := hb.cell n1; replace n2 := hb.cell n2; replace n3 := hb.cell n3; replace n4 := hb.cell n4; replace n5 := hb.cell n5; replace ln := cell_lt n0; clear hb)
            | fail)
          go_ret
          exact ⟨70, rfl, (fun h => absurd h (by decide)), HBW.out⟩
        · skip
          cases h2 : spanR wlo whi
          · skip
            go_wp2_with (first
              | (go_at_call 28; refine (R7within_any _ _ _ _).mono ?_; rintro e w' ⟨rfl, rfl⟩)
              | (go_at_call 29; refine (R7isSpan_any _ _ _).mono ?_; rintro e w2 ⟨rfl, hb⟩; replace HBW := Lib.hid (HBW.out.trans hb); replace n0 := hb.cell n0; replace n1 := hb.cell n1; replace n2 := hb.cell n2; replace n3 := hb.cell n3; replace n4 := hb.cell n4; replace n5 := hb.cell n5; replace ln := cell_lt n0; clear hb)
              | fail)
            go_ret
            exact ⟨70, rfl, (fun h => absurd h (by decide)), HBW.out⟩
          · skip
            cases h3 : spanR slo shi
            · skip
              go_wp2_with (first
                | (go_at_call 28; refine (R7within_any _ _ _ _).mono ?_; rintro e w' ⟨rfl, rfl⟩)
                | (go_at_call 29; refine (R7isSpan_any _ _ _).mono ?_; rintro e w2 ⟨rfl, hb⟩; replace HBW := Lib.hid (HBW.out.trans hb); replace n0 := hb.cell n0; replace n1 := hb.cell n1; replace n2 := hb.cell n2; replace n3 := hb.cell n3; replace n4 := hb.cell n4; replace n5 := hb.cell n5; replace ln := cell_lt n0; clear hb)
                | fail)
              go_ret
              exact ⟨70, rfl, (fun h => absurd h (by decide)), HBW.out⟩
            · skip
              cases h4 : withinB pe 0 99
              · skip
                go_wp2_with (first
                  | (go_at_call 28; refine (R7within_any _ _ _ _).mono ?_; rintro e w' ⟨rfl, rfl⟩)
                  | (go_at_call 29; refine (R7isSpan_any _ _ _).mono ?_; rintro e w2 ⟨rfl, hb⟩; replace HBW := Lib.hid (HBW.out.trans hb); replace n0 := hb.cell n0; replace n1 := hb.cell n1; replace n2 := hb.cell n2; replace n3 := hb.cell n3; replace n4 := hb.cell n4; replace n5 := hb.cell n5; replace ln := cell_lt n0; clear hb)
                  | fail)
                go_ret
                exact ⟨70, rfl, (fun h => absurd h (by decide)), HBW.out⟩
              · skip
                have HN2 := Lib.hid (HN.out (by rw [HX.out, h1, h2, h3, h4]; rfl))
                clear HN HX
                go_wp2_with (first
                  | (go_at_call 28; refine (R7within_any _ _ _ _).mono ?_; rintro e w' ⟨rfl, rfl⟩)
                  | (go_at_call 29; refine (R7isSpan_any _ _ _).mono ?_; rintro e w2 ⟨rfl, hb⟩; replace HBW := Lib.hid (HBW.out.trans hb); replace n0 := hb.cell n0; replace n1 := hb.cell n1; replace n2 := hb.cell n2; replace n3 := hb.cell n3; replace n4 := hb.cell n4; replace n5 := hb.cell n5; replace ln := cell_lt n0; clear hb)
                  | fail)
                go_roundw
                case rel => exact ⟨k + 1, by omega, by go_num, HN2, HBW⟩
                case measure => simp [intOf]; omega
      · have hlti : ¬ (k : Int) < (G : Int) := by omega
        obtain rfl : k = G := by omega
        have HO2 := Lib.hid (HO.out hno.out)
        clear HO hno
        go_wp2
        go_ret
        exact ⟨0, rfl, (fun _ => HO2.out), hbr.out⟩
  · have f8 : (8 : Int) < (G : Int) := by omega
    have g8 : decide ((8 : Int) < (G : Int)) = true := decide_eq_true f8
    go_enter Try.func5, Try.ntmps5
    go_wp2
    go_ret
    exact ⟨70, rfl, (fun h => absurd h (by decide)), Bel.refl _⟩
theorem CCheck_any (t : List CP) (v : Value) (w : World) (ht : CtOk t) (hv : CtAt w v t) : Calls Try.prog 67 #[v] w fun e w' => e = .returned (.int .i64 0) ∧ Bel w w' := by
  obtain ⟨a, c, b, off, rfl, ha, ⟨hl, _⟩, hc⟩ := hv
  have hix := idxCP (c := c) ha
  have HC := Lib.hid hc
  have h8 := ht.l8
  have HT := Lib.hid ht
  clear ha hc ht
  have f8 : ¬ (8 : Int) < (t.length : Int) := by omega
  have g8 : decide ((8 : Int) < (t.length : Int)) = false := decide_eq_false f8
  go_enter Try.func67, Try.ntmps67
  go_wp2_with fail
  go_loopw [10] (fun i wr => ∃ k : Nat, k ≤ t.length ∧ i = .int .i64 k ∧ Hid (Bel w wr)) (fun i _ => t.length - (intOf i).toNat)
  case atStart => exact ⟨0, by omega, rfl, Lib.hid (Bel.refl _)⟩
  case round =>
    obtain ⟨k, hk, rfl, hbr⟩ := hrel
    by_cases hlt : k < t.length
    · have hlti : (k : Int) < (t.length : Int) := by omega
      obtain ⟨q0, q1, q2, q3, q4, q5⟩ := HC.out k hlt
      have k0 := hbr.out.cell q0
      have k1 := hbr.out.cell q1
      have k2 := hbr.out.cell q2
      have k3 := hbr.out.cell q3
      have k4 := hbr.out.cell q4
      have k5 := hbr.out.cell q5
      have lk := cell_lt k0
      have e1 := HT.out.of k hlt
      have e4 := HT.out.p k hlt
      have h2 := spanR_true.2 (HT.out.w k hlt)
      have h3 := spanR_true.2 (HT.out.s k hlt)
      clear q0 q1 q2 q3 q4 q5 HC HT
      generalize atC t k = p at *
      obtain ⟨of, wlo, whi, slo, shi, pe⟩ := p
      simp only at k0 k1 k2 k3 k4 k5 h2 h3 e1 e4
      have h1 : withinB of (-1) ((k : Int) - 1) = true := withinB_true.2 ⟨e1.1, by omega⟩
      have h4 : withinB pe 0 99 = true := withinB_true.2 e4
      clear e1 e4
      go_wp2_with fail
      generalize hW : World.alloc _ _ = W1
      have HP : Hid (Bx W1 wr.heap.size [.int .i64 of, .int .i64 wlo, .int .i64 whi, .int .i64 slo, .int .i64 shi, .int .i64 pe]) := Lib.hid (by rw [← hW]; exact Bx.new rfl)
      have HBW : Hid (Bel w W1) := Lib.hid (hbr.out.trans (by rw [← hW]; exact (Bel.refl wr).alloc _))
      clear hW k0 k1 k2 k3 k4 k5 lk hbr
      have n0 := HP.out.c 0 _ rfl
      have n1 := HP.out.c 1 _ rfl
      have n2 := HP.out.c 2 _ rfl
      have n3 := HP.out.c 3 _ rfl
      have n4 := HP.out.c 4 _ rfl
      have n5 := HP.out.c 5 _ rfl
      have ln := HP.out.lt
      go_wp2_with (first
        | (go_at_call 91; refine (Cwithin_any _ _ _ _).mono ?_; rintro e w' ⟨rfl, rfl⟩)
        | (go_at_call 92; refine (CisSpan_any _ _ _).mono ?_; rintro e w2 ⟨rfl, hb⟩; replace HBW := Lib.hid (HBW.out.trans hb); replace n0 := hb.cell n0; replace n1 := hb.cell n1; replace n2 := hb.cell n2; replace n3 := hb.cell n3; replace n4 := hb.cell n4; replace n5 := hb.cell n5; replace ln := cell_lt n0; clear hb)
        | fail)
      go_roundw
      case rel => exact ⟨k + 1, by omega, by go_num, HBW⟩
      case measure => simp [intOf]; omega
    · have hlti : ¬ (k : Int) < (t.length : Int) := by omega
      go_wp2
      go_ret
      exact ⟨rfl, hbr.out⟩
theorem Cask_any (t : List CP) (v : Value) (w : World) (ht : CtOk t) (hv : CtAt w v t) : Calls Try.prog 40 #[v, .bool true] w fun e w' => e = .returned (.int .i64 0) ∧ Bel w w' := by
  have HC := Lib.hid (CCheck_any t v w ht hv)
  obtain ⟨a, c, b, off, rfl, _, _, _⟩ := hv
  go_enter Try.func40, Try.ntmps40
  go_wp2_with (go_at_call 67; refine HC.out.mono ?_; rintro e w1 ⟨rfl, hb⟩; have HB := Lib.hid hb; clear hb)
  go_ret
  exact ⟨rfl, HB.out⟩
end Go.Proofs.Ytkdcdhkhadhcfaa
