/-
  beasts: the reference's ask, given, CostOf, CostsOf, AreAnswers, Ran, Run.
-/
import Derived.Test.YtogiidkofddhaaaDoorBRCheck
import Derived.Test.YtogiidkofddhaaaDoorBRun
namespace Go.Proofs.YtogiidkofddhaaaDoor
open Go Go.RowKit Go.Shelf
set_option maxHeartbeats 4000000
set_option maxRecDepth 100000
def askT (b : BT) (is : Bool) : Int := if validT b then (if is then 0 else 1) else 60
theorem R6ask_any (b : BT) (is : Bool) (v : Value) (w : World) (hv : BTrapAt w v b) : Calls Tryd.prog 87 #[v, .bool is] w fun e w' => e = .returned (.int .i64 (askT b is)) ∧ Bel w w' := by
  have HC := Lib.hid (fun wx hx => R6Check_any b v wx (hv.bel (w' := wx) hx))
  have HE := Lib.hid (show askT b is = if validT b then (if is then 0 else 1) else 60 from rfl)
  obtain ⟨da, dc, sa, sc, pa, pc, rfl, _, _, _⟩ := hv.open
  clear hv
  cases hval : validT b
  · rw [hval] at HE
    rw [chkT_false hval] at HC
    clear hval
    go_enter Tryd.func87, Tryd.ntmps87
    go_wp2_with fail
    refine (HC.out _ (by repeat (first | assumption | exact Bel.refl _ | refine Bel.drew ?_ | refine Bel.drewN ?_ _ | refine Bel.alloc ?_ _ | refine Bel.setCell ?_ (by simp <;> omega) _ | refine Bel.trans ?_ (by assumption)))).mono ?_
    rintro e w1 ⟨rfl, hb⟩
    have HB := Lib.hid (show Bel w w1 from Bel.trans (by repeat (first | assumption | exact Bel.refl _ | refine Bel.drew ?_ | refine Bel.drewN ?_ _ | refine Bel.alloc ?_ _ | refine Bel.setCell ?_ (by simp <;> omega) _ | refine Bel.trans ?_ (by assumption))) hb)
    clear hb
    go_wp2
    go_ret
    exact ⟨ri HE.out, HB.out⟩
  rw [hval] at HE
  rw [chkT_true hval] at HC
  clear hval
  cases is
  all_goals
    go_enter Tryd.func87, Tryd.ntmps87
    go_wp2_with fail
    refine (HC.out _ (by repeat (first | assumption | exact Bel.refl _ | refine Bel.drew ?_ | refine Bel.drewN ?_ _ | refine Bel.alloc ?_ _ | refine Bel.setCell ?_ (by simp <;> omega) _ | refine Bel.trans ?_ (by assumption)))).mono ?_
    rintro e w1 ⟨rfl, hb⟩
    have HB := Lib.hid (show Bel w w1 from Bel.trans (by repeat (first | assumption | exact Bel.refl _ | refine Bel.drew ?_ | refine Bel.drewN ?_ _ | refine Bel.alloc ?_ _ | refine Bel.setCell ?_ (by simp <;> omega) _ | refine Bel.trans ?_ (by assumption))) hb)
    clear hb
    go_wp2
    go_ret
    exact ⟨ri HE.out, HB.out⟩
theorem R6given_any (b : BT) (l : List BS) (v lv : Value) (w : World) (hv : BTrapAt w v b) (hl : StepsAt w lv l) :
    Calls Tryd.prog 100 #[v, lv] w fun e w' => e = .returned (.int .i64 (givenE b l true)) ∧ Bel w w' := by
  have HC := Lib.hid (fun wx hx => R6Check_any b v wx (hv.bel (w' := wx) hx))
  have HS := Lib.hid (fun x wx hx => R6IsStep_any b x v wx (hv.bel (w' := wx) hx))
  have HE := Lib.hid (show givenE b l true = if validT b then (if 12 < l.length then 2 else if stepsB b l then 0 else 1) else 60 by unfold givenE; simp)
  obtain ⟨da, dc, sa, sc, pa, pc, rfl, _, _, _⟩ := hv.open
  obtain ⟨la, lc, lb, loff, rfl, hla, ⟨hll, _⟩, hlc⟩ := hl
  have hixl := idxSteps (c := lc) hla
  have HLC := Lib.hid hlc
  have HBX := Lib.hid (fun wx hx => (BoxB.new (w := w) (b := b) (dv := .slice da b.doors.length dc) (sv := .slice sa b.seen.length sc) (pv := .slice pa b.places.length pc) (T := 25)).bel (w' := wx) hx)
  clear hv hla hlc
  cases hval : validT b
  · rw [hval] at HE
    rw [chkT_false hval] at HC
    clear hval
    go_enter Tryd.func100, Tryd.ntmps100
    go_wp2_with fail
    refine (HC.out _ (by repeat (first | assumption | exact Bel.refl _ | refine Bel.drew ?_ | refine Bel.drewN ?_ _ | refine Bel.alloc ?_ _ | refine Bel.setCell ?_ (by simp <;> omega) _ | refine Bel.trans ?_ (by assumption)))).mono ?_
    rintro e w1 ⟨rfl, hb⟩
    have HB := Lib.hid (show Bel w w1 from Bel.trans (by repeat (first | assumption | exact Bel.refl _ | refine Bel.drew ?_ | refine Bel.drewN ?_ _ | refine Bel.alloc ?_ _ | refine Bel.setCell ?_ (by simp <;> omega) _ | refine Bel.trans ?_ (by assumption))) hb)
    clear hb
    go_wp2
    go_ret
    exact ⟨ri HE.out, HB.out⟩
  rw [hval] at HE
  rw [chkT_true hval] at HC
  clear hval
  by_cases h12 : 12 < l.length
  · have HE2 := Lib.hid (HE.out.trans (if_pos h12))
    have hi2 : decide (12 < l.length) = true := by simpa using h12
    have hi3 : (12 : Int) < (l.length : Int) := by omega
    clear h12
    go_enter Tryd.func100, Tryd.ntmps100
    go_wp2_with fail
    refine (HC.out _ (by repeat (first | assumption | exact Bel.refl _ | refine Bel.drew ?_ | refine Bel.drewN ?_ _ | refine Bel.alloc ?_ _ | refine Bel.setCell ?_ (by simp <;> omega) _ | refine Bel.trans ?_ (by assumption)))).mono ?_
    rintro e w1 ⟨rfl, hb⟩
    have HB := Lib.hid (show Bel w w1 from Bel.trans (by repeat (first | assumption | exact Bel.refl _ | refine Bel.drew ?_ | refine Bel.drewN ?_ _ | refine Bel.alloc ?_ _ | refine Bel.setCell ?_ (by simp <;> omega) _ | refine Bel.trans ?_ (by assumption))) hb)
    clear hb
    go_wp2
    go_ret
    exact ⟨ri HE2.out, HB.out⟩
  have HE2 := Lib.hid (HE.out.trans (if_neg h12))
  have hi2 : decide (12 < l.length) = false := by simp; omega
  have hi3 : ¬ (12 : Int) < (l.length : Int) := by omega
  go_enter Tryd.func100, Tryd.ntmps100
  go_wp2_with fail
  refine (HC.out _ (by repeat (first | assumption | exact Bel.refl _ | refine Bel.drew ?_ | refine Bel.drewN ?_ _ | refine Bel.alloc ?_ _ | refine Bel.setCell ?_ (by simp <;> omega) _ | refine Bel.trans ?_ (by assumption)))).mono ?_
  rintro e w1 ⟨rfl, hb⟩
  have HY := Lib.hid (HBX.out _ hb)
  have HB := Lib.hid (show Bel w w1 from Bel.trans (by repeat (first | assumption | exact Bel.refl _ | refine Bel.drew ?_ | refine Bel.drewN ?_ _ | refine Bel.alloc ?_ _ | refine Bel.setCell ?_ (by simp <;> omega) _ | refine Bel.trans ?_ (by assumption))) hb)
  clear hb
  go_wp2
  go_loopw [6] (fun i wr => ∃ k : Nat, k ≤ l.length ∧ i = .int .i64 k ∧ Hid (allB k (fun i => rightB b (atS l i)) = true) ∧ Bel w1 wr) (fun i _ => l.length - (intOf i).toNat)
  case atStart => exact ⟨0, by omega, rfl, rfl, Bel.refl _⟩
  case round =>
    obtain ⟨k, hk, rfl, hno, hB⟩ := hrel
    have HBR := Lib.hid hB
    by_cases hlt : k < l.length
    · have hlti : (k : Int) < (l.length : Int) := by omega
      obtain ⟨k0, k1⟩ := HLC.out k hlt
      replace k0 := (HB.out.trans hB).cell k0
      replace k1 := (HB.out.trans hB).cell k1
      have lk := cell_lt k0
      obtain ⟨y0, y1, y2, y3, y4, y5⟩ := HY.out.bel hB
      have ly := cell_lt y0
      have HSK := Lib.hid (fun wx hx => HS.out (atS l k) wx hx)
      have HG := Lib.hid (fun (h : rightB b (atS l k) = true) => allB_succ hno.out (f := fun i => rightB b (atS l i)) h)
      have HX := Lib.hid (fun (h : rightB b (atS l k) = false) => show stepsB b l = false from allB_false k hlt h)
      have HBW := Lib.hid (HB.out.trans hB)
      clear hB
      generalize atS l k = x at *
      go_wp2
      refine wp_region_mixB (Plan.seq [0, 1, 2, 3, 4, 1005, 6] .nil) (by kernel_rfl) (by kernel_rfl) (fun hcur => ?_)
      simp only [Plan.seq, Plan.fill, List.getD_cons_zero, List.getD_cons_succ, Nat.reduceLT, ↓reduceIte, Nat.reduceSub]
      apply mix_pure _ rfl
      · intro w' hw'
        have hcr := hw'.cells
        go_simp
        rfl
      intro K hK
      go_simp
      refine hK _ ?_
      clear hK K
      apply mix_pure _ rfl
      · intro w' hw'
        have hcr := hw'.cells
        go_simp
        rfl
      intro K hK
      go_simp
      refine hK _ ?_
      clear hK K
      apply mix_pure _ rfl
      · intro w' hw'
        have hcr := hw'.cells
        go_simp
        rfl
      intro K hK
      go_simp
      refine hK _ ?_
      clear hK K
      apply mix_pure _ rfl
      · intro w' hw'
        have hcr := hw'.cells
        go_simp
        rfl
      intro K hK
      go_simp
      refine hK _ ?_
      clear hK K
      apply mix_pure _ rfl
      · intro w' hw'
        have hcr := hw'.cells
        go_simp
        rfl
      intro K hK
      go_simp
      refine hK _ ?_
      clear hK K
      refine mix_act rfl (fun K hK => ?_)
      go_simp
      refine (HSK.out _ (HBW.out.trans hcur)).mono ?_
      rintro e w3 ⟨rfl, hb⟩
      simp only []
      refine hK _ _ (hcur.trans hb) (fun hcur => ?_)
      clear hK K hb
      apply mix_pure _ rfl
      · intro w' hw'
        have hcr := hw'.cells
        go_simp
        rfl
      intro K hK
      go_simp
      refine hK _ ?_
      clear hK K
      refine mix_nil ?_
      have HF := Lib.hid (HBR.out.trans hcur)
      clear hcur k0 k1 lk y0 y1 y2 y3 y4 y5 ly
      cases hr : rightB b x
      · have HI := Lib.hid (show givenE b l true = 1 by rw [HE2.out, HX.out hr]; rfl)
        clear hr
        go_wp2
        go_ret
        exact ⟨ri HI.out, HB.out.trans HF.out⟩
      · have HR := Lib.hid (HG.out hr)
        clear hr
        go_wp2
        go_roundw
        case rel => exact ⟨k + 1, by omega, by go_num, HR, HF.out⟩
        case measure => simp [intOf]; omega
    · have hlti : ¬ (k : Int) < (l.length : Int) := by omega
      have HI := Lib.hid (show givenE b l true = 0 by rw [HE2.out, show stepsB b l = true by unfold stepsB; rw [show l.length = k by omega]; exact hno.out]; rfl)
      clear hB
      go_wp2
      go_ret
      exact ⟨ri HI.out, HB.out.trans HBR.out⟩
theorem R6CostOf_any (b : BT) (hval : validT b = true) (x : BS) (hx : IsStp b x) (v : Value) (w : World) (hv : BTrapAt w v b) : Calls Tryd.prog 83 #[v, .agg #[.int .i64 x.k, .int .i64 x.x]] w fun e w' => e = .returned (.int .i64 (costS b x)) ∧ Bel w w' := by
  obtain ⟨da, dc, sa, sc, pa, pc, rfl, hd, _, _⟩ := hv.open
  obtain ⟨db, doff, hda, hdl, _, hdc⟩ := hd.open
  have hixd := idxDoors (c := dc) hda
  have hok := okb_iff.1 hval
  have hl1 := hok.l1
  have hl2 := hok.l2
  have he1 := hok.e1
  have he2 := hok.e2
  have HX := Lib.hid (show costS b x = if x.k = 2 then b.look + b.eats else (atD b.doors x.x.toNat).cost + b.eats from rfl)
  clear hv hd hda
  rcases hx with ⟨e, g1, g2⟩ | ⟨e, g⟩
  · have b1 : (x.k == 1) = true := by simpa using e
    have HE := Lib.hid (HX.out.trans (if_neg (by omega)))
    obtain ⟨j, hj⟩ : ∃ j : Nat, x.x = j := ⟨x.x.toNat, by omega⟩
    have hj2 : j < b.doors.length := by omega
    have hj3 : (j : Int) < (b.doors.length : Int) := by omega
    obtain ⟨d0, d1, d2⟩ := hdc j hj2
    have ld := cell_lt d0
    obtain ⟨_, _, _, hc1, hc2⟩ := hok.dk j hj2
    rw [hj, Int.toNat_natCast] at HE
    rw [hj]
    clear e g1 g2 hj hdc hok hval HX
    generalize atD b.doors j = d at *
    have hw1 : IntKind.i64.wrap (d.cost + b.eats) = d.cost + b.eats := IntWalk.i64_in _ (by omega)
    go_enter Tryd.func83, Tryd.ntmps83
    go_wp2
    generalize hW0 : World.alloc _ _ = W0
    have hB0 : Bel w W0 := by rw [← hW0]; exact ((Bel.refl w).alloc _).alloc _
    have y1 : W0.cell? ⟨w.heap.size, 1, none⟩ = some (.slice da b.doors.length dc) := by rw [← hW0]; exact (row_facts ((old_row (by simp)).trans (new_row rfl))).1 1
    have y4 : W0.cell? ⟨w.heap.size, 4, none⟩ = some (.int .i64 b.eats) := by rw [← hW0]; exact (row_facts ((old_row (by simp)).trans (new_row rfl))).1 4
    have x1 : W0.cell? ⟨w.heap.size + 1, 1, none⟩ = some (.int .i64 (j : Int)) := by rw [← hW0]; exact (row_facts (new_row (by simp))).1 1
    have e2' := hB0.cell d2
    have ly := cell_lt y1
    have lx := cell_lt x1
    have ld' := cell_lt e2'
    clear hW0 d0 d1 d2 ld
    refine wp_region_mixB (Plan.seq [0, 1, 2, 3, 4, 5, 6, 7, 8, 9, 10] .nil) (by kernel_rfl) (by kernel_rfl) (fun hcur => ?_)
    simp only [Plan.seq, Plan.fill, List.getD_cons_zero, List.getD_cons_succ, Nat.reduceLT, ↓reduceIte]
    apply mix_pure _ rfl
    · intro w' hw'
      have hcr := hw'.cells
      go_simp
      rfl
    intro K hK
    go_simp
    refine hK _ ?_
    clear hK K
    apply mix_pure _ rfl
    · intro w' hw'
      have hcr := hw'.cells
      go_simp
      rfl
    intro K hK
    go_simp
    refine hK _ ?_
    clear hK K
    apply mix_pure _ rfl
    · intro w' hw'
      have hcr := hw'.cells
      go_simp
      rfl
    intro K hK
    go_simp
    refine hK _ ?_
    clear hK K
    apply mix_pure _ rfl
    · intro w' hw'
      have hcr := hw'.cells
      go_simp
      rfl
    intro K hK
    go_simp
    refine hK _ ?_
    clear hK K
    apply mix_pure _ rfl
    · intro w' hw'
      have hcr := hw'.cells
      go_simp
      rfl
    intro K hK
    go_simp
    refine hK _ ?_
    clear hK K
    apply mix_pure _ rfl
    · intro w' hw'
      have hcr := hw'.cells
      go_simp
      rfl
    intro K hK
    go_simp
    refine hK _ ?_
    clear hK K
    apply mix_pure _ rfl
    · intro w' hw'
      have hcr := hw'.cells
      go_simp
      rfl
    intro K hK
    go_simp
    refine hK _ ?_
    clear hK K
    apply mix_pure _ rfl
    · intro w' hw'
      have hcr := hw'.cells
      go_simp
      rfl
    intro K hK
    go_simp
    refine hK _ ?_
    clear hK K
    apply mix_pure _ rfl
    · intro w' hw'
      have hcr := hw'.cells
      go_simp
      rfl
    intro K hK
    go_simp
    refine hK _ ?_
    clear hK K
    apply mix_pure _ rfl
    · intro w' hw'
      have hcr := hw'.cells
      go_simp
      first | (rw [IntWalk.i64_in]; all_goals first | omega | rfl) | rfl
    intro K hK
    go_simp
    refine hK _ ?_
    clear hK K
    apply mix_pure _ rfl
    · intro w' hw'
      have hcr := hw'.cells
      go_simp
      rfl
    intro K hK
    go_simp
    refine hK _ ?_
    clear hK K
    refine mix_nil ?_
    have HF := Lib.hid (hB0.trans hcur)
    clear hcur
    go_wp2
    go_ret
    exact ⟨ri HE.out, HF.out⟩
  · have b1 : (x.k == 1) = false := by rw [beq_eq_false_iff_ne]; omega
    have HE := Lib.hid (HX.out.trans (if_pos e))
    clear e g hdc hok hval HX
    go_enter Tryd.func83, Tryd.ntmps83
    go_wp2
    go_ret
    exact ⟨ri HE.out, (by repeat (first | assumption | exact Bel.refl _ | refine Bel.drew ?_ | refine Bel.drewN ?_ _ | refine Bel.alloc ?_ _ | refine Bel.setCell ?_ (by simp <;> omega) _ | refine Bel.trans ?_ (by assumption)))⟩
theorem R6CostsOf_any (b : BT) (hval : validT b = true) (l : List BS) (hl : stepsB b l = true) (h200 : l.length ≤ 200) (v lv : Value) (w : World) (hv : BTrapAt w v b) (hlv : StepsAt w lv l) :
    Calls Tryd.prog 35 #[v, lv] w fun e w' => e = .returned (.int .i64 (costsL b l)) ∧ Bel w w' := by
  have HS := Lib.hid (stepsB_iff.1 hl)
  have HC := Lib.hid (fun k (hk : k < l.length) wx hx => R6CostOf_any b hval (atS l k) (HS.out k hk) v wx (hv.bel (w' := wx) hx))
  have HIN := Lib.hid (costTo_in (b := b) (l := l) (fun x hx => by obtain ⟨k, hk, e⟩ := mem_getD l x default hx; exact ⟨hval, e ▸ HS.out k hk⟩))
  obtain ⟨da, dc, sa, sc, pa, pc, rfl, _, _, _⟩ := hv.open
  obtain ⟨la, lc, lb, loff, rfl, hla, ⟨hll, _⟩, hlc⟩ := hlv
  have hixl := idxSteps (c := lc) hla
  have HLC := Lib.hid hlc
  have HBX := Lib.hid (fun wx hx => (BoxB.new (w := w) (b := b) (dv := .slice da b.doors.length dc) (sv := .slice sa b.seen.length sc) (pv := .slice pa b.places.length pc) (T := 25)).bel (w' := wx) hx)
  rw [← costTo_all]
  clear hv hla hlc hval hl HS
  go_enter Tryd.func35, Tryd.ntmps35
  go_wp2
  generalize hW0 : World.alloc _ _ = W0
  have HB := Lib.hid (show Bel w W0 by rw [← hW0]; exact (Bel.refl w).alloc _)
  have HY := Lib.hid (HBX.out W0 (by rw [← hW0]; exact Bel.refl _))
  clear hW0 HBX
  go_loopw [5, 6] (fun n i wr => ∃ k : Nat, k ≤ l.length ∧ i = .int .i64 k ∧ n = .int .i64 (costTo b l k) ∧ Bel W0 wr) (fun _ i _ => l.length - (intOf i).toNat)
  case atStart => exact ⟨0, by omega, rfl, rfl, Bel.refl _⟩
  case round =>
    obtain ⟨k, hk, rfl, rfl, hB⟩ := hrel
    have HBR := Lib.hid hB
    by_cases hlt : k < l.length
    · have hlti : (k : Int) < (l.length : Int) := by omega
      obtain ⟨k0, k1⟩ := HLC.out k hlt
      replace k0 := (HB.out.trans hB).cell k0
      replace k1 := (HB.out.trans hB).cell k1
      have lk := cell_lt k0
      obtain ⟨y0, y1, y2, y3, y4, y5⟩ := HY.out.bel hB
      have ly := cell_lt y0
      have HCK := Lib.hid (fun wx hx => HC.out k hlt wx hx)
      have HBW := Lib.hid (HB.out.trans hB)
      have HSU := Lib.hid (costTo_succ (b := b) hlt)
      obtain ⟨c1, c2⟩ := HIN.out k hk
      obtain ⟨c3, c4⟩ := HIN.out (k + 1) hlt
      rw [HSU.out] at c3 c4
      clear hB
      generalize atS l k = x at *
      have hw1 : IntKind.i64.wrap (costTo b l k + costS b x) = costTo b l k + costS b x := IntWalk.i64_in _ (by omega)
      generalize costS b x = cx at *
      generalize costTo b l k = cl at *
      go_wp2
      refine wp_region_mixB (Plan.seq [0, 1, 2, 3, 4, 5, 1006, 7, 8] .nil) (by kernel_rfl) (by kernel_rfl) (fun hcur => ?_)
      simp only [Plan.seq, Plan.fill, List.getD_cons_zero, List.getD_cons_succ, Nat.reduceLT, ↓reduceIte, Nat.reduceSub]
      apply mix_pure _ rfl
      · intro w' hw'
        have hcr := hw'.cells
        go_simp
        rfl
      intro K hK
      go_simp
      refine hK _ ?_
      clear hK K
      apply mix_pure _ rfl
      · intro w' hw'
        have hcr := hw'.cells
        go_simp
        rfl
      intro K hK
      go_simp
      refine hK _ ?_
      clear hK K
      apply mix_pure _ rfl
      · intro w' hw'
        have hcr := hw'.cells
        go_simp
        rfl
      intro K hK
      go_simp
      refine hK _ ?_
      clear hK K
      apply mix_pure _ rfl
      · intro w' hw'
        have hcr := hw'.cells
        go_simp
        rfl
      intro K hK
      go_simp
      refine hK _ ?_
      clear hK K
      apply mix_pure _ rfl
      · intro w' hw'
        have hcr := hw'.cells
        go_simp
        rfl
      intro K hK
      go_simp
      refine hK _ ?_
      clear hK K
      apply mix_pure _ rfl
      · intro w' hw'
        have hcr := hw'.cells
        go_simp
        rfl
      intro K hK
      go_simp
      refine hK _ ?_
      clear hK K
      refine mix_act rfl (fun K hK => ?_)
      go_simp
      refine (HCK.out _ (HBW.out.trans hcur)).mono ?_
      rintro e w3 ⟨rfl, hb⟩
      simp only []
      refine hK _ _ (hcur.trans hb) (fun hcur => ?_)
      clear hK K hb
      apply mix_pure _ rfl
      · intro w' hw'
        have hcr := hw'.cells
        go_simp
        first | (rw [IntWalk.i64_in]; all_goals first | omega | rfl) | rfl
      intro K hK
      go_simp
      refine hK _ ?_
      clear hK K
      apply mix_pure _ rfl
      · intro w' hw'
        have hcr := hw'.cells
        go_simp
        rfl
      intro K hK
      go_simp
      refine hK _ ?_
      clear hK K
      refine mix_nil ?_
      have HF := Lib.hid (HBR.out.trans hcur)
      clear hcur k0 k1 lk y0 y1 y2 y3 y4 y5 ly
      go_wp2
      go_roundw
      case rel => exact ⟨k + 1, by omega, by go_num, by rw [HSU.out], HF.out⟩
      case measure => simp [intOf]; omega
    · obtain rfl : k = l.length := by omega
      clear hB
      go_wp2
      go_ret
      exact ⟨rfl, HB.out.trans HBR.out⟩
end Go.Proofs.YtogiidkofddhaaaDoor
