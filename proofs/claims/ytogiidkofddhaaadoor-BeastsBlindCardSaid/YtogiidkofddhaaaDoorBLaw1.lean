/-
  beasts: the law's helpers: Far, long, copied, walked, ready, areSteps, SameSteps, Same.
-/
import Derived.Test.YtogiidkofddhaaaDoorBRef3
import Derived.Test.YtogiidkofddhaaaDoorBClone
import Derived.Test.YtogiidkofddhaaaDoorAppend2
namespace Go.Proofs.YtogiidkofddhaaaDoor
open Go Go.RowKit Go.Shelf
set_option maxHeartbeats 4000000
set_option maxRecDepth 100000
def farB (b : BT) : Bool := decide (40 < b.doors.length) || (decide (40 < b.seen.length) || decide (40 < b.places.length))
theorem farB_false {b : BT} (h : farB b = false) : b.doors.length ≤ 40 ∧ b.seen.length ≤ 40 ∧ b.places.length ≤ 40 := by
  unfold farB at h
  simp only [Bool.or_eq_false_iff, decide_eq_false_iff_not] at h
  omega
theorem bFar_any (b : BT) (v : Value) (w : World) (hv : BTrapAt w v b) : Calls Tryd.prog 15 #[v] w fun e w' => e = .returned (.bool (farB b)) ∧ Bel w w' := by
  have HH := Lib.hid (show farB b = (decide (40 < b.doors.length) || (decide (40 < b.seen.length) || decide (40 < b.places.length))) from rfl)
  obtain ⟨da, dc, sa, sc, pa, pc, rfl, _, _, _⟩ := hv.open
  clear hv
  cases h1 : decide (40 < b.doors.length) <;> cases h2 : decide (40 < b.seen.length) <;> cases h3 : decide (40 < b.places.length)
  all_goals
    rw [h1, h2, h3] at HH
    have q1 : decide ((40 : Int) < (b.doors.length : Int)) = _ := (decide_eq_decide.2 (by omega)).trans h1
    have q2 : decide ((40 : Int) < (b.seen.length : Int)) = _ := (decide_eq_decide.2 (by omega)).trans h2
    have q3 : decide ((40 : Int) < (b.places.length : Int)) = _ := (decide_eq_decide.2 (by omega)).trans h3
    go_enter Tryd.func15, Tryd.ntmps15
    go_wp2
    go_ret
    exact ⟨rb (by rw [HH.out]; rfl), (by repeat (first | assumption | exact Bel.refl _ | refine Bel.drew ?_ | refine Bel.drewN ?_ _ | refine Bel.alloc ?_ _ | refine Bel.setCell ?_ (by simp <;> omega) _ | refine Bel.trans ?_ (by assumption)))⟩
def readyT (b : BT) : Bool := !farB b && decide (chkT b = 0)
theorem readyT_iff {b : BT} : readyT b = true ↔ farB b = false ∧ validT b = true := by
  unfold readyT chkT
  cases farB b <;> cases validT b <;> simp
theorem bready_any (b : BT) (v : Value) (w : World) (hv : BTrapAt w v b) : Calls Tryd.prog 24 #[v] w fun e w' => e = .returned (.bool (readyT b)) ∧ Bel w w' := by
  have HH := Lib.hid (show readyT b = (!farB b && decide (chkT b = 0)) from rfl)
  have HF := Lib.hid (fun wx hx => bFar_any b v wx (hv.bel (w' := wx) hx))
  have HC := Lib.hid (fun wx hx => R6Check_any b v wx (hv.bel (w' := wx) hx))
  obtain ⟨da, dc, sa, sc, pa, pc, rfl, _, _, _⟩ := hv.open
  have HBX := Lib.hid (fun wx hx => (BoxB.new (w := w) (b := b) (dv := .slice da b.doors.length dc) (sv := .slice sa b.seen.length sc) (pv := .slice pa b.places.length pc) (T := 25)).bel (w' := wx) hx)
  clear hv
  cases h1 : farB b
  · have HI := Lib.hid (show readyT b = validT b by rw [HH.out, h1]; unfold chkT; cases validT b <;> rfl)
    cases h2 : validT b
    all_goals
      rw [h2] at HI
      rw [h1] at HF
      first
        | rw [chkT_true h2] at HC
        | rw [chkT_false h2] at HC
      clear h1 h2 HH
      go_enter Tryd.func24, Tryd.ntmps24
      go_wp2_with fail
      refine (HF.out _ (by repeat (first | assumption | exact Bel.refl _ | refine Bel.drew ?_ | refine Bel.drewN ?_ _ | refine Bel.alloc ?_ _ | refine Bel.setCell ?_ (by simp <;> omega) _ | refine Bel.trans ?_ (by assumption)))).mono ?_
      rintro e w1 ⟨rfl, hb⟩
      obtain ⟨y0, y1, y2, y3, y4, y5⟩ := HBX.out _ hb
      have ly := cell_lt y0
      have HB := Lib.hid (show Bel w w1 from Bel.trans (by repeat (first | assumption | exact Bel.refl _ | refine Bel.drew ?_ | refine Bel.drewN ?_ _ | refine Bel.alloc ?_ _ | refine Bel.setCell ?_ (by simp <;> omega) _ | refine Bel.trans ?_ (by assumption))) hb)
      clear hb
      go_wp2_with fail
      refine (HC.out _ HB.out).mono ?_
      rintro e w2 ⟨rfl, hb⟩
      have HB2 := Lib.hid (HB.out.trans hb)
      clear hb
      go_wp2
      go_ret
      exact ⟨rb HI.out, HB2.out⟩
  · have HI := Lib.hid (show readyT b = false by rw [HH.out, h1]; rfl)
    rw [h1] at HF
    clear h1 HH
    go_enter Tryd.func24, Tryd.ntmps24
    go_wp2_with fail
    refine (HF.out _ (by repeat (first | assumption | exact Bel.refl _ | refine Bel.drew ?_ | refine Bel.drewN ?_ _ | refine Bel.alloc ?_ _ | refine Bel.setCell ?_ (by simp <;> omega) _ | refine Bel.trans ?_ (by assumption)))).mono ?_
    rintro e w1 ⟨rfl, hb⟩
    have HB := Lib.hid (show Bel w w1 from Bel.trans (by repeat (first | assumption | exact Bel.refl _ | refine Bel.drew ?_ | refine Bel.drewN ?_ _ | refine Bel.alloc ?_ _ | refine Bel.setCell ?_ (by simp <;> omega) _ | refine Bel.trans ?_ (by assumption))) hb)
    clear hb
    go_wp2
    go_ret
    exact ⟨rb (by rw [HI.out]), HB.out⟩
theorem bcopied_any (v : Value) (l : List Int) (w : World) (hv : IntsAt w v l) (hl : l.length ≤ 1000) :
    Calls Tryd.prog 28 #[v] w fun e w' => ∃ V, e = .returned V ∧ IntSt l w V w' := by
  obtain ⟨a, c, b, off, rfl, ha, ⟨hlen, _⟩, hc⟩ := hv
  obtain ⟨i1, hi1, hz1, hs1, hb1⟩ := info_parts mkInt
  have HI1 := Lib.hid hi1
  have HZ1 := Lib.hid hz1
  have HSR : Hid (0 < l.length → ∃ b, a = some b ∧ ∀ j u, (l.map (Value.int .i64))[j]? = some u → (w.alloc (.cells #[] 3)).cell? (b.add j) = some u) := Lib.hid (fun h0 => ⟨_, ha h0, fun j u hu => by
    obtain ⟨q, hq⟩ := List.getElem?_eq_some_iff.1 hu
    have hj : j < l.length := by simpa using q
    have e : u = .int .i64 (at0 l j) := by rw [← hq]; unfold at0; simp [List.getD, hj]
    rw [e, addr_off]
    exact ((Bel.refl w).alloc _).cell (hc j hj)⟩)
  have HFR : Hid ((w.alloc (.cells #[] 3)).ownsRow 0 3 1 (.slice (some ⟨w.heap.size, 0, none⟩) 0 0) 0 []) := Lib.hid (fresh_row (new_row rfl))
  have HB := Lib.hid (show Bel w (w.alloc (.cells #[] 3)) from (Bel.refl w).alloc _)
  clear ha hc hi1 hz1
  go_enter Tryd.func28, Tryd.ntmps28
  go_wp2_with (at_builtin; refine wpList_append_opt rfl _ _ 23 rfl 3 i1 (.int .i64 0) 1 8 Tryd.underlying23 HI1.out HZ1.out hs1 hb1 rfl (by decide) _ 0 [] rfl HFR.out a l.length c (l.map (Value.int .i64)) rfl (by simp) HSR.out (fun x hx => by simp at hx; obtain ⟨q, _, rfl⟩ := hx; rfl) (by unfold maxLen; omega) (by omega) ?_; intro V' w6 hown hgrow hwhere)
  have hbel := HB.out.grown hgrow (fun k e => by have e' : some w.heap.size = some k := e; injection e' with e'; omega)
  have HS : Hid (IntSt l w V' w6) := Lib.hid ⟨by simpa using hown, fun g hg => by
    have h2 : some g = some w.heap.size ∨ some g = some (w.alloc (.cells #[] 3)).heap.size := by rw [← hg]; exact hwhere
    rw [World.size_alloc] at h2
    rcases h2 with h2 | h2
    · injection h2 with h2; omega
    · injection h2 with h2; omega, hbel⟩
  clear hown hgrow hwhere hbel
  go_wp2
  exact bodyPost_ret (v := V') (by simp [results, Tryd.results28, go_sem]) rfl ⟨_, rfl, HS.out⟩
theorem stepCells_one (l : List BS) : ∀ u ∈ stepCells l, u.oneCell' = true := by
  induction l with
  | nil => intro u hu; simp [stepCells] at hu
  | cons x l ih =>
    intro u hu
    simp only [stepCells, List.mem_cons] at hu
    rcases hu with rfl | rfl | hu
    · rfl
    · rfl
    · exact ih u hu
theorem steps_src {w : World} {b off : Nat} {l : List BS} (h : ∀ i, i < l.length → w.cell? ⟨b, off + i * 2, none⟩ = some (.int .i64 (atS l i).k) ∧ w.cell? ⟨b, off + i * 2 + 1, none⟩ = some (.int .i64 (atS l i).x))
    (j : Nat) (u : Value) (hu : (stepCells l)[j]? = some u) : w.cell? ((⟨b, off, none⟩ : Addr).add j) = some u := by
  obtain ⟨q, _⟩ := List.getElem?_eq_some_iff.1 hu
  rw [stepCells_len] at q
  obtain ⟨h0, h1⟩ := h (j / 2) (by omega)
  obtain ⟨e0, e1⟩ := stepCells_at l (j / 2) (by omega)
  rw [addr_off]
  rcases Nat.mod_two_eq_zero_or_one j with r | r
  · rw [show j / 2 * 2 = j by omega] at h0 e0
    rw [h0, ← e0, hu]
  · rw [show off + j / 2 * 2 + 1 = off + j by omega] at h1
    rw [show j / 2 * 2 + 1 = j by omega] at e1
    rw [h1, ← e1, hu]
theorem bwalked_any (v : Value) (l : List BS) (w : World) (hv : StepsAt w v l) (hl : l.length ≤ 1000) :
    Calls Tryd.prog 53 #[v] w fun e w' => ∃ V, e = .returned V ∧ StepSt l w V w' := by
  obtain ⟨a, c, b, off, rfl, ha, ⟨hlen, _⟩, hc⟩ := hv
  obtain ⟨i1, hi1, hz1, hs1, hb1⟩ := info_parts mkStep
  have HI1 := Lib.hid hi1
  have HZ1 := Lib.hid hz1
  have HSR : Hid (0 < l.length → ∃ b, a = some b ∧ ∀ j u, (stepCells l)[j]? = some u → (w.alloc (.cells #[] 50)).cell? (b.add j) = some u) := Lib.hid (fun h0 => ⟨_, ha h0, steps_src fun i hi =>
    ⟨((Bel.refl w).alloc _).cell (hc i hi).1, ((Bel.refl w).alloc _).cell (hc i hi).2⟩⟩)
  have HFR : Hid ((w.alloc (.cells #[] 50)).ownsRow 0 50 2 (.slice (some ⟨w.heap.size, 0, none⟩) 0 0) 0 []) := Lib.hid (fresh_row (new_row rfl))
  have HB := Lib.hid (show Bel w (w.alloc (.cells #[] 50)) from (Bel.refl w).alloc _)
  clear ha hc hi1 hz1
  go_enter Tryd.func53, Tryd.ntmps53
  go_wp2_with (at_builtin; refine wpList_append_opt rfl _ _ 29 rfl 50 i1 (.agg #[.int .i64 0, .int .i64 0]) 2 16 Tryd.underlying29 HI1.out HZ1.out hs1 hb1 rfl (by decide) _ 0 [] rfl HFR.out a l.length c (stepCells l) rfl (stepCells_len l) HSR.out (stepCells_one l) (by unfold maxLen; omega) (by omega) ?_; intro V' w6 hown hgrow hwhere)
  have hbel := HB.out.grown hgrow (fun k e => by have e' : some w.heap.size = some k := e; injection e' with e'; omega)
  have HS : Hid (StepSt l w V' w6) := Lib.hid ⟨by simpa using hown, fun g hg => by
    have h2 : some g = some w.heap.size ∨ some g = some (w.alloc (.cells #[] 50)).heap.size := by rw [← hg]; exact hwhere
    rw [World.size_alloc] at h2
    rcases h2 with h2 | h2
    · injection h2 with h2; omega
    · injection h2 with h2; omega, hbel⟩
  clear hown hgrow hwhere hbel
  go_wp2
  exact bodyPost_ret (v := V') (by simp [results, Tryd.results53, go_sem]) rfl ⟨_, rfl, HS.out⟩
def areB (b : BT) (l : List BS) : Bool := !decide (200 < l.length) && stepsB b l
theorem areSteps_any (b : BT) (l : List BS) (v lv : Value) (w : World) (hv : BTrapAt w v b) (hlv : StepsAt w lv l) : Calls Tryd.prog 33 #[v, lv] w fun e w' => e = .returned (.bool (areB b l)) ∧ Bel w w' := by
  have HS := Lib.hid (fun x wx hx => R6IsStep_any b x v wx (hv.bel (w' := wx) hx))
  have HE := Lib.hid (show areB b l = (!decide (200 < l.length) && stepsB b l) from rfl)
  obtain ⟨da, dc, sa, sc, pa, pc, rfl, _, _, _⟩ := hv.open
  obtain ⟨la, lc, lb, loff, rfl, hla, ⟨hll, _⟩, hlc⟩ := hlv
  have hixl := idxSteps (c := lc) hla
  have HLC := Lib.hid hlc
  have HBX := Lib.hid (fun wx hx => (BoxB.new (w := w) (b := b) (dv := .slice da b.doors.length dc) (sv := .slice sa b.seen.length sc) (pv := .slice pa b.places.length pc) (T := 25)).bel (w' := wx) hx)
  clear hv hla hlc
  by_cases h12 : 200 < l.length
  · have HE2 := Lib.hid (HE.out.trans (show _ = false by rw [decide_eq_true h12]; rfl))
    have hi2 : decide (200 < l.length) = true := by simpa using h12
    have hi3 : (200 : Int) < (l.length : Int) := by omega
    clear h12
    go_enter Tryd.func33, Tryd.ntmps33
    go_wp2
    go_ret
    exact ⟨rb HE2.out, (by repeat (first | assumption | exact Bel.refl _ | refine Bel.drew ?_ | refine Bel.drewN ?_ _ | refine Bel.alloc ?_ _ | refine Bel.setCell ?_ (by simp <;> omega) _ | refine Bel.trans ?_ (by assumption)))⟩
  have HE2 := Lib.hid (HE.out.trans (show _ = stepsB b l by rw [decide_eq_false h12]; rfl))
  have hi2 : decide (200 < l.length) = false := by simp; omega
  have hi3 : ¬ (200 : Int) < (l.length : Int) := by omega
  go_enter Tryd.func33, Tryd.ntmps33
  go_wp2
  generalize hW0 : World.alloc _ _ = W0
  have HB := Lib.hid (show Bel w W0 by rw [← hW0]; exact (Bel.refl w).alloc _)
  have HY := Lib.hid (HBX.out W0 (by rw [← hW0]; exact Bel.refl _))
  clear hW0 HBX
  go_loopw [5] (fun i wr => ∃ k : Nat, k ≤ l.length ∧ i = .int .i64 k ∧ Hid (allB k (fun i => rightB b (atS l i)) = true) ∧ Bel W0 wr) (fun i _ => l.length - (intOf i).toNat)
  case atStart => exact ⟨0, by omega, rfl, rfl, Bel.refl _⟩
  case round =>
    obtain ⟨k, hk, rfl, hno, hB⟩ := hrel
    have HBR := Lib.hid hB
    by_cases hlt : k < l.length
    · have hlti : (k : Int) < (l.length : Int) := by omega
      obtain ⟨k0, k1⟩ := HLC.out k hlt
      replace k0 := (HB.out.trans hB).cell k0
      replace k1 := (HB.out.trans hB).cell k1
      have lk := cell_lt k0
      obtain ⟨y0, y1, y2, y3, y4, y5⟩ := HY.out.bel hB
      have ly := cell_lt y0
      have HSK := Lib.hid (fun wx hx => HS.out (atS l k) wx hx)
      have HG := Lib.hid (fun (h : rightB b (atS l k) = true) => allB_succ hno.out (f := fun i => rightB b (atS l i)) h)
      have HX := Lib.hid (fun (h : rightB b (atS l k) = false) => show stepsB b l = false from allB_false k hlt h)
      have HBW := Lib.hid (HB.out.trans hB)
      clear hB
      generalize atS l k = x at *
      go_wp2
      refine wp_region_mixB (Plan.seq [0, 1, 2, 3, 4, 1005, 6] .nil) (by kernel_rfl) (by kernel_rfl) (fun hcur => ?_)
      simp only [Plan.seq, Plan.fill, List.getD_cons_zero, List.getD_cons_succ, Nat.reduceLT, ↓reduceIte, Nat.reduceSub]
      apply mix_pure _ rfl
      · intro w' hw'
        have hcr := hw'.cells
        go_simp
        rfl
      intro K hK
      go_simp
      refine hK _ ?_
      clear hK K
      apply mix_pure _ rfl
      · intro w' hw'
        have hcr := hw'.cells
        go_simp
        rfl
      intro K hK
      go_simp
      refine hK _ ?_
      clear hK K
      apply mix_pure _ rfl
      · intro w' hw'
        have hcr := hw'.cells
        go_simp
        rfl
      intro K hK
      go_simp
      refine hK _ ?_
      clear hK K
      apply mix_pure _ rfl
      · intro w' hw'
        have hcr := hw'.cells
        go_simp
        rfl
      intro K hK
      go_simp
      refine hK _ ?_
      clear hK K
      apply mix_pure _ rfl
      · intro w' hw'
        have hcr := hw'.cells
        go_simp
        rfl
      intro K hK
      go_simp
      refine hK _ ?_
      clear hK K
      refine mix_act rfl (fun K hK => ?_)
      go_simp
      refine (HSK.out _ (HBW.out.trans hcur)).mono ?_
      rintro e w3 ⟨rfl, hb⟩
      simp only []
      refine hK _ _ (hcur.trans hb) (fun hcur => ?_)
      clear hK K hb
      apply mix_pure _ rfl
      · intro w' hw'
        have hcr := hw'.cells
        go_simp
        rfl
      intro K hK
      go_simp
      refine hK _ ?_
      clear hK K
      refine mix_nil ?_
      have HF := Lib.hid (HBR.out.trans hcur)
      clear hcur k0 k1 lk y0 y1 y2 y3 y4 y5 ly
      cases hr : rightB b x
      · have HI := Lib.hid (show areB b l = false by rw [HE2.out, HX.out hr])
        clear hr
        go_wp2
        go_ret
        exact ⟨rb HI.out, HB.out.trans HF.out⟩
      · have HR := Lib.hid (HG.out hr)
        clear hr
        go_wp2
        go_roundw
        case rel => exact ⟨k + 1, by omega, by go_num, HR, HF.out⟩
        case measure => simp [intOf]; omega
    · have hlti : ¬ (k : Int) < (l.length : Int) := by omega
      have HI := Lib.hid (show areB b l = true by rw [HE2.out, show stepsB b l = true by unfold stepsB; rw [show l.length = k by omega]; exact hno.out])
      clear hB
      go_wp2
      go_ret
      exact ⟨rb HI.out, HB.out.trans HBR.out⟩
end Go.Proofs.YtogiidkofddhaaaDoor
