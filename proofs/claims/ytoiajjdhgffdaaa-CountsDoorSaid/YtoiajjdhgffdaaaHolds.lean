/-
  counts: Holds; the reference's Holds.
-/
import Derived.Test.YtoiajjdhgffdaaaFollows
import Derived.Test.YtoiajjdhgffdaaaIsTruth
import Derived.Test.YtoiajjdhgffdaaaRCheck
import Derived.Deep.DeepCutAuto
import Derived.Deep.QuietTactic
import Derived.BigQuiet
namespace Go.Proofs.Ytoiajjdhgffdaaa
open Go Go.RowKit
set_option maxHeartbeats 4000000
set_option maxRecDepth 100000
/-- What Holds leaves. -/
def HoldsPost (t : CT) (l : List (List Int)) (w : World) (e : Ending) (w' : World) : Prop :=
  ∃ b : Bool, e = .returned (.tuple #[.bool b, .int .i64 (chk t)]) ∧ (b = true ↔ validB t = true ∧ IsT t l) ∧ Bel w w'
theorem Holds_any (t : CT) (v vl : Value) (l : List (List Int)) (w : World) (hv : TrapAt w v t) (hl : RowsAt w vl l) : Calls Try.prog 62 #[v, vl] w (HoldsPost t l w) := by
  have HCK := Lib.hid (fun wx hx => Check_any t v wx hx)
  have HV := Lib.hid hv
  obtain ⟨ov, wv, rfl, ⟨a, cc, b, off, rv, rfl, ha, hlen, hc⟩, ⟨wa, wc, wb, woff, rfl, hwa, hwlen, hwc⟩⟩ := hv
  by_cases hval : validB t = true
  rotate_left
  · have hval : validB t = false := by simpa using hval
    have hck := chk_false hval
    have HP := Lib.hid (show ∀ e w', e = .returned (.tuple #[.bool false, .int .i64 10]) → Bel w w' → HoldsPost t l w e w' from fun e w' h1 h2 => ⟨false, by rw [h1, hck], ⟨(fun h => by cases h), fun h => by rw [hval] at h; cases h.1⟩, h2⟩)
    rw [hck] at HCK
    clear hval hck hl
    go_enter Try.func62, Try.ntmps62
    go_wp2_with fail
    refine (HCK.out _ (HV.out.bel (by repeat (first | assumption | exact Bel.refl _ | refine Bel.drew ?_ | refine Bel.drewN ?_ _ | refine Bel.alloc ?_ _ | refine Bel.setCell ?_ (by simp <;> omega) _ | refine Bel.trans ?_ (by assumption))))).mono ?_
    rintro e w1 ⟨rfl, hb⟩
    have HB1 := Lib.hid (show Bel w w1 from Bel.trans (by repeat (first | assumption | exact Bel.refl _ | refine Bel.drew ?_ | refine Bel.drewN ?_ _ | refine Bel.alloc ?_ _ | refine Bel.setCell ?_ (by simp <;> omega) _ | refine Bel.trans ?_ (by assumption))) hb)
    clear hb
    go_wp2
    go_ret2
    exact HP.out _ _ rfl HB1.out
  obtain ⟨an, cn, bn, offn, rn, rfl, han, hnlen, hnc⟩ := hl
  have hck := chk_true hval
  have HF := Lib.hid (fit_of_valid hval)
  obtain ⟨f1, f2, f3, f4, f5, _⟩ := fit_of_valid hval
  have HYES := Lib.hid (show IsT t l → ∀ e w', e = .returned (.tuple #[.bool true, .int .i64 0]) → Bel w w' → HoldsPost t l w e w' from fun h e w' h1 h2 => ⟨true, by rw [h1, hck], ⟨fun _ => ⟨hval, h⟩, fun _ => rfl⟩, h2⟩)
  have HNOT := Lib.hid (show ¬ IsT t l → ∀ e w', e = .returned (.tuple #[.bool false, .int .i64 0]) → Bel w w' → HoldsPost t l w e w' from fun h e w' h1 h2 => ⟨false, by rw [h1, hck], ⟨(fun h => by cases h), fun q => absurd q.2 h⟩, h2⟩)
  rw [hck] at HCK
  have hixr := idxRows (c := cc) ha
  have hixn := idxRows (c := cn) han
  have hixw := idxWords (c := wc) hwa
  have HC := Lib.hid hc
  have HWC := Lib.hid hwc
  have HNC := Lib.hid hnc
  have HLO := Lib.hid (show t.op.length = t.T.toNat - 1 by omega)
  clear ha hwa hc hwc han hnc f5 hval hck
  go_enter Try.func62, Try.ntmps62
  go_wp2_with fail
  refine (HCK.out _ (HV.out.bel (by repeat (first | assumption | exact Bel.refl _ | refine Bel.drew ?_ | refine Bel.drewN ?_ _ | refine Bel.alloc ?_ _ | refine Bel.setCell ?_ (by simp <;> omega) _ | refine Bel.trans ?_ (by assumption))))).mono ?_
  rintro e w1 ⟨rfl, hb⟩
  have x0 : w1.cell? ⟨w.heap.size, 0, none⟩ = some (.int .i64 t.C) := hb.cell ((row_facts (new_row rfl)).1 0)
  have x1 : w1.cell? ⟨w.heap.size, 1, none⟩ = some (.int .i64 t.T) := hb.cell ((row_facts (new_row rfl)).1 1)
  have x2 : w1.cell? ⟨w.heap.size, 2, none⟩ = some (.slice a t.op.length cc) := hb.cell ((row_facts (new_row rfl)).1 2)
  have x3 : w1.cell? ⟨w.heap.size, 3, none⟩ = some (.slice wa t.ws.length wc) := hb.cell ((row_facts (new_row rfl)).1 3)
  have HY := Lib.hid (And.intro x0 (And.intro x1 (And.intro x2 x3)))
  have HB1 := Lib.hid (show Bel w w1 from Bel.trans (by repeat (first | assumption | exact Bel.refl _ | refine Bel.drew ?_ | refine Bel.drewN ?_ _ | refine Bel.alloc ?_ _ | refine Bel.setCell ?_ (by simp <;> omega) _ | refine Bel.trans ?_ (by assumption))) hb)
  clear hb x0 x2 x3
  by_cases hT : (l.length : Int) = t.T
  rotate_left
  · have HNO := Lib.hid (HNOT.out (show ¬ IsT t l from fun h => by have := h.len; omega))
    have hb : ((l.length : Int) != t.T) = true := by rw [bne_iff_ne]; exact hT
    clear hT
    go_wp2
    go_ret2
    exact HNO.out _ _ rfl HB1.out
  have hb : ((l.length : Int) != t.T) = false := by rw [hT]; simp
  have HTL := Lib.hid (show l.length = t.T.toNat by omega)
  clear hT
  go_wp2
  clear hb x1
  go_loopw [26] (fun i wr => ∃ n : Nat, n ≤ l.length ∧ i = .int .i64 n ∧ Bel w1 wr ∧ (∀ i, i < n → RowOk t (atL l i)) ∧ (∀ i c, 0 < i → i < n → c < t.C.toNat → StepOk t l i c)) (fun i _ => l.length - (intOf i).toNat)
  case atStart => exact ⟨0, by omega, rfl, Bel.refl _, fun i hi => by omega, fun i c _ hi _ => by omega⟩
  case round =>
    obtain ⟨n, hn, rfl, hB, hrow, hstep⟩ := hrel
    have HROW := Lib.hid hrow
    have HSTEP := Lib.hid hstep
    have HB := Lib.hid hB
    clear hrow hstep hB
    by_cases hlt : n < l.length
    · obtain ⟨e1, hi1⟩ := HNC.out n hlt
      obtain ⟨ra, rc, rb, roff, er, hra, ⟨hrl, hrc⟩, hcell⟩ := hi1
      rw [er] at e1
      have HRI := Lib.hid (show IntsAt w (.slice ra (atL l n).length rc) (atL l n) from ⟨ra, rc, rb, roff, rfl, hra, ⟨hrl, hrc⟩, hcell⟩)
      have HBF := Lib.hid (HB1.out.trans HB.out)
      replace e1 := HBF.out.cell e1
      have hixk := idxInts (c := rc) hra
      have x0 := HB.out.cell HY.out.1
      have hlti : (n : Int) < (l.length : Int) := by omega
      obtain ⟨row, hrw⟩ : ∃ row, row = atL l n := ⟨_, rfl⟩
      rw [← hrw] at e1 hrl hrc hcell hixk HRI
      have HCELL := Lib.hid hcell
      have HRW := Lib.hid hrw
      clear hrw hcell hra er
      by_cases hlc : (row.length : Int) = t.C
      rotate_left
      · have HNO := Lib.hid (HNOT.out (show ¬ IsT t l from fun h => by have h1 := (h.row n (by have := HTL.out; omega)).len; rw [← HRW.out] at h1; omega))
        have hb : ((row.length : Int) != t.C) = true := by rw [bne_iff_ne]; exact hlc
        clear hlc
        go_wp2
        go_ret2
        exact HNO.out _ _ rfl HBF.out
      have hb : ((row.length : Int) != t.C) = false := by rw [hlc]; simp
      have HLC := Lib.hid hlc
      clear hlc
      go_wp2
      clear hb x0 e1
      go_loopw [9, 38] (fun s i wi => ∃ k : Nat, k ≤ row.length ∧ i = .int .i64 k ∧ s = .int .i64 (sumTo row k) ∧ (0 ≤ sumTo row k ∧ sumTo row k ≤ 40) ∧ Bel w1 wi ∧ ∀ j, j < k → 0 ≤ at0 row j ∧ at0 row j ≤ 40 - sumTo row j) (fun _ i _ => row.length - (intOf i).toNat)
      case atStart => exact ⟨0, by omega, rfl, rfl, ⟨Int.le_refl _, by show (0 : Int) ≤ 40; omega⟩, HB.out, fun j hj => by omega⟩
      case round =>
        obtain ⟨k, hk, rfl, rfl, hsb, hB2, hnum⟩ := hrel
        have HNUM := Lib.hid hnum
        have HB2 := Lib.hid hB2
        have HBG := Lib.hid (HB1.out.trans HB2.out)
        obtain ⟨hs1, hs2⟩ := hsb
        clear hnum hB2
        by_cases hltk : k < row.length
        · have hck := HBG.out.cell (HCELL.out k hltk)
          have hki : (k : Int) < (row.length : Int) := by omega
          have HSU := Lib.hid (show sumTo row (k + 1) = sumTo row k + at0 row k from rfl)
          have HNOX := Lib.hid (fun h => rowNot (t := t) hltk h)
          generalize hx : at0 row k = x at *
          generalize hss : sumTo row k = s at *
          have HXX := Lib.hid (And.intro hx hss)
          have HWI := Lib.hid (fun wx => within_any x 0 (40 - s) wx)
          clear hx hss
          cases hwb : withinB x 0 (40 - s)
          · have HNO := Lib.hid (HNOT.out (show ¬ IsT t l from fun h => by
              have h1 := h.row n (by have := HTL.out; omega)
              rw [← HRW.out] at h1
              exact HNOX.out (fun q => by rw [withinB_true.2 q] at hwb; cases hwb) h1))
            rw [hwb] at HWI
            clear hwb
            go_wp2_with (go_at_call 80; refine (HWI.out _).mono ?_; rintro e w' ⟨rfl, rfl⟩)
            go_ret2
            exact HNO.out _ _ rfl HBG.out
          · obtain ⟨q1, q2⟩ := withinB_true.1 hwb
            have HN1 := Lib.hid (show ∀ j, j < k + 1 → 0 ≤ at0 row j ∧ at0 row j ≤ 40 - sumTo row j from fun j hj => by
              by_cases e : j = k
              · rw [e, HXX.out.1, HXX.out.2]; exact ⟨q1, q2⟩
              · exact HNUM.out j (by omega))
            rw [hwb] at HWI
            clear hwb
            go_wp2_with (go_at_call 80; refine (HWI.out _).mono ?_; rintro e w' ⟨rfl, rfl⟩)
            go_roundw
            case rel => exact ⟨k + 1, by omega, by go_num, by rw [HSU.out], by rw [HSU.out]; omega, HB2.out, HN1.out⟩
            case measure => simp [intOf]; omega
        · have hke : k = row.length := by omega
          subst hke
          have HOK := Lib.hid (show RowOk t row from rowYes (by have := HLC.out; omega) HNUM.out)
          have HROW1 := Lib.hid (show ∀ i, i < n + 1 → RowOk t (atL l i) from fun i hi => by
            by_cases e : i = n
            · rw [e, ← HRW.out]; exact HOK.out
            · exact HROW.out i (by omega))
          generalize sumTo row row.length = s at *
          by_cases hn0 : n = 0
          · have hni : decide ((0 : Int) < (n : Int)) = false := by simp [hn0]
            have hni3 : ¬ 0 < n := by omega
            have HSTEP1 := Lib.hid (show ∀ i c, 0 < i → i < n + 1 → c < t.C.toNat → StepOk t l i c from fun i c h1 h2 h3 => by omega)
            clear hn0
            go_wp2
            go_quiet (fail)
            go_wp2
            go_roundw
            case rel => exact ⟨n + 1, by omega, by go_num, HB2.out.drewN _, HROW1.out, HSTEP1.out⟩
            case measure => simp [intOf]; omega
          · have hni : decide ((0 : Int) < (n : Int)) = true := by simp; omega
            have hni1 : (0 : Int) < (n : Int) := by omega
            have hni2 : 0 < n := by omega
            have ek : (n : Int) - 1 = ((n - 1 : Nat) : Int) := by omega
            have hn1 : n - 1 < l.length := by omega
            have hn1i : ((n - 1 : Nat) : Int) < (l.length : Int) := by omega
            obtain ⟨p1, hp⟩ := HNC.out (n - 1) hn1
            obtain ⟨pa, pc, pb, poff, per, hpa, hpl, hpcell⟩ := hp
            have HPI := Lib.hid (show IntsAt w (.slice pa (atL l (n - 1)).length pc) (atL l (n - 1)) from ⟨pa, pc, pb, poff, rfl, hpa, hpl, hpcell⟩)
            rw [per] at p1
            replace p1 := HBG.out.cell p1
            have HPOK := Lib.hid (HROW.out (n - 1) (by omega))
            have hno : n - 1 < t.op.length := by have := HLO.out; have := HTL.out; omega
            have hnoi : ((n - 1 : Nat) : Int) < (t.op.length : Int) := by omega
            have x2 := HB2.out.cell HY.out.2.2.1
            have o1 := HBG.out.cell (HC.out (n - 1) hno).1
            have HOI := Lib.hid (HC.out (n - 1) hno).2
            have HFI := Lib.hid (follows_step (t := t) (l := l) (i := n) (by omega) (by rw [← HRW.out]; exact HOK.out.len) HPOK.out.len)
            rw [← HRW.out] at HFI
            have HFO := Lib.hid (fun wx (hx : Bel w wx) => follows_any _ _ _ (atL l (n - 1)) row (atL t.op (n - 1)) wx (HPI.out.bel hx) (HRI.out.bel hx) (HOI.out.bel hx) (by rw [HPOK.out.len, HOK.out.len]) (by have := HLC.out; omega)
              (fun j => by
                by_cases e : j < (atL l (n - 1)).length
                · exact HPOK.out.num j (by rw [← HPOK.out.len]; exact e)
                · unfold at0 List.getD; rw [List.getElem?_eq_none (by omega)]; exact ⟨by decide, by decide⟩)
              (fun j hj => HOK.out.num j (by rw [← HOK.out.len]; exact hj)))
            have lp1 := cell_lt p1
            have lo1 := cell_lt o1
            have lx2 := cell_lt x2
            clear per hpa hpl hpcell
            cases hfb : followsB (atL l (n - 1)) row (atL t.op (n - 1))
            · have HNO := Lib.hid (HNOT.out (show ¬ IsT t l from fun h => by
                have := HFI.out.2 (fun c hc => h.step n c hni2 (by have := HTL.out; omega) hc)
                rw [hfb] at this; cases this))
              rw [hfb] at HFO
              clear hfb
              go_wp2
              refine wp_region_mixB (Plan.seq [0, 1, 2, 3, 4, 5, 6, 7, 8, 9, 10, 11, 12, 13, 14, 1015, 16, 17] .nil) (by kernel_rfl) (by kernel_rfl) (fun hcur => ?_)
              simp only [Plan.seq, Plan.fill, List.getD_cons_zero, List.getD_cons_succ, Nat.reduceLT, ↓reduceIte, Nat.reduceSub]
              apply mix_pure _ rfl
              · intro w' hw'
                have hcr := hw'.cells
                go_simp
                rfl
              intro K hK
              go_simp
              refine hK _ ?_
              clear hK K
              apply mix_pure _ rfl
              · intro w' hw'
                have hcr := hw'.cells
                go_simp
                rfl
              intro K hK
              go_simp
              refine hK _ ?_
              clear hK K
              apply mix_pure _ rfl
              · intro w' hw'
                have hcr := hw'.cells
                go_simp
                rfl
              intro K hK
              go_simp
              refine hK _ ?_
              clear hK K
              apply mix_pureG _ (by go_simp)
              · intro w' hw'
                have hcr := hw'.cells
                go_simp
                rfl
              intro K hK
              go_simp
              refine hK _ ?_
              clear hK K
              apply mix_pureG _ (by go_simp)
              · intro w' hw'
                have hcr := hw'.cells
                go_simp
                rfl
              intro K hK
              go_simp
              refine hK _ ?_
              clear hK K
              apply mix_pureG _ (by go_simp)
              · intro w' hw'
                have hcr := hw'.cells
                go_simp
                first | (rw [IntWalk.i64_in]; all_goals first | omega | rfl) | rfl
              intro K hK
              go_simp
              refine hK _ ?_
              clear hK K
              apply mix_pureG _ (by go_simp)
              · intro w' hw'
                have hcr := hw'.cells
                go_simp
                rfl
              intro K hK
              go_simp
              refine hK _ ?_
              clear hK K
              apply mix_pureG _ (by go_simp)
              · intro w' hw'
                have hcr := hw'.cells
                go_simp
                rfl
              intro K hK
              go_simp
              refine hK _ ?_
              clear hK K
              apply mix_pureG _ (by go_simp)
              · intro w' hw'
                have hcr := hw'.cells
                go_simp
                rfl
              intro K hK
              go_simp
              refine hK _ ?_
              clear hK K
              apply mix_pureG _ (by go_simp)
              · intro w' hw'
                have hcr := hw'.cells
                go_simp
                rfl
              intro K hK
              go_simp
              refine hK _ ?_
              clear hK K
              apply mix_pureG _ (by go_simp)
              · intro w' hw'
                have hcr := hw'.cells
                go_simp
                rfl
              intro K hK
              go_simp
              refine hK _ ?_
              clear hK K
              apply mix_pureG _ (by go_simp)
              · intro w' hw'
                have hcr := hw'.cells
                go_simp
                rfl
              intro K hK
              go_simp
              refine hK _ ?_
              clear hK K
              apply mix_pureG _ (by go_simp)
              · intro w' hw'
                have hcr := hw'.cells
                go_simp
                first | (rw [IntWalk.i64_in]; all_goals first | omega | rfl) | rfl
              intro K hK
              go_simp
              refine hK _ ?_
              clear hK K
              apply mix_pureG _ (by go_simp)
              · intro w' hw'
                have hcr := hw'.cells
                go_simp
                rfl
              intro K hK
              go_simp
              refine hK _ ?_
              clear hK K
              apply mix_pureG _ (by go_simp)
              · intro w' hw'
                have hcr := hw'.cells
                go_simp
                rfl
              intro K hK
              go_simp
              refine hK _ ?_
              clear hK K
              refine mix_actG (by go_simp) (fun K hK => ?_)
              go_simp
              refine (HFO.out _ (HBG.out.trans hcur)).mono ?_
              rintro e w7 ⟨rfl, hb⟩
              simp only []
              refine hK _ _ (hcur.trans hb) (fun hcur => ?_)
              clear hK K hb
              apply mix_pureG _ (by go_simp)
              · intro w' hw'
                have hcr := hw'.cells
                go_simp
                rfl
              intro K hK
              go_simp
              refine hK _ ?_
              clear hK K
              apply mix_pure _ rfl
              · intro w' hw'
                have hcr := hw'.cells
                go_simp
                rfl
              intro K hK
              go_simp
              refine hK _ ?_
              clear hK K
              refine mix_nil ?_
              have HB7 := Lib.hid (HBG.out.trans hcur)
              clear hcur p1 o1 x2 lp1 lo1 lx2
              go_wp2
              go_ret2
              exact HNO.out _ _ rfl HB7.out
            · have HSTEP1 := Lib.hid (show ∀ i c, 0 < i → i < n + 1 → c < t.C.toNat → StepOk t l i c from fun i c h1 h2 h3 => by
                by_cases e : i = n
                · rw [e]; exact HFI.out.1 hfb c h3
                · exact HSTEP.out i c h1 (by omega) h3)
              rw [hfb] at HFO
              clear hfb
              go_wp2
              refine wp_region_mixB (Plan.seq [0, 1, 2, 3, 4, 5, 6, 7, 8, 9, 10, 11, 12, 13, 14, 1015, 16, 17] .nil) (by kernel_rfl) (by kernel_rfl) (fun hcur => ?_)
              simp only [Plan.seq, Plan.fill, List.getD_cons_zero, List.getD_cons_succ, Nat.reduceLT, ↓reduceIte, Nat.reduceSub]
              apply mix_pure _ rfl
              · intro w' hw'
                have hcr := hw'.cells
                go_simp
                rfl
              intro K hK
              go_simp
              refine hK _ ?_
              clear hK K
              apply mix_pure _ rfl
              · intro w' hw'
                have hcr := hw'.cells
                go_simp
                rfl
              intro K hK
              go_simp
              refine hK _ ?_
              clear hK K
              apply mix_pure _ rfl
              · intro w' hw'
                have hcr := hw'.cells
                go_simp
                rfl
              intro K hK
              go_simp
              refine hK _ ?_
              clear hK K
              apply mix_pureG _ (by go_simp)
              · intro w' hw'
                have hcr := hw'.cells
                go_simp
                rfl
              intro K hK
              go_simp
              refine hK _ ?_
              clear hK K
              apply mix_pureG _ (by go_simp)
              · intro w' hw'
                have hcr := hw'.cells
                go_simp
                rfl
              intro K hK
              go_simp
              refine hK _ ?_
              clear hK K
              apply mix_pureG _ (by go_simp)
              · intro w' hw'
                have hcr := hw'.cells
                go_simp
                first | (rw [IntWalk.i64_in]; all_goals first | omega | rfl) | rfl
              intro K hK
              go_simp
              refine hK _ ?_
              clear hK K
              apply mix_pureG _ (by go_simp)
              · intro w' hw'
                have hcr := hw'.cells
                go_simp
                rfl
              intro K hK
              go_simp
              refine hK _ ?_
              clear hK K
              apply mix_pureG _ (by go_simp)
              · intro w' hw'
                have hcr := hw'.cells
                go_simp
                rfl
              intro K hK
              go_simp
              refine hK _ ?_
              clear hK K
              apply mix_pureG _ (by go_simp)
              · intro w' hw'
                have hcr := hw'.cells
                go_simp
                rfl
              intro K hK
              go_simp
              refine hK _ ?_
              clear hK K
              apply mix_pureG _ (by go_simp)
              · intro w' hw'
                have hcr := hw'.cells
                go_simp
                rfl
              intro K hK
              go_simp
              refine hK _ ?_
              clear hK K
              apply mix_pureG _ (by go_simp)
              · intro w' hw'
                have hcr := hw'.cells
                go_simp
                rfl
              intro K hK
              go_simp
              refine hK _ ?_
              clear hK K
              apply mix_pureG _ (by go_simp)
              · intro w' hw'
                have hcr := hw'.cells
                go_simp
                rfl
              intro K hK
              go_simp
              refine hK _ ?_
              clear hK K
              apply mix_pureG _ (by go_simp)
              · intro w' hw'
                have hcr := hw'.cells
                go_simp
                first | (rw [IntWalk.i64_in]; all_goals first | omega | rfl) | rfl
              intro K hK
              go_simp
              refine hK _ ?_
              clear hK K
              apply mix_pureG _ (by go_simp)
              · intro w' hw'
                have hcr := hw'.cells
                go_simp
                rfl
              intro K hK
              go_simp
              refine hK _ ?_
              clear hK K
              apply mix_pureG _ (by go_simp)
              · intro w' hw'
                have hcr := hw'.cells
                go_simp
                rfl
              intro K hK
              go_simp
              refine hK _ ?_
              clear hK K
              refine mix_actG (by go_simp) (fun K hK => ?_)
              go_simp
              refine (HFO.out _ (HBG.out.trans hcur)).mono ?_
              rintro e w7 ⟨rfl, hb⟩
              simp only []
              refine hK _ _ (hcur.trans hb) (fun hcur => ?_)
              clear hK K hb
              apply mix_pureG _ (by go_simp)
              · intro w' hw'
                have hcr := hw'.cells
                go_simp
                rfl
              intro K hK
              go_simp
              refine hK _ ?_
              clear hK K
              apply mix_pure _ rfl
              · intro w' hw'
                have hcr := hw'.cells
                go_simp
                rfl
              intro K hK
              go_simp
              refine hK _ ?_
              clear hK K
              refine mix_nil ?_
              have HB7 := Lib.hid (HB2.out.trans hcur)
              clear hcur p1 o1 x2 lp1 lo1 lx2
              go_wp2
              go_roundw
              case rel => exact ⟨n + 1, by omega, by go_num, HB7.out, HROW1.out, HSTEP1.out⟩
              case measure => simp [intOf]; omega
    · have hnl : n = l.length := by omega
      subst hnl
      have x3 := HB.out.cell HY.out.2.2.2
      go_wp2
      clear x3
      go_loopw [73] (fun i wi => ∃ k : Nat, k ≤ t.ws.length ∧ i = .int .i64 k ∧ Bel w1 wi ∧ ∀ j, j < k → (atW t.ws j).low ≤ at0 (atL l (atW t.ws j).time.toNat) (atW t.ws j).chamber.toNat ∧ at0 (atL l (atW t.ws j).time.toNat) (atW t.ws j).chamber.toNat ≤ (atW t.ws j).high) (fun i _ => t.ws.length - (intOf i).toNat)
      case atStart => exact ⟨0, by omega, rfl, HB.out, fun j hj => by omega⟩
      case round =>
        obtain ⟨k, hk, rfl, hB4, hws⟩ := hrel
        have HWS := Lib.hid hws
        have HB4 := Lib.hid hB4
        have HBF := Lib.hid (HB1.out.trans HB4.out)
        clear hws hB4
        by_cases hltk : k < t.ws.length
        · obtain ⟨c0, c1, c2, c3⟩ := HWC.out k hltk
          replace c0 := HBF.out.cell c0
          replace c1 := HBF.out.cell c1
          replace c2 := HBF.out.cell c2
          replace c3 := HBF.out.cell c3
          obtain ⟨⟨w1', w2⟩, ⟨w3, w4⟩, _⟩ := HF.out.word k hltk
          generalize hx : atW t.ws k = x at *
          have HX := Lib.hid hx
          clear hx
          obtain ⟨ti, hti⟩ : ∃ ti : Nat, x.time = ti := ⟨x.time.toNat, by omega⟩
          obtain ⟨ci, hci⟩ : ∃ ci : Nat, x.chamber = ci := ⟨x.chamber.toNat, by omega⟩
          rw [hti] at c0 w1' w2
          rw [hci] at c1 w3 w4
          have htl : ti < l.length := by have := HTL.out; omega
          obtain ⟨e1, ra, rc, rb, roff, er, hra, ⟨hrl, hrc⟩, hcell⟩ := HNC.out ti htl
          rw [er] at e1
          have hcl : ci < (atL l ti).length := by have hrlen := (HROW.out ti htl).len; omega
          have e2 := hcell ci hcl
          replace e1 := HBF.out.cell e1
          replace e2 := HBF.out.cell e2
          have hixk := idxInts (c := rc) hra
          have HVX := Lib.hid (show at0 (atL l x.time.toNat) x.chamber.toNat = at0 (atL l ti) ci by rw [hti, hci]; rfl)
          have htli : (ti : Int) < (l.length : Int) := by omega
          have hcli : (ci : Int) < ((atL l ti).length : Int) := by omega
          generalize at0 (atL l ti) ci = val at *
          generalize (atL l ti).length = rl at *
          clear er hra hcell hti hci w2 w4
          go_wp2
          generalize hWb : wr.alloc _ = Wb
          have hBb : Bel wr Wb := by rw [← hWb]; exact (Bel.refl wr).alloc _
          have b0 : Wb.cell? ⟨wr.heap.size, 0, none⟩ = some (.int .i64 ti) := by rw [← hWb]; exact (row_facts (new_row rfl)).1 0
          have b1 : Wb.cell? ⟨wr.heap.size, 1, none⟩ = some (.int .i64 ci) := by rw [← hWb]; exact (row_facts (new_row rfl)).1 1
          have b2 : Wb.cell? ⟨wr.heap.size, 2, none⟩ = some (.int .i64 x.low) := by rw [← hWb]; exact (row_facts (new_row rfl)).1 2
          have b3 : Wb.cell? ⟨wr.heap.size, 3, none⟩ = some (.int .i64 x.high) := by rw [← hWb]; exact (row_facts (new_row rfl)).1 3
          replace e1 := hBb.cell e1
          replace e2 := hBb.cell e2
          have HBB := Lib.hid (HB4.out.trans hBb)
          have HBG := Lib.hid (HBF.out.trans hBb)
          clear hWb hBb c0 c1 c2 c3
          have HWI := Lib.hid (fun wx => (within_any val x.low x.high wx).mono (R' := fun e w' => e = .returned (.bool (withinB val x.low x.high)) ∧ w' = wx) fun e w' h => ⟨h.1, h.2.symm⟩)
          have HWB := Lib.hid (show withinB val x.low x.high = true ↔ x.low ≤ val ∧ val ≤ x.high from withinB_true)
          generalize withinB val x.low x.high = bw at *
          go_quiet (first
            | (go_at_call 80; refine Calls.quiet_of_same (HWI.out _)))
          cases bw
          · have HNO := Lib.hid (HNOT.out (show ¬ IsT t l from fun h => by
              have h1 := h.word k hltk
              rw [HX.out, HVX.out] at h1
              have := HWB.out.2 h1
              cases this))
            go_wp2
            go_ret2
            exact HNO.out _ _ rfl (HBG.out.drewN _)
          · have HN1 := Lib.hid (show ∀ j, j < k + 1 → (atW t.ws j).low ≤ at0 (atL l (atW t.ws j).time.toNat) (atW t.ws j).chamber.toNat ∧ at0 (atL l (atW t.ws j).time.toNat) (atW t.ws j).chamber.toNat ≤ (atW t.ws j).high from fun j hj => by
              by_cases e : j = k
              · rw [e, HX.out, HVX.out]; exact HWB.out.1 rfl
              · exact HWS.out j (by omega))
            go_wp2
            go_roundw
            case rel => exact ⟨k + 1, by omega, by go_num, HBB.out.drewN _, HN1.out⟩
            case measure => simp [intOf]; omega
        · have HIS := Lib.hid (HYES.out (show IsT t l from ⟨HTL.out, fun i hi => HROW.out i (by have := HTL.out; omega), fun i c h1 h2 h3 => HSTEP.out i c h1 (by have := HTL.out; omega) h3, fun j hj => HWS.out j (by omega)⟩))
          go_wp2
          go_ret2
          exact HIS.out _ _ rfl HBF.out
theorem RHolds_any (t : CT) (v vl : Value) (l : List (List Int)) (w : World) (hv : TrapAt w v t) (hl : RowsAt w vl l) :
    Calls Try.prog 66 #[v, vl] w fun e w' => ∃ b : Bool, e = .returned (.tuple #[.bool b, .int .i64 (chk t)]) ∧ (b = true ↔ validB t = true ∧ IsT t l) ∧ Bel w w' := by
  have HCK := Lib.hid (fun wx hx => RCheck_any t v wx hx)
  have HL := Lib.hid hl
  have HIT := Lib.hid (fun hval wx hx hy => IsTruth_any t v vl l wx hx hy hval)
  have HV := Lib.hid hv
  obtain ⟨ov, wv, rfl, ⟨a, cc, b, off, rv, rfl, _⟩, ⟨wa, wc, wb, woff, rfl, _⟩⟩ := hv
  clear hl
  by_cases hval : validB t = true
  · have hck := chk_true hval
    have HP := Lib.hid (show ∀ (b : Bool) (e : Ending) (w' : World), e = .returned (.tuple #[.bool b, .int .i64 0]) → (b = true ↔ IsT t l) → Bel w w' → ∃ b : Bool, e = .returned (.tuple #[.bool b, .int .i64 (chk t)]) ∧ (b = true ↔ validB t = true ∧ IsT t l) ∧ Bel w w' from
      fun b e w' h1 h2 h3 => ⟨b, by rw [h1, hck], ⟨fun q => ⟨hval, h2.1 q⟩, fun q => h2.2 q.2⟩, h3⟩)
    replace HIT := Lib.hid (HIT.out hval)
    rw [hck] at HCK
    clear hck hval
    go_enter Try.func66, Try.ntmps66
    go_wp2_with fail
    refine (HCK.out _ (HV.out.bel (by repeat (first | assumption | exact Bel.refl _ | refine Bel.drew ?_ | refine Bel.drewN ?_ _ | refine Bel.alloc ?_ _ | refine Bel.setCell ?_ (by simp <;> omega) _ | refine Bel.trans ?_ (by assumption))))).mono ?_
    rintro e w1 ⟨rfl, hb⟩
    have x0 : w1.cell? ⟨w.heap.size, 0, none⟩ = some (.int .i64 t.C) := hb.cell ((row_facts (new_row rfl)).1 0)
    have x1 : w1.cell? ⟨w.heap.size, 1, none⟩ = some (.int .i64 t.T) := hb.cell ((row_facts (new_row rfl)).1 1)
    have x2 : w1.cell? ⟨w.heap.size, 2, none⟩ = some (.slice a t.op.length cc) := hb.cell ((row_facts (new_row rfl)).1 2)
    have x3 : w1.cell? ⟨w.heap.size, 3, none⟩ = some (.slice wa t.ws.length wc) := hb.cell ((row_facts (new_row rfl)).1 3)
    have HB1 := Lib.hid (show Bel w w1 from Bel.trans (by repeat (first | assumption | exact Bel.refl _ | refine Bel.drew ?_ | refine Bel.drewN ?_ _ | refine Bel.alloc ?_ _ | refine Bel.setCell ?_ (by simp <;> omega) _ | refine Bel.trans ?_ (by assumption))) hb)
    clear hb
    go_wp2_with fail
    refine (HIT.out _ (HV.out.bel HB1.out) (HL.out.bel HB1.out)).mono ?_
    rintro e w2 ⟨b, rfl, hb, hb2⟩
    have HB2 := Lib.hid (HB1.out.trans hb2)
    have HBB := Lib.hid hb
    clear hb hb2
    go_wp2
    go_ret2
    exact HP.out _ _ _ rfl HBB.out HB2.out
  · have hval : validB t = false := by simpa using hval
    have hck := chk_false hval
    have HP := Lib.hid (show ∀ (e : Ending) (w' : World), e = .returned (.tuple #[.bool false, .int .i64 10]) → Bel w w' → ∃ b : Bool, e = .returned (.tuple #[.bool b, .int .i64 (chk t)]) ∧ (b = true ↔ validB t = true ∧ IsT t l) ∧ Bel w w' from
      fun e w' h1 h3 => ⟨false, by rw [h1, hck], ⟨(fun h => by cases h), fun q => by rw [hval] at q; cases q.1⟩, h3⟩)
    rw [hck] at HCK
    clear hck hval HIT
    go_enter Try.func66, Try.ntmps66
    go_wp2_with fail
    refine (HCK.out _ (HV.out.bel (by repeat (first | assumption | exact Bel.refl _ | refine Bel.drew ?_ | refine Bel.drewN ?_ _ | refine Bel.alloc ?_ _ | refine Bel.setCell ?_ (by simp <;> omega) _ | refine Bel.trans ?_ (by assumption))))).mono ?_
    rintro e w1 ⟨rfl, hb⟩
    have HB1 := Lib.hid (show Bel w w1 from Bel.trans (by repeat (first | assumption | exact Bel.refl _ | refine Bel.drew ?_ | refine Bel.drewN ?_ _ | refine Bel.alloc ?_ _ | refine Bel.setCell ?_ (by simp <;> omega) _ | refine Bel.trans ?_ (by assumption))) hb)
    clear hb
    go_wp2
    go_ret2
    exact HP.out _ _ rfl HB1.out
end Go.Proofs.Ytoiajjdhgffdaaa
