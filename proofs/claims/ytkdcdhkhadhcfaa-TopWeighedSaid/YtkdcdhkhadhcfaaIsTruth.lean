/-
  reference: IsTruth.
-/
import Derived.Test.YtkdcdhkhadhcfaaBehind
import Derived.Test.YtkdcdhkhadhcfaaIsT
import Derived.Deep.QuietTactic
import Derived.BigQuiet
namespace Go.Proofs.Ytkdcdhkhadhcfaa
open Go Go.RowKit
set_option maxHeartbeats 4000000
set_option maxRecDepth 100000
theorem rowOk_of {t : CT} {l : List Int} (h1 : l.length = t.C.toNat) (h2 : ∀ c, c < l.length → 0 ≤ at0 l c ∧ at0 l c ≤ 40) (h3 : behOf l 0 ≤ 40) : RowOk t l := ⟨h1, fun c hc => h2 c (by omega), h3⟩
theorem IsTruth_any (t : CT) (v vl : Value) (l : List (List Int)) (w : World) (hv : TrapAt w v t) (hl : RowsAt w vl l) (hval : validB t = true) :
    Calls Try.prog 21 #[v, vl] w fun e w' => ∃ b, e = .returned (.bool b) ∧ (b = true ↔ IsT t l) ∧ Bel w w' := by
  have HF := Lib.hid (fit_of_valid hval)
  obtain ⟨f1, f2, f3, f4, f5, _⟩ := fit_of_valid hval
  obtain ⟨ov, wv, rfl, ⟨a, cc, b, off, rv, rfl, ha, hlen, hc⟩, ⟨wa, wc, wb, woff, rfl, hwa, hwlen, hwc⟩⟩ := hv
  obtain ⟨an, cn, bn, offn, rn, rfl, han, hnlen, hnc⟩ := hl
  have hixr := idxRows (c := cc) ha
  have hixn := idxRows (c := cn) han
  have hixw := idxWords (c := wc) hwa
  have HC := Lib.hid hc
  have HWC := Lib.hid hwc
  have HNC := Lib.hid hnc
  have HLO := Lib.hid (show t.op.length = t.T.toNat - 1 by omega)
  clear ha hwa hc hwc han hnc f5 hval
  by_cases hT : (l.length : Int) = t.T
  rotate_left
  · have HNO := Lib.hid (show ¬ IsT t l from fun h => by have := h.len; omega)
    have hb : ((l.length : Int) != t.T) = true := by rw [bne_iff_ne]; exact hT
    clear hT
    go_enter Try.func21, Try.ntmps21
    go_wp2
    go_ret
    exact ⟨false, rfl, ⟨(fun h => by cases h), fun h => absurd h HNO.out⟩, (by repeat (first | assumption | exact Bel.refl _ | refine Bel.drew ?_ | refine Bel.drewN ?_ _ | refine Bel.alloc ?_ _ | refine Bel.setCell ?_ (by simp <;> omega) _ | refine Bel.trans ?_ (by assumption)))⟩
  have hb : ((l.length : Int) != t.T) = false := by rw [hT]; simp
  have HTL := Lib.hid (show l.length = t.T.toNat by omega)
  clear hT
  go_enter Try.func21, Try.ntmps21
  go_wp2
  generalize hWa : w.alloc _ = Wa
  have hBa : Bel w Wa := by rw [← hWa]; exact (Bel.refl w).alloc _
  have HY := Lib.hid (show Wa.cell? ⟨w.heap.size, 0, none⟩ = some (.int .i64 t.C) ∧ Wa.cell? ⟨w.heap.size, 1, none⟩ = some (.int .i64 t.T) ∧ Wa.cell? ⟨w.heap.size, 2, none⟩ = some (.slice a t.op.length cc) ∧ Wa.cell? ⟨w.heap.size, 3, none⟩ = some (.slice wa t.ws.length wc) from by
    rw [← hWa]; exact ⟨(row_facts (new_row rfl)).1 0, (row_facts (new_row rfl)).1 1, (row_facts (new_row rfl)).1 2, (row_facts (new_row rfl)).1 3⟩)
  have HBA := Lib.hid hBa
  clear hWa hBa hb
  go_loopw [5] (fun i wr => ∃ n : Nat, n ≤ l.length ∧ i = .int .i64 n ∧ Bel Wa wr ∧ (∀ i, i < n → RowOk t (atL l i)) ∧ (∀ i c, 0 < i → i < n → c < t.C.toNat → StepOk t l i c)) (fun i _ => l.length - (intOf i).toNat)
  case atStart => exact ⟨0, by omega, rfl, Bel.refl _, fun i hi => by omega, fun i c _ hi _ => by omega⟩
  case round =>
    obtain ⟨n, hn, rfl, hB, hrow, hstep⟩ := hrel
    have HROW := Lib.hid hrow
    have HSTEP := Lib.hid hstep
    have HB := Lib.hid hB
    clear hrow hstep
    by_cases hlt : n < l.length
    · obtain ⟨e1, hi1⟩ := HNC.out n hlt
      obtain ⟨ra, rc, rb, roff, er, hra, ⟨hrl, hrc⟩, hcell⟩ := hi1
      rw [er] at e1
      have hIT : IntsAt w (.slice ra (atL l n).length rc) (atL l n) := ⟨ra, rc, rb, roff, rfl, hra, ⟨hrl, hrc⟩, hcell⟩
      have HRI := Lib.hid hIT
      replace e1 := (HBA.out.trans HB.out).cell e1
      have hixk := idxInts (c := rc) hra
      have x0 := HB.out.cell HY.out.1
      obtain ⟨row, hrw⟩ : ∃ row, row = atL l n := ⟨_, rfl⟩
      rw [← hrw] at e1 hrl hrc hcell hixk HRI
      have HCELL := Lib.hid hcell
      have HRW := Lib.hid hrw
      have HER := Lib.hid er
      clear hrw hcell hra hIT er
      by_cases hlc : (row.length : Int) = t.C
      rotate_left
      · have HNO := Lib.hid (show ¬ IsT t l from fun h => by have h1 := (h.row n (by have := HTL.out; omega)).len; rw [← HRW.out] at h1; omega)
        have hb : ((row.length : Int) != t.C) = true := by rw [bne_iff_ne]; exact hlc
        clear hlc
        go_wp2
        refine wp_region_mixD (Plan.seq [0, 1, 2, 3, 4, 5, 6, 7] .nil) (by kernel_rfl) (by kernel_rfl) (fun hcur => ?_)
        simp only [Plan.seq, Plan.fill, List.getD_cons_zero, List.getD_cons_succ, Nat.reduceLT, ↓reduceIte]
        apply mix_pure _ rfl
        · intro w' hw'
          obtain ⟨n, rfl⟩ := hw'
          go_simp
          rfl
        intro K hK
        go_simp
        refine hK _ ?_
        clear hK K
        apply mix_pure _ rfl
        · intro w' hw'
          obtain ⟨n, rfl⟩ := hw'
          go_simp
          rfl
        intro K hK
        go_simp
        refine hK _ ?_
        clear hK K
        apply mix_pure _ rfl
        · intro w' hw'
          obtain ⟨n, rfl⟩ := hw'
          go_simp
          rfl
        intro K hK
        go_simp
        refine hK _ ?_
        clear hK K
        apply mix_pure _ rfl
        · intro w' hw'
          obtain ⟨n, rfl⟩ := hw'
          go_simp
          rfl
        intro K hK
        go_simp
        refine hK _ ?_
        clear hK K
        apply mix_pure _ rfl
        · intro w' hw'
          obtain ⟨n, rfl⟩ := hw'
          go_simp
          rfl
        intro K hK
        go_simp
        refine hK _ ?_
        clear hK K
        apply mix_pure _ rfl
        · intro w' hw'
          obtain ⟨n, rfl⟩ := hw'
          go_simp
          rfl
        intro K hK
        go_simp
        refine hK _ ?_
        clear hK K
        apply mix_pure _ rfl
        · intro w' hw'
          obtain ⟨n, rfl⟩ := hw'
          go_simp
          rfl
        intro K hK
        go_simp
        refine hK _ ?_
        clear hK K
        apply mix_pure _ rfl
        · intro w' hw'
          obtain ⟨n, rfl⟩ := hw'
          go_simp
          rfl
        intro K hK
        go_simp
        refine hK _ ?_
        clear hK K
        refine mix_nil ?_
        go_wp2
        go_ret
        exact ⟨false, rfl, ⟨(fun h => by cases h), fun h => absurd h HNO.out⟩, (HBA.out.trans HB.out).drew⟩
      have hb : ((row.length : Int) != t.C) = false := by rw [hlc]; simp
      have HLC := Lib.hid hlc
      clear hlc
      go_wp2
      refine wp_region_mixD (Plan.seq [0, 1, 2, 3, 4, 5, 6, 7] .nil) (by kernel_rfl) (by kernel_rfl) (fun hcur => ?_)
      simp only [Plan.seq, Plan.fill, List.getD_cons_zero, List.getD_cons_succ, Nat.reduceLT, ↓reduceIte]
      apply mix_pure _ rfl
      · intro w' hw'
        obtain ⟨n, rfl⟩ := hw'
        go_simp
        rfl
      intro K hK
      go_simp
      refine hK _ ?_
      clear hK K
      apply mix_pure _ rfl
      · intro w' hw'
        obtain ⟨n, rfl⟩ := hw'
        go_simp
        rfl
      intro K hK
      go_simp
      refine hK _ ?_
      clear hK K
      apply mix_pure _ rfl
      · intro w' hw'
        obtain ⟨n, rfl⟩ := hw'
        go_simp
        rfl
      intro K hK
      go_simp
      refine hK _ ?_
      clear hK K
      apply mix_pure _ rfl
      · intro w' hw'
        obtain ⟨n, rfl⟩ := hw'
        go_simp
        rfl
      intro K hK
      go_simp
      refine hK _ ?_
      clear hK K
      apply mix_pure _ rfl
      · intro w' hw'
        obtain ⟨n, rfl⟩ := hw'
        go_simp
        rfl
      intro K hK
      go_simp
      refine hK _ ?_
      clear hK K
      apply mix_pure _ rfl
      · intro w' hw'
        obtain ⟨n, rfl⟩ := hw'
        go_simp
        rfl
      intro K hK
      go_simp
      refine hK _ ?_
      clear hK K
      apply mix_pure _ rfl
      · intro w' hw'
        obtain ⟨n, rfl⟩ := hw'
        go_simp
        rfl
      intro K hK
      go_simp
      refine hK _ ?_
      clear hK K
      apply mix_pure _ rfl
      · intro w' hw'
        obtain ⟨n, rfl⟩ := hw'
        go_simp
        rfl
      intro K hK
      go_simp
      refine hK _ ?_
      clear hK K
      refine mix_nil ?_
      clear hb x0
      go_wp2
      rename World => wo
      go_loopw [6] (fun c wi => ∃ k : Nat, k ≤ row.length ∧ c = .int .i64 k ∧ Bel Wa wi ∧ ∀ j, j < k → 0 ≤ at0 row j ∧ at0 row j ≤ 40) (fun c _ => row.length - (intOf c).toNat)
      case atStart => exact ⟨0, by omega, rfl, HB.out.drew, fun j hj => by omega⟩
      case round =>
        clear e1 hB
        obtain ⟨k, hk, rfl, hB2, hnum⟩ := hrel
        have HNUM := Lib.hid hnum
        have HB2 := Lib.hid hB2
        have e1 := (HBA.out.trans HB2.out).cell ((HNC.out n hlt).1.trans (by rw [HER.out]))
        rw [← HRW.out] at e1
        clear hnum hB2
        by_cases hltk : k < row.length
        · have hck := (HBA.out.trans HB2.out).cell (HCELL.out k hltk)
          have HX := Lib.hid (show ∀ x, x = at0 row k → (withinB x 0 40 = true ↔ 0 ≤ at0 row k ∧ at0 row k ≤ 40) from fun x e => by rw [e, withinB_true])
          generalize hx : at0 row k = x at *
          cases hwb : withinB x 0 40
          · have HNO := Lib.hid (show ¬ IsT t l from fun h => by
              have h1 := (h.row n (by have := HTL.out; omega)).num k (by have := HLC.out; omega)
              rw [← HRW.out, hx] at h1
              rw [(HX.out x rfl).2 h1] at hwb; cases hwb)
            have HXX := Lib.hid hx
            clear hx
            go_wp2_with (go_at_call 20; refine (Within_any _ _ _ _).mono ?_; rintro e w' ⟨rfl, rfl⟩)
            go_ret
            exact ⟨false, rfl, ⟨(fun h => by cases h), fun h => absurd h HNO.out⟩, HBA.out.trans HB2.out⟩
          · have HN1 := Lib.hid (show ∀ j, j < k + 1 → 0 ≤ at0 row j ∧ at0 row j ≤ 40 from fun j hj => by
              by_cases e : j = k
              · rw [e, hx]; exact (HX.out x rfl).1 hwb
              · exact HNUM.out j (by omega))
            clear hx HX
            go_wp2_with (go_at_call 20; refine (Within_any _ _ _ _).mono ?_; rintro e w' ⟨rfl, rfl⟩)
            go_roundw
            case rel => exact ⟨k + 1, by omega, by go_num, HB2.out, HN1.out⟩
            case measure => simp [intOf]; omega
        · have HN2 := Lib.hid (show ∀ j, j < row.length → 0 ≤ at0 row j ∧ at0 row j ≤ 40 from fun j hj => HNUM.out j (by omega))
          have HBH := Lib.hid (fun wx (hx : Bel w wx) (c : Nat) (hc : c ≤ row.length) => Behind_any _ row c wx (HRI.out.bel hx) hc (fun x hx => by obtain ⟨j, hj, e⟩ := mem_getD row x 0 hx; rw [← e]; exact HN2.out j hj) (by have := HLC.out; omega))
          have HBH0 := Lib.hid (fun wx (hx : Bel w wx) => (show Calls Try.prog 50 #[.slice ra row.length rc, .int .i64 0] wx (fun e w' => e = .returned (.int .i64 (behOf row 0)) ∧ wx = w') from HBH.out wx hx 0 (Nat.zero_le _)))
          generalize hbz : behOf row 0 = bz at *
          have HBZ := Lib.hid hbz
          clear hbz
          by_cases hbig : 40 < bz
          · have HNO := Lib.hid (show ¬ IsT t l from fun h => by
              have h1 := (h.row n (by have := HTL.out; omega)).all
              rw [← HRW.out, HBZ.out] at h1
              omega)
            go_wp2_with (go_at_call 50; refine (HBH0.out _ (HBA.out.trans HB2.out)).mono ?_; rintro e w' ⟨rfl, rfl⟩)
            go_ret
            exact ⟨false, rfl, ⟨(fun h => by cases h), fun h => absurd h HNO.out⟩, HBA.out.trans HB2.out⟩
          · have HOK := Lib.hid (show RowOk t row from rowOk_of (by have := HLC.out; omega) HN2.out (by rw [HBZ.out]; omega))
            go_wp2_with (go_at_call 50; refine (HBH0.out _ (HBA.out.trans HB2.out)).mono ?_; rintro e w' ⟨rfl, rfl⟩)
            clear e1 hbig
            rename World => wp
            go_loopw [7] (fun c wi => ∃ k : Nat, k ≤ t.C.toNat ∧ c = .int .i64 k ∧ Bel Wa wi ∧ ∀ j, j < k → 0 < n → StepOk t l n j) (fun c _ => t.C.toNat - (intOf c).toNat)
            case atStart => exact ⟨0, by omega, rfl, HB2.out, fun j hj => by omega⟩
            case round =>
              obtain ⟨k, hk, rfl, hB3, hst⟩ := hrel
              have HST := Lib.hid hst
              have HB3 := Lib.hid hB3
              have x0 := HB3.out.cell HY.out.1
              clear hst hB3
              have HROW1 := Lib.hid (show ∀ i, i < n + 1 → RowOk t (atL l i) from fun i hi => by
                by_cases e : i = n
                · rw [e, ← HRW.out]; exact HOK.out
                · exact HROW.out i (by omega))
              have HBF := Lib.hid (HBA.out.trans HB3.out)
              by_cases hltk : k < t.C.toNat
              · have hki : (k : Int) < t.C := by omega
                by_cases hn0 : n = 0
                · have hni : decide ((0 : Int) < (n : Int)) = false := by simp [hn0]
                  have hni3 : ¬ 0 < n := by omega
                  have HSTEP1 := Lib.hid (show ∀ i c, 0 < i → i < n + 1 → c < t.C.toNat → StepOk t l i c from fun i c h1 h2 h3 => by omega)
                  clear hn0
                  go_wp2
                  go_roundw
                  case rel => exact ⟨n + 1, by omega, by go_num, HB3.out, HROW1.out, HSTEP1.out⟩
                  case measure => simp [intOf]; omega
                · have hni : decide ((0 : Int) < (n : Int)) = true := by simp; omega
                  have hni1 : (0 : Int) < (n : Int) := by omega
                  have hni2 : 0 < n := by omega
                  have ek : (n : Int) - 1 = ((n - 1 : Nat) : Int) := by omega
                  have hn1 : n - 1 < l.length := by omega
                  have hn1i : ((n - 1 : Nat) : Int) < (l.length : Int) := by omega
                  have hlti : (n : Int) < (l.length : Int) := by omega
                  have HN0 := Lib.hid hn0
                  have e1 := HBF.out.cell ((HNC.out n hlt).1.trans (by rw [HER.out]))
                  rw [← HRW.out] at e1
                  obtain ⟨p1, hp⟩ := HNC.out (n - 1) hn1
                  obtain ⟨pa, pc, pb, poff, per, hpa, hpl, hpcell⟩ := hp
                  have HPI := Lib.hid (show IntsAt w (.slice pa (atL l (n - 1)).length pc) (atL l (n - 1)) from ⟨pa, pc, pb, poff, rfl, hpa, hpl, hpcell⟩)
                  rw [per] at p1
                  replace p1 := HBF.out.cell p1
                  have HPOK := Lib.hid (HROW.out (n - 1) (by omega))
                  have HSD := Lib.hid (show StepOk t l n k ↔ 0 ≤ behOf row k - behOf (atL l (n - 1)) k ∧ (0 < behOf row k - behOf (atL l (n - 1)) k → inB (atL t.op (n - 1)) k = true) from by rw [HRW.out]; exact Iff.rfl)
                  obtain ⟨prev, hpv⟩ : ∃ prev, prev = atL l (n - 1) := ⟨_, rfl⟩
                  rw [← hpv] at p1 HPI HPOK HSD
                  have HBK := Lib.hid (fun wx (hx : Bel w wx) => (Behind_any _ row k wx (HRI.out.bel hx) (by have := HLC.out; omega) (fun x hx => by obtain ⟨j, hj, e⟩ := mem_getD row x 0 hx; rw [← e]; exact HN2.out j hj) (by have := HLC.out; omega)).mono (R' := fun e w' => e = .returned (.int .i64 (behOf row k)) ∧ w' = wx) fun e w' h => ⟨h.1, h.2.symm⟩)
                  have HBP := Lib.hid (fun wx (hx : Bel w wx) => (Behind_any _ prev k wx (HPI.out.bel hx) (by rw [HPOK.out.len]; omega) (fun x hx => by obtain ⟨j, hj, e⟩ := mem_getD prev x 0 hx; rw [← e]; exact HPOK.out.num j (by rw [← HPOK.out.len]; exact hj)) (by rw [HPOK.out.len]; omega)).mono (R' := fun e w' => e = .returned (.int .i64 (behOf prev k)) ∧ w' = wx) fun e w' h => ⟨h.1, h.2.symm⟩)
                  obtain ⟨g1, g2⟩ := HOK.out.beh_bounds k hk
                  obtain ⟨g3, g4⟩ := HPOK.out.beh_bounds k hk
                  have g5 := HOK.out.all
                  have g6 := HPOK.out.all
                  generalize behOf row k = bk at *
                  generalize behOf prev k = pk at *
                  have hno : n - 1 < t.op.length := by have := HLO.out; have := HTL.out; omega
                  have hnoi : ((n - 1 : Nat) : Int) < (t.op.length : Int) := by omega
                  have x2 := HB3.out.cell HY.out.2.2.1
                  have o1 := HBF.out.cell (HC.out (n - 1) hno).1
                  have HOI := Lib.hid (HC.out (n - 1) hno).2
                  replace g2 : bk ≤ 40 := Int.le_trans g2 g5
                  replace g4 : pk ≤ 40 := Int.le_trans g4 g6
                  clear per hpa hpl hpcell hpv hn0 g5 g6
                  go_wp2
                  go_quiet (first
                    | (go_at_call 50; refine Calls.quiet_of_same (HBK.out _ (HBF.out.drewN _)))
                    | (go_at_call 50; refine Calls.quiet_of_same (HBP.out _ (HBF.out.drewN _))))
                  generalize hd : bk - pk = d at HSD ⊢
                  have HST1 : StepOk t l n k → Hid (∀ j, j < k + 1 → 0 < n → StepOk t l n j) := fun q => Lib.hid fun j hj h0 => by
                    by_cases e : j = k
                    · rw [e]; exact q
                    · exact HST.out j (by omega) h0
                  have hd1 : -40 ≤ d := by omega
                  have hd2 : d ≤ 40 := by omega
                  clear hd g1 g2 g3 g4 e1 p1
                  by_cases d1 : d < 0
                  · have HNO := Lib.hid (show ¬ IsT t l from fun h => by
                      have h1 := HSD.out.1 (h.step n k (by have := HN0.out; omega) (by have := HTL.out; omega) hltk)
                      omega)
                    have q1 : decide (d < 0) = true := by simpa using d1
                    clear HST1
                    go_wp2
                    go_ret
                    exact ⟨false, rfl, ⟨(fun h => by cases h), fun h => absurd h HNO.out⟩, HBF.out.drewN _⟩
                  · have q1 : decide (d < 0) = false := by simpa using d1
                    by_cases d2 : 0 < d
                    · cases hin : inB (atL t.op (n - 1)) k
                      · have HNO := Lib.hid (show ¬ IsT t l from fun h => by
                          have h1 := (HSD.out.1 (h.step n k (by have := HN0.out; omega) (by have := HTL.out; omega) hltk)).2 d2
                          rw [hin] at h1; cases h1)
                        have HIN := Lib.hid (fun wx (hx : Bel w wx) => (In_any _ (atL t.op (n - 1)) k wx (HOI.out.bel hx)).mono (R' := fun e w' => e = .returned (.bool false) ∧ wx = w') fun e w' h => ⟨by rw [h.1, hin], h.2⟩)
                        have q2 : decide (0 < d) = true := by simpa using d2
                        clear HST1 hin
                        go_wp2_with (go_at_call 34; refine (HIN.out _ (HBF.out.drewN _)).mono ?_; rintro e w' ⟨rfl, rfl⟩)
                        go_ret
                        exact ⟨false, rfl, ⟨(fun h => by cases h), fun h => absurd h HNO.out⟩, HBF.out.drewN _⟩
                      · have HS1 := HST1 (HSD.out.2 ⟨by omega, fun _ => hin⟩)
                        have HIN := Lib.hid (fun wx (hx : Bel w wx) => (In_any _ (atL t.op (n - 1)) k wx (HOI.out.bel hx)).mono (R' := fun e w' => e = .returned (.bool true) ∧ wx = w') fun e w' h => ⟨by rw [h.1, hin], h.2⟩)
                        have q2 : decide (0 < d) = true := by simpa using d2
                        clear HST1 hin
                        go_wp2_with (go_at_call 34; refine (HIN.out _ (HBF.out.drewN _)).mono ?_; rintro e w' ⟨rfl, rfl⟩)
                        go_roundw
                        case rel => exact ⟨k + 1, by omega, by go_num, HB3.out.drewN _, HS1.out⟩
                        case measure => simp [intOf]; omega
                    · have HS1 := HST1 (HSD.out.2 ⟨by omega, fun h => absurd h d2⟩)
                      have q2 : decide (0 < d) = false := by simpa using d2
                      clear HST1
                      go_wp2
                      go_roundw
                      case rel => exact ⟨k + 1, by omega, by go_num, HB3.out.drewN _, HS1.out⟩
                      case measure => simp [intOf]; omega
              · have hki : ¬ (k : Int) < t.C := by omega
                have HSTEP1 := Lib.hid (show ∀ i c, 0 < i → i < n + 1 → c < t.C.toNat → StepOk t l i c from fun i c h1 h2 h3 => by
                  by_cases e : i = n
                  · rw [e]; exact HST.out c (by omega) (by omega)
                  · exact HSTEP.out i c h1 (by omega) h3)
                go_wp2
                go_roundw
                case rel => exact ⟨n + 1, by omega, by go_num, HB3.out, HROW1.out, HSTEP1.out⟩
                case measure => simp [intOf]; omega
    · have hnl : n = l.length := by omega
      subst hnl
      have x3 := HB.out.cell HY.out.2.2.2
      clear hB
      go_wp2
      clear x3
      go_loopw [9] (fun i wi => ∃ k : Nat, k ≤ t.ws.length ∧ i = .int .i64 k ∧ Bel Wa wi ∧ ∀ j, j < k → (atW t.ws j).low ≤ at0 (atL l (atW t.ws j).time.toNat) (atW t.ws j).chamber.toNat ∧ at0 (atL l (atW t.ws j).time.toNat) (atW t.ws j).chamber.toNat ≤ (atW t.ws j).high) (fun i _ => t.ws.length - (intOf i).toNat)
      case atStart => exact ⟨0, by omega, rfl, HB.out, fun j hj => by omega⟩
      case round =>
        obtain ⟨k, hk, rfl, hB4, hws⟩ := hrel
        have HWS := Lib.hid hws
        have HB4 := Lib.hid hB4
        have x3 := HB4.out.cell HY.out.2.2.2
        have HBF := Lib.hid (HBA.out.trans HB4.out)
        clear hws hB4
        by_cases hltk : k < t.ws.length
        · obtain ⟨c0, c1, c2, c3⟩ := HWC.out k hltk
          replace c0 := HBF.out.cell c0
          replace c1 := HBF.out.cell c1
          replace c2 := HBF.out.cell c2
          replace c3 := HBF.out.cell c3
          obtain ⟨⟨w1, w2⟩, ⟨w3, w4⟩, _⟩ := HF.out.word k hltk
          have HWX := Lib.hid (show ∀ x, x = atW t.ws k → x = atW t.ws k from fun _ h => h)
          generalize hx : atW t.ws k = x at *
          have HX := Lib.hid hx
          clear hx
          obtain ⟨ti, hti⟩ : ∃ ti : Nat, x.time = ti := ⟨x.time.toNat, by omega⟩
          obtain ⟨ci, hci⟩ : ∃ ci : Nat, x.chamber = ci := ⟨x.chamber.toNat, by omega⟩
          rw [hti] at c0 w1 w2
          rw [hci] at c1 w3 w4
          have htl : ti < l.length := by have := HTL.out; omega
          obtain ⟨e1, ra, rc, rb, roff, er, hra, ⟨hrl, hrc⟩, hcell⟩ := HNC.out ti htl
          rw [er] at e1
          have hcl : ci < (atL l ti).length := by have hrlen := (HROW.out ti htl).len; omega
          have e2 := hcell ci hcl
          replace e1 := HBF.out.cell e1
          replace e2 := HBF.out.cell e2
          have hixk := idxInts (c := rc) hra
          have HV := Lib.hid (show at0 (atL l x.time.toNat) x.chamber.toNat = at0 (atL l ti) ci by rw [hti, hci]; rfl)
          have htli : (ti : Int) < (l.length : Int) := by omega
          have hcli : (ci : Int) < ((atL l ti).length : Int) := by omega
          generalize at0 (atL l ti) ci = val at *
          generalize (atL l ti).length = rl at *
          clear er hra hcell hti hci w2 w4
          go_wp2
          generalize hWb : wr.alloc _ = Wb
          have hBb : Bel wr Wb := by rw [← hWb]; exact (Bel.refl wr).alloc _
          have b0 : Wb.cell? ⟨wr.heap.size, 0, none⟩ = some (.int .i64 ti) := by rw [← hWb]; exact (row_facts (new_row rfl)).1 0
          have b1 : Wb.cell? ⟨wr.heap.size, 1, none⟩ = some (.int .i64 ci) := by rw [← hWb]; exact (row_facts (new_row rfl)).1 1
          have b2 : Wb.cell? ⟨wr.heap.size, 2, none⟩ = some (.int .i64 x.low) := by rw [← hWb]; exact (row_facts (new_row rfl)).1 2
          have b3 : Wb.cell? ⟨wr.heap.size, 3, none⟩ = some (.int .i64 x.high) := by rw [← hWb]; exact (row_facts (new_row rfl)).1 3
          replace e1 := hBb.cell e1
          replace e2 := hBb.cell e2
          have HBB := Lib.hid (HB4.out.trans hBb)
          have HBG := Lib.hid (HBF.out.trans hBb)
          clear hWb hBb c0 c1 c2 c3 x3
          have HWI := Lib.hid (fun wx => (Within_any val x.low x.high wx).mono (R' := fun e w' => e = .returned (.bool (withinB val x.low x.high)) ∧ w' = wx) fun e w' h => ⟨h.1, h.2.symm⟩)
          have HWB := Lib.hid (show withinB val x.low x.high = true ↔ x.low ≤ val ∧ val ≤ x.high from withinB_true)
          generalize withinB val x.low x.high = bw at *
          go_quiet (first
            | (go_at_call 20; refine Calls.quiet_of_same (HWI.out _)))
          cases bw
          · have HNO := Lib.hid (show ¬ IsT t l from fun h => by
              have h1 := h.word k hltk
              rw [HX.out, HV.out] at h1
              have := HWB.out.2 h1
              cases this)
            go_wp2
            go_ret
            exact ⟨false, rfl, ⟨(fun h => by cases h), fun h => absurd h HNO.out⟩, HBG.out.drewN _⟩
          · have HN1 := Lib.hid (show ∀ j, j < k + 1 → (atW t.ws j).low ≤ at0 (atL l (atW t.ws j).time.toNat) (atW t.ws j).chamber.toNat ∧ at0 (atL l (atW t.ws j).time.toNat) (atW t.ws j).chamber.toNat ≤ (atW t.ws j).high from fun j hj => by
              by_cases e : j = k
              · rw [e, HX.out, HV.out]; exact HWB.out.1 rfl
              · exact HWS.out j (by omega))
            go_wp2
            go_roundw
            case rel => exact ⟨k + 1, by omega, by go_num, HBB.out.drewN _, HN1.out⟩
            case measure => simp [intOf]; omega
        · have HYES := Lib.hid (show IsT t l from ⟨HTL.out, fun i hi => HROW.out i (by have := HTL.out; omega), fun i c h1 h2 h3 => HSTEP.out i c h1 (by have := HTL.out; omega) h3, fun j hj => HWS.out j (by omega)⟩)
          go_wp2
          go_ret
          exact ⟨true, rfl, ⟨fun _ => HYES.out, fun _ => rfl⟩, HBF.out⟩
end Go.Proofs.Ytkdcdhkhadhcfaa
