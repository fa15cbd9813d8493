/-
  cuts: the program: canCut, isPart, isCut, pays.
-/
import Derived.Test.YtkdcdhkhadhcfaaCtRf2
namespace Go.Proofs.Ytkdcdhkhadhcfaa
set_option linter.unusedVariables false
open Go Go.RowKit
set_option maxHeartbeats 4000000
set_option maxRecDepth 100000
theorem canCut1_any (p : CP) (m : Int) (g : Nat) (w : World) (hx : Bx w g [.int .i64 m]) :
    Calls Try.prog 98 #[.agg #[.int .i64 p.of, .int .i64 p.wlo, .int .i64 p.whi, .int .i64 p.slo, .int .i64 p.shi, .int .i64 p.pe], .pointer (some ⟨g, 0, none⟩)] w fun e w' => e = .returned (.bool (decide (p.of = m))) ∧ Bel w w' := by
  have x0 := hx.c 0 _ rfl
  have lx := hx.lt
  clear hx
  obtain ⟨of, wlo, whi, slo, shi, pe⟩ := p
  go_enter Try.func98, Try.ntmps98
  go_wp2
  go_ret
  exact ⟨rfl, (by repeat (first | assumption | exact Bel.refl _ | refine Bel.drew ?_ | refine Bel.drewN ?_ _ | refine Bel.alloc ?_ _ | refine Bel.setCell ?_ (by simp <;> omega) _ | refine Bel.trans ?_ (by assumption)))⟩
theorem canIdx_any (t : List CP) (m : Int) (g : Nat) (v : Value) (w : World) (hx : Bx w g [.int .i64 m]) (hv : CtAt w v t) :
    Calls Try.prog 119 #[v, .func (.func 98) #[] #[.pointer (some ⟨g, 0, none⟩)]] w fun e w' => ∃ r : Int, e = .returned (.int .i64 r) ∧ decide (0 ≤ r) = cutB t m ∧ Bel w w' := by
  obtain ⟨a, c, bb, off, rfl, ha, ⟨hlen, _⟩, hc⟩ := hv
  have hix := idxTab (c := c) ha
  have HC := Lib.hid hc
  have HC2 := Lib.hid (fun k wx (h : Bel w wx) => canCut1_any (atC t k) m g wx (hx.bel h))
  have HT := Lib.hid (fun i (hi : i < t.length) (h : (atC t i).of = m) => show cutB t m = true from cutB_true.2 ⟨i, hi, h⟩)
  have HF := Lib.hid (fun (h : allB t.length (fun i => !decide ((atC t i).of = m)) = true) => show cutB t m = false by unfold cutB; rw [h]; rfl)
  clear ha hc hx
  generalize hG : t.length = G at *
  clear hG
  go_enter Try.func119, Try.ntmps119
  go_wp2
  go_loopw [8] (fun i wr => ∃ k : Nat, k ≤ G ∧ i = .int .i64 k ∧ Hid (allB k (fun i => !decide ((atC t i).of = m)) = true) ∧ Hid (Bel w wr)) (fun i _ => G - (intOf i).toNat)
  case atStart => exact ⟨0, by omega, rfl, Lib.hid rfl, Lib.hid (Bel.refl _)⟩
  case round =>
    obtain ⟨k, hk, rfl, hno, hbr⟩ := hrel
    by_cases hlt : k < G
    · have hlti : (k : Int) < (G : Int) := by omega
      obtain ⟨q0, q1, q2, q3, q4, q5⟩ := HC.out k hlt
      have k0 := hbr.out.cell q0
      have k1 := hbr.out.cell q1
      have k2 := hbr.out.cell q2
      have k3 := hbr.out.cell q3
      have k4 := hbr.out.cell q4
      have k5 := hbr.out.cell q5
      have lk := cell_lt k0
      have HCK := Lib.hid (HC2.out k wr hbr.out)
      have HN := Lib.hid (fun (h : (!decide ((atC t k).of = m)) = true) => allB_succ hno.out (f := fun i => !decide ((atC t i).of = m)) h)
      have HR := Lib.hid (HT.out k hlt)
      clear q0 q1 q2 q3 q4 q5 HT HF HC HC2 hno
      generalize atC t k = p at *
      obtain ⟨of, wlo, whi, slo, shi, pe⟩ := p
      simp only at k0 k1 k2 k3 k4 k5 HN HR HCK
      cases e : decide (of = m)
      · have HN2 := Lib.hid (HN.out (by rw [e]; rfl))
        rw [e] at HCK
        clear HR HN e
        go_wp2_with fail
        refine HCK.out.mono ?_
        rintro e w2 ⟨rfl, hb⟩
        have HB := Lib.hid (hbr.out.trans hb)
        clear hb k0 k1 k2 k3 k4 k5 lk
        go_wp2
        go_roundw
        case rel => exact ⟨k + 1, by omega, by go_num, HN2, HB⟩
        case measure => simp [intOf]; omega
      · have HR2 := Lib.hid (HR.out (of_decide_eq_true e))
        rw [e] at HCK
        clear HR HN e
        go_wp2_with fail
        refine HCK.out.mono ?_
        rintro e w2 ⟨rfl, hb⟩
        have HB := Lib.hid (hbr.out.trans hb)
        clear hb k0 k1 k2 k3 k4 k5 lk
        go_wp2
        go_ret
        exact ⟨(k : Int), rfl, by rw [HR2.out]; simp, HB.out⟩
    · have hlti : ¬ (k : Int) < (G : Int) := by omega
      obtain rfl : k = G := by omega
      have HR2 := Lib.hid (HF.out hno.out)
      clear HT HF HC hno
      go_wp2
      go_ret
      exact ⟨-1, rfl, by rw [HR2.out]; rfl, hbr.out⟩
theorem canCon_any (t : List CP) (m : Int) (g : Nat) (v : Value) (w : World) (hx : Bx w g [.int .i64 m]) (hv : CtAt w v t) :
    Calls Try.prog 97 #[v, .func (.func 98) #[] #[.pointer (some ⟨g, 0, none⟩)]] w fun e w' => e = .returned (.bool (cutB t m)) ∧ Bel w w' := by
  have HC := Lib.hid (canIdx_any t m g v w hx hv)
  obtain ⟨a, c, bb, off, rfl, ha, ⟨hlen, _⟩, hc⟩ := hv
  clear hx ha hc
  go_enter Try.func97, Try.ntmps97
  go_wp2_with fail
  refine HC.out.mono ?_
  rintro e w' ⟨r, rfl, hr, hb⟩
  have HR := Lib.hid hr
  clear hr
  go_wp2
  go_ret
  exact ⟨rb (by rw [← HR.out]), hb⟩
theorem canCut_any (t : List CP) (m : Int) (v : Value) (w : World) (hv : CtAt w v t) : Calls Try.prog 70 #[v, .int .i64 m] w fun e w' => e = .returned (.bool (cutB t m)) ∧ Bel w w' := by
  have HC := Lib.hid (fun wx (hb : Bel (w.alloc (.cells #[.int .i64 m] 3)) wx) => canCon_any t m w.heap.size v wx ((Bx.new rfl).bel hb) (hv.bel (((Bel.refl w).alloc _).trans hb)))
  obtain ⟨a, c, bb, off, rfl, _, _, _⟩ := hv
  generalize cutB t m = b at *
  go_enter Try.func70, Try.ntmps70
  go_wp2_with fail
  refine (HC.out _ (Bel.refl _)).mono ?_
  rintro e w1 ⟨rfl, hb⟩
  have HB := Lib.hid (show Bel w w1 from Bel.trans (by repeat (first | assumption | exact Bel.refl _ | refine Bel.drew ?_ | refine Bel.drewN ?_ _ | refine Bel.alloc ?_ _ | refine Bel.setCell ?_ (by simp <;> omega) _ | refine Bel.trans ?_ (by assumption))) hb)
  clear hb HC
  go_wp2
  go_ret
  exact ⟨rfl, HB.out⟩
theorem isPart_any (t : List CP) (m : Int) (v : Value) (w : World) (hv : CtAt w v t) : Calls Try.prog 69 #[v, .int .i64 m] w fun e w' => e = .returned (.bool (withinB m 0 ((t.length : Int) - 1))) ∧ w = w' := by
  obtain ⟨a, c, bb, off, rfl, _, ⟨hl, _⟩, _⟩ := hv
  generalize t.length = G at *
  go_enter Try.func69, Try.ntmps69
  go_wp2_with (first | (go_at_call 91; refine (Cwithin_any _ _ _ _).mono ?_; rintro e w' ⟨rfl, rfl⟩))
  go_ret
  exact ⟨rfl, rfl⟩
theorem IntsAt.take {w : World} {a : Option Addr} {c n : Nat} {l : List Int} (h : IntsAt w (.slice a l.length c) l) (hn : n ≤ l.length) : IntsAt w (.slice a n c) (l.take n) := by
  obtain ⟨a', c', b, off, e, ha, ⟨h1, h2⟩, hc⟩ := h
  injection e with e1 _ e3
  subst e1 e3
  refine ⟨a, c, b, off, by rw [List.length_take, Nat.min_eq_left hn], fun q => ha (by rw [List.length_take] at q; omega), ⟨by rw [List.length_take]; omega, by rw [List.length_take]; omega⟩, fun i hi => ?_⟩
  rw [List.length_take] at hi
  have := hc i (by omega)
  rw [this]
  unfold at0
  simp only [List.getD, List.getElem?_take]
  rw [if_pos (by omega)]
/-- Where a cut has what is cut first. -/
theorem CutOk.ahead {t : List CP} {c : List Int} (ht : CtOk t) (h : CutOk t c) {k : Nat} (hk : k < c.length) (ho : (atC t (at0 c k).toNat).of ≠ -1) : inB (c.take k) (atC t (at0 c k).toNat).of = true := by
  rcases (h.at_ k hk).2 with q | q
  · exact absurd q ho
  · obtain ⟨j, hj, e⟩ := mem_getD c _ 0 (inB_true.1 q)
    have hw := h.within hk
    have hof := (ht.of (at0 c k).toNat (by omega)).2
    have hjk : j < k := by
      rcases Nat.lt_or_ge j k with g | g
      · exact g
      · exfalso
        by_cases e2 : j = k
        · subst e2
          have : at0 c j = (atC t (at0 c j).toNat).of := e
          omega
        · have := h.lt j (i := k) (by omega) hj
          have e3 : at0 c j = (atC t (at0 c k).toNat).of := e
          omega
    refine inB_of_at j (by rw [List.length_take]; omega) ?_
    unfold at0
    simp only [List.getD, List.getElem?_take]
    rw [if_pos hjk]
    exact e
theorem isCut_any (t : List CP) (c : List Int) (v vc : Value) (w : World) (ht : CtOk t) (hc : CutOk t c) (h40 : c.length ≤ 40) (hv : CtAt w v t) (hcv : IntsAt w vc c) :
    Calls Try.prog 42 #[v, vc] w fun e w' => e = .returned (.bool true) ∧ Bel w w' := by
  have HV := Lib.hid hv
  have HCV := Lib.hid hcv
  obtain ⟨a, cc, b, off, rfl, ha, ⟨hl, _⟩, hcc⟩ := hv
  obtain ⟨ya, yc, yb, yo, rfl, hya, ⟨hyl, hyc2⟩, hyc⟩ := hcv
  have hix := idxTab (c := cc) ha
  have hiy := idxInts (c := yc) hya
  have HC := Lib.hid hcc
  have HY := Lib.hid hyc
  have HW := Lib.hid (fun i (hi : i < c.length) => hc.within hi)
  have HA := Lib.hid (fun i (hi : i < c.length) (h0 : 0 < i) => hc.asc hi h0)
  have HCU := Lib.hid (fun i (hi : i < c.length) => (hc.at_ i hi).1)
  have HAH := Lib.hid (fun k (hk : k < c.length) (ho : (atC t (at0 c k).toNat).of ≠ -1) => hc.ahead ht hk ho)
  have h8 := ht.l8
  clear ha hcc hya hyc ht hc
  generalize hG : t.length = G at *
  generalize hL : c.length = L at *
  have HL := Lib.hid hL
  clear hL
  have HG := Lib.hid hG
  clear hG
  go_enter Try.func42, Try.ntmps42
  go_wp2
  go_loopw [9] (fun i wr => ∃ k : Nat, k ≤ L ∧ i = .int .i64 k ∧ Hid (Bel w wr)) (fun i _ => L - (intOf i).toNat)
  case atStart => exact ⟨0, by omega, rfl, Lib.hid (Bel.refl _)⟩
  case round =>
    obtain ⟨k, hk, rfl, hbr⟩ := hrel
    by_cases hlt : k < L
    · have hlti : (k : Int) < (L : Int) := by omega
      have y0 := hbr.out.cell (HY.out k hlt)
      have ly := cell_lt y0
      obtain ⟨g1, g2⟩ := HW.out k hlt
      have HCK := Lib.hid (HCU.out k hlt)
      have HAK := Lib.hid (HA.out k hlt)
      have HHK := Lib.hid (HAH.out k hlt)
      obtain ⟨m, hm⟩ : ∃ m : Nat, at0 c k = (m : Int) := ⟨(at0 c k).toNat, by omega⟩
      rw [hm] at y0 HCK HAK HHK
      rw [Int.toNat_natCast] at HHK
      have hmG : m < G := by omega
      have hmi : (m : Int) < (G : Int) := by omega
      have k0 := hbr.out.cell (HC.out m hmG).1
      have lk := cell_lt k0
      have HPA := Lib.hid (fun wx (hb : Bel wr wx) => isPart_any t m _ wx (HV.out.bel (hbr.out.trans hb)))
      have HCC := Lib.hid (fun wx (hb : Bel wr wx) => canCut_any t m _ wx (HV.out.bel (hbr.out.trans hb)))
      have HTK := Lib.hid (fun n wx (hb : Bel wr wx) => Contains_any (.slice ya k yc) (c.take k) n wx (IntsAt.take (l := c) (by rw [HL.out]; exact HCV.out.bel (hbr.out.trans hb)) (by rw [HL.out]; omega)))
      have hwi : withinB (m : Int) 0 ((G : Int) - 1) = true := withinB_true.2 ⟨by omega, by omega⟩
      rw [HG.out, hwi] at HPA
      rw [HCK.out] at HCC
      have hky : k ≤ yc := by omega
      have hkl : k ≤ L := by omega
      clear hm g1 g2 HW HA HCU HAH HC HV HCV hwi HCK
      generalize (atC t m).of = x at *
      have hsl : 0 < k → Hid (wr.cell? ⟨yb, yo + (k - 1), none⟩ = some (.int .i64 (at0 c (k - 1))) ∧ at0 c (k - 1) < (m : Int)) := fun h0 => Lib.hid ⟨hbr.out.cell (HY.out (k - 1) (by omega)), HAK.out h0⟩
      clear HY HAK
      by_cases hx : x = -1
      · have b1 : (x != -1) = false := by simpa using hx
        clear HHK hx HTK
        go_wp2_with fail
        by_cases hk0 : k = 0
        · have d0 : decide ((0 : Int) < (k : Int)) = false := decide_eq_false (by omega)
          have HK0 := Lib.hid hk0
          clear hsl hk0
          refine wp_region_mixB (Plan.seq [0, 1, 1002, 3, 4, 5, 6, 1007, 8, 9, 10, 11, 12, 13, 14, 15, 16, 17, 18, 19, 20, 21, 22, 23, 24, 25, 26, 27, 28, 29, 30, 31, 32, 33, 34, 35, 36, 37, 38, 1039, 40, 41, 42] .nil) (by kernel_rfl) (by kernel_rfl) (fun hcur => ?_)
          simp only [Plan.seq, Plan.fill, List.getD_cons_zero, List.getD_cons_succ, Nat.reduceLT, ↓reduceIte, Nat.reduceSub]
          apply mix_pure _ rfl
          · intro w' hw'
            have hcr := hw'.cells
            go_simp
            rfl
          intro K hK
          go_simp
          refine hK _ ?_
          clear hK K
          apply mix_pure _ rfl
          · intro w' hw'
            have hcr := hw'.cells
            go_simp
            rfl
          intro K hK
          go_simp
          refine hK _ ?_
          clear hK K
          refine mix_act rfl (fun K hK => ?_)
          go_simp
          refine (HPA.out _ hcur).mono ?_
          rintro e w5 ⟨rfl, rfl⟩
          simp only []
          refine hK _ _ hcur (fun hcur => ?_)
          clear hK K
          apply mix_pure _ rfl
          · intro w' hw'
            have hcr := hw'.cells
            go_simp
            rfl
          intro K hK
          go_simp
          refine hK _ ?_
          clear hK K
          apply mix_pure _ rfl
          · intro w' hw'
            have hcr := hw'.cells
            go_simp
            rfl
          intro K hK
          go_simp
          refine hK _ ?_
          clear hK K
          apply mix_pureG _ (by go_simp)
          · intro w' hw'
            have hcr := hw'.cells
            go_simp
            rfl
          intro K hK
          go_simp
          refine hK _ ?_
          clear hK K
          apply mix_pureG _ (by go_simp)
          · intro w' hw'
            have hcr := hw'.cells
            go_simp
            rfl
          intro K hK
          go_simp
          refine hK _ ?_
          clear hK K
          refine mix_actG (by go_simp) (fun K hK => ?_)
          go_simp
          refine (HCC.out _ hcur).mono ?_
          rintro e w5 ⟨rfl, hb⟩
          simp only []
          refine hK _ _ (hcur.trans hb) (fun hcur => ?_)
          clear hK K hb
          apply mix_pureG _ (by go_simp)
          · intro w' hw'
            have hcr := hw'.cells
            go_simp
            rfl
          intro K hK
          go_simp
          refine hK _ ?_
          clear hK K
          apply mix_pure _ rfl
          · intro w' hw'
            have hcr := hw'.cells
            go_simp
            rfl
          intro K hK
          go_simp
          refine hK _ ?_
          clear hK K
          apply mix_pure _ rfl
          · intro w' hw'
            have hcr := hw'.cells
            go_simp
            rfl
          intro K hK
          go_simp
          refine hK _ ?_
          clear hK K
          apply mix_pureG _ (by go_simp)
          · intro w' hw'
            have hcr := hw'.cells
            go_simp
            rfl
          intro K hK
          go_simp
          refine hK _ ?_
          clear hK K
          apply mix_pureG _ (by go_simp)
          · intro w' hw'
            have hcr := hw'.cells
            go_simp
            rfl
          intro K hK
          go_simp
          refine hK _ ?_
          clear hK K
          apply mix_pureG _ (by go_simp)
          · intro w' hw'
            have hcr := hw'.cells
            go_simp
            rfl
          intro K hK
          go_simp
          refine hK _ ?_
          clear hK K
          refine mix_skip (by go_simp; exact HK0.out) ?_
          intro K hK
          go_simp
          refine hK _ ?_
          clear hK K
          refine mix_skip (by go_simp; exact HK0.out) ?_
          intro K hK
          go_simp
          refine hK _ ?_
          clear hK K
          refine mix_skip (by go_simp; exact HK0.out) ?_
          intro K hK
          go_simp
          refine hK _ ?_
          clear hK K
          refine mix_skip (by go_simp; exact HK0.out) ?_
          intro K hK
          go_simp
          refine hK _ ?_
          clear hK K
          refine mix_skip (by go_simp; exact HK0.out) ?_
          intro K hK
          go_simp
          refine hK _ ?_
          clear hK K
          refine mix_skip (by go_simp; exact HK0.out) ?_
          intro K hK
          go_simp
          refine hK _ ?_
          clear hK K
          refine mix_skip (by go_simp; exact HK0.out) ?_
          intro K hK
          go_simp
          refine hK _ ?_
          clear hK K
          apply mix_pureG _ (by go_simp)
          · intro w' hw'
            have hcr := hw'.cells
            go_simp
            rw [if_neg (show ¬ 0 < k by rw [HK0.out]; omega)]
          intro K hK
          go_simp
          refine hK _ ?_
          clear hK K
          apply mix_pure _ rfl
          · intro w' hw'
            have hcr := hw'.cells
            go_simp
            rfl
          intro K hK
          go_simp
          refine hK _ ?_
          clear hK K
          apply mix_pure _ rfl
          · intro w' hw'
            have hcr := hw'.cells
            go_simp
            rfl
          intro K hK
          go_simp
          refine hK _ ?_
          clear hK K
          apply mix_pureG _ (by go_simp)
          · intro w' hw'
            have hcr := hw'.cells
            go_simp
            rfl
          intro K hK
          go_simp
          refine hK _ ?_
          clear hK K
          apply mix_pureG _ (by go_simp)
          · intro w' hw'
            have hcr := hw'.cells
            go_simp
            rfl
          intro K hK
          go_simp
          refine hK _ ?_
          clear hK K
          apply mix_pureG _ (by go_simp)
          · intro w' hw'
            have hcr := hw'.cells
            go_simp
            rfl
          intro K hK
          go_simp
          refine hK _ ?_
          clear hK K
          apply mix_pureG _ (by go_simp)
          · intro w' hw'
            have hcr := hw'.cells
            go_simp
            rfl
          intro K hK
          go_simp
          refine hK _ ?_
          clear hK K
          apply mix_pureG _ (by go_simp)
          · intro w' hw'
            have hcr := hw'.cells
            go_simp
            rfl
          intro K hK
          go_simp
          refine hK _ ?_
          clear hK K
          apply mix_pureG _ (by go_simp)
          · intro w' hw'
            have hcr := hw'.cells
            go_simp
            rfl
          intro K hK
          go_simp
          refine hK _ ?_
          clear hK K
          apply mix_pureG _ (by go_simp)
          · intro w' hw'
            have hcr := hw'.cells
            go_simp
            rfl
          intro K hK
          go_simp
          refine hK _ ?_
          clear hK K
          refine mix_skip (by go_simp) ?_
          intro K hK
          go_simp
          refine hK _ ?_
          clear hK K
          refine mix_skip (by go_simp) ?_
          intro K hK
          go_simp
          refine hK _ ?_
          clear hK K
          refine mix_skip (by go_simp) ?_
          intro K hK
          go_simp
          refine hK _ ?_
          clear hK K
          refine mix_skip (by go_simp) ?_
          intro K hK
          go_simp
          refine hK _ ?_
          clear hK K
          refine mix_skip (by go_simp) ?_
          intro K hK
          go_simp
          refine hK _ ?_
          clear hK K
          refine mix_skip (by go_simp) ?_
          intro K hK
          go_simp
          refine hK _ ?_
          clear hK K
          refine mix_skip (by go_simp) ?_
          intro K hK
          go_simp
          refine hK _ ?_
          clear hK K
          refine mix_skip (by go_simp) ?_
          intro K hK
          go_simp
          refine hK _ ?_
          clear hK K
          refine mix_askip (by go_simp) ?_
          intro K hK
          go_simp
          refine hK _ ?_
          clear hK K
          refine mix_skip (by go_simp) ?_
          intro K hK
          go_simp
          refine hK _ ?_
          clear hK K
          apply mix_pureG _ (by go_simp)
          · intro w' hw'
            have hcr := hw'.cells
            go_simp
            rfl
          intro K hK
          go_simp
          refine hK _ ?_
          clear hK K
          apply mix_pure _ rfl
          · intro w' hw'
            have hcr := hw'.cells
            go_simp
            rfl
          intro K hK
          go_simp
          refine hK _ ?_
          clear hK K
          refine mix_nil ?_
          have HBR := Lib.hid (hbr.out.trans hcur)
          clear hcur
          go_wp2
          go_roundw
          case rel => exact ⟨k + 1, by omega, by go_num, HBR⟩
          case measure => simp [intOf]; omega
        · obtain ⟨hs1, hs2⟩ := (hsl (by omega)).out
          have d0 : decide ((0 : Int) < (k : Int)) = true := decide_eq_true (by omega)
          obtain ⟨q, hq⟩ : ∃ q, q = k - 1 := ⟨_, rfl⟩
          rw [← hq] at hs1 hs2
          have HQ := Lib.hid (show (k : Int) - 1 = (q : Int) by omega)
          have lq := cell_lt hs1
          have hqL : q < L := by omega
          have hqi : (q : Int) < (L : Int) := by omega
          clear hq
          have hkp : 0 < k := by omega
          have d1 : decide ((m : Int) ≤ at0 c q) = false := decide_eq_false (by omega)
          generalize at0 c q = z at *
          clear hsl hk0
          refine wp_region_mixB (Plan.seq [0, 1, 1002, 3, 4, 5, 6, 1007, 8, 9, 10, 11, 12, 13, 14, 15, 16, 17, 18, 19, 20, 21, 22, 23, 24, 25, 26, 27, 28, 29, 30, 31, 32, 33, 34, 35, 36, 37, 38, 1039, 40, 41, 42] .nil) (by kernel_rfl) (by kernel_rfl) (fun hcur => ?_)
          simp only [Plan.seq, Plan.fill, List.getD_cons_zero, List.getD_cons_succ, Nat.reduceLT, ↓reduceIte, Nat.reduceSub]
          apply mix_pure _ rfl
          · intro w' hw'
            have hcr := hw'.cells
            go_simp
            rfl
          intro K hK
          go_simp
          refine hK _ ?_
          clear hK K
          apply mix_pure _ rfl
          · intro w' hw'
            have hcr := hw'.cells
            go_simp
            rfl
          intro K hK
          go_simp
          refine hK _ ?_
          clear hK K
          refine mix_act rfl (fun K hK => ?_)
          go_simp
          refine (HPA.out _ hcur).mono ?_
          rintro e w5 ⟨rfl, rfl⟩
          simp only []
          refine hK _ _ hcur (fun hcur => ?_)
          clear hK K
          apply mix_pure _ rfl
          · intro w' hw'
            have hcr := hw'.cells
            go_simp
            rfl
          intro K hK
          go_simp
          refine hK _ ?_
          clear hK K
          apply mix_pure _ rfl
          · intro w' hw'
            have hcr := hw'.cells
            go_simp
            rfl
          intro K hK
          go_simp
          refine hK _ ?_
          clear hK K
          apply mix_pureG _ (by go_simp)
          · intro w' hw'
            have hcr := hw'.cells
            go_simp
            rfl
          intro K hK
          go_simp
          refine hK _ ?_
          clear hK K
          apply mix_pureG _ (by go_simp)
          · intro w' hw'
            have hcr := hw'.cells
            go_simp
            rfl
          intro K hK
          go_simp
          refine hK _ ?_
          clear hK K
          refine mix_actG (by go_simp) (fun K hK => ?_)
          go_simp
          refine (HCC.out _ hcur).mono ?_
          rintro e w5 ⟨rfl, hb⟩
          simp only []
          refine hK _ _ (hcur.trans hb) (fun hcur => ?_)
          clear hK K hb
          apply mix_pureG _ (by go_simp)
          · intro w' hw'
            have hcr := hw'.cells
            go_simp
            rfl
          intro K hK
          go_simp
          refine hK _ ?_
          clear hK K
          apply mix_pure _ rfl
          · intro w' hw'
            have hcr := hw'.cells
            go_simp
            rfl
          intro K hK
          go_simp
          refine hK _ ?_
          clear hK K
          apply mix_pure _ rfl
          · intro w' hw'
            have hcr := hw'.cells
            go_simp
            rfl
          intro K hK
          go_simp
          refine hK _ ?_
          clear hK K
          apply mix_pureG _ (by go_simp)
          · intro w' hw'
            have hcr := hw'.cells
            go_simp
            rfl
          intro K hK
          go_simp
          refine hK _ ?_
          clear hK K
          apply mix_pureG _ (by go_simp)
          · intro w' hw'
            have hcr := hw'.cells
            go_simp
            rfl
          intro K hK
          go_simp
          refine hK _ ?_
          clear hK K
          apply mix_pureG _ (by go_simp)
          · intro w' hw'
            have hcr := hw'.cells
            go_simp
            rfl
          intro K hK
          go_simp
          refine hK _ ?_
          clear hK K
          apply mix_pureG _ (by go_simp)
          · intro w' hw'
            have hcr := hw'.cells
            go_simp
            rfl
          intro K hK
          go_simp
          refine hK _ ?_
          clear hK K
          apply mix_pureG _ (by go_simp)
          · intro w' hw'
            have hcr := hw'.cells
            go_simp
            rfl
          intro K hK
          go_simp
          refine hK _ ?_
          clear hK K
          apply mix_pureG _ (by go_simp)
          · intro w' hw'
            have hcr := hw'.cells
            go_simp
            rfl
          intro K hK
          go_simp
          refine hK _ ?_
          clear hK K
          apply mix_pureG _ (by go_simp)
          · intro w' hw'
            have hcr := hw'.cells
            go_simp
            rw [HQ.out, IntWalk.i64_in]
            all_goals omega
          intro K hK
          go_simp
          refine hK _ ?_
          clear hK K
          apply mix_pureG _ (by go_simp)
          · intro w' hw'
            have hcr := hw'.cells
            go_simp
            rfl
          intro K hK
          go_simp
          refine hK _ ?_
          clear hK K
          apply mix_pureG _ (by go_simp)
          · intro w' hw'
            have hcr := hw'.cells
            go_simp
            rfl
          intro K hK
          go_simp
          refine hK _ ?_
          clear hK K
          apply mix_pureG _ (by go_simp)
          · intro w' hw'
            have hcr := hw'.cells
            go_simp
            rfl
          intro K hK
          go_simp
          refine hK _ ?_
          clear hK K
          apply mix_pureG _ (by go_simp)
          · intro w' hw'
            have hcr := hw'.cells
            go_simp
            rfl
          intro K hK
          go_simp
          refine hK _ ?_
          clear hK K
          apply mix_pure _ rfl
          · intro w' hw'
            have hcr := hw'.cells
            go_simp
            rfl
          intro K hK
          go_simp
          refine hK _ ?_
          clear hK K
          apply mix_pure _ rfl
          · intro w' hw'
            have hcr := hw'.cells
            go_simp
            rfl
          intro K hK
          go_simp
          refine hK _ ?_
          clear hK K
          apply mix_pureG _ (by go_simp)
          · intro w' hw'
            have hcr := hw'.cells
            go_simp
            rfl
          intro K hK
          go_simp
          refine hK _ ?_
          clear hK K
          apply mix_pureG _ (by go_simp)
          · intro w' hw'
            have hcr := hw'.cells
            go_simp
            rfl
          intro K hK
          go_simp
          refine hK _ ?_
          clear hK K
          apply mix_pureG _ (by go_simp)
          · intro w' hw'
            have hcr := hw'.cells
            go_simp
            rfl
          intro K hK
          go_simp
          refine hK _ ?_
          clear hK K
          apply mix_pureG _ (by go_simp)
          · intro w' hw'
            have hcr := hw'.cells
            go_simp
            rfl
          intro K hK
          go_simp
          refine hK _ ?_
          clear hK K
          apply mix_pureG _ (by go_simp)
          · intro w' hw'
            have hcr := hw'.cells
            go_simp
            rfl
          intro K hK
          go_simp
          refine hK _ ?_
          clear hK K
          apply mix_pureG _ (by go_simp)
          · intro w' hw'
            have hcr := hw'.cells
            go_simp
            rfl
          intro K hK
          go_simp
          refine hK _ ?_
          clear hK K
          apply mix_pureG _ (by go_simp)
          · intro w' hw'
            have hcr := hw'.cells
            go_simp
            rfl
          intro K hK
          go_simp
          refine hK _ ?_
          clear hK K
          refine mix_skip (by go_simp) ?_
          intro K hK
          go_simp
          refine hK _ ?_
          clear hK K
          refine mix_skip (by go_simp) ?_
          intro K hK
          go_simp
          refine hK _ ?_
          clear hK K
          refine mix_skip (by go_simp) ?_
          intro K hK
          go_simp
          refine hK _ ?_
          clear hK K
          refine mix_skip (by go_simp) ?_
          intro K hK
          go_simp
          refine hK _ ?_
          clear hK K
          refine mix_skip (by go_simp) ?_
          intro K hK
          go_simp
          refine hK _ ?_
          clear hK K
          refine mix_skip (by go_simp) ?_
          intro K hK
          go_simp
          refine hK _ ?_
          clear hK K
          refine mix_skip (by go_simp) ?_
          intro K hK
          go_simp
          refine hK _ ?_
          clear hK K
          refine mix_skip (by go_simp) ?_
          intro K hK
          go_simp
          refine hK _ ?_
          clear hK K
          refine mix_askip (by go_simp) ?_
          intro K hK
          go_simp
          refine hK _ ?_
          clear hK K
          refine mix_skip (by go_simp) ?_
          intro K hK
          go_simp
          refine hK _ ?_
          clear hK K
          apply mix_pureG _ (by go_simp)
          · intro w' hw'
            have hcr := hw'.cells
            go_simp
            rfl
          intro K hK
          go_simp
          refine hK _ ?_
          clear hK K
          apply mix_pure _ rfl
          · intro w' hw'
            have hcr := hw'.cells
            go_simp
            rfl
          intro K hK
          go_simp
          refine hK _ ?_
          clear hK K
          refine mix_nil ?_
          have HBR := Lib.hid (hbr.out.trans hcur)
          clear hcur
          go_wp2
          go_roundw
          case rel => exact ⟨k + 1, by omega, by go_num, HBR⟩
          case measure => simp [intOf]; omega
      · have b1 : (x != -1) = true := by simpa using hx
        replace HTK := Lib.hid (HTK.out x)
        rw [HHK.out hx] at HTK
        clear HHK hx
        go_wp2_with fail
        by_cases hk0 : k = 0
        · have d0 : decide ((0 : Int) < (k : Int)) = false := decide_eq_false (by omega)
          have HK0 := Lib.hid hk0
          clear hsl hk0
          refine wp_region_mixB (Plan.seq [0, 1, 1002, 3, 4, 5, 6, 1007, 8, 9, 10, 11, 12, 13, 14, 15, 16, 17, 18, 19, 20, 21, 22, 23, 24, 25, 26, 27, 28, 29, 30, 31, 32, 33, 34, 35, 36, 37, 38, 1039, 40, 41, 42] .nil) (by kernel_rfl) (by kernel_rfl) (fun hcur => ?_)
          simp only [Plan.seq, Plan.fill, List.getD_cons_zero, List.getD_cons_succ, Nat.reduceLT, ↓reduceIte, Nat.reduceSub]
          apply mix_pure _ rfl
          · intro w' hw'
            have hcr := hw'.cells
            go_simp
            rfl
          intro K hK
          go_simp
          refine hK _ ?_
          clear hK K
          apply mix_pure _ rfl
          · intro w' hw'
            have hcr := hw'.cells
            go_simp
            rfl
          intro K hK
          go_simp
          refine hK _ ?_
          clear hK K
          refine mix_act rfl (fun K hK => ?_)
          go_simp
          refine (HPA.out _ hcur).mono ?_
          rintro e w5 ⟨rfl, rfl⟩
          simp only []
          refine hK _ _ hcur (fun hcur => ?_)
          clear hK K
          apply mix_pure _ rfl
          · intro w' hw'
            have hcr := hw'.cells
            go_simp
            rfl
          intro K hK
          go_simp
          refine hK _ ?_
          clear hK K
          apply mix_pure _ rfl
          · intro w' hw'
            have hcr := hw'.cells
            go_simp
            rfl
          intro K hK
          go_simp
          refine hK _ ?_
          clear hK K
          apply mix_pureG _ (by go_simp)
          · intro w' hw'
            have hcr := hw'.cells
            go_simp
            rfl
          intro K hK
          go_simp
          refine hK _ ?_
          clear hK K
          apply mix_pureG _ (by go_simp)
          · intro w' hw'
            have hcr := hw'.cells
            go_simp
            rfl
          intro K hK
          go_simp
          refine hK _ ?_
          clear hK K
          refine mix_actG (by go_simp) (fun K hK => ?_)
          go_simp
          refine (HCC.out _ hcur).mono ?_
          rintro e w5 ⟨rfl, hb⟩
          simp only []
          refine hK _ _ (hcur.trans hb) (fun hcur => ?_)
          clear hK K hb
          apply mix_pureG _ (by go_simp)
          · intro w' hw'
            have hcr := hw'.cells
            go_simp
            rfl
          intro K hK
          go_simp
          refine hK _ ?_
          clear hK K
          apply mix_pure _ rfl
          · intro w' hw'
            have hcr := hw'.cells
            go_simp
            rfl
          intro K hK
          go_simp
          refine hK _ ?_
          clear hK K
          apply mix_pure _ rfl
          · intro w' hw'
            have hcr := hw'.cells
            go_simp
            rfl
          intro K hK
          go_simp
          refine hK _ ?_
          clear hK K
          apply mix_pureG _ (by go_simp)
          · intro w' hw'
            have hcr := hw'.cells
            go_simp
            rfl
          intro K hK
          go_simp
          refine hK _ ?_
          clear hK K
          apply mix_pureG _ (by go_simp)
          · intro w' hw'
            have hcr := hw'.cells
            go_simp
            rfl
          intro K hK
          go_simp
          refine hK _ ?_
          clear hK K
          apply mix_pureG _ (by go_simp)
          · intro w' hw'
            have hcr := hw'.cells
            go_simp
            rfl
          intro K hK
          go_simp
          refine hK _ ?_
          clear hK K
          refine mix_skip (by go_simp; exact HK0.out) ?_
          intro K hK
          go_simp
          refine hK _ ?_
          clear hK K
          refine mix_skip (by go_simp; exact HK0.out) ?_
          intro K hK
          go_simp
          refine hK _ ?_
          clear hK K
          refine mix_skip (by go_simp; exact HK0.out) ?_
          intro K hK
          go_simp
          refine hK _ ?_
          clear hK K
          refine mix_skip (by go_simp; exact HK0.out) ?_
          intro K hK
          go_simp
          refine hK _ ?_
          clear hK K
          refine mix_skip (by go_simp; exact HK0.out) ?_
          intro K hK
          go_simp
          refine hK _ ?_
          clear hK K
          refine mix_skip (by go_simp; exact HK0.out) ?_
          intro K hK
          go_simp
          refine hK _ ?_
          clear hK K
          refine mix_skip (by go_simp; exact HK0.out) ?_
          intro K hK
          go_simp
          refine hK _ ?_
          clear hK K
          apply mix_pureG _ (by go_simp)
          · intro w' hw'
            have hcr := hw'.cells
            go_simp
            rw [if_neg (show ¬ 0 < k by rw [HK0.out]; omega)]
          intro K hK
          go_simp
          refine hK _ ?_
          clear hK K
          apply mix_pure _ rfl
          · intro w' hw'
            have hcr := hw'.cells
            go_simp
            rfl
          intro K hK
          go_simp
          refine hK _ ?_
          clear hK K
          apply mix_pure _ rfl
          · intro w' hw'
            have hcr := hw'.cells
            go_simp
            rfl
          intro K hK
          go_simp
          refine hK _ ?_
          clear hK K
          apply mix_pureG _ (by go_simp)
          · intro w' hw'
            have hcr := hw'.cells
            go_simp
            rfl
          intro K hK
          go_simp
          refine hK _ ?_
          clear hK K
          apply mix_pureG _ (by go_simp)
          · intro w' hw'
            have hcr := hw'.cells
            go_simp
            rfl
          intro K hK
          go_simp
          refine hK _ ?_
          clear hK K
          apply mix_pureG _ (by go_simp)
          · intro w' hw'
            have hcr := hw'.cells
            go_simp
            rfl
          intro K hK
          go_simp
          refine hK _ ?_
          clear hK K
          apply mix_pureG _ (by go_simp)
          · intro w' hw'
            have hcr := hw'.cells
            go_simp
            rfl
          intro K hK
          go_simp
          refine hK _ ?_
          clear hK K
          apply mix_pureG _ (by go_simp)
          · intro w' hw'
            have hcr := hw'.cells
            go_simp
            rfl
          intro K hK
          go_simp
          refine hK _ ?_
          clear hK K
          apply mix_pureG _ (by go_simp)
          · intro w' hw'
            have hcr := hw'.cells
            go_simp
            rfl
          intro K hK
          go_simp
          refine hK _ ?_
          clear hK K
          apply mix_pureG _ (by go_simp)
          · intro w' hw'
            have hcr := hw'.cells
            go_simp
            rfl
          intro K hK
          go_simp
          refine hK _ ?_
          clear hK K
          apply mix_pureG _ (by go_simp)
          · intro w' hw'
            have hcr := hw'.cells
            go_simp
            rfl
          intro K hK
          go_simp
          refine hK _ ?_
          clear hK K
          apply mix_pureG _ (by go_simp)
          · intro w' hw'
            have hcr := hw'.cells
            go_simp
            rfl
          intro K hK
          go_simp
          refine hK _ ?_
          clear hK K
          apply mix_pureG _ (by go_simp)
          · intro w' hw'
            have hcr := hw'.cells
            go_simp
            rfl
          intro K hK
          go_simp
          refine hK _ ?_
          clear hK K
          apply mix_pureG _ (by go_simp)
          · intro w' hw'
            have hcr := hw'.cells
            go_simp
            rfl
          intro K hK
          go_simp
          refine hK _ ?_
          clear hK K
          apply mix_pureG _ (by go_simp)
          · intro w' hw'
            have hcr := hw'.cells
            go_simp
            rfl
          intro K hK
          go_simp
          refine hK _ ?_
          clear hK K
          apply mix_pureG _ (by go_simp)
          · intro w' hw'
            have hcr := hw'.cells
            go_simp
            rfl
          intro K hK
          go_simp
          refine hK _ ?_
          clear hK K
          apply mix_pureG _ (by go_simp)
          · intro w' hw'
            have hcr := hw'.cells
            go_simp
            rfl
          intro K hK
          go_simp
          refine hK _ ?_
          clear hK K
          apply mix_pureG _ (by go_simp)
          · intro w' hw'
            have hcr := hw'.cells
            go_simp
            rfl
          intro K hK
          go_simp
          refine hK _ ?_
          clear hK K
          refine mix_actG (by go_simp) (fun K hK => ?_)
          go_simp
          refine (HTK.out _ hcur).mono ?_
          rintro e w5 ⟨rfl, hb⟩
          simp only []
          refine hK _ _ (hcur.trans hb) (fun hcur => ?_)
          clear hK K hb
          apply mix_pureG _ (by go_simp)
          · intro w' hw'
            have hcr := hw'.cells
            go_simp
            rfl
          intro K hK
          go_simp
          refine hK _ ?_
          clear hK K
          apply mix_pureG _ (by go_simp)
          · intro w' hw'
            have hcr := hw'.cells
            go_simp
            rfl
          intro K hK
          go_simp
          refine hK _ ?_
          clear hK K
          apply mix_pure _ rfl
          · intro w' hw'
            have hcr := hw'.cells
            go_simp
            rfl
          intro K hK
          go_simp
          refine hK _ ?_
          clear hK K
          refine mix_nil ?_
          have HBR := Lib.hid (hbr.out.trans hcur)
          clear hcur
          go_wp2
          go_roundw
          case rel => exact ⟨k + 1, by omega, by go_num, HBR⟩
          case measure => simp [intOf]; omega
        · obtain ⟨hs1, hs2⟩ := (hsl (by omega)).out
          have d0 : decide ((0 : Int) < (k : Int)) = true := decide_eq_true (by omega)
          obtain ⟨q, hq⟩ : ∃ q, q = k - 1 := ⟨_, rfl⟩
          rw [← hq] at hs1 hs2
          have HQ := Lib.hid (show (k : Int) - 1 = (q : Int) by omega)
          have lq := cell_lt hs1
          have hqL : q < L := by omega
          have hqi : (q : Int) < (L : Int) := by omega
          clear hq
          have hkp : 0 < k := by omega
          have d1 : decide ((m : Int) ≤ at0 c q) = false := decide_eq_false (by omega)
          generalize at0 c q = z at *
          clear hsl hk0
          refine wp_region_mixB (Plan.seq [0, 1, 1002, 3, 4, 5, 6, 1007, 8, 9, 10, 11, 12, 13, 14, 15, 16, 17, 18, 19, 20, 21, 22, 23, 24, 25, 26, 27, 28, 29, 30, 31, 32, 33, 34, 35, 36, 37, 38, 1039, 40, 41, 42] .nil) (by kernel_rfl) (by kernel_rfl) (fun hcur => ?_)
          simp only [Plan.seq, Plan.fill, List.getD_cons_zero, List.getD_cons_succ, Nat.reduceLT, ↓reduceIte, Nat.reduceSub]
          apply mix_pure _ rfl
          · intro w' hw'
            have hcr := hw'.cells
            go_simp
            rfl
          intro K hK
          go_simp
          refine hK _ ?_
          clear hK K
          apply mix_pure _ rfl
          · intro w' hw'
            have hcr := hw'.cells
            go_simp
            rfl
          intro K hK
          go_simp
          refine hK _ ?_
          clear hK K
          refine mix_act rfl (fun K hK => ?_)
          go_simp
          refine (HPA.out _ hcur).mono ?_
          rintro e w5 ⟨rfl, rfl⟩
          simp only []
          refine hK _ _ hcur (fun hcur => ?_)
          clear hK K
          apply mix_pure _ rfl
          · intro w' hw'
            have hcr := hw'.cells
            go_simp
            rfl
          intro K hK
          go_simp
          refine hK _ ?_
          clear hK K
          apply mix_pure _ rfl
          · intro w' hw'
            have hcr := hw'.cells
            go_simp
            rfl
          intro K hK
          go_simp
          refine hK _ ?_
          clear hK K
          apply mix_pureG _ (by go_simp)
          · intro w' hw'
            have hcr := hw'.cells
            go_simp
            rfl
          intro K hK
          go_simp
          refine hK _ ?_
          clear hK K
          apply mix_pureG _ (by go_simp)
          · intro w' hw'
            have hcr := hw'.cells
            go_simp
            rfl
          intro K hK
          go_simp
          refine hK _ ?_
          clear hK K
          refine mix_actG (by go_simp) (fun K hK => ?_)
          go_simp
          refine (HCC.out _ hcur).mono ?_
          rintro e w5 ⟨rfl, hb⟩
          simp only []
          refine hK _ _ (hcur.trans hb) (fun hcur => ?_)
          clear hK K hb
          apply mix_pureG _ (by go_simp)
          · intro w' hw'
            have hcr := hw'.cells
            go_simp
            rfl
          intro K hK
          go_simp
          refine hK _ ?_
          clear hK K
          apply mix_pure _ rfl
          · intro w' hw'
            have hcr := hw'.cells
            go_simp
            rfl
          intro K hK
          go_simp
          refine hK _ ?_
          clear hK K
          apply mix_pure _ rfl
          · intro w' hw'
            have hcr := hw'.cells
            go_simp
            rfl
          intro K hK
          go_simp
          refine hK _ ?_
          clear hK K
          apply mix_pureG _ (by go_simp)
          · intro w' hw'
            have hcr := hw'.cells
            go_simp
            rfl
          intro K hK
          go_simp
          refine hK _ ?_
          clear hK K
          apply mix_pureG _ (by go_simp)
          · intro w' hw'
            have hcr := hw'.cells
            go_simp
            rfl
          intro K hK
          go_simp
          refine hK _ ?_
          clear hK K
          apply mix_pureG _ (by go_simp)
          · intro w' hw'
            have hcr := hw'.cells
            go_simp
            rfl
          intro K hK
          go_simp
          refine hK _ ?_
          clear hK K
          apply mix_pureG _ (by go_simp)
          · intro w' hw'
            have hcr := hw'.cells
            go_simp
            rfl
          intro K hK
          go_simp
          refine hK _ ?_
          clear hK K
          apply mix_pureG _ (by go_simp)
          · intro w' hw'
            have hcr := hw'.cells
            go_simp
            rfl
          intro K hK
          go_simp
          refine hK _ ?_
          clear hK K
          apply mix_pureG _ (by go_simp)
          · intro w' hw'
            have hcr := hw'.cells
            go_simp
            rfl
          intro K hK
          go_simp
          refine hK _ ?_
          clear hK K
          apply mix_pureG _ (by go_simp)
          · intro w' hw'
            have hcr := hw'.cells
            go_simp
            rw [HQ.out, IntWalk.i64_in]
            all_goals omega
          intro K hK
          go_simp
          refine hK _ ?_
          clear hK K
          apply mix_pureG _ (by go_simp)
          · intro w' hw'
            have hcr := hw'.cells
            go_simp
            rfl
          intro K hK
          go_simp
          refine hK _ ?_
          clear hK K
          apply mix_pureG _ (by go_simp)
          · intro w' hw'
            have hcr := hw'.cells
            go_simp
            rfl
          intro K hK
          go_simp
          refine hK _ ?_
          clear hK K
          apply mix_pureG _ (by go_simp)
          · intro w' hw'
            have hcr := hw'.cells
            go_simp
            rfl
          intro K hK
          go_simp
          refine hK _ ?_
          clear hK K
          apply mix_pureG _ (by go_simp)
          · intro w' hw'
            have hcr := hw'.cells
            go_simp
            rfl
          intro K hK
          go_simp
          refine hK _ ?_
          clear hK K
          apply mix_pure _ rfl
          · intro w' hw'
            have hcr := hw'.cells
            go_simp
            rfl
          intro K hK
          go_simp
          refine hK _ ?_
          clear hK K
          apply mix_pure _ rfl
          · intro w' hw'
            have hcr := hw'.cells
            go_simp
            rfl
          intro K hK
          go_simp
          refine hK _ ?_
          clear hK K
          apply mix_pureG _ (by go_simp)
          · intro w' hw'
            have hcr := hw'.cells
            go_simp
            rfl
          intro K hK
          go_simp
          refine hK _ ?_
          clear hK K
          apply mix_pureG _ (by go_simp)
          · intro w' hw'
            have hcr := hw'.cells
            go_simp
            rfl
          intro K hK
          go_simp
          refine hK _ ?_
          clear hK K
          apply mix_pureG _ (by go_simp)
          · intro w' hw'
            have hcr := hw'.cells
            go_simp
            rfl
          intro K hK
          go_simp
          refine hK _ ?_
          clear hK K
          apply mix_pureG _ (by go_simp)
          · intro w' hw'
            have hcr := hw'.cells
            go_simp
            rfl
          intro K hK
          go_simp
          refine hK _ ?_
          clear hK K
          apply mix_pureG _ (by go_simp)
          · intro w' hw'
            have hcr := hw'.cells
            go_simp
            rfl
          intro K hK
          go_simp
          refine hK _ ?_
          clear hK K
          apply mix_pureG _ (by go_simp)
          · intro w' hw'
            have hcr := hw'.cells
            go_simp
            rfl
          intro K hK
          go_simp
          refine hK _ ?_
          clear hK K
          apply mix_pureG _ (by go_simp)
          · intro w' hw'
            have hcr := hw'.cells
            go_simp
            rfl
          intro K hK
          go_simp
          refine hK _ ?_
          clear hK K
          apply mix_pureG _ (by go_simp)
          · intro w' hw'
            have hcr := hw'.cells
            go_simp
            rfl
          intro K hK
          go_simp
          refine hK _ ?_
          clear hK K
          apply mix_pureG _ (by go_simp)
          · intro w' hw'
            have hcr := hw'.cells
            go_simp
            rfl
          intro K hK
          go_simp
          refine hK _ ?_
          clear hK K
          apply mix_pureG _ (by go_simp)
          · intro w' hw'
            have hcr := hw'.cells
            go_simp
            rfl
          intro K hK
          go_simp
          refine hK _ ?_
          clear hK K
          apply mix_pureG _ (by go_simp)
          · intro w' hw'
            have hcr := hw'.cells
            go_simp
            rfl
          intro K hK
          go_simp
          refine hK _ ?_
          clear hK K
          apply mix_pureG _ (by go_simp)
          · intro w' hw'
            have hcr := hw'.cells
            go_simp
            rfl
          intro K hK
          go_simp
          refine hK _ ?_
          clear hK K
          apply mix_pureG _ (by go_simp)
          · intro w' hw'
            have hcr := hw'.cells
            go_simp
            rfl
          intro K hK
          go_simp
          refine hK _ ?_
          clear hK K
          apply mix_pureG _ (by go_simp)
          · intro w' hw'
            have hcr := hw'.cells
            go_simp
            rfl
          intro K hK
          go_simp
          refine hK _ ?_
          clear hK K
          apply mix_pureG _ (by go_simp)
          · intro w' hw'
            have hcr := hw'.cells
            go_simp
            rfl
          intro K hK
          go_simp
          refine hK _ ?_
          clear hK K
          refine mix_actG (by go_simp) (fun K hK => ?_)
          go_simp
          refine (HTK.out _ hcur).mono ?_
          rintro e w5 ⟨rfl, hb⟩
          simp only []
          refine hK _ _ (hcur.trans hb) (fun hcur => ?_)
          clear hK K hb
          apply mix_pureG _ (by go_simp)
          · intro w' hw'
            have hcr := hw'.cells
            go_simp
            rfl
          intro K hK
          go_simp
          refine hK _ ?_
          clear hK K
          apply mix_pureG _ (by go_simp)
          · intro w' hw'
            have hcr := hw'.cells
            go_simp
            rfl
          intro K hK
          go_simp
          refine hK _ ?_
          clear hK K
          apply mix_pure _ rfl
          · intro w' hw'
            have hcr := hw'.cells
            go_simp
            rfl
          intro K hK
          go_simp
          refine hK _ ?_
          clear hK K
          refine mix_nil ?_
          have HBR := Lib.hid (hbr.out.trans hcur)
          clear hcur
          go_wp2
          go_roundw
          case rel => exact ⟨k + 1, by omega, by go_num, HBR⟩
          case measure => simp [intOf]; omega
    · have hlti : ¬ (k : Int) < (L : Int) := by omega
      go_wp2
      go_ret
      exact ⟨rfl, hbr.out⟩
/-- The table and the cut, in boxes. -/
structure PyBx (w : World) (gt gc : Nat) (v vc : Value) : Prop where
  t : Bx w gt [v]
  c : Bx w gc [vc]
theorem PyBx.bel {w w' : World} {gt gc : Nat} {v vc : Value} (h : PyBx w gt gc v vc) (k : Bel w w') : PyBx w' gt gc v vc := ⟨h.t.bel k, h.c.bel k⟩
def eachP (t : List CP) (c : List Int) (i : Nat) : Int := if inB c (i : Int) then 0 else if (atC t i).of = -1 then (atC t i).pe else if inB c (atC t i).of then (atC t i).pe else 0
theorem eachP_eq (t : List CP) (c : List Int) (i : Nat) : eachP t c i = eachV t c i := by
  unfold eachP eachV soldB
  cases inB c (i : Int) <;> by_cases h : (atC t i).of = -1 <;> cases inB c (atC t i).of <;> simp [h]
theorem pays1_any (t : List CP) (c : List Int) (i : Nat) (gt gc : Nat) (v vc : Value) (w : World) (hi : i < t.length) (h8 : t.length ≤ 8) (hx : PyBx w gt gc v vc) (hv : CtAt w v t) (hcv : IntsAt w vc c) :
    Calls Try.prog 72 #[.int .i64 i, .pointer (some ⟨gt, 0, none⟩), .pointer (some ⟨gc, 0, none⟩)] w fun e w' => e = .returned (.int .i64 (eachV t c i)) ∧ Bel w w' := by
  rw [← eachP_eq]
  have HX := Lib.hid (show eachP t c i = if inB c (i : Int) then 0 else if (atC t i).of = -1 then (atC t i).pe else if inB c (atC t i).of then (atC t i).pe else 0 from rfl)
  have HCO := Lib.hid (fun n wx (hb : Bel w wx) => Contains_any vc c n wx (hcv.bel hb))
  obtain ⟨a, cc, b, off, rfl, ha, ⟨hl, _⟩, hc⟩ := hv
  obtain ⟨ya, yc, yb, yo, rfl, _, _, _⟩ := hcv
  have hix := idxTab (c := cc) ha
  obtain ⟨k0, k1, k2, k3, k4, k5⟩ := hc i hi
  have lk := cell_lt k0
  have hii : (i : Int) < (t.length : Int) := by omega
  have t0 := hx.t.c 0 _ rfl
  have c0 := hx.c.c 0 _ rfl
  have lt0 := cell_lt t0
  have lc0 := cell_lt c0
  clear ha hc hx
  generalize eachP t c i = R at *
  generalize atC t i = p at *
  obtain ⟨of, wlo, whi, slo, shi, pe⟩ := p
  simp only at k0 k1 k2 k3 k4 k5 HX
  generalize hG : t.length = G at *
  clear hG
  go_enter Try.func72, Try.ntmps72
  go_wp2_with fail
  generalize hW : World.alloc _ _ = W1
  have HP : Hid (Bx W1 w.heap.size [.int .i64 of, .int .i64 wlo, .int .i64 whi, .int .i64 slo, .int .i64 shi, .int .i64 pe]) := Lib.hid (by rw [← hW]; exact Bx.new rfl)
  have HB1 : Hid (Bel w W1) := Lib.hid (by rw [← hW]; exact (Bel.refl w).alloc _)
  clear hW k0 k1 k2 k3 k4 k5 lk
  replace c0 := HB1.out.cell c0
  replace lc0 := cell_lt c0
  clear t0 lt0
  have n0 := HP.out.c 0 _ rfl
  have n5 := HP.out.c 5 _ rfl
  have ln := HP.out.lt
  have HI1 := Lib.hid (fun wx hb => HCO.out (i : Int) wx hb)
  have HI2 := Lib.hid (fun wx hb => HCO.out of wx hb)
  clear HCO
  cases h1 : inB c (i : Int)
  · rw [h1] at HI1 HX
    clear h1
    refine (HI1.out _ HB1.out).mono ?_
    rintro e w2 ⟨rfl, hb⟩
    replace HB1 := Lib.hid (HB1.out.trans hb)
    replace c0 := hb.cell c0
    replace n0 := hb.cell n0
    replace n5 := hb.cell n5
    replace ln := cell_lt n0
    replace lc0 := cell_lt c0
    clear hb HI1 HP
    by_cases hx : of = -1
    · have b1 : (of != -1) = false := by simpa using hx
      have HR := Lib.hid (show R = pe by rw [HX.out, if_neg (by decide), if_pos hx])
      clear HX hx HI2
      go_wp2
      go_ret
      exact ⟨ri (by rw [HR.out]), HB1.out⟩
    · have b1 : (of != -1) = true := by simpa using hx
      rw [if_neg (by decide), if_neg hx] at HX
      clear hx
      cases h2 : inB c of
      all_goals
        rw [h2] at HI2 HX
        clear h2
        go_wp2_with fail
        refine (HI2.out _ HB1.out).mono ?_
        rintro e w3 ⟨rfl, hb⟩
        replace HB1 := Lib.hid (HB1.out.trans hb)
        replace c0 := hb.cell c0
        replace n0 := hb.cell n0
        replace n5 := hb.cell n5
        replace ln := cell_lt n0
        replace lc0 := cell_lt c0
        clear hb
        go_wp2
        go_ret
        exact ⟨ri (by rw [HX.out]; rfl), HB1.out⟩
  · rw [h1] at HI1 HX
    clear h1 HI2
    refine (HI1.out _ HB1.out).mono ?_
    rintro e w2 ⟨rfl, hb⟩
    replace HB1 := Lib.hid (HB1.out.trans hb)
    clear hb HI1 n0 n5 ln c0 lc0
    go_wp2
    go_ret
    exact ⟨ri (by rw [HX.out]; rfl), HB1.out⟩
/-- A function value that tells what each part is worth, in later worlds. -/
def Tells (w : World) (f : Nat) (lb : Array Value) (n : Nat) (val : Nat → Int) : Prop := ∀ i, i < n → ∀ wx, Bel w wx → Calls Try.prog f (#[.int .i64 i] ++ lb) wx fun e w' => e = .returned (.int .i64 (val i)) ∧ Bel wx w'
theorem Tells.bel {w w' : World} {f : Nat} {lb : Array Value} {n : Nat} {val : Nat → Int} (h : Tells w f lb n val) (k : Bel w w') : Tells w' f lb n val := fun i hi wx hb => h i hi wx (k.trans hb)
theorem pays_any (t : List CP) (c : List Int) (v vc : Value) (w : World) (h8 : t.length ≤ 8) (hv : CtAt w v t) (hcv : IntsAt w vc c) :
    Calls Try.prog 43 #[v, vc] w fun e w' => ∃ gt gc, e = .returned (.func (.func 72) #[] #[.pointer (some ⟨gt, 0, none⟩), .pointer (some ⟨gc, 0, none⟩)]) ∧ Tells w' 72 #[.pointer (some ⟨gt, 0, none⟩), .pointer (some ⟨gc, 0, none⟩)] t.length (eachV t c) ∧ Bel w w' := by
  have HP := Lib.hid (fun gt gc wx (hb : Bel w wx) (hx : PyBx wx gt gc v vc) => show Tells wx 72 #[.pointer (some ⟨gt, 0, none⟩), .pointer (some ⟨gc, 0, none⟩)] t.length (eachV t c) from fun i hi wy hy => pays1_any t c i gt gc v vc wy hi h8 (hx.bel hy) (hv.bel (hb.trans hy)) (hcv.bel (hb.trans hy)))
  obtain ⟨a, cc, b, off, rfl, _, _, _⟩ := hv
  obtain ⟨ya, yc, yb, yo, rfl, _, _, _⟩ := hcv
  have hmf : ∀ (fn : Fn) (first cap : Array Value) (w : World), (Instr.makeFunc fn first cap).run Try.prog w = .ok (.func fn first cap) w := fun _ _ _ _ => rfl
  go_enter Try.func43, Try.ntmps43
  go_wp2
  generalize hW : World.alloc _ _ = W1
  have hx : PyBx W1 w.heap.size (w.heap.size + 1) (.slice a t.length cc) (.slice ya c.length yc) := by
    rw [← hW]
    exact ⟨(Bx.new rfl).bel ((Bel.refl _).alloc _), Bx.new (by simp)⟩
  have hb : Bel w W1 := by rw [← hW]; exact ((Bel.refl w).alloc _).alloc _
  have HT := Lib.hid (HP.out _ _ _ hb hx)
  clear hW HP hx
  go_ret
  exact ⟨_, _, rfl, HT.out, hb⟩
end Go.Proofs.Ytkdcdhkhadhcfaa
