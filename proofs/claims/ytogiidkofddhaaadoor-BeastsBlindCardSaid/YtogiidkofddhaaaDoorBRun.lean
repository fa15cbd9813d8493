/-
  beasts: Run.
-/
import Derived.Test.YtogiidkofddhaaaDoorBGiven
import Derived.Test.YtogiidkofddhaaaDoorBPaid
import Derived.Test.YtogiidkofddhaaaDoorBMove3
namespace Go.Proofs.YtogiidkofddhaaaDoor
open Go Go.RowKit Go.Shelf
set_option maxHeartbeats 4000000
set_option maxRecDepth 100000
def runE (b : BT) (l : List BS) (p : Int) : Int := givenE b l (chamB b.n p)
def runAt (b : BT) (l : List BS) (p : Int) : Int := if runE b l p = 0 then (ranTo b l p l.length).1 else 0
def runLost (b : BT) (l : List BS) (p : Int) : Int := if runE b l p = 0 then costsL b l else 0
def runAns (b : BT) (l : List BS) (p : Int) : List Int := if runE b l p = 0 then (ranTo b l p l.length).2 else []
theorem runE_zero {b : BT} {l : List BS} {p : Int} (h : runE b l p = 0) : validT b = true ∧ l.length ≤ 12 ∧ stepsB b l = true ∧ chamB b.n p = true := by
  unfold runE givenE at h
  cases h1 : validT b
  · rw [h1] at h; cases h
  · rw [h1] at h
    simp only [if_true] at h
    by_cases h2 : 12 < l.length
    · rw [if_pos h2] at h; cases h
    · rw [if_neg h2] at h
      cases h3 : chamB b.n p
      · rw [h3] at h; simp at h
      · cases h4 : stepsB b l
        · rw [h3, h4] at h; simp at h
        · exact ⟨rfl, by omega, rfl, rfl⟩
theorem ranTo_open {b : BT} {l : List BS} {p : Int} {k : Nat} (h : (atS l k).k = 1) : ranTo b l p (k + 1) = (thr (atD b.doors (atS l k).x.toNat) (ranTo b l p k).1, (ranTo b l p k).2) := by
  show (if _ then _ else _) = _; rw [if_pos h]
theorem ranTo_look {b : BT} {l : List BS} {p : Int} {k : Nat} (h : (atS l k).k = 2) : ranTo b l p (k + 1) = ((ranTo b l p k).1, (ranTo b l p k).2 ++ [if (atS l k).x = (ranTo b l p k).1 then 1 else 0]) := by
  show (if _ then _ else _) = _; rw [if_neg (by omega)]
def RunPost (b : BT) (l : List BS) (p : Int) (w : World) (e : Ending) (w' : World) : Prop :=
  ∃ V, e = .returned (.tuple #[.int .i64 (runAt b l p), .int .i64 (runLost b l p), V, .int .i64 (runE b l p)]) ∧ IntsAt w' V (runAns b l p) ∧ Bel w w'
theorem Run_any (b : BT) (l : List BS) (p : Int) (v lv : Value) (w : World) (hv : BTrapAt w v b) (hl : StepsAt w lv l) :
    Calls Tryd.prog 57 #[v, lv, .int .i64 p] w (RunPost b l p w) := by
  have HV := Lib.hid hv
  have HL := Lib.hid hl
  have HGV := Lib.hid (fun is wx h1 h2 => given_any b l is v lv wx h1 h2)
  obtain ⟨dv, sv, pv, rfl, hd, hs, hp⟩ := hv
  obtain ⟨la, lc, lb, loff, rfl, hla, ⟨hll, _⟩, hlc⟩ := hl
  have hixl := idxSteps (c := lc) hla
  have HLC := Lib.hid hlc
  have HCH := Lib.hid (fun wx => chamber_any b p dv sv pv wx)
  obtain ⟨da, dc, db, doff, rfl, hda, ⟨hdl, _⟩, hdc⟩ := hd
  have hixd := idxDoors (c := dc) hda
  have HDC := Lib.hid hdc
  have hsv : ∃ sa sn sc, sv = .slice sa sn sc := by obtain ⟨sa, sc, sb, soff, rfl, _⟩ := hs; exact ⟨_, _, _, rfl⟩
  have hpv : ∃ sa sn sc, pv = .slice sa sn sc := by obtain ⟨sa, sc, sb, soff, rfl, _⟩ := hp; exact ⟨_, _, _, rfl⟩
  obtain ⟨sa, sn, sc, rfl⟩ := hsv
  obtain ⟨pa, pn, pc, rfl⟩ := hpv
  have HBX := Lib.hid (fun wx hx => (BoxB.new (w := w) (b := b) (dv := .slice da b.doors.length dc) (sv := .slice sa sn sc) (pv := .slice pa pn pc) (T := 25)).bel (w' := wx) hx)
  clear hs hp hla hlc hda hdc
  cases hE : decide (runE b l p = 0)
  · have hE' : runE b l p ≠ 0 := by simpa using hE
    have h1 : runAt b l p = 0 := if_neg hE'
    have h2 : runLost b l p = 0 := if_neg hE'
    have h3 : runAns b l p = [] := if_neg hE'
    have hb1 : (runE b l p != 0) = true := by simpa using hE'
    have HRE := Lib.hid (show givenE b l (chamB b.n p) = runE b l p from rfl)
    unfold RunPost
    rw [h1, h2, h3]
    generalize runE b l p = er at *
    clear hE hE' h1 h2 h3 HBX
    go_enter Tryd.func57, Tryd.ntmps57
    go_wp2
    refine wp_region_mixB (Plan.seq [0, 1, 2, 3, 1004, 1005, 6] .nil) (by kernel_rfl) (by kernel_rfl) (fun hcur => ?_)
    simp only [Plan.seq, Plan.fill, List.getD_cons_zero, List.getD_cons_succ, Nat.reduceLT, ↓reduceIte, Nat.reduceSub]
    apply mix_pure _ rfl
    · intro w' hw'
      have hcr := hw'.cells
      go_simp
      rfl
    intro K hK
    go_simp
    refine hK _ ?_
    clear hK K
    apply mix_pure _ rfl
    · intro w' hw'
      have hcr := hw'.cells
      go_simp
      rfl
    intro K hK
    go_simp
    refine hK _ ?_
    clear hK K
    apply mix_pure _ rfl
    · intro w' hw'
      have hcr := hw'.cells
      go_simp
      rfl
    intro K hK
    go_simp
    refine hK _ ?_
    clear hK K
    apply mix_pure _ rfl
    · intro w' hw'
      have hcr := hw'.cells
      go_simp
      rfl
    intro K hK
    go_simp
    refine hK _ ?_
    clear hK K
    refine mix_act rfl (fun K hK => ?_)
    go_simp
    refine (HCH.out _).mono ?_
    rintro e w4 ⟨rfl, hb⟩
    have hcr4 := hb.cells
    simp only []
    refine hK _ _ (hcur.trans hb) (fun hcur => ?_)
    clear hK K hb
    refine mix_act rfl (fun K hK => ?_)
    go_simp
    refine (HGV.out _ _ (HV.out.bel (by repeat (first | assumption | exact Bel.refl _ | refine Bel.drew ?_ | refine Bel.drewN ?_ _ | refine Bel.alloc ?_ _ | refine Bel.setCell ?_ (by simp <;> omega) _ | refine Bel.trans ?_ (by assumption)))) (HL.out.bel (by repeat (first | assumption | exact Bel.refl _ | refine Bel.drew ?_ | refine Bel.drewN ?_ _ | refine Bel.alloc ?_ _ | refine Bel.setCell ?_ (by simp <;> omega) _ | refine Bel.trans ?_ (by assumption))))).mono ?_
    rw [HRE.out]
    rintro e w5 ⟨rfl, hb⟩
    simp only []
    refine hK _ _ (hcur.trans hb) (fun hcur => ?_)
    clear hK K hb
    apply mix_pure _ rfl
    · intro w' hw'
      have hcr := hw'.cells
      go_simp
      rfl
    intro K hK
    go_simp
    refine hK _ ?_
    clear hK K
    refine mix_nil ?_
    have HF := Lib.hid (show Bel w w5 from Bel.trans (by repeat (first | assumption | exact Bel.refl _ | refine Bel.drew ?_ | refine Bel.drewN ?_ _ | refine Bel.alloc ?_ _ | refine Bel.setCell ?_ (by simp <;> omega) _ | refine Bel.trans ?_ (by assumption))) hcur)
    clear hcur
    go_wp2
    exact bodyPost_ret (v := .tuple #[.int .i64 0, .int .i64 0, .slice none 0 0, .int .i64 er]) (by simp [results, Tryd.results57, go_sem, *]) rfl ⟨_, rfl, IntsAt.nil _, HF.out⟩
  have hE' : runE b l p = 0 := by simpa using hE
  have h1 : runAt b l p = (ranTo b l p l.length).1 := if_pos hE'
  have h2 : runLost b l p = costsL b l := if_pos hE'
  have h3 : runAns b l p = (ranTo b l p l.length).2 := if_pos hE'
  have HRE := Lib.hid (show givenE b l (chamB b.n p) = 0 from hE')
  obtain ⟨hval, h12, hst, hch⟩ := runE_zero hE'
  have hok := okb_iff.1 hval
  have HST := Lib.hid (stepsB_iff.1 hst)
  have hpi := withinB_true.1 ((chamB_in hok.n1 hok.n2 p) ▸ hch)
  have HCI := Lib.hid (costTo_in (b := b) (l := l) (fun x hx => by obtain ⟨k, hk, e⟩ := mem_getD l x default hx; exact ⟨hval, e ▸ HST.out k hk⟩))
  have HRL := Lib.hid (fun k hk => (ran_len (b := b) l HST.out p k hk).1)
  have HCO := Lib.hid (fun (k : Nat) (hk : k < l.length) wx hx => cost_any b hval (atS l k) (HST.out k hk) _ wx (HV.out.bel (w' := wx) hx))
  obtain ⟨i1, hi1, hz1, hs1, hb1⟩ := info_parts mkInt
  have HI1 := Lib.hid hi1
  have HZ1 := Lib.hid hz1
  unfold RunPost
  rw [h1, h2, h3, hE', ← costTo_all]
  clear hE hE' h1 h2 h3 hst hch hi1 hz1
  go_enter Tryd.func57, Tryd.ntmps57
  go_wp2
  refine wp_region_mixB (Plan.seq [0, 1, 2, 3, 1004, 1005, 6] .nil) (by kernel_rfl) (by kernel_rfl) (fun hcur => ?_)
  simp only [Plan.seq, Plan.fill, List.getD_cons_zero, List.getD_cons_succ, Nat.reduceLT, ↓reduceIte, Nat.reduceSub]
  apply mix_pure _ rfl
  · intro w' hw'
    have hcr := hw'.cells
    go_simp
    rfl
  intro K hK
  go_simp
  refine hK _ ?_
  clear hK K
  apply mix_pure _ rfl
  · intro w' hw'
    have hcr := hw'.cells
    go_simp
    rfl
  intro K hK
  go_simp
  refine hK _ ?_
  clear hK K
  apply mix_pure _ rfl
  · intro w' hw'
    have hcr := hw'.cells
    go_simp
    rfl
  intro K hK
  go_simp
  refine hK _ ?_
  clear hK K
  apply mix_pure _ rfl
  · intro w' hw'
    have hcr := hw'.cells
    go_simp
    rfl
  intro K hK
  go_simp
  refine hK _ ?_
  clear hK K
  refine mix_act rfl (fun K hK => ?_)
  go_simp
  refine (HCH.out _).mono ?_
  rintro e w4 ⟨rfl, hb⟩
  have hcr4 := hb.cells
  simp only []
  refine hK _ _ (hcur.trans hb) (fun hcur => ?_)
  clear hK K hb
  refine mix_act rfl (fun K hK => ?_)
  go_simp
  refine (HGV.out _ _ (HV.out.bel (by repeat (first | assumption | exact Bel.refl _ | refine Bel.drew ?_ | refine Bel.drewN ?_ _ | refine Bel.alloc ?_ _ | refine Bel.setCell ?_ (by simp <;> omega) _ | refine Bel.trans ?_ (by assumption)))) (HL.out.bel (by repeat (first | assumption | exact Bel.refl _ | refine Bel.drew ?_ | refine Bel.drewN ?_ _ | refine Bel.alloc ?_ _ | refine Bel.setCell ?_ (by simp <;> omega) _ | refine Bel.trans ?_ (by assumption))))).mono ?_
  rw [HRE.out]
  rintro e w5 ⟨rfl, hb⟩
  simp only []
  refine hK _ _ (hcur.trans hb) (fun hcur => ?_)
  clear hK K hb
  apply mix_pure _ rfl
  · intro w' hw'
    have hcr := hw'.cells
    go_simp
    rfl
  intro K hK
  go_simp
  refine hK _ ?_
  clear hK K
  refine mix_nil ?_
  have HB0 := Lib.hid hcur
  have HB := Lib.hid (show Bel w w5 from Bel.trans (by repeat (first | assumption | exact Bel.refl _ | refine Bel.drew ?_ | refine Bel.drewN ?_ _ | refine Bel.alloc ?_ _ | refine Bel.setCell ?_ (by simp <;> omega) _ | refine Bel.trans ?_ (by assumption))) hcur)
  clear hcur
  go_wp2
  go_loopw [6, 7, 8, 26] (fun va vl V vi wr => ∃ k : Nat, k ≤ l.length ∧ vi = .int .i64 k ∧ va = .int .i64 (ranTo b l p k).1 ∧ vl = .int .i64 (costTo b l k) ∧ IntSt (ranTo b l p k).2 w5 V wr) (fun _ _ _ vi _ => l.length - (intOf vi).toNat)
  case atStart => exact ⟨0, by omega, rfl, rfl, rfl, IntSt.start w5⟩
  case round =>
    obtain ⟨k, hk, rfl, rfl, rfl, hst⟩ := hrel
    have HS := Lib.hid hst
    by_cases hlt : k < l.length
    · have hlti : (k : Int) < (l.length : Int) := by omega
      obtain ⟨y0, y1⟩ := HLC.out k hlt
      replace y0 := (HB.out.trans hst.bel).cell y0
      replace y1 := (HB.out.trans hst.bel).cell y1
      have ly := cell_lt y0
      obtain ⟨x0, x1, x2, x3, x4, x5⟩ := HBX.out _ (HB0.out.trans hst.bel)
      have l0 := cell_lt x0
      have HBW := Lib.hid (HB.out.trans hst.bel)
      have HC := Lib.hid (fun wx hx => HCO.out k hlt wx hx)
      have HSU := Lib.hid (costTo_succ (b := b) hlt)
      obtain ⟨c1, c2⟩ := HCI.out k hk
      obtain ⟨c3, c4⟩ := HCI.out (k + 1) hlt
      rw [HSU.out] at c3 c4
      have hlook := looksTo_le l k
      have hrl := HRL.out k hk
      have hx := HST.out k hlt
      have HOPEN := Lib.hid (ranTo_open (b := b) (l := l) (p := p) (k := k))
      have HLOOK := Lib.hid (ranTo_look (b := b) (l := l) (p := p) (k := k))
      clear hst
      generalize atS l k = x at *
      have hw1 : IntKind.i64.wrap (costTo b l k + costS b x) = costTo b l k + costS b x := IntWalk.i64_in _ (by omega)
      generalize costS b x = cx at *
      generalize costTo b l k = cl at *
      rcases hx with ⟨e, g1, g2⟩ | ⟨e, g⟩
      · have b1 : (x.k == 1) = true := by simpa using e
        have HRN := Lib.hid (HOPEN.out e)
        obtain ⟨j, hj⟩ : ∃ j : Nat, x.x = j := ⟨x.x.toNat, by omega⟩
        have hj2 : j < b.doors.length := by omega
        have hj3 : (j : Int) < (b.doors.length : Int) := by omega
        rw [hj] at y1 HRN
        simp only [Int.toNat_natCast] at HRN
        have HJ := Lib.hid (show BS.mk x.k x.x = ⟨x.k, (j : Int)⟩ by rw [hj])
        have HC2 : Hid (∀ wx, Bel w wx → Calls Tryd.prog 73 #[_, .agg #[.int .i64 x.k, .int .i64 (j : Int)]] wx fun e w' => e = .returned (.int .i64 cx) ∧ Bel wx w') := Lib.hid (by rw [← hj]; exact HC.out)
        obtain ⟨d0, d1, d2⟩ := HDC.out j hj2
        replace d0 := HBW.out.cell d0
        replace d1 := HBW.out.cell d1
        replace d2 := HBW.out.cell d2
        have ld := cell_lt d0
        have HT := Lib.hid (fun wx => through_any (atD b.doors j) (ranTo b l p k).1 wx)
        generalize atD b.doors j = d at *
        clear e g1 g2 hj HC HOPEN HLOOK HJ
        generalize ranTo b l p k = r at *
        go_wp2_with fail
        refine (HC2.out _ (HBW.out.trans (by repeat (first | assumption | exact Bel.refl _ | refine Bel.drew ?_ | refine Bel.drewN ?_ _ | refine Bel.alloc ?_ _ | refine Bel.setCell ?_ (by simp <;> omega) _ | refine Bel.trans ?_ (by assumption))))).mono ?_
        rintro e w6 ⟨rfl, hb⟩
        have q0 : w6.cell? ⟨wr.heap.size, 0, none⟩ = some (.int .i64 x.k) := hb.cell ((row_facts (new_row rfl)).1 0)
        have q1 : w6.cell? ⟨wr.heap.size, 1, none⟩ = some (.int .i64 (j : Int)) := hb.cell ((row_facts (new_row rfl)).1 1)
        have lq := cell_lt q0
        have HK := Lib.hid (show Bel wr w6 from Bel.trans (by repeat (first | assumption | exact Bel.refl _ | refine Bel.drew ?_ | refine Bel.drewN ?_ _ | refine Bel.alloc ?_ _ | refine Bel.setCell ?_ (by simp <;> omega) _ | refine Bel.trans ?_ (by assumption))) hb)
        replace x1 := HK.out.cell x1
        replace x0 := HK.out.cell x0
        have l06 := cell_lt x0
        replace d0 := HK.out.cell d0
        replace d1 := HK.out.cell d1
        replace d2 := HK.out.cell d2
        have ld6 := cell_lt d0
        have HS6 := Lib.hid (HS.out.keep HK.out)
        clear hb
        go_wp2_with fail
        refine (HT.out _).mono ?_
        rintro e w7 ⟨rfl, hb⟩
        have HS7 := Lib.hid (HS6.out.keep (Bel.trans (by repeat (first | assumption | exact Bel.refl _ | refine Bel.drew ?_ | refine Bel.drewN ?_ _ | refine Bel.alloc ?_ _ | refine Bel.setCell ?_ (by simp <;> omega) _ | refine Bel.trans ?_ (by assumption))) hb))
        clear hb
        go_wp2
        go_roundw
        case rel => exact ⟨k + 1, by omega, by go_num, by rw [HRN.out], by rw [HSU.out], by rw [HRN.out]; exact HS7.out⟩
        case measure => simp [intOf]; omega
      · have b1 : (x.k == 1) = false := by rw [beq_eq_false_iff_ne]; omega
        have HRN := Lib.hid (HLOOK.out e)
        clear e g HOPEN HLOOK
        generalize ranTo b l p k = r at *
        have hq : ∃ a : Int, (if x.x = r.1 then (1 : Int) else 0) = a ∧ ((r.1 == x.x) = true ∧ a = 1 ∨ (r.1 == x.x) = false ∧ a = 0) := by
          by_cases q : x.x = r.1
          · exact ⟨1, by rw [if_pos q], .inl ⟨by rw [q]; simp, rfl⟩⟩
          · exact ⟨0, by rw [if_neg q], .inr ⟨by rw [beq_eq_false_iff_ne]; exact fun z => q z.symm, rfl⟩⟩
        obtain ⟨a, ha, hq⟩ := hq
        rw [ha] at HRN
        clear ha
        rcases hq with ⟨b2, rfl⟩ | ⟨b2, rfl⟩
        all_goals
          go_wp2_with fail
          refine (HC.out _ (HBW.out.trans (by repeat (first | assumption | exact Bel.refl _ | refine Bel.drew ?_ | refine Bel.drewN ?_ _ | refine Bel.alloc ?_ _ | refine Bel.setCell ?_ (by simp <;> omega) _ | refine Bel.trans ?_ (by assumption))))).mono ?_
          rintro e w6 ⟨rfl, hb⟩
          have q0 : w6.cell? ⟨wr.heap.size, 0, none⟩ = some (.int .i64 x.k) := hb.cell ((row_facts (new_row rfl)).1 0)
          have q1 : w6.cell? ⟨wr.heap.size, 1, none⟩ = some (.int .i64 x.x) := hb.cell ((row_facts (new_row rfl)).1 1)
          have lq := cell_lt q0
          have HS6 := Lib.hid (HS.out.keep (Bel.trans (by repeat (first | assumption | exact Bel.refl _ | refine Bel.drew ?_ | refine Bel.drewN ?_ _ | refine Bel.alloc ?_ _ | refine Bel.setCell ?_ (by simp <;> omega) _ | refine Bel.trans ?_ (by assumption))) hb))
          clear hb x0 x1 x2 x3 x4 x5 l0 y0 y1 ly
          go_wp2_with (at_builtin; refine wpList_append_where rfl _ _ 23 rfl 3 i1 (.int .i64 0) 1 8 Tryd.underlying23 HI1.out HZ1.out hs1 hb1 rfl (by decide) _ r.2.length (r.2.map (Value.int .i64)) rfl (ownsRow_bel HS6.out.own ((Bel.refl w6).alloc _)) ⟨w6.heap.size, 0, none⟩ 1 1 [.int .i64 _] rfl rfl (cell_one_new _ _ _) (fun y hy => by simp at hy; subst hy; rfl) (by unfold maxLen; omega) (by omega) ?_; intro V' w7 hown hgrow hwhere)
          have HS7 := Lib.hid ((HS6.out.keep ((Bel.refl w6).alloc _)).next hown hgrow hwhere)
          clear hown hgrow hwhere
          go_wp2
          go_roundw
          case rel => exact ⟨k + 1, by omega, by go_num, by rw [HRN.out], by rw [HSU.out], by rw [HRN.out]; exact HS7.out⟩
          case measure => simp [intOf]; omega
    · obtain rfl : k = l.length := by omega
      have hll2 := HRL.out l.length (Nat.le_refl _)
      have hlook := looksTo_le l l.length
      clear hst
      go_wp2
      exact bodyPost_ret (v := .tuple #[.int .i64 (ranTo b l p l.length).1, .int .i64 (costTo b l l.length), u8, .int .i64 0]) (by simp [results, Tryd.results57, go_sem]) rfl ⟨_, rfl, ownInts (by omega) HS.out.own, HB.out.trans HS.out.bel⟩
end Go.Proofs.YtogiidkofddhaaaDoor
