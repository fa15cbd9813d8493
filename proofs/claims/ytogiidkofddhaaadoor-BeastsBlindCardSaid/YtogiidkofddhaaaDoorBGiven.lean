/-
  beasts: right, given: the error of a trap that is asked for something of steps.
-/
import Derived.Test.YtogiidkofddhaaaDoorBPath
import Derived.Test.YtogiidkofddhaaaDoorBR
namespace Go.Proofs.YtogiidkofddhaaaDoor
open Go Go.RowKit
set_option maxHeartbeats 2000000
set_option maxRecDepth 100000
def rightB (b : BT) (x : BS) : Bool := if x.k = 1 then isDoorB b x.x else if x.k = 2 then inB b.seen x.x else false
theorem rightB_iff {b : BT} {x : BS} : rightB b x = true ↔ IsStp b x := by
  unfold rightB IsStp
  by_cases h1 : x.k = 1
  · rw [if_pos h1]
    unfold isDoorB
    rw [withinB_true]
    constructor
    · rintro ⟨g1, g2⟩; exact .inl ⟨h1, g1, by omega⟩
    · rintro (⟨_, g1, g2⟩ | ⟨g, _⟩)
      · exact ⟨g1, by omega⟩
      · omega
  · rw [if_neg h1]
    by_cases h2 : x.k = 2
    · rw [if_pos h2, inB_true]
      constructor
      · intro g; exact .inr ⟨h2, g⟩
      · rintro (⟨g, _⟩ | ⟨_, g⟩)
        · omega
        · exact g
    · rw [if_neg h2]
      constructor
      · intro g; cases g
      · rintro (⟨g, _⟩ | ⟨g, _⟩) <;> omega
def stepsB (b : BT) (l : List BS) : Bool := allB l.length fun i => rightB b (atS l i)
theorem stepsB_iff {b : BT} {l : List BS} : stepsB b l = true ↔ ∀ k, k < l.length → IsStp b (atS l k) := by
  unfold stepsB
  rw [allB_iff]
  exact forall_congr' fun k => imp_congr Iff.rfl rightB_iff
theorem right_any (b : BT) (x : BS) (v : Value) (w : World) (hv : BTrapAt w v b) : Calls Tryd.prog 111 #[v, .agg #[.int .i64 x.k, .int .i64 x.x]] w fun e w' => e = .returned (.bool (rightB b x)) ∧ Bel w w' := by
  have HV := Lib.hid hv
  have HI := Lib.hid (fun wx hx => isDoor_any b x.x v wx hx)
  have HR := Lib.hid (show rightB b x = if x.k = 1 then isDoorB b x.x else if x.k = 2 then inB b.seen x.x else false from rfl)
  obtain ⟨dv, sv, pv, rfl, hd, hs, hp⟩ := hv
  have HS := Lib.hid hs
  have HC := Lib.hid (fun wx hx => Contains_any sv b.seen x.x wx hx)
  have hdv : ∃ da dn dc, dv = .slice da dn dc := by obtain ⟨da, dc, db, doff, rfl, _⟩ := hd; exact ⟨_, _, _, rfl⟩
  have hsv : ∃ sa sn sc, sv = .slice sa sn sc := by obtain ⟨sa, sc, sb, soff, rfl, _⟩ := hs; exact ⟨_, _, _, rfl⟩
  have hpv : ∃ sa sn sc, pv = .slice sa sn sc := by obtain ⟨sa, sc, sb, soff, rfl, _⟩ := hp; exact ⟨_, _, _, rfl⟩
  obtain ⟨da, dn, dc, rfl⟩ := hdv
  obtain ⟨sa, sn, sc, rfl⟩ := hsv
  obtain ⟨pa, pn, pc, rfl⟩ := hpv
  clear hd hs hp
  by_cases h1 : x.k = 1
  · rw [if_pos h1] at HR
    have b1 : (x.k == 1) = true := by simpa using h1
    clear h1
    go_enter Tryd.func111, Tryd.ntmps111
    go_wp2_with fail
    refine (HI.out _ (HV.out.bel (by repeat (first | assumption | exact Bel.refl _ | refine Bel.drew ?_ | refine Bel.drewN ?_ _ | refine Bel.alloc ?_ _ | refine Bel.setCell ?_ (by simp <;> omega) _ | refine Bel.trans ?_ (by assumption))))).mono ?_
    rintro e w1 ⟨rfl, hb⟩
    have HB := Lib.hid (show Bel w w1 from Bel.trans (by repeat (first | assumption | exact Bel.refl _ | refine Bel.drew ?_ | refine Bel.drewN ?_ _ | refine Bel.alloc ?_ _ | refine Bel.setCell ?_ (by simp <;> omega) _ | refine Bel.trans ?_ (by assumption))) hb)
    clear hb
    go_wp2
    go_ret
    exact ⟨rb HR.out, HB.out⟩
  rw [if_neg h1] at HR
  have b1 : (x.k == 1) = false := by simpa using h1
  clear h1
  by_cases h2 : x.k = 2
  · rw [if_pos h2] at HR
    have b2 : (x.k == 2) = true := by simpa using h2
    clear h2
    go_enter Tryd.func111, Tryd.ntmps111
    go_wp2_with fail
    refine (HC.out _ (HS.out.bel (by repeat (first | assumption | exact Bel.refl _ | refine Bel.drew ?_ | refine Bel.drewN ?_ _ | refine Bel.alloc ?_ _ | refine Bel.setCell ?_ (by simp <;> omega) _ | refine Bel.trans ?_ (by assumption))))).mono ?_
    rintro e w1 ⟨rfl, hb⟩
    have HB := Lib.hid (show Bel w w1 from Bel.trans (by repeat (first | assumption | exact Bel.refl _ | refine Bel.drew ?_ | refine Bel.drewN ?_ _ | refine Bel.alloc ?_ _ | refine Bel.setCell ?_ (by simp <;> omega) _ | refine Bel.trans ?_ (by assumption))) hb)
    clear hb
    go_wp2
    go_ret
    exact ⟨rb HR.out, HB.out⟩
  rw [if_neg h2] at HR
  have b2 : (x.k == 2) = false := by simpa using h2
  clear h2
  go_enter Tryd.func111, Tryd.ntmps111
  go_wp2
  go_ret
  exact ⟨rb HR.out, (by repeat (first | assumption | exact Bel.refl _ | refine Bel.drew ?_ | refine Bel.drewN ?_ _ | refine Bel.alloc ?_ _ | refine Bel.setCell ?_ (by simp <;> omega) _ | refine Bel.trans ?_ (by assumption)))⟩
theorem BTrapAt.slices {w : World} {b : BT} {x y z dv sv pv : Value} (h : BTrapAt w (.agg #[x, dv, sv, y, z, pv]) b) : (∃ a c, dv = .slice a b.doors.length c) ∧ (∃ a c, sv = .slice a b.seen.length c) ∧ ∃ a c, pv = .slice a b.places.length c := by
  obtain ⟨dv', sv', pv', e, ⟨da, dc, _, _, rfl, _⟩, ⟨sa, sc, _, _, rfl, _⟩, ⟨pa, pc, _, _, rfl, _⟩⟩ := h
  simp only [Value.agg.injEq, Array.mk.injEq, List.cons.injEq] at e
  obtain ⟨_, rfl, rfl, _, _, rfl, _⟩ := e
  exact ⟨⟨_, _, rfl⟩, ⟨_, _, rfl⟩, ⟨_, _, rfl⟩⟩
theorem given1_any (b : BT) (x : BS) (tb : Nat) (dv sv pv : Value) (w : World) (hx : BoxB w tb b dv sv pv) (hv : BTrapAt w (.agg #[.int .i64 b.n, dv, sv, .int .i64 b.look, .int .i64 b.eats, pv]) b) :
    Calls Tryd.prog 110 #[.agg #[.int .i64 x.k, .int .i64 x.x], .pointer (some ⟨tb, 0, none⟩)] w fun e w' => e = .returned (.bool (!rightB b x)) ∧ Bel w w' := by
  have HR := Lib.hid (fun wx hx => right_any b x (.agg #[.int .i64 b.n, dv, sv, .int .i64 b.look, .int .i64 b.eats, pv]) wx hx)
  have HV := Lib.hid hv
  obtain ⟨x0, x1, x2, x3, x4, x5⟩ := hx
  have l0 := cell_lt x0
  obtain ⟨⟨da, dc, rfl⟩, ⟨sa, sc, rfl⟩, ⟨pa, pc, rfl⟩⟩ := hv.slices
  clear hv
  go_enter Tryd.func110, Tryd.ntmps110
  go_wp2_with fail
  refine (HR.out _ (HV.out.bel (by repeat (first | assumption | exact Bel.refl _ | refine Bel.drew ?_ | refine Bel.drewN ?_ _ | refine Bel.alloc ?_ _ | refine Bel.setCell ?_ (by simp <;> omega) _ | refine Bel.trans ?_ (by assumption))))).mono ?_
  rintro e w1 ⟨rfl, hb⟩
  have HB := Lib.hid (show Bel w w1 from Bel.trans (by repeat (first | assumption | exact Bel.refl _ | refine Bel.drew ?_ | refine Bel.drewN ?_ _ | refine Bel.alloc ?_ _ | refine Bel.setCell ?_ (by simp <;> omega) _ | refine Bel.trans ?_ (by assumption))) hb)
  clear hb
  go_wp2
  go_ret
  exact ⟨rfl, HB.out⟩
theorem idxFs_any (b : BT) (l : List BS) (tb : Nat) (v dv sv pv : Value) (w : World) (hx : BoxB w tb b dv sv pv) (ht : BTrapAt w (.agg #[.int .i64 b.n, dv, sv, .int .i64 b.look, .int .i64 b.eats, pv]) b) (hv : StepsAt w v l) :
    Calls Tryd.prog 114 #[v, .func (.func 110) #[] #[.pointer (some ⟨tb, 0, none⟩)]] w fun e w' => ∃ r : Int, e = .returned (.int .i64 r) ∧ decide (0 ≤ r) = (!stepsB b l) ∧ Bel w w' := by
  obtain ⟨a, c, bb, off, rfl, ha, ⟨hlen, _⟩, hc⟩ := hv
  have hix := idxSteps (c := c) ha
  have HC := Lib.hid hc
  have HC2 := Lib.hid (fun k wx (h : Bel w wx) => given1_any b (atS l k) tb dv sv pv wx (hx.bel h) (ht.bel h))
  clear ha hc hx ht
  go_enter Tryd.func114, Tryd.ntmps114
  go_wp2
  go_loopw [8] (fun i wr => ∃ k : Nat, k ≤ l.length ∧ i = .int .i64 k ∧ Hid (allB k (fun i => rightB b (atS l i)) = true) ∧ Bel w wr) (fun i _ => l.length - (intOf i).toNat)
  case atStart => exact ⟨0, by omega, rfl, rfl, Bel.refl _⟩
  case round =>
    obtain ⟨k, hk, rfl, hno, hw⟩ := hrel
    have HW := Lib.hid hw
    by_cases hlt : k < l.length
    · have hlti : (k : Int) < (l.length : Int) := by omega
      obtain ⟨k0, k1⟩ := HC.out k hlt
      replace k0 := hw.cell k0
      replace k1 := hw.cell k1
      have lk := cell_lt k0
      have HCK := Lib.hid (HC2.out k wr hw)
      clear hw
      cases hwk : rightB b (atS l k)
      · have HI := Lib.hid (show stepsB b l = false from allB_false k hlt hwk)
        rw [hwk] at HCK
        clear hwk
        generalize atS l k = d at *
        go_wp2_with fail
        refine HCK.out.mono ?_
        rintro e w2 ⟨rfl, hb⟩
        have HB := Lib.hid (HW.out.trans hb)
        clear hb k0 k1 lk
        go_wp2
        go_ret
        exact ⟨(k : Int), rfl, by rw [HI.out]; simp, HB.out⟩
      · have HR := Lib.hid (allB_succ hno.out (f := fun i => rightB b (atS l i)) hwk)
        rw [hwk] at HCK
        clear hwk
        generalize atS l k = d at *
        go_wp2_with fail
        refine HCK.out.mono ?_
        rintro e w2 ⟨rfl, hb⟩
        have HB := Lib.hid (HW.out.trans hb)
        clear hb k0 k1 lk
        go_wp2
        go_roundw
        case rel => exact ⟨k + 1, by omega, by go_num, HR, HB.out⟩
        case measure => simp [intOf]; omega
    · have HI := Lib.hid (show stepsB b l = true by unfold stepsB; rw [show l.length = k by omega]; exact hno.out)
      clear hw
      go_wp2
      go_ret
      exact ⟨-1, rfl, by rw [HI.out]; rfl, HW.out⟩
theorem conFs_any (b : BT) (l : List BS) (tb : Nat) (v dv sv pv : Value) (w : World) (hx : BoxB w tb b dv sv pv) (ht : BTrapAt w (.agg #[.int .i64 b.n, dv, sv, .int .i64 b.look, .int .i64 b.eats, pv]) b) (hv : StepsAt w v l) :
    Calls Tryd.prog 109 #[v, .func (.func 110) #[] #[.pointer (some ⟨tb, 0, none⟩)]] w fun e w' => e = .returned (.bool (!stepsB b l)) ∧ Bel w w' := by
  have HC := Lib.hid (idxFs_any b l tb v dv sv pv w hx ht hv)
  obtain ⟨a, c, bb, off, rfl, ha, ⟨hlen, _⟩, hc⟩ := hv
  clear hx ht ha hc
  go_enter Tryd.func109, Tryd.ntmps109
  go_wp2_with fail
  refine HC.out.mono ?_
  rintro e w' ⟨r, rfl, hr, hb⟩
  have HR := Lib.hid hr
  clear hr
  go_wp2
  go_ret
  exact ⟨rb (by rw [← HR.out]), hb⟩
/-- The error of a trap and of steps. -/
def givenE (b : BT) (l : List BS) (is : Bool) : Int := if validT b then (if 12 < l.length then 2 else if is && stepsB b l then 0 else 1) else 60
theorem given_any (b : BT) (l : List BS) (is : Bool) (v lv : Value) (w : World) (hv : BTrapAt w v b) (hl : StepsAt w lv l) :
    Calls Tryd.prog 99 #[v, lv, .bool is] w fun e w' => e = .returned (.int .i64 (givenE b l is)) ∧ Bel w w' := by
  have HV := Lib.hid hv
  have HL := Lib.hid hl
  have HCK := Lib.hid (fun wx hx => bCheck_any b v wx hx)
  have HE := Lib.hid (show givenE b l is = if validT b then (if 12 < l.length then 2 else if is && stepsB b l then 0 else 1) else 60 from rfl)
  obtain ⟨dv, sv, pv, rfl, hd, hs, hp⟩ := hv
  obtain ⟨la, lc, lb, loff, rfl, hla, ⟨hll, _⟩, hlc⟩ := hl
  have HCF := Lib.hid (fun tb wx (h1 : BoxB wx tb b dv sv pv) (h2 : Bel w wx) => conFs_any b l tb (.slice la l.length lc) dv sv pv wx h1 (HV.out.bel h2) (HL.out.bel h2))
  have hdv : ∃ da dn dc, dv = .slice da dn dc := by obtain ⟨da, dc, db, doff, rfl, _⟩ := hd; exact ⟨_, _, _, rfl⟩
  have hsv : ∃ sa sn sc, sv = .slice sa sn sc := by obtain ⟨sa, sc, sb, soff, rfl, _⟩ := hs; exact ⟨_, _, _, rfl⟩
  have hpv : ∃ sa sn sc, pv = .slice sa sn sc := by obtain ⟨sa, sc, sb, soff, rfl, _⟩ := hp; exact ⟨_, _, _, rfl⟩
  obtain ⟨da, dn, dc, rfl⟩ := hdv
  obtain ⟨sa, sn, sc, rfl⟩ := hsv
  obtain ⟨pa, pn, pc, rfl⟩ := hpv
  have HBX := Lib.hid (fun wx hx => (BoxB.new (w := w) (b := b) (dv := .slice da dn dc) (sv := .slice sa sn sc) (pv := .slice pa pn pc) (T := 25)).bel (w' := wx) hx)
  clear hd hs hp hla hlc
  cases hval : validT b
  · rw [hval] at HE
    rw [chkT_false hval] at HCK
    clear hval HCF
    go_enter Tryd.func99, Tryd.ntmps99
    go_wp2_with fail
    refine (HCK.out _ (HV.out.bel (by repeat (first | assumption | exact Bel.refl _ | refine Bel.drew ?_ | refine Bel.drewN ?_ _ | refine Bel.alloc ?_ _ | refine Bel.setCell ?_ (by simp <;> omega) _ | refine Bel.trans ?_ (by assumption))))).mono ?_
    rintro e w1 ⟨rfl, hb⟩
    have HB := Lib.hid (show Bel w w1 from Bel.trans (by repeat (first | assumption | exact Bel.refl _ | refine Bel.drew ?_ | refine Bel.drewN ?_ _ | refine Bel.alloc ?_ _ | refine Bel.setCell ?_ (by simp <;> omega) _ | refine Bel.trans ?_ (by assumption))) hb)
    clear hb
    go_wp2
    go_ret
    exact ⟨ri HE.out, HB.out⟩
  rw [hval] at HE
  rw [chkT_true hval] at HCK
  clear hval
  by_cases h12 : 12 < l.length
  · rw [if_pos h12] at HE
    have hi : (12 : Int) < (l.length : Int) := by omega
    have hi2 : decide (12 < l.length) = true := by simpa using h12
    clear HCF
    go_enter Tryd.func99, Tryd.ntmps99
    go_wp2_with fail
    refine (HCK.out _ (HV.out.bel (by repeat (first | assumption | exact Bel.refl _ | refine Bel.drew ?_ | refine Bel.drewN ?_ _ | refine Bel.alloc ?_ _ | refine Bel.setCell ?_ (by simp <;> omega) _ | refine Bel.trans ?_ (by assumption))))).mono ?_
    rintro e w1 ⟨rfl, hb⟩
    have HB := Lib.hid (show Bel w w1 from Bel.trans (by repeat (first | assumption | exact Bel.refl _ | refine Bel.drew ?_ | refine Bel.drewN ?_ _ | refine Bel.alloc ?_ _ | refine Bel.setCell ?_ (by simp <;> omega) _ | refine Bel.trans ?_ (by assumption))) hb)
    clear hb
    go_wp2
    go_ret
    exact ⟨ri HE.out, HB.out⟩
  rw [if_neg h12] at HE
  have hi : ¬ (12 : Int) < (l.length : Int) := by omega
  have hi2 : decide (12 < l.length) = false := by simp; omega
  clear h12
  cases is
  · clear HCF
    go_enter Tryd.func99, Tryd.ntmps99
    go_wp2_with fail
    refine (HCK.out _ (HV.out.bel (by repeat (first | assumption | exact Bel.refl _ | refine Bel.drew ?_ | refine Bel.drewN ?_ _ | refine Bel.alloc ?_ _ | refine Bel.setCell ?_ (by simp <;> omega) _ | refine Bel.trans ?_ (by assumption))))).mono ?_
    rintro e w1 ⟨rfl, hb⟩
    have HB := Lib.hid (show Bel w w1 from Bel.trans (by repeat (first | assumption | exact Bel.refl _ | refine Bel.drew ?_ | refine Bel.drewN ?_ _ | refine Bel.alloc ?_ _ | refine Bel.setCell ?_ (by simp <;> omega) _ | refine Bel.trans ?_ (by assumption))) hb)
    clear hb
    go_wp2
    go_ret
    exact ⟨ri HE.out, HB.out⟩
  cases hs : stepsB b l
  all_goals
    rw [hs] at HE HCF
    clear hs
    go_enter Tryd.func99, Tryd.ntmps99
    go_wp2_with fail
    refine (HCK.out _ (HV.out.bel (by repeat (first | assumption | exact Bel.refl _ | refine Bel.drew ?_ | refine Bel.drewN ?_ _ | refine Bel.alloc ?_ _ | refine Bel.setCell ?_ (by simp <;> omega) _ | refine Bel.trans ?_ (by assumption))))).mono ?_
    rintro e w1 ⟨rfl, hb⟩
    have HB := Lib.hid (show Bel w w1 from Bel.trans (by repeat (first | assumption | exact Bel.refl _ | refine Bel.drew ?_ | refine Bel.drewN ?_ _ | refine Bel.alloc ?_ _ | refine Bel.setCell ?_ (by simp <;> omega) _ | refine Bel.trans ?_ (by assumption))) hb)
    have y : BoxB w1 w.heap.size b _ _ _ := BoxB.bel BoxB.new hb
    have HY := Lib.hid y
    obtain ⟨y0, y1, y2, y3, y4, y5⟩ := y
    have ly := cell_lt y0
    clear hb
    go_wp2_with fail
    refine (HCF.out _ _ HY.out HB.out).mono ?_
    rintro e w2 ⟨rfl, hb⟩
    have HB2 := Lib.hid (HB.out.trans hb)
    clear hb
    go_wp2
    go_ret
    exact ⟨ri HE.out, HB2.out⟩
end Go.Proofs.YtogiidkofddhaaaDoor
