/-
  anchors: a truth of a net, what an anchor bears, what drags at last; the program's Drags.
-/
import Derived.Test.YtkdcdhkhadhcfaaDoorNChk3
import Derived.Test.YtkdcdhkhadhcfaaDoorNSet
namespace Go.Proofs.YtkdcdhkhadhcfaaDoor
set_option linter.unusedVariables false
open Go Go.RowKit
set_option maxHeartbeats 4000000
set_option maxRecDepth 100000
/-! a truth of a net -/
theorem nIn_any (s : NSp) (k : Int) (w : World) : Calls Tryd.prog 81 #[.agg #[.int .i64 s.lo, .int .i64 s.hi], .int .i64 k] w fun e w' => e = .returned (.bool (withinB k s.lo s.hi)) ∧ Bel w w' := by
  have HX := Lib.hid (show withinB k s.lo s.hi = (decide (s.lo ≤ k) && decide (k ≤ s.hi)) from rfl)
  cases h1 : decide (s.lo ≤ k) <;> cases h2 : decide (k ≤ s.hi)
  all_goals
    rw [h1, h2] at HX
    go_enter Tryd.func81, Tryd.ntmps81
    go_wp2
    go_ret
    exact ⟨rb (by rw [HX.out]; rfl), (by repeat (first | assumption | exact Bel.refl _ | refine Bel.drew ?_ | refine Bel.drewN ?_ _ | refine Bel.alloc ?_ _ | refine Bel.setCell ?_ (by simp <;> omega) _ | refine Bel.trans ?_ (by assumption)))⟩
theorem NTrAt.open {w : World} {v : Value} {t : NTr} (h : NTrAt w v t) : ∃ ta tc, v = .agg #[.int .i64 t.wind, .int .i64 t.cur, .slice ta t.grips.length tc] ∧ IntsAt w (.slice ta t.grips.length tc) t.grips := by
  obtain ⟨g, h1, h2⟩ := h
  obtain ⟨a, c, b, off, rfl, h3⟩ := h2
  exact ⟨a, c, h1, ⟨a, c, b, off, rfl, h3⟩⟩
theorem nIsTruth_any (n : Net) (t : NTr) (v vt : Value) (w : World) (hv : NetAt w v n) (ht : NTrAt w vt t) :
    Calls Tryd.prog 55 #[v, vt] w fun e w' => e = .returned (.bool (ntrB n t)) ∧ Bel w w' := by
  have HX := Lib.hid (show ntrB n t = (withinB t.wind n.wind.lo n.wind.hi && (withinB t.cur n.cur.lo n.cur.hi && (decide (t.grips.length = n.grips.length) && allB t.grips.length fun i => withinB (at0 t.grips i) (atG n.grips i).lo (atG n.grips i).hi))) from rfl)
  obtain ⟨ga, gc, aa, ac, xa, xc, rfl, ⟨ga', gc', gb, go, ge, hga, ⟨hgl, _⟩, hgcell⟩, _, _⟩ := hv.open
  obtain ⟨ta, tc, rfl, ⟨ta', tc', tb, tof, te, hta, ⟨htl, _⟩, htcell⟩⟩ := ht.open
  injection ge with ge1 _ ge3
  injection te with te1 _ te3
  subst ge1 ge3 te1 te3
  have HGC := Lib.hid hgcell
  have HTC := Lib.hid htcell
  have hixg := idxGrips (c := gc) hga
  have hixt := idxInts (c := tc) hta
  have HI := Lib.hid (fun s k wx => nIn_any s k wx)
  clear hgcell htcell hga hta hv ht
  generalize hG : n.grips.length = G at *
  generalize n.an.length = A at *
  generalize n.walls.length = X at *
  generalize hT : t.grips.length = T at *
  have C0 := Lib.hid (fun wx => HI.out n.wind t.wind wx)
  have C1 := Lib.hid (fun wx => HI.out n.cur t.cur wx)
  cases h0 : withinB t.wind n.wind.lo n.wind.hi
  · rw [h0] at HX C0
    clear h0 hG hT
    go_enter Tryd.func55, Tryd.ntmps55
    go_wp2_with fail
    refine (C0.out _).mono ?_
    rintro e w1 ⟨rfl, hb⟩
    have HB := Lib.hid (show Bel w w1 from Bel.trans (by repeat (first | assumption | exact Bel.refl _ | refine Bel.drew ?_ | refine Bel.drewN ?_ _ | refine Bel.alloc ?_ _ | refine Bel.setCell ?_ (by simp <;> omega) _ | refine Bel.trans ?_ (by assumption))) hb)
    clear hb
    go_wp2
    go_ret
    exact ⟨rb (by rw [HX.out]; rfl), HB.out⟩
  rw [h0] at HX C0
  cases h1 : withinB t.cur n.cur.lo n.cur.hi
  · rw [h1] at HX C1
    clear h0 h1 hG hT
    go_enter Tryd.func55, Tryd.ntmps55
    go_wp2_with fail
    refine (C0.out _).mono ?_
    rintro e w1 ⟨rfl, hb⟩
    have hn := new_row (w := w) (o := .cells #[.int .i64 n.wind.lo, .int .i64 n.wind.hi, .int .i64 n.cur.lo, .int .i64 n.cur.hi, .slice ga G gc, .slice aa A ac, .slice xa X xc] 32) rfl
    have x2 := hb.cell (((Bel.refl _).alloc _).cell ((row_facts hn).1 2))
    have x3 := hb.cell (((Bel.refl _).alloc _).cell ((row_facts hn).1 3))
    have hm := new_row (g := w.heap.size + 1) (w := w.alloc (.cells #[.int .i64 n.wind.lo, .int .i64 n.wind.hi, .int .i64 n.cur.lo, .int .i64 n.cur.hi, .slice ga G gc, .slice aa A ac, .slice xa X xc] 32)) (o := .cells #[.int .i64 t.wind, .int .i64 t.cur, .slice ta T tc] 35) (by simp)
    have y1 := hb.cell ((row_facts hm).1 1)
    have lx := cell_lt x2
    have ly := cell_lt y1
    have HB := Lib.hid (show Bel w w1 from Bel.trans (by repeat (first | assumption | exact Bel.refl _ | refine Bel.drew ?_ | refine Bel.drewN ?_ _ | refine Bel.alloc ?_ _ | refine Bel.setCell ?_ (by simp <;> omega) _ | refine Bel.trans ?_ (by assumption))) hb)
    clear hb hn hm
    go_wp2_with fail
    refine (C1.out _).mono ?_
    rintro e w2 ⟨rfl, hb⟩
    have HB2 := Lib.hid (show Bel w w2 from Bel.trans HB.out (Bel.trans (by repeat (first | assumption | exact Bel.refl _ | refine Bel.drew ?_ | refine Bel.drewN ?_ _ | refine Bel.alloc ?_ _ | refine Bel.setCell ?_ (by simp <;> omega) _ | refine Bel.trans ?_ (by assumption))) hb))
    clear hb
    go_wp2
    go_ret
    exact ⟨rb (by rw [HX.out]; rfl), HB2.out⟩
  rw [h1] at HX C1
  clear h0 h1
  by_cases hlen : T = G
  rotate_left
  · have hne : ((T : Int) != (G : Int)) = true := by rw [bne_iff_ne]; omega
    rw [decide_eq_false hlen] at HX
    clear hG hT hlen
    go_enter Tryd.func55, Tryd.ntmps55
    go_wp2_with fail
    refine (C0.out _).mono ?_
    rintro e w1 ⟨rfl, hb⟩
    have hn := new_row (w := w) (o := .cells #[.int .i64 n.wind.lo, .int .i64 n.wind.hi, .int .i64 n.cur.lo, .int .i64 n.cur.hi, .slice ga G gc, .slice aa A ac, .slice xa X xc] 32) rfl
    have x2 := hb.cell (((Bel.refl _).alloc _).cell ((row_facts hn).1 2))
    have x3 := hb.cell (((Bel.refl _).alloc _).cell ((row_facts hn).1 3))
    have x4 := hb.cell (((Bel.refl _).alloc _).cell ((row_facts hn).1 4))
    have hm := new_row (g := w.heap.size + 1) (w := w.alloc (.cells #[.int .i64 n.wind.lo, .int .i64 n.wind.hi, .int .i64 n.cur.lo, .int .i64 n.cur.hi, .slice ga G gc, .slice aa A ac, .slice xa X xc] 32)) (o := .cells #[.int .i64 t.wind, .int .i64 t.cur, .slice ta T tc] 35) (by simp)
    have y1 := hb.cell ((row_facts hm).1 1)
    have y2 := hb.cell ((row_facts hm).1 2)
    have lx := cell_lt x2
    have ly := cell_lt y1
    have hB1 : Bel w w1 := Bel.trans (by repeat (first | assumption | exact Bel.refl _ | refine Bel.drew ?_ | refine Bel.drewN ?_ _ | refine Bel.alloc ?_ _ | refine Bel.setCell ?_ (by simp <;> omega) _ | refine Bel.trans ?_ (by assumption))) hb
    clear hb hn hm
    go_wp2_with fail
    refine (C1.out _).mono ?_
    rintro e w2 ⟨rfl, hb⟩
    have hk : Bel w1 w2 := Bel.trans (by repeat (first | assumption | exact Bel.refl _ | refine Bel.drew ?_ | refine Bel.drewN ?_ _ | refine Bel.alloc ?_ _ | refine Bel.setCell ?_ (by simp <;> omega) _ | refine Bel.trans ?_ (by assumption))) hb
    replace x4 := hk.cell x4
    replace y2 := hk.cell y2
    replace lx := cell_lt x4
    replace ly := cell_lt y2
    have HB2 := Lib.hid (hB1.trans hk)
    clear hb hk hB1 x2 x3 y1
    go_wp2
    go_ret
    exact ⟨rb (by rw [HX.out]; rfl), Bel.trans HB2.out (by repeat (first | assumption | exact Bel.refl _ | refine Bel.drew ?_ | refine Bel.drewN ?_ _ | refine Bel.alloc ?_ _ | refine Bel.setCell ?_ (by simp <;> omega) _ | refine Bel.trans ?_ (by assumption)))⟩
  have HTG := Lib.hid hlen
  have hne : ((T : Int) != (G : Int)) = false := by rw [hlen]; simp
  rw [decide_eq_true hlen] at HX
  clear hG hT hlen
  go_enter Tryd.func55, Tryd.ntmps55
  go_wp2_with fail
  refine (C0.out _).mono ?_
  rintro e w1 ⟨rfl, hb⟩
  have hn := new_row (w := w) (o := .cells #[.int .i64 n.wind.lo, .int .i64 n.wind.hi, .int .i64 n.cur.lo, .int .i64 n.cur.hi, .slice ga G gc, .slice aa A ac, .slice xa X xc] 32) rfl
  have x2 := hb.cell (((Bel.refl _).alloc _).cell ((row_facts hn).1 2))
  have x3 := hb.cell (((Bel.refl _).alloc _).cell ((row_facts hn).1 3))
  have x4 := hb.cell (((Bel.refl _).alloc _).cell ((row_facts hn).1 4))
  have hm := new_row (g := w.heap.size + 1) (w := w.alloc (.cells #[.int .i64 n.wind.lo, .int .i64 n.wind.hi, .int .i64 n.cur.lo, .int .i64 n.cur.hi, .slice ga G gc, .slice aa A ac, .slice xa X xc] 32)) (o := .cells #[.int .i64 t.wind, .int .i64 t.cur, .slice ta T tc] 35) (by simp)
  have y1 := hb.cell ((row_facts hm).1 1)
  have y2 := hb.cell ((row_facts hm).1 2)
  have lx := cell_lt x2
  have ly := cell_lt y1
  have hB1 : Bel w w1 := Bel.trans (by repeat (first | assumption | exact Bel.refl _ | refine Bel.drew ?_ | refine Bel.drewN ?_ _ | refine Bel.alloc ?_ _ | refine Bel.setCell ?_ (by simp <;> omega) _ | refine Bel.trans ?_ (by assumption))) hb
  clear hb hn hm
  go_wp2_with fail
  refine (C1.out _).mono ?_
  rintro e w2 ⟨rfl, hb⟩
  have hk : Bel w1 w2 := Bel.trans (by repeat (first | assumption | exact Bel.refl _ | refine Bel.drew ?_ | refine Bel.drewN ?_ _ | refine Bel.alloc ?_ _ | refine Bel.setCell ?_ (by simp <;> omega) _ | refine Bel.trans ?_ (by assumption))) hb
  replace x4 := hk.cell x4
  replace y2 := hk.cell y2
  replace lx := cell_lt x4
  replace ly := cell_lt y2
  have HB2 := Lib.hid (hB1.trans hk)
  have HX4 := Lib.hid x4
  clear hb hk hB1 x2 x3 y1 C0 C1
  go_wp2
  clear x4 y2 lx ly hne
  rename World => w2
  go_loopw [36] (fun i wr => ∃ k : Nat, k ≤ T ∧ i = .int .i64 k ∧ Hid (allB k (fun i => withinB (at0 t.grips i) (atG n.grips i).lo (atG n.grips i).hi) = true) ∧ Bel w2 wr) (fun i _ => T - (intOf i).toNat)
  case atStart => exact ⟨0, by omega, rfl, rfl, (by repeat (first | assumption | exact Bel.refl _ | refine Bel.drew ?_ | refine Bel.drewN ?_ _ | refine Bel.alloc ?_ _ | refine Bel.setCell ?_ (by simp <;> omega) _ | refine Bel.trans ?_ (by assumption)))⟩
  case round =>
    obtain ⟨k, hk, rfl, hno, hw⟩ := hrel
    have HW := Lib.hid hw
    by_cases hlt : k < T
    · have hlti : (k : Int) < (T : Int) := by omega
      have hkg : k < G := by have := HTG.out; omega
      have hkgi : (k : Int) < (G : Int) := by omega
      have hB := HB2.out.trans hw
      have k0 := hB.cell (HGC.out k hkg).1
      have k1 := hB.cell (HGC.out k hkg).2
      have k2 := hB.cell (HTC.out k hlt)
      have x4 := hw.cell HX4.out
      have lk := cell_lt k0
      have HCC := Lib.hid (fun wx => HI.out (atG n.grips k) (at0 t.grips k) wx)
      have HE := Lib.hid (fun (h : withinB (at0 t.grips k) (atG n.grips k).lo (atG n.grips k).hi = false) => show (allB T fun i => withinB (at0 t.grips i) (atG n.grips i).lo (atG n.grips i).hi) = false from allB_false k hlt h)
      have HR := Lib.hid (fun (h : withinB (at0 t.grips k) (atG n.grips k).lo (atG n.grips k).hi = true) => allB_succ hno.out (f := fun i => withinB (at0 t.grips i) (atG n.grips i).lo (atG n.grips i).hi) h)
      have HB := Lib.hid hB
      clear hw hB
      cases hwk : withinB (at0 t.grips k) (atG n.grips k).lo (atG n.grips k).hi
      · have HI2 := Lib.hid (HE.out hwk)
        rw [hwk] at HCC
        clear HE HR hwk
        generalize atG n.grips k = s at *
        generalize at0 t.grips k = u at *
        go_wp2_with (go_at_call 81; refine (HCC.out _).mono ?_; rintro e w5 ⟨rfl, hb⟩; have HF := Lib.hid (HB.out.trans hb); clear hb)
        go_ret
        exact ⟨rb (by rw [HX.out, HI2.out]; rfl), HF.out⟩
      · have HR2 := Lib.hid (HR.out hwk)
        rw [hwk] at HCC
        clear HE HR hwk
        generalize atG n.grips k = s at *
        generalize at0 t.grips k = u at *
        go_wp2_with (go_at_call 81; refine (HCC.out _).mono ?_; rintro e w5 ⟨rfl, hb⟩; have HF := Lib.hid (HW.out.trans hb); clear hb)
        go_roundw
        case rel => exact ⟨k + 1, by omega, by go_num, HR2.out, HF.out⟩
        case measure => simp [intOf]; omega
    · have HI2 := Lib.hid (show (allB T fun i => withinB (at0 t.grips i) (atG n.grips i).lo (atG n.grips i).hi) = true by rw [show T = k by omega]; exact hno.out)
      have hlti : ¬ (k : Int) < (T : Int) := by omega
      have HF := Lib.hid (HB2.out.trans hw)
      clear hw
      go_wp2
      go_ret
      exact ⟨rb (by rw [HX.out, HI2.out]; rfl), HF.out⟩
/-! a net in a truth -/
def RowAt (w : World) (v : Value) (n : Net) (t : NTr) : Prop := ∃ ga gc aa ac xa xc ta tc, v = .agg #[.int .i64 n.wind.lo, .int .i64 n.wind.hi, .int .i64 n.cur.lo, .int .i64 n.cur.hi, .slice ga n.grips.length gc, .slice aa n.an.length ac, .slice xa n.walls.length xc, .int .i64 t.wind, .int .i64 t.cur, .slice ta t.grips.length tc] ∧
  AnsAt w (.slice aa n.an.length ac) n.an ∧ WallsAt w (.slice xa n.walls.length xc) n.walls ∧ IntsAt w (.slice ta t.grips.length tc) t.grips
theorem RowAt.bel {w w' : World} {v : Value} {n : Net} {t : NTr} (h : RowAt w v n t) (k : Bel w w') : RowAt w' v n t := by
  obtain ⟨ga, gc, aa, ac, xa, xc, ta, tc, h1, h2, h3, h4⟩ := h
  exact ⟨ga, gc, aa, ac, xa, xc, ta, tc, h1, h2.bel k, h3.bel k, h4.bel k⟩
theorem nload_any (x : NWl) (a b : Int) (w : World) (h1 : 0 ≤ x.sail ∧ x.sail ≤ 9) (h2 : 0 ≤ x.drag ∧ x.drag ≤ 9) (ha : 0 ≤ a ∧ a ≤ 20) (hb : 0 ≤ b ∧ b ≤ 20) :
    Calls Tryd.prog 122 #[.agg #[.int .i64 x.sail, .int .i64 x.drag, .int .i64 x.lean, .int .i64 x.corks, .int .i64 x.stones], .int .i64 a, .int .i64 b] w fun e w' => e = .returned (.int .i64 (x.sail * a + x.drag * b)) ∧ Bel w w' := by
  have e1 : 0 ≤ x.sail * a ∧ x.sail * a ≤ 9 * 20 := ⟨Int.mul_nonneg h1.1 ha.1, Int.mul_le_mul h1.2 ha.2 ha.1 (by omega)⟩
  have e2 : 0 ≤ x.drag * b ∧ x.drag * b ≤ 9 * 20 := ⟨Int.mul_nonneg h2.1 hb.1, Int.mul_le_mul h2.2 hb.2 hb.1 (by omega)⟩
  go_enter Tryd.func122, Tryd.ntmps122
  go_wp2
  go_ret
  exact ⟨rfl, (by repeat (first | assumption | exact Bel.refl _ | refine Bel.drew ?_ | refine Bel.drewN ?_ _ | refine Bel.alloc ?_ _ | refine Bel.setCell ?_ (by simp <;> omega) _ | refine Bel.trans ?_ (by assumption)))⟩
/-! one side of an anchor -/
theorem nside_out (n : Net) (rb db nb : Nat) (xa : Option Addr) (xc X : Nat) (k o : Int) (w : World) (hX : X ≤ 5) (hr : w.cell? ⟨rb, 6, none⟩ = some (.slice xa X xc)) (hk : k < 0 ∨ (X : Int) ≤ k) :
    Calls Tryd.prog 121 #[.int .i64 k, .int .i64 o, .pointer (some ⟨rb, 0, none⟩), .pointer (some ⟨db, 0, none⟩), .pointer (some ⟨nb, 0, none⟩)] w fun e w' => e = .returned (.tuple #[]) ∧ w = w' := by
  have lr := cell_lt hr
  by_cases h : k < 0
  · have hd : decide (k < 0) = true := decide_eq_true h
    clear hk
    go_enter Tryd.func121, Tryd.ntmps121
    go_wp2
    exact bodyPost_ret (results_none rfl _ _ _) rfl ⟨rfl, rfl⟩
  · have h2 : (X : Int) ≤ k := by omega
    have h3 : ¬ k < 0 := by omega
    have hd : decide (k < 0) = false := decide_eq_false h3
    have hd2 : decide ((X : Int) ≤ k) = true := decide_eq_true h2
    clear hk
    go_enter Tryd.func121, Tryd.ntmps121
    go_wp2
    exact bodyPost_ret (results_none rfl _ _ _) rfl ⟨rfl, rfl⟩
theorem nside_in (n : Net) (t : NTr) (hn : NetOk n) (ht : TrOk n t) (rb db nb D k o : Nat) (xa : Option Addr) (xc : Nat) (x : Int) (w : World) (hx : WallsAt w (.slice xa n.walls.length xc) n.walls) (hD : D < 64) (hk : k < n.walls.length) (ho : o < 64)
    (hr6 : w.cell? ⟨rb, 6, none⟩ = some (.slice xa n.walls.length xc)) (hr7 : w.cell? ⟨rb, 7, none⟩ = some (.int .i64 t.wind)) (hr8 : w.cell? ⟨rb, 8, none⟩ = some (.int .i64 t.cur)) (hd : w.cell? ⟨db, 0, none⟩ = some (.int .u64 D))
    (hnb : w.cell? ⟨nb, 0, none⟩ = some (.int .i64 x)) (hfz : w.frozen? ⟨nb, 0, none⟩ = false) (hx0 : 0 ≤ x ∧ x ≤ 5000) :
    Calls Tryd.prog 121 #[.int .i64 k, .int .i64 o, .pointer (some ⟨rb, 0, none⟩), .pointer (some ⟨db, 0, none⟩), .pointer (some ⟨nb, 0, none⟩)] w fun e w' => e = .returned (.tuple #[]) ∧ Turn nb 0 1 w w' ∧ w'.cell? ⟨nb, 0, none⟩ = some (.int .i64 (x + sideL n t D k o)) := by
  have hh := half_nn hn ht hk
  have hwb := hn.x k hk
  have HL := Lib.hid (fun wx => nload_any (atWl n.walls k) t.wind t.cur wx hwb.1 hwb.2.1 ⟨by have := hn.w; have := ht.w; omega, by have := hn.w; have := ht.w; omega⟩ ⟨by have := hn.c; have := ht.c; omega, by have := hn.c; have := ht.c; omega⟩)
  have HH := Lib.hid (show halfL n t k = (atWl n.walls k).sail * t.wind + (atWl n.walls k).drag * t.cur from rfl)
  rw [← HH.out] at HL
  have HS := Lib.hid (show sideL n t D k o = if D.testBit o then 2 * halfL n t k else halfL n t k from rfl)
  generalize halfL n t k = half at *
  have HHAS := Lib.hid (fun wx => shas_any D o wx hD ho)
  have hl5 : n.walls.length ≤ 5 := by have := hn.wl; have := hn.al; omega
  have hki : (k : Int) < (n.walls.length : Int) := by omega
  have hk1 : ¬ (k : Int) < 0 := by omega
  have hk2 : ¬ (n.walls.length : Int) ≤ (k : Int) := by omega
  have hkd1 : decide ((k : Int) < 0) = false := decide_eq_false hk1
  have hkd2 : decide ((n.walls.length : Int) ≤ (k : Int)) = false := decide_eq_false hk2
  obtain ⟨xa', xc', xb, xo, xe, hxa, ⟨hxl, _⟩, hxc⟩ := hx
  injection xe with xe1 _ xe3
  subst xe1 xe3
  have hix := idxWalls (c := xc) hxa
  obtain ⟨c0, c1, c2, c3, c4⟩ := hxc k hk
  have lr := cell_lt hr6
  have ld := cell_lt hd
  have ln := cell_lt hnb
  have lc := cell_lt c0
  generalize n.walls.length = X at *
  generalize atWl n.walls k = wl at *
  clear hxc hxa hn ht hwb HH
  cases hbit : D.testBit o
  all_goals
    rw [hbit] at HHAS HS
    clear hbit
    go_enter Tryd.func121, Tryd.ntmps121
    go_wp2
    refine wp_region_mixB (Plan.seq [0, 1, 2, 3, 4, 5, 6, 7, 8, 9, 10, 11, 1012, 13] .nil) (by kernel_rfl) (by kernel_rfl) (fun hcur => ?_)
    simp only [Plan.seq, Plan.fill, List.getD_cons_zero, List.getD_cons_succ, Nat.reduceLT, ↓reduceIte, Nat.reduceSub]
    apply mix_pure _ rfl
    · intro w' hw'
      have hcr := hw'.cells
      go_simp
      rfl
    intro K hK
    go_simp
    refine hK _ ?_
    clear hK K
    apply mix_pure _ rfl
    · intro w' hw'
      have hcr := hw'.cells
      go_simp
      rfl
    intro K hK
    go_simp
    refine hK _ ?_
    clear hK K
    apply mix_pure _ rfl
    · intro w' hw'
      have hcr := hw'.cells
      go_simp
      rfl
    intro K hK
    go_simp
    refine hK _ ?_
    clear hK K
    apply mix_pure _ rfl
    · intro w' hw'
      have hcr := hw'.cells
      go_simp
      rfl
    intro K hK
    go_simp
    refine hK _ ?_
    clear hK K
    apply mix_pure _ rfl
    · intro w' hw'
      have hcr := hw'.cells
      go_simp
      rfl
    intro K hK
    go_simp
    refine hK _ ?_
    clear hK K
    apply mix_pure _ rfl
    · intro w' hw'
      have hcr := hw'.cells
      go_simp
      rfl
    intro K hK
    go_simp
    refine hK _ ?_
    clear hK K
    apply mix_pure _ rfl
    · intro w' hw'
      have hcr := hw'.cells
      go_simp
      rfl
    intro K hK
    go_simp
    refine hK _ ?_
    clear hK K
    apply mix_pure _ rfl
    · intro w' hw'
      have hcr := hw'.cells
      go_simp
      rfl
    intro K hK
    go_simp
    refine hK _ ?_
    clear hK K
    apply mix_pure _ rfl
    · intro w' hw'
      have hcr := hw'.cells
      go_simp
      rfl
    intro K hK
    go_simp
    refine hK _ ?_
    clear hK K
    apply mix_pure _ rfl
    · intro w' hw'
      have hcr := hw'.cells
      go_simp
      rfl
    intro K hK
    go_simp
    refine hK _ ?_
    clear hK K
    apply mix_pure _ rfl
    · intro w' hw'
      have hcr := hw'.cells
      go_simp
      rfl
    intro K hK
    go_simp
    refine hK _ ?_
    clear hK K
    apply mix_pure _ rfl
    · intro w' hw'
      have hcr := hw'.cells
      go_simp
      rfl
    intro K hK
    go_simp
    refine hK _ ?_
    clear hK K
    refine mix_act rfl (fun K hK => ?_)
    go_simp
    refine (HL.out _).mono ?_
    rintro e w' ⟨rfl, hb⟩
    have hcr := hb.cells
    simp only []
    refine hK _ _ (hcur.trans hb) (fun hcur => ?_)
    clear hK K
    apply mix_pure _ rfl
    · intro w' hw'
      have hcr := hw'.cells
      go_simp
      rfl
    intro K hK
    go_simp
    refine hK _ ?_
    clear hK K
    refine mix_nil ?_
    have d0 := (Bel.trans hcur (Bel.refl _)).cell hd
    have n0 := (Bel.trans hcur (Bel.refl _)).cell hnb
    have nf : _ := hcur.frozens ⟨nb, 0, none⟩ ln
    rw [hfz] at nf
    have HC := Lib.hid hcur
    have ld' := cell_lt d0
    have ln' := cell_lt n0
    clear hcur hcr hb
    go_wp2_with (go_at_call 102; refine (HHAS.out _).mono ?_; rintro e w2 ⟨rfl, rfl⟩)
    go_end0
    refine ⟨rfl, (Bel.turn nb 0 1 HC.out).trans ((Only.refl nb 0 1 _).setCell (by omega) (by omega) _).turn, ?_⟩
    rw [World.cell?_setCell_same _ _ _ (by rw [n0])]
    rw [HS.out]
    simp only [if_true, if_false, Bool.false_eq_true, Option.some.injEq, Value.int.injEq, true_and]
    try omega
/-! what an anchor bears -/
theorem load_nn {n : Net} (hn : NetOk n) {t : NTr} (ht : TrOk n t) {k o D : Nat} (hk : k < n.walls.length) : 0 ≤ sideL n t D k o ∧ sideL n t D k o ≤ 720 := by
  have := half_nn hn ht hk
  unfold sideL
  split <;> omega
theorem bears_nn {n : Net} (hn : NetOk n) {t : NTr} (ht : TrOk n t) {i D : Nat} (hi : i < n.an.length) : 0 ≤ lftL n t i D ∧ lftL n t i D ≤ 720 ∧ 0 ≤ rgtL n t i D ∧ rgtL n t i D ≤ 720 := by
  have hw := hn.wl
  unfold lftL rgtL
  constructor
  · split
    · exact Int.le_refl _
    · exact (load_nn hn ht (by omega)).1
  constructor
  · split
    · omega
    · exact (load_nn hn ht (by omega)).2
  constructor
  · split
    · rename_i h; exact (load_nn hn ht h).1
    · exact Int.le_refl _
  · split
    · rename_i h; exact (load_nn hn ht h).2
    · omega
/-- One side, whether there is a wall or not. -/
theorem nside_any (n : Net) (t : NTr) (hn : NetOk n) (ht : TrOk n t) (rb db nb D : Nat) (k o : Int) (xa : Option Addr) (xc : Nat) (x y : Int) (w : World) (hx : WallsAt w (.slice xa n.walls.length xc) n.walls) (hD : D < 64)
    (hr6 : w.cell? ⟨rb, 6, none⟩ = some (.slice xa n.walls.length xc)) (hr7 : w.cell? ⟨rb, 7, none⟩ = some (.int .i64 t.wind)) (hr8 : w.cell? ⟨rb, 8, none⟩ = some (.int .i64 t.cur)) (hd : w.cell? ⟨db, 0, none⟩ = some (.int .u64 D))
    (hnb : w.cell? ⟨nb, 0, none⟩ = some (.int .i64 x)) (hfz : w.frozen? ⟨nb, 0, none⟩ = false) (hx0 : 0 ≤ x ∧ x ≤ 5000)
    (hy : ((k < 0 ∨ (n.walls.length : Int) ≤ k) ∧ y = 0) ∨ ∃ k' o' : Nat, k = k' ∧ o = o' ∧ k' < n.walls.length ∧ o' < 64 ∧ y = sideL n t D k' o') :
    Calls Tryd.prog 121 #[.int .i64 k, .int .i64 o, .pointer (some ⟨rb, 0, none⟩), .pointer (some ⟨db, 0, none⟩), .pointer (some ⟨nb, 0, none⟩)] w fun e w' => e = .returned (.tuple #[]) ∧ Turn nb 0 1 w w' ∧ w'.cell? ⟨nb, 0, none⟩ = some (.int .i64 (x + y)) := by
  rcases hy with ⟨h, rfl⟩ | ⟨k', o', rfl, rfl, h1, h2, rfl⟩
  · refine (nside_out n rb db nb xa xc n.walls.length k o w (by have := hn.wl; have := hn.al; omega) hr6 h).mono ?_
    rintro e w' ⟨rfl, rfl⟩
    exact ⟨rfl, Turn.refl _ _ _ _, by rw [Int.add_zero]; exact hnb⟩
  · exact nside_in n t hn ht rb db nb D k' o' xa xc x w hx hD h1 h2 hr6 hr7 hr8 hd hnb hfz hx0
theorem nbears_any (n : Net) (t : NTr) (hn : NetOk n) (ht : TrOk n t) (i D : Nat) (v : Value) (w : World) (hv : RowAt w v n t) (hi : i < n.an.length) (hD : D < 64) :
    Calls Tryd.prog 118 #[v, .int .i64 i, .int .u64 D] w fun e w' => e = .returned (.int .i64 (bearsL n t i D)) ∧ Bel w w' := by
  obtain ⟨ga, gc, aa, ac, xa, xc, ta, tc, rfl, _, hx, _⟩ := hv
  have hal := hn.al
  have hwl := hn.wl
  have hbn := bears_nn hn ht (D := D) hi
  have HBE := Lib.hid (show bearsL n t i D = lftL n t i D + rgtL n t i D from rfl)
  have HL := Lib.hid (fun rb db nb wx (hb : Bel w wx) hr6 hr7 hr8 hd hnb hfz => nside_any n t hn ht rb db nb D ((i : Int) - 1) ((i : Int) - 1) xa xc 0 (lftL n t i D) wx (hx.bel hb) hD hr6 hr7 hr8 hd hnb hfz (by omega) (by
    unfold lftL
    by_cases e : i = 0
    · exact .inl ⟨.inl (by omega), if_pos e⟩
    · exact .inr ⟨i - 1, i - 1, by omega, by omega, by omega, by omega, if_neg e⟩))
  have HR := Lib.hid (fun rb db nb wx (hb : WallsAt wx (.slice xa n.walls.length xc) n.walls) hr6 hr7 hr8 hd hnb hfz => nside_any n t hn ht rb db nb D (i : Int) ((i : Int) + 1) xa xc (0 + lftL n t i D) (rgtL n t i D) wx hb hD hr6 hr7 hr8 hd hnb hfz (by omega) (by
    unfold rgtL
    by_cases e : i < n.walls.length
    · exact .inr ⟨i, i + 1, rfl, by omega, e, by omega, if_pos e⟩
    · exact .inl ⟨.inr (by omega), if_neg e⟩))
  have HX := Lib.hid hx
  rw [Int.zero_add] at HR
  generalize lftL n t i D = a at *
  generalize rgtL n t i D = b at *
  have hii : (i : Int) ≤ 6 := by omega
  clear hn ht hx hwl
  go_enter Tryd.func118, Tryd.ntmps118
  go_wp2_with fail
  refine (HL.out _ _ _ _ (by repeat (first | assumption | exact Bel.refl _ | refine Bel.drew ?_ | refine Bel.drewN ?_ _ | refine Bel.alloc ?_ _ | refine Bel.setCell ?_ (by simp <;> omega) _ | refine Bel.trans ?_ (by assumption))) (Bel.cell (((Bel.refl _).alloc _).alloc _) ((row_facts (new_row rfl)).1 6)) (Bel.cell (((Bel.refl _).alloc _).alloc _) ((row_facts (new_row rfl)).1 7)) (Bel.cell (((Bel.refl _).alloc _).alloc _) ((row_facts (new_row rfl)).1 8)) (Bel.cell ((Bel.refl _).alloc _) ((row_facts (new_row (by simp))).1 0)) ((row_facts (new_row (by simp))).1 0) ((row_facts (new_row (by simp))).2 0)).mono ?_
  rintro e w1 ⟨rfl, hT, hc⟩
  rw [Int.zero_add] at hc
  have n1 : w.heap.size ≠ w.heap.size + 1 + 1 := by omega
  have n2 : w.heap.size + 1 ≠ w.heap.size + 1 + 1 := by omega
  have x6 := hT.other (by exact n1) (Bel.cell (((Bel.refl _).alloc _).alloc _) ((row_facts (new_row (w := w) rfl)).1 6))
  have x7 := hT.other (by exact n1) (Bel.cell (((Bel.refl _).alloc _).alloc _) ((row_facts (new_row (w := w) rfl)).1 7))
  have x8 := hT.other (by exact n1) (Bel.cell (((Bel.refl _).alloc _).alloc _) ((row_facts (new_row (w := w) rfl)).1 8))
  have xd := hT.other (by exact n2) (Bel.cell ((Bel.refl _).alloc _) ((row_facts (new_row (g := w.heap.size + 1) (w := w.alloc _) (by simp))).1 0))
  have fz : w1.frozen? ⟨w.heap.size + 1 + 1, 0, none⟩ = false := by rw [hT.frozen _ (by simp)]; exact (row_facts (new_row (by simp))).2 0
  have hB1 : Bel w w1 := hT.bel (by repeat (first | assumption | exact Bel.refl _ | refine Bel.drew ?_ | refine Bel.drewN ?_ _ | refine Bel.alloc ?_ _ | refine Bel.setCell ?_ (by simp <;> omega) _ | refine Bel.trans ?_ (by assumption))) (by omega)
  have lc := cell_lt hc
  have HX1 := Lib.hid (HX.out.bel hB1)
  clear hT
  go_wp2_with fail
  refine (HR.out _ _ _ _ HX1.out x6 x7 x8 xd hc fz).mono ?_
  rintro e w2 ⟨rfl, hT, hc2⟩
  have HB2 := Lib.hid (hT.bel hB1 (by omega))
  have lc2 := cell_lt hc2
  clear hT x6 x7 x8 xd hc fz hB1 lc n1 n2
  go_wp2
  go_ret
  exact ⟨ri (by rw [HBE.out]), HB2.out⟩
/-! how much more it could bear -/
theorem can_nn {n : Net} (hn : NetOk n) {t : NTr} (ht : TrOk n t) {i : Nat} (hi : i < n.an.length) : 0 ≤ 2 * (atA n.an i).wt ∧ 2 * (atA n.an i).wt ≤ 40 ∧ 0 ≤ canL n t i ∧ canL n t i ≤ 360 ∧ (atA n.an i).bt.toNat < t.grips.length := by
  obtain ⟨a1, a2, a3, a4⟩ := hn.a i hi
  have hb : (atA n.an i).bt.toNat < t.grips.length := by have := ht.l; omega
  have h1 := ht.g _ hb
  have h2 := hn.g _ (show (atA n.an i).bt.toNat < n.grips.length by have := ht.l; omega)
  have e : 0 ≤ 2 * (atA n.an i).wt * at0 t.grips (atA n.an i).bt.toNat ∧ 2 * (atA n.an i).wt * at0 t.grips (atA n.an i).bt.toNat ≤ 40 * 9 := ⟨Int.mul_nonneg (by omega) (by omega), Int.mul_le_mul (by omega) (by omega) (by omega) (by omega)⟩
  unfold canL
  exact ⟨by omega, by omega, by omega, by omega, hb⟩
theorem nspare_any (n : Net) (t : NTr) (hn : NetOk n) (ht : TrOk n t) (i D : Nat) (v : Value) (w : World) (hv : RowAt w v n t) (hi : i < n.an.length) (hD : D < 64) :
    Calls Tryd.prog 103 #[v, .int .i64 i, .int .u64 D] w fun e w' => e = .returned (.int .i64 (spareL n t i D)) ∧ Bel w w' := by
  have HB := Lib.hid (fun wx (hx : RowAt wx v n t) => nbears_any n t hn ht i D v wx hx hi hD)
  have HV := Lib.hid hv
  obtain ⟨ga, gc, aa, ac, xa, xc, ta, tc, rfl, ha, _, hg⟩ := hv
  have hal := hn.al
  have hbn := bears_nn hn ht (D := D) hi
  have hbe : bearsL n t i D = lftL n t i D + rgtL n t i D := rfl
  have hb2 : 0 ≤ bearsL n t i D ∧ bearsL n t i D ≤ 1440 := by omega
  have hcn := can_nn hn ht hi
  have HSP := Lib.hid (show spareL n t i D = canL n t i - bearsL n t i D from rfl)
  have HCA := Lib.hid (show canL n t i = 2 * (atA n.an i).wt * at0 t.grips (atA n.an i).bt.toNat from rfl)
  obtain ⟨aa', ac', ab, ao, ae, haa, ⟨hal2, _⟩, hac⟩ := ha
  injection ae with ae1 _ ae3
  subst ae1 ae3
  have hixa := idxAns (c := ac) haa
  obtain ⟨ta', tc', tb, tof, te, hta, ⟨htl, _⟩, htc⟩ := hg
  injection te with te1 _ te3
  subst te1 te3
  have hixt := idxInts (c := tc) hta
  obtain ⟨k0, k1⟩ := hac i hi
  obtain ⟨q1, q2, q3, q4, q5⟩ := hcn
  have hbt := hn.a i hi
  obtain ⟨j, hj⟩ : ∃ j : Nat, (atA n.an i).bt = (j : Int) := ⟨(atA n.an i).bt.toNat, by omega⟩
  have hjt : (atA n.an i).bt.toNat = j := by omega
  rw [hjt] at q5 HCA
  have kg := htc j q5
  have lk := cell_lt k0
  have lg := cell_lt kg
  rw [hj] at k1
  rw [HCA.out] at q3 q4 HSP
  generalize bearsL n t i D = bb at *
  generalize at0 t.grips j = g at *
  generalize (atA n.an i).wt = wt at *
  have hii : (i : Int) < (n.an.length : Int) := by omega
  generalize hA : n.an.length = A at *
  generalize n.walls.length = X at *
  generalize n.grips.length = G at *
  generalize t.grips.length = T at *
  have hjT : (j : Int) < (T : Int) := by omega
  clear hac haa hta htc hn ht hbn hbe HCA hj hjt hbt hA
  go_enter Tryd.func103, Tryd.ntmps103
  go_wp2
  generalize hW : (w.alloc _).alloc _ = W
  have hBW : Bel w W := by rw [← hW]; exact ((Bel.refl w).alloc _).alloc _
  have x0 : W.cell? ⟨w.heap.size, 0, none⟩ = some (.int .i64 n.wind.lo) := by rw [← hW]; exact Bel.cell ((Bel.refl _).alloc _) ((row_facts (new_row rfl)).1 0)
  have x1 : W.cell? ⟨w.heap.size, 1, none⟩ = some (.int .i64 n.wind.hi) := by rw [← hW]; exact Bel.cell ((Bel.refl _).alloc _) ((row_facts (new_row rfl)).1 1)
  have x2 : W.cell? ⟨w.heap.size, 2, none⟩ = some (.int .i64 n.cur.lo) := by rw [← hW]; exact Bel.cell ((Bel.refl _).alloc _) ((row_facts (new_row rfl)).1 2)
  have x3 : W.cell? ⟨w.heap.size, 3, none⟩ = some (.int .i64 n.cur.hi) := by rw [← hW]; exact Bel.cell ((Bel.refl _).alloc _) ((row_facts (new_row rfl)).1 3)
  have x4 : W.cell? ⟨w.heap.size, 4, none⟩ = some (.slice ga G gc) := by rw [← hW]; exact Bel.cell ((Bel.refl _).alloc _) ((row_facts (new_row rfl)).1 4)
  have x5 : W.cell? ⟨w.heap.size, 5, none⟩ = some (.slice aa A ac) := by rw [← hW]; exact Bel.cell ((Bel.refl _).alloc _) ((row_facts (new_row rfl)).1 5)
  have x6 : W.cell? ⟨w.heap.size, 6, none⟩ = some (.slice xa X xc) := by rw [← hW]; exact Bel.cell ((Bel.refl _).alloc _) ((row_facts (new_row rfl)).1 6)
  have x7 : W.cell? ⟨w.heap.size, 7, none⟩ = some (.int .i64 t.wind) := by rw [← hW]; exact Bel.cell ((Bel.refl _).alloc _) ((row_facts (new_row rfl)).1 7)
  have x8 : W.cell? ⟨w.heap.size, 8, none⟩ = some (.int .i64 t.cur) := by rw [← hW]; exact Bel.cell ((Bel.refl _).alloc _) ((row_facts (new_row rfl)).1 8)
  have x9 : W.cell? ⟨w.heap.size, 9, none⟩ = some (.slice ta T tc) := by rw [← hW]; exact Bel.cell ((Bel.refl _).alloc _) ((row_facts (new_row rfl)).1 9)
  have y0 : W.cell? ⟨w.heap.size + 1, 0, none⟩ = some (.int .i64 wt) := by rw [← hW]; exact (row_facts (new_row (by simp))).1 0
  have y1 : W.cell? ⟨w.heap.size + 1, 1, none⟩ = some (.int .i64 (j : Int)) := by rw [← hW]; exact (row_facts (new_row (by simp))).1 1
  replace kg := hBW.cell kg
  replace lg := cell_lt kg
  have lx := cell_lt x0
  have ly := cell_lt y0
  have HBW := Lib.hid hBW
  clear hW hBW k0 k1 lk
  refine wp_region_mixB (Plan.seq [0, 1, 2, 3, 4, 5, 6, 7, 8, 9, 10, 11, 12, 13, 1014, 15, 16] .nil) (by kernel_rfl) (by kernel_rfl) (fun hcur => ?_)
  simp only [Plan.seq, Plan.fill, List.getD_cons_zero, List.getD_cons_succ, Nat.reduceLT, ↓reduceIte, Nat.reduceSub]
  apply mix_pure _ rfl
  · intro w' hw'
    have hcr := hw'.cells
    go_simp
    rfl
  intro K hK
  go_simp
  refine hK _ ?_
  clear hK K
  apply mix_pure _ rfl
  · intro w' hw'
    have hcr := hw'.cells
    go_simp
    rfl
  intro K hK
  go_simp
  refine hK _ ?_
  clear hK K
  apply mix_pure _ rfl
  · intro w' hw'
    have hcr := hw'.cells
    go_simp
    first | (rw [IntWalk.i64_in]; all_goals first | omega | rfl) | rfl
  intro K hK
  go_simp
  refine hK _ ?_
  clear hK K
  apply mix_pure _ rfl
  · intro w' hw'
    have hcr := hw'.cells
    go_simp
    rfl
  intro K hK
  go_simp
  refine hK _ ?_
  clear hK K
  apply mix_pure _ rfl
  · intro w' hw'
    have hcr := hw'.cells
    go_simp
    rfl
  intro K hK
  go_simp
  refine hK _ ?_
  clear hK K
  apply mix_pure _ rfl
  · intro w' hw'
    have hcr := hw'.cells
    go_simp
    rfl
  intro K hK
  go_simp
  refine hK _ ?_
  clear hK K
  apply mix_pure _ rfl
  · intro w' hw'
    have hcr := hw'.cells
    go_simp
    rfl
  intro K hK
  go_simp
  refine hK _ ?_
  clear hK K
  apply mix_pure _ rfl
  · intro w' hw'
    have hcr := hw'.cells
    go_simp
    rfl
  intro K hK
  go_simp
  refine hK _ ?_
  clear hK K
  apply mix_pure _ rfl
  · intro w' hw'
    have hcr := hw'.cells
    go_simp
    rfl
  intro K hK
  go_simp
  refine hK _ ?_
  clear hK K
  apply mix_pure _ rfl
  · intro w' hw'
    have hcr := hw'.cells
    go_simp
    rfl
  intro K hK
  go_simp
  refine hK _ ?_
  clear hK K
  apply mix_pure _ rfl
  · intro w' hw'
    have hcr := hw'.cells
    go_simp
    first | (rw [IntWalk.i64_in]; all_goals first | omega | rfl) | rfl
  intro K hK
  go_simp
  refine hK _ ?_
  clear hK K
  apply mix_pure _ rfl
  · intro w' hw'
    have hcr := hw'.cells
    go_simp
    rfl
  intro K hK
  go_simp
  refine hK _ ?_
  clear hK K
  apply mix_pure _ rfl
  · intro w' hw'
    have hcr := hw'.cells
    go_simp
    rfl
  intro K hK
  go_simp
  refine hK _ ?_
  clear hK K
  apply mix_pure _ rfl
  · intro w' hw'
    have hcr := hw'.cells
    go_simp
    rfl
  intro K hK
  go_simp
  refine hK _ ?_
  clear hK K
  refine mix_act rfl (fun K hK => ?_)
  go_simp
  refine (HB.out _ (HV.out.bel (HBW.out.trans hcur))).mono ?_
  rintro e w' ⟨rfl, hb⟩
  have hcr := hb.cells
  simp only []
  refine hK _ _ (hcur.trans hb) (fun hcur => ?_)
  clear hK K
  apply mix_pure _ rfl
  · intro w' hw'
    have hcr := hw'.cells
    go_simp
    first | (rw [IntWalk.i64_in]; all_goals first | omega | rfl) | rfl
  intro K hK
  go_simp
  refine hK _ ?_
  clear hK K
  apply mix_pure _ rfl
  · intro w' hw'
    have hcr := hw'.cells
    go_simp
    rfl
  intro K hK
  go_simp
  refine hK _ ?_
  clear hK K
  refine mix_nil ?_
  have HC := Lib.hid (HBW.out.trans hcur)
  go_wp2
  go_ret
  exact ⟨ri (by rw [HSP.out]), HC.out⟩
/-! one round, and all rounds -/
theorem step_zero {n : Net} {t : NTr} {D k : Nat} (h : hitL n t D k = false) : stepTo n t D (k + 1) = stepTo n t D k := by show (if _ then _ else _) = _; rw [if_neg (by rw [h]; simp)]
theorem step_one {n : Net} {t : NTr} {D k : Nat} (h : hitL n t D k = true) : stepTo n t D (k + 1) = stepTo n t D k ||| 2 ^ k := by show (if _ then _ else _) = _; rw [if_pos h]
theorem nstep_any (n : Net) (t : NTr) (hn : NetOk n) (ht : TrOk n t) (D : Nat) (v : Value) (w : World) (hv : RowAt w v n t) (hD : D < 64) :
    Calls Tryd.prog 82 #[v, .int .u64 D] w fun e w' => e = .returned (.int .u64 (stepM n t D : Nat)) ∧ Bel w w' := by
  have HSP := Lib.hid (fun i (hi : i < n.an.length) wx (hx : RowAt wx v n t) => nspare_any n t hn ht i D v wx hx hi hD)
  have HHAS := Lib.hid (fun i (hi : i < 64) wx => shas_any D i wx hD hi)
  have HV := Lib.hid hv
  have HLT := Lib.hid (fun k hk => stepTo_lt (t := t) hn hD (k := k) hk)
  have HST := Lib.hid (show stepM n t D = stepTo n t D n.an.length from rfl)
  have hal := hn.al
  obtain ⟨ga, gc, aa, ac, xa, xc, ta, tc, rfl, _, _, _⟩ := hv
  generalize n.an.length = A at *
  generalize n.walls.length = X at *
  generalize n.grips.length = G at *
  generalize t.grips.length = T at *
  clear hn ht
  go_enter Tryd.func82, Tryd.ntmps82
  go_wp2
  generalize hWa : w.alloc _ = Wa
  have hBa : Bel w Wa := by rw [← hWa]; exact (Bel.refl w).alloc _
  have x0 : Wa.cell? ⟨w.heap.size, 0, none⟩ = some (.int .i64 n.wind.lo) := by rw [← hWa]; exact (row_facts (new_row rfl)).1 0
  have x1 : Wa.cell? ⟨w.heap.size, 1, none⟩ = some (.int .i64 n.wind.hi) := by rw [← hWa]; exact (row_facts (new_row rfl)).1 1
  have x2 : Wa.cell? ⟨w.heap.size, 2, none⟩ = some (.int .i64 n.cur.lo) := by rw [← hWa]; exact (row_facts (new_row rfl)).1 2
  have x3 : Wa.cell? ⟨w.heap.size, 3, none⟩ = some (.int .i64 n.cur.hi) := by rw [← hWa]; exact (row_facts (new_row rfl)).1 3
  have x4 : Wa.cell? ⟨w.heap.size, 4, none⟩ = some (.slice ga G gc) := by rw [← hWa]; exact (row_facts (new_row rfl)).1 4
  have x5 : Wa.cell? ⟨w.heap.size, 5, none⟩ = some (.slice aa A ac) := by rw [← hWa]; exact (row_facts (new_row rfl)).1 5
  have x6 : Wa.cell? ⟨w.heap.size, 6, none⟩ = some (.slice xa X xc) := by rw [← hWa]; exact (row_facts (new_row rfl)).1 6
  have x7 : Wa.cell? ⟨w.heap.size, 7, none⟩ = some (.int .i64 t.wind) := by rw [← hWa]; exact (row_facts (new_row rfl)).1 7
  have x8 : Wa.cell? ⟨w.heap.size, 8, none⟩ = some (.int .i64 t.cur) := by rw [← hWa]; exact (row_facts (new_row rfl)).1 8
  have x9 : Wa.cell? ⟨w.heap.size, 9, none⟩ = some (.slice ta T tc) := by rw [← hWa]; exact (row_facts (new_row rfl)).1 9
  have HX := Lib.hid (And.intro x0 (And.intro x1 (And.intro x2 (And.intro x3 (And.intro x4 (And.intro x5 (And.intro x6 (And.intro x7 (And.intro x8 x9)))))))))
  have HBA := Lib.hid hBa
  clear hWa hBa x0 x1 x2 x3 x4 x5 x6 x7 x8 x9
  go_loopw [5, 12] (fun ov iv wr => ∃ k : Nat, k ≤ A ∧ iv = .int .i64 k ∧ ov = .int .u64 (stepTo n t D k : Nat) ∧ Bel Wa wr) (fun _ iv _ => A - (intOf iv).toNat)
  case atStart => exact ⟨0, by omega, rfl, rfl, Bel.refl _⟩
  case round =>
    obtain ⟨k, hk, rfl, rfl, hw⟩ := hrel
    have HW := Lib.hid hw
    by_cases hlt : k < A
    · have hlti : (k : Int) < (A : Int) := by omega
      have x0 := hw.cell HX.out.1
      have x1 := hw.cell HX.out.2.1
      have x2 := hw.cell HX.out.2.2.1
      have x3 := hw.cell HX.out.2.2.2.1
      have x4 := hw.cell HX.out.2.2.2.2.1
      have x5 := hw.cell HX.out.2.2.2.2.2.1
      have x6 := hw.cell HX.out.2.2.2.2.2.2.1
      have x7 := hw.cell HX.out.2.2.2.2.2.2.2.1
      have x8 := hw.cell HX.out.2.2.2.2.2.2.2.2.1
      have x9 := hw.cell HX.out.2.2.2.2.2.2.2.2.2
      have lx := cell_lt x0
      have HAS := Lib.hid (fun wx => HHAS.out k (by omega) wx)
      have HS := Lib.hid (fun wx (hx : Bel Wa wx) => HSP.out k hlt wx (HV.out.bel (HBA.out.trans hx)))
      have HWI := Lib.hid (fun wx => swith_any (stepTo n t D k) k wx (HLT.out k hk) (by omega))
      have HIT := Lib.hid (show hitL n t D k = (!D.testBit k && decide (spareL n t k D < 0)) from rfl)
      have H0 := Lib.hid (step_zero (n := n) (t := t) (D := D) (k := k))
      have H1 := Lib.hid (step_one (n := n) (t := t) (D := D) (k := k))
      clear hw
      generalize stepTo n t D k = ov at *
      cases hb : D.testBit k
      · rw [hb] at HAS HIT
        by_cases hs : spareL n t k D < 0
        · have hsd : decide (spareL n t k D < 0) = true := decide_eq_true hs
          rw [hsd] at HIT
          have HN := Lib.hid (H1.out HIT.out)
          generalize spareL n t k D = sp at *
          clear hb HIT H0 H1 HHAS HSP
          go_wp2_with (first
            | (go_at_call 102; refine (HAS.out _).mono ?_; rintro e w' ⟨rfl, rfl⟩)
            | (go_at_call 103; refine (HS.out _ HW.out).mono ?_; rintro e w2 ⟨rfl, hb⟩; have HF := Lib.hid (HW.out.trans hb); clear hb)
            | (go_at_call 104; refine (HWI.out _).mono ?_; rintro e w' ⟨rfl, rfl⟩))
          go_roundw
          case rel => exact ⟨k + 1, by omega, by go_num, by rw [HN.out], HF.out⟩
          case measure => simp [intOf]; omega
        · have hsd : decide (spareL n t k D < 0) = false := decide_eq_false hs
          rw [hsd] at HIT
          have HN := Lib.hid (H0.out HIT.out)
          generalize spareL n t k D = sp at *
          clear hb HIT H0 H1 HHAS HSP HWI
          go_wp2_with (first
            | (go_at_call 102; refine (HAS.out _).mono ?_; rintro e w' ⟨rfl, rfl⟩)
            | (go_at_call 103; refine (HS.out _ HW.out).mono ?_; rintro e w2 ⟨rfl, hb⟩; have HF := Lib.hid (HW.out.trans hb); clear hb))
          go_roundw
          case rel => exact ⟨k + 1, by omega, by go_num, by rw [HN.out], HF.out⟩
          case measure => simp [intOf]; omega
      · rw [hb] at HAS HIT
        have HN := Lib.hid (H0.out (by rw [HIT.out]; rfl))
        clear hb HIT H0 H1 HHAS HSP HWI HS
        go_wp2_with (go_at_call 102; refine (HAS.out _).mono ?_; rintro e w' ⟨rfl, rfl⟩)
        go_roundw
        case rel => exact ⟨k + 1, by omega, by go_num, by rw [HN.out], HW.out⟩
        case measure => simp [intOf]; omega
    · have HE := Lib.hid (show stepM n t D = stepTo n t D k by rw [HST.out, show A = k by omega])
      have hlti : ¬ (k : Int) < (A : Int) := by omega
      clear hw
      go_wp2
      go_ret
      exact ⟨by rw [HE.out]; rfl, HBA.out.trans HW.out⟩
theorem step_ne {n : Net} {t : NTr} {D : Nat} (h : stepM n t D ≠ D) : D < stepM n t D := by
  have := NSub.le (step_sub (n := n) (t := t) (D := D))
  omega
theorem nlast_any (n : Net) (t : NTr) (hn : NetOk n) (ht : TrOk n t) (v : Value) (w : World) (hv : RowAt w v n t) :
    Calls Tryd.prog 56 #[v, .int .u64 0] w fun e w' => ∃ D : Nat, e = .returned (.int .u64 D) ∧ Fin n t D ∧ Bel w w' := by
  have HS := Lib.hid (fun D (hD : D < 64) wx (hx : RowAt wx v n t) => nstep_any n t hn ht D v wx hx hD)
  have HV := Lib.hid hv
  have HLT := Lib.hid (fun D (h : Drg n t D) => drg_lt hn h)
  obtain ⟨ga, gc, aa, ac, xa, xc, ta, tc, rfl, _, _, _⟩ := hv
  generalize n.an.length = A at *
  generalize n.walls.length = X at *
  generalize n.grips.length = G at *
  generalize t.grips.length = T at *
  clear hn ht
  go_enter Tryd.func56, Tryd.ntmps56
  go_wp2
  generalize hWa : w.alloc _ = Wa
  have hBa : Bel w Wa := by rw [← hWa]; exact (Bel.refl w).alloc _
  have x0 : Wa.cell? ⟨w.heap.size, 0, none⟩ = some (.int .i64 n.wind.lo) := by rw [← hWa]; exact (row_facts (new_row rfl)).1 0
  have x1 : Wa.cell? ⟨w.heap.size, 1, none⟩ = some (.int .i64 n.wind.hi) := by rw [← hWa]; exact (row_facts (new_row rfl)).1 1
  have x2 : Wa.cell? ⟨w.heap.size, 2, none⟩ = some (.int .i64 n.cur.lo) := by rw [← hWa]; exact (row_facts (new_row rfl)).1 2
  have x3 : Wa.cell? ⟨w.heap.size, 3, none⟩ = some (.int .i64 n.cur.hi) := by rw [← hWa]; exact (row_facts (new_row rfl)).1 3
  have x4 : Wa.cell? ⟨w.heap.size, 4, none⟩ = some (.slice ga G gc) := by rw [← hWa]; exact (row_facts (new_row rfl)).1 4
  have x5 : Wa.cell? ⟨w.heap.size, 5, none⟩ = some (.slice aa A ac) := by rw [← hWa]; exact (row_facts (new_row rfl)).1 5
  have x6 : Wa.cell? ⟨w.heap.size, 6, none⟩ = some (.slice xa X xc) := by rw [← hWa]; exact (row_facts (new_row rfl)).1 6
  have x7 : Wa.cell? ⟨w.heap.size, 7, none⟩ = some (.int .i64 t.wind) := by rw [← hWa]; exact (row_facts (new_row rfl)).1 7
  have x8 : Wa.cell? ⟨w.heap.size, 8, none⟩ = some (.int .i64 t.cur) := by rw [← hWa]; exact (row_facts (new_row rfl)).1 8
  have x9 : Wa.cell? ⟨w.heap.size, 9, none⟩ = some (.slice ta T tc) := by rw [← hWa]; exact (row_facts (new_row rfl)).1 9
  have HX := Lib.hid (And.intro x0 (And.intro x1 (And.intro x2 (And.intro x3 (And.intro x4 (And.intro x5 (And.intro x6 (And.intro x7 (And.intro x8 x9)))))))))
  have HBA := Lib.hid hBa
  clear hWa hBa x0 x1 x2 x3 x4 x5 x6 x7 x8 x9
  go_loopw [1] (fun dv wr => ∃ D : Nat, dv = .int .u64 D ∧ Hid (Drg n t D) ∧ Bel Wa wr) (fun dv _ => 64 - (intOf dv).toNat)
  case atStart => exact ⟨0, rfl, Lib.hid Drg.none, Bel.refl _⟩
  case round =>
    obtain ⟨D, rfl, hD, hw⟩ := hrel
    have HW := Lib.hid hw
    have hlt := HLT.out D hD.out
    have x0 := hw.cell HX.out.1
    have x1 := hw.cell HX.out.2.1
    have x2 := hw.cell HX.out.2.2.1
    have x3 := hw.cell HX.out.2.2.2.1
    have x4 := hw.cell HX.out.2.2.2.2.1
    have x5 := hw.cell HX.out.2.2.2.2.2.1
    have x6 := hw.cell HX.out.2.2.2.2.2.2.1
    have x7 := hw.cell HX.out.2.2.2.2.2.2.2.1
    have x8 := hw.cell HX.out.2.2.2.2.2.2.2.2.1
    have x9 := hw.cell HX.out.2.2.2.2.2.2.2.2.2
    have lx := cell_lt x0
    have HSS := Lib.hid (fun wx (hx : Bel Wa wx) => HS.out D hlt wx (HV.out.bel (HBA.out.trans hx)))
    have HM := Lib.hid (Drg.more hD.out)
    have HLM := Lib.hid (HLT.out _ HM.out)
    have HE := Lib.hid (show stepM n t D = D → Fin n t D from fun h => ⟨hD.out, h⟩)
    have HNE := Lib.hid (fun (h : stepM n t D ≠ D) => step_ne h)
    clear hw
    generalize stepM n t D = E at *
    by_cases he : E = D
    · have HE2 := Lib.hid (HE.out he)
      have hq : ((E : Int) == (D : Int)) = true := by rw [he]; simp
      clear he
      go_wp2_with (go_at_call 82; refine (HSS.out _ HW.out).mono ?_; rintro e w2 ⟨rfl, hb⟩; have HF := Lib.hid (HBA.out.trans (HW.out.trans hb)); clear hb)
      go_ret
      exact ⟨D, rfl, HE2.out, HF.out⟩
    · have HE2 := Lib.hid (HNE.out he)
      have hq : ((E : Int) == (D : Int)) = false := by rw [beq_eq_false_iff_ne]; omega
      clear he
      go_wp2_with (go_at_call 82; refine (HSS.out _ HW.out).mono ?_; rintro e w2 ⟨rfl, hb⟩; have HF := Lib.hid (HW.out.trans hb); clear hb)
      go_roundw
      case rel => exact ⟨E, rfl, HM, HF.out⟩
      case measure => have := HE2.out; have := HLM.out; simp [intOf]; omega
theorem nDragsF_any (n : Net) (t : NTr) (hn : NetOk n) (ht : TrOk n t) (v vt : Value) (w : World) (hv : NetAt w v n) (hvt : NTrAt w vt t) (hT : BruAt w) :
    Calls Tryd.prog 33 #[v, vt] w fun e w' => ∃ (D : Nat) (l : Value), e = .returned (.tuple #[l, .int .i64 0]) ∧ Fin n t D ∧ IntsAt w' l (blOf D) ∧ Bel w w' ∧ ∀ g, l.ownBlock = some g → w.heap.size ≤ g := by
  have HE0 := Lib.hid (show netE n = 0 by unfold netE; rw [if_pos (netB_iff.2 hn)])
  have HB0 := Lib.hid (ntrB_iff.2 ht)
  have HC := Lib.hid (fun wx (hb : Bel w wx) => nCheck_any n v wx (hv.bel hb))
  have HI := Lib.hid (fun wx (hb : Bel w wx) => nIsTruth_any n t v vt wx (hv.bel hb) (hvt.bel hb))
  rw [HE0.out] at HC
  rw [HB0.out] at HI
  have HDL := Lib.hid (fun D (h : Fin n t D) => drg_lt hn h.1)
  have HTT := Lib.hid hT
  have HL := Lib.hid (fun D (h : Fin n t D) wx (hb : Bel w wx) => slistF_any D (HDL.out D h) wx (HTT.out.bel hb))
  obtain ⟨ga, gc, aa, ac, xa, xc, rfl, hg, ha, hx⟩ := hv.open
  obtain ⟨ta, tc, rfl, htg⟩ := hvt.open
  have HR := Lib.hid (fun wx (hb : Bel w wx) => nlast_any n t hn ht (.agg #[.int .i64 n.wind.lo, .int .i64 n.wind.hi, .int .i64 n.cur.lo, .int .i64 n.cur.hi, .slice ga n.grips.length gc, .slice aa n.an.length ac, .slice xa n.walls.length xc, .int .i64 t.wind, .int .i64 t.cur, .slice ta t.grips.length tc]) wx
    ⟨ga, gc, aa, ac, xa, xc, ta, tc, rfl, ha.bel hb, hx.bel hb, htg.bel hb⟩)
  generalize n.an.length = A at *
  generalize n.walls.length = X at *
  generalize n.grips.length = G at *
  generalize t.grips.length = T at *
  clear hn ht hv hvt hg ha hx htg hT HE0 HB0 HTT
  go_enter Tryd.func33, Tryd.ntmps33
  go_wp2_with fail
  refine (HC.out _ (by repeat (first | assumption | exact Bel.refl _ | refine Bel.drew ?_ | refine Bel.drewN ?_ _ | refine Bel.alloc ?_ _ | refine Bel.setCell ?_ (by simp <;> omega) _ | refine Bel.trans ?_ (by assumption)))).mono ?_
  rintro e w1 ⟨rfl, hb⟩
  have hn0 := new_row (w := w) (o := .cells #[.int .i64 n.wind.lo, .int .i64 n.wind.hi, .int .i64 n.cur.lo, .int .i64 n.cur.hi, .slice ga G gc, .slice aa A ac, .slice xa X xc] 32) rfl
  have hm0 := new_row (g := w.heap.size + 1) (w := w.alloc (.cells #[.int .i64 n.wind.lo, .int .i64 n.wind.hi, .int .i64 n.cur.lo, .int .i64 n.cur.hi, .slice ga G gc, .slice aa A ac, .slice xa X xc] 32)) (o := .cells #[.int .i64 t.wind, .int .i64 t.cur, .slice ta T tc] 35) (by simp)
  have x0 := hb.cell (((Bel.refl _).alloc _).cell ((row_facts hn0).1 0))
  have x1 := hb.cell (((Bel.refl _).alloc _).cell ((row_facts hn0).1 1))
  have x2 := hb.cell (((Bel.refl _).alloc _).cell ((row_facts hn0).1 2))
  have x3 := hb.cell (((Bel.refl _).alloc _).cell ((row_facts hn0).1 3))
  have x4 := hb.cell (((Bel.refl _).alloc _).cell ((row_facts hn0).1 4))
  have x5 := hb.cell (((Bel.refl _).alloc _).cell ((row_facts hn0).1 5))
  have x6 := hb.cell (((Bel.refl _).alloc _).cell ((row_facts hn0).1 6))
  have y0 := hb.cell ((row_facts hm0).1 0)
  have y1 := hb.cell ((row_facts hm0).1 1)
  have y2 := hb.cell ((row_facts hm0).1 2)
  clear hn0 hm0
  have lx := cell_lt x0
  have ly := cell_lt y0
  have hB1 : Bel w w1 := Bel.trans (by repeat (first | assumption | exact Bel.refl _ | refine Bel.drew ?_ | refine Bel.drewN ?_ _ | refine Bel.alloc ?_ _ | refine Bel.setCell ?_ (by simp <;> omega) _ | refine Bel.trans ?_ (by assumption))) hb
  clear hb
  go_wp2_with fail
  refine (HI.out _ hB1).mono ?_
  rintro e w2 ⟨rfl, hb⟩
  have hk : Bel w1 w2 := hb
  replace x0 := hk.cell x0
  replace x1 := hk.cell x1
  replace x2 := hk.cell x2
  replace x3 := hk.cell x3
  replace x4 := hk.cell x4
  replace x5 := hk.cell x5
  replace x6 := hk.cell x6
  replace y0 := hk.cell y0
  replace y1 := hk.cell y1
  replace y2 := hk.cell y2
  have lx := cell_lt x0
  have ly := cell_lt y0
  have hB2 : Bel w w2 := hB1.trans hk
  clear hb hk hB1
  go_wp2_with fail
  refine (HR.out _ hB2).mono ?_
  rintro e w3 ⟨D, rfl, hF, hk⟩
  have hB3 : Bel w w3 := hB2.trans hk
  have HF := Lib.hid hF
  clear hk hB2 hF
  go_wp2_with fail
  refine (HL.out D HF.out _ hB3).mono ?_
  rintro e w4 ⟨l, rfl, hl, hk, hfar⟩
  have HB4 := Lib.hid (hB3.trans hk)
  have HLL := Lib.hid hl
  have HFA := Lib.hid (fun g hg => Nat.le_trans hB3.szle (hfar g hg))
  clear hk hB3 hl hfar
  go_wp2
  go_ret2
  exact ⟨D, l, rfl, HF.out, HLL.out, HB4.out, HFA.out⟩
theorem nDrags_any (n : Net) (t : NTr) (hn : NetOk n) (ht : TrOk n t) (v vt : Value) (w : World) (hv : NetAt w v n) (hvt : NTrAt w vt t) (hT : BruAt w) :
    Calls Tryd.prog 33 #[v, vt] w fun e w' => ∃ (D : Nat) (l : Value), e = .returned (.tuple #[l, .int .i64 0]) ∧ Fin n t D ∧ IntsAt w' l (blOf D) ∧ Bel w w' :=
  (nDragsF_any n t hn ht v vt w hv hvt hT).mono fun _ _ ⟨D, l, h1, h2, h3, h4, _⟩ => ⟨D, l, h1, h2, h3, h4⟩
end Go.Proofs.YtkdcdhkhadhcfaaDoor
