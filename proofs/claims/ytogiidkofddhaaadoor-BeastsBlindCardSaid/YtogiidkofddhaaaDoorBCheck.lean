/-
  beasts: Check as a whole.
-/
import Derived.Test.YtogiidkofddhaaaDoorBRows
namespace Go.Proofs.YtogiidkofddhaaaDoor
open Go Go.RowKit
set_option maxHeartbeats 2000000
set_option maxRecDepth 100000
theorem chk1_any (b : BT) (p : Int) (tb : Nat) (dv sv pv : Value) (w : World) (h0 : w.cell? ⟨tb, 0, none⟩ = some (.int .i64 b.n)) (h1 : w.cell? ⟨tb, 1, none⟩ = some dv) (h2 : w.cell? ⟨tb, 2, none⟩ = some sv)
    (h3 : w.cell? ⟨tb, 3, none⟩ = some (.int .i64 b.look)) (h4 : w.cell? ⟨tb, 4, none⟩ = some (.int .i64 b.eats)) (h5 : w.cell? ⟨tb, 5, none⟩ = some pv) :
    Calls Tryd.prog 95 #[.int .i64 p, .pointer (some ⟨tb, 0, none⟩)] w fun e w' => e = .returned (.bool (chamB b.n p)) ∧ Bel w w' := by
  go_enter Tryd.func95, Tryd.ntmps95
  go_wp2_with (go_at_call 84; refine (chamber_any _ _ _ _ _ _).mono ?_; rintro e w' ⟨rfl, hb⟩)
  go_ret
  exact ⟨rfl, (by repeat (first | assumption | exact Bel.refl _ | refine Bel.drew ?_ | refine Bel.drewN ?_ _ | refine Bel.alloc ?_ _ | refine Bel.setCell ?_ (by simp <;> omega) _ | refine Bel.trans ?_ (by assumption)))⟩
theorem move1_any (b : BT) (p : Int) (tb : Nat) (dv sv pv : Value) (w : World) (h0 : w.cell? ⟨tb, 0, none⟩ = some (.int .i64 b.n)) (h1 : w.cell? ⟨tb, 1, none⟩ = some dv) (h2 : w.cell? ⟨tb, 2, none⟩ = some sv)
    (h3 : w.cell? ⟨tb, 3, none⟩ = some (.int .i64 b.look)) (h4 : w.cell? ⟨tb, 4, none⟩ = some (.int .i64 b.eats)) (h5 : w.cell? ⟨tb, 5, none⟩ = some pv) :
    Calls Tryd.prog 77 #[.int .i64 p, .pointer (some ⟨tb, 0, none⟩)] w fun e w' => e = .returned (.bool (placeB b.n p)) ∧ Bel w w' := by
  go_enter Tryd.func77, Tryd.ntmps77
  go_wp2_with (go_at_call 78; refine (place_any _ _ _ _ _ _).mono ?_; rintro e w' ⟨rfl, hb⟩)
  go_ret
  exact ⟨rfl, (by repeat (first | assumption | exact Bel.refl _ | refine Bel.drew ?_ | refine Bel.drewN ?_ _ | refine Bel.alloc ?_ _ | refine Bel.setCell ?_ (by simp <;> omega) _ | refine Bel.trans ?_ (by assumption)))⟩
/-- strictly ascending, each such. -/
def riseP (l : List Int) (f : Int → Bool) (i : Nat) : Bool := f (at0 l i) && (decide (i = 0) || decide (at0 l (i - 1) < at0 l i))
def risingP (l : List Int) (f : Int → Bool) : Bool := allB l.length (riseP l f)
theorem risingP_eq {l : List Int} {f : Int → Bool} {lo hi : Int} (h : ∀ p, f p = withinB p lo hi) : risingP l f = risingB l lo hi := by
  unfold risingP risingB
  exact allB_congr fun i _ => by unfold riseP riseAt; rw [h]
theorem rising_any (v fv : Value) (l : List Int) (f : Int → Bool) (w : World) (hv : IntsAt w v l) (g tb : Nat) (hfv : fv = .func (.func g) #[] #[.pointer (some ⟨tb, 0, none⟩)]) (eg : ∀ args w, (callFunc g args).run Tryd.prog w = .ok (.enter g args) w)
    (hf : ∀ p wx, Bel w wx → Calls Tryd.prog g #[.int .i64 p, .pointer (some ⟨tb, 0, none⟩)] wx fun e w' => e = .returned (.bool (f p)) ∧ Bel wx w') :
    Calls Tryd.prog 76 #[v, fv] w fun e w' => e = .returned (.bool (risingP l f)) ∧ Bel w w' := by
  subst hfv
  obtain ⟨a, c, b, off, rfl, ha, ⟨hlen, _⟩, hc⟩ := hv
  have hix := idxInts (c := c) ha
  have HC := Lib.hid hc
  have HF := Lib.hid hf
  clear ha hc hf
  go_enter Tryd.func76, Tryd.ntmps76
  go_wp2
  go_loopw [9] (fun i wr => ∃ k : Nat, k ≤ l.length ∧ i = .int .i64 k ∧ Hid (allB k (riseP l f) = true) ∧ Bel w wr) (fun i _ => l.length - (intOf i).toNat)
  case atStart => exact ⟨0, by omega, rfl, rfl, Bel.refl _⟩
  case round =>
    obtain ⟨k, hk, rfl, hno, hw⟩ := hrel
    have HW := Lib.hid hw
    clear hw
    by_cases hlt : k < l.length
    · have hlti : (k : Int) < (l.length : Int) := by omega
      have hck := HW.out.cell (HC.out k hlt)
      have lck := cell_lt hck
      have HFK := Lib.hid (HF.out (at0 l k) wr HW.out)
      cases hfk : f (at0 l k)
      · have HI := Lib.hid (show risingP l f = false from allB_false k hlt (by unfold riseP; rw [hfk]; rfl))
        rw [hfk] at HFK
        clear hfk
        go_wp2_with fail
        refine HFK.out.mono ?_
        rintro e w2 ⟨rfl, hb⟩
        have HB := Lib.hid (HW.out.trans hb)
        clear hb hck lck
        go_wp2
        go_ret
        exact ⟨rb HI.out, HB.out⟩
      · rw [hfk] at HFK
        by_cases h0 : k = 0
        · have HR := Lib.hid (allB_succ hno.out (show riseP l f k = true by unfold riseP; rw [hfk, h0]; rfl))
          have d0 : decide (0 < (k : Int)) = false := by simp [h0]
          have d3 : ¬ 0 < k := by omega
          clear hfk h0
          go_wp2_with fail
          refine HFK.out.mono ?_
          rintro e w2 ⟨rfl, hb⟩
          have HB := Lib.hid (HW.out.trans hb)
          clear hb hck lck
          go_wp2
          go_roundw
          case rel => exact ⟨k + 1, by omega, by go_num, HR, HB.out⟩
          case measure => simp [intOf]; omega
        · have d0 : decide (0 < (k : Int)) = true := by simp; omega
          have d1 : (0 : Int) < (k : Int) := by omega
          have d2 : 0 < k := by omega
          have hk1 : k - 1 < l.length := by omega
          have ek : (k : Int) - 1 = ((k - 1 : Nat) : Int) := by omega
          have hck1 := HC.out (k - 1) hk1
          have HCK1 := Lib.hid hck1
          by_cases hle : at0 l k ≤ at0 l (k - 1)
          · have HI := Lib.hid (show risingP l f = false from allB_false k hlt (by unfold riseP; simp [h0]; intro _; omega))
            have dle : decide (at0 l k ≤ at0 l (k - 1)) = true := by simpa using hle
            clear hfk hck1
            go_wp2_with fail
            refine HFK.out.mono ?_
            rintro e w2 ⟨rfl, hb⟩
            have HB := Lib.hid (HW.out.trans hb)
            have hck1 := HB.out.cell HCK1.out
            clear hb hck lck
            go_wp2
            go_ret
            exact ⟨rb HI.out, HB.out⟩
          · have HR := Lib.hid (allB_succ hno.out (show riseP l f k = true by unfold riseP; rw [hfk]; simp; omega))
            have dle : decide (at0 l k ≤ at0 l (k - 1)) = false := by simp; omega
            clear hfk hck1
            go_wp2_with fail
            refine HFK.out.mono ?_
            rintro e w2 ⟨rfl, hb⟩
            have HB := Lib.hid (HW.out.trans hb)
            have hck1 := HB.out.cell HCK1.out
            clear hb hck lck
            go_wp2
            go_roundw
            case rel => exact ⟨k + 1, by omega, by go_num, HR, HB.out⟩
            case measure => simp [intOf]; omega
    · have e : k = l.length := by omega
      have HI := Lib.hid (show risingP l f = true by unfold risingP; rw [← e]; exact hno.out)
      clear e
      go_wp2
      go_ret
      exact ⟨rb HI.out, HW.out⟩
end Go.Proofs.YtogiidkofddhaaaDoor
namespace Go.Proofs.YtogiidkofddhaaaDoor
open Go Go.RowKit
set_option maxHeartbeats 2000000
set_option maxRecDepth 100000
/-- A trap in a box. -/
structure BoxB (w : World) (tb : Nat) (b : BT) (dv sv pv : Value) : Prop where
  c0 : w.cell? ⟨tb, 0, none⟩ = some (.int .i64 b.n)
  c1 : w.cell? ⟨tb, 1, none⟩ = some dv
  c2 : w.cell? ⟨tb, 2, none⟩ = some sv
  c3 : w.cell? ⟨tb, 3, none⟩ = some (.int .i64 b.look)
  c4 : w.cell? ⟨tb, 4, none⟩ = some (.int .i64 b.eats)
  c5 : w.cell? ⟨tb, 5, none⟩ = some pv
theorem BoxB.bel {w w' : World} {tb : Nat} {b : BT} {dv sv pv : Value} (h : BoxB w tb b dv sv pv) (k : Bel w w') : BoxB w' tb b dv sv pv :=
  ⟨k.cell h.c0, k.cell h.c1, k.cell h.c2, k.cell h.c3, k.cell h.c4, k.cell h.c5⟩
theorem BoxB.new {w : World} {b : BT} {dv sv pv : Value} {T : TypeId} : BoxB (w.alloc (.cells #[.int .i64 b.n, dv, sv, .int .i64 b.look, .int .i64 b.eats, pv] T)) w.heap.size b dv sv pv :=
  ⟨(row_facts (new_row rfl)).1 0, (row_facts (new_row rfl)).1 1, (row_facts (new_row rfl)).1 2, (row_facts (new_row rfl)).1 3, (row_facts (new_row rfl)).1 4, (row_facts (new_row rfl)).1 5⟩
def wrongB (n : Int) (d : BD) : Bool := !chamB n d.a || (!placeB n d.b || (decide (d.a = d.b) || !withinB d.cost 0 20))
theorem wrongB_eq {n : Int} (h1 : 1 ≤ n) (h2 : n ≤ 5) (d : BD) : wrongB n d = !doorB n d := by
  unfold wrongB doorB
  rw [chamB_in h1 h2]
  unfold placeB
  rw [chamB_in h1 h2]
  cases withinB d.a 0 (n - 1) <;> cases decide (d.b = -1) <;> cases withinB d.b 0 (n - 1) <;> cases decide (d.a = d.b) <;> cases withinB d.cost 0 20 <;> rfl
theorem chk2_any (b : BT) (d : BD) (tb : Nat) (dv sv pv : Value) (w : World) (hx : BoxB w tb b dv sv pv) :
    Calls Tryd.prog 96 #[.agg #[.int .i64 d.a, .int .i64 d.b, .int .i64 d.cost], .pointer (some ⟨tb, 0, none⟩)] w fun e w' => e = .returned (.bool (wrongB b.n d)) ∧ Bel w w' := by
  obtain ⟨x0, x1, x2, x3, x4, x5⟩ := hx
  have HX := Lib.hid (And.intro x0 (And.intro x1 (And.intro x2 (And.intro x3 (And.intro x4 x5)))))
  have lx := cell_lt x0
  have HW := Lib.hid (show wrongB b.n d = (!chamB b.n d.a || (!placeB b.n d.b || (decide (d.a = d.b) || !withinB d.cost 0 20))) from rfl)
  have HCH := Lib.hid (fun wx => chamber_any b d.a dv sv pv wx)
  have HPL := Lib.hid (fun wx => place_any b d.b dv sv pv wx)
  cases h1 : chamB b.n d.a
  · rw [h1] at HW HCH
    clear h1
    go_enter Tryd.func96, Tryd.ntmps96
    go_wp2_with fail
    refine (HCH.out _).mono ?_
    rintro e w1 ⟨rfl, hb⟩
    have HB := Lib.hid (show Bel w w1 from Bel.trans (by repeat (first | assumption | exact Bel.refl _ | refine Bel.drew ?_ | refine Bel.drewN ?_ _ | refine Bel.alloc ?_ _ | refine Bel.setCell ?_ (by simp <;> omega) _ | refine Bel.trans ?_ (by assumption))) hb)
    clear hb
    go_wp2
    go_ret
    exact ⟨rb (by rw [HW.out]; rfl), HB.out⟩
  rw [h1] at HW HCH
  clear h1
  cases h2 : placeB b.n d.b
  · rw [h2] at HW HPL
    clear h2
    go_enter Tryd.func96, Tryd.ntmps96
    go_wp2_with fail
    refine (HCH.out _).mono ?_
    rintro e w1 ⟨rfl, hb⟩
    have HB := Lib.hid (show Bel w w1 from Bel.trans (by repeat (first | assumption | exact Bel.refl _ | refine Bel.drew ?_ | refine Bel.drewN ?_ _ | refine Bel.alloc ?_ _ | refine Bel.setCell ?_ (by simp <;> omega) _ | refine Bel.trans ?_ (by assumption))) hb)
    have d1 : w1.cell? ⟨w.heap.size, 1, none⟩ = some (.int .i64 d.b) := hb.cell ((row_facts (new_row rfl)).1 1)
    obtain ⟨x0, x1, x2, x3, x4, x5⟩ := HX.out
    replace x0 := HB.out.cell x0
    replace x1 := HB.out.cell x1
    replace x2 := HB.out.cell x2
    replace x3 := HB.out.cell x3
    replace x4 := HB.out.cell x4
    replace x5 := HB.out.cell x5
    clear hb
    go_wp2_with fail
    refine (HPL.out _).mono ?_
    rintro e w2 ⟨rfl, hb⟩
    have HB2 := Lib.hid (HB.out.trans hb)
    clear hb
    go_wp2
    go_ret
    exact ⟨rb (by rw [HW.out]; rfl), HB2.out⟩
  rw [h2] at HW HPL
  clear h2
  by_cases h3 : d.a = d.b
  · have hbq : (d.a == d.b) = true := by simpa using h3
    rw [decide_eq_true h3] at HW
    clear h3
    go_enter Tryd.func96, Tryd.ntmps96
    go_wp2_with fail
    refine (HCH.out _).mono ?_
    rintro e w1 ⟨rfl, hb⟩
    have HB := Lib.hid (show Bel w w1 from Bel.trans (by repeat (first | assumption | exact Bel.refl _ | refine Bel.drew ?_ | refine Bel.drewN ?_ _ | refine Bel.alloc ?_ _ | refine Bel.setCell ?_ (by simp <;> omega) _ | refine Bel.trans ?_ (by assumption))) hb)
    have d0 : w1.cell? ⟨w.heap.size, 0, none⟩ = some (.int .i64 d.a) := hb.cell ((row_facts (new_row rfl)).1 0)
    have d1 : w1.cell? ⟨w.heap.size, 1, none⟩ = some (.int .i64 d.b) := hb.cell ((row_facts (new_row rfl)).1 1)
    obtain ⟨x0, x1, x2, x3, x4, x5⟩ := HX.out
    replace x0 := HB.out.cell x0
    replace x1 := HB.out.cell x1
    replace x2 := HB.out.cell x2
    replace x3 := HB.out.cell x3
    replace x4 := HB.out.cell x4
    replace x5 := HB.out.cell x5
    clear hb
    go_wp2_with fail
    refine (HPL.out _).mono ?_
    rintro e w2 ⟨rfl, hb⟩
    have HB2 := Lib.hid (HB.out.trans hb)
    replace d0 := hb.cell d0
    replace d1 := hb.cell d1
    clear hb
    go_wp2
    go_ret
    exact ⟨rb (by rw [HW.out]; rfl), HB2.out⟩
  · have hbq : (d.a == d.b) = false := by simpa using h3
    rw [decide_eq_false h3] at HW
    clear h3
    go_enter Tryd.func96, Tryd.ntmps96
    go_wp2_with fail
    refine (HCH.out _).mono ?_
    rintro e w1 ⟨rfl, hb⟩
    have HB := Lib.hid (show Bel w w1 from Bel.trans (by repeat (first | assumption | exact Bel.refl _ | refine Bel.drew ?_ | refine Bel.drewN ?_ _ | refine Bel.alloc ?_ _ | refine Bel.setCell ?_ (by simp <;> omega) _ | refine Bel.trans ?_ (by assumption))) hb)
    have d0 : w1.cell? ⟨w.heap.size, 0, none⟩ = some (.int .i64 d.a) := hb.cell ((row_facts (new_row rfl)).1 0)
    have d1 : w1.cell? ⟨w.heap.size, 1, none⟩ = some (.int .i64 d.b) := hb.cell ((row_facts (new_row rfl)).1 1)
    have d2 : w1.cell? ⟨w.heap.size, 2, none⟩ = some (.int .i64 d.cost) := hb.cell ((row_facts (new_row rfl)).1 2)
    obtain ⟨x0, x1, x2, x3, x4, x5⟩ := HX.out
    replace x0 := HB.out.cell x0
    replace x1 := HB.out.cell x1
    replace x2 := HB.out.cell x2
    replace x3 := HB.out.cell x3
    replace x4 := HB.out.cell x4
    replace x5 := HB.out.cell x5
    clear hb
    go_wp2_with fail
    refine (HPL.out _).mono ?_
    rintro e w2 ⟨rfl, hb⟩
    have HB2 := Lib.hid (HB.out.trans hb)
    replace d0 := hb.cell d0
    replace d1 := hb.cell d1
    replace d2 := hb.cell d2
    clear hb
    go_wp2_with fail
    refine (bwithin_any _ _ _ _).mono ?_
    rintro e w3 ⟨rfl, rfl⟩
    go_wp2
    go_ret
    exact ⟨rb (by rw [HW.out]; rfl), HB2.out⟩
def doorsOkB (n : Int) (l : List BD) : Bool := allB l.length fun i => !wrongB n (atD l i)
theorem idxFd_any (b : BT) (tb : Nat) (dv sv pv : Value) (w : World) (hx : BoxB w tb b dv sv pv) (hv : DoorsAt w dv b.doors) :
    Calls Tryd.prog 108 #[dv, .func (.func 96) #[] #[.pointer (some ⟨tb, 0, none⟩)]] w fun e w' => ∃ r : Int, e = .returned (.int .i64 r) ∧ decide (0 ≤ r) = (!doorsOkB b.n b.doors) ∧ Bel w w' := by
  obtain ⟨a, c, bb, off, rfl, ha, ⟨hlen, _⟩, hc⟩ := hv
  have hix := idxDoors (c := c) ha
  have HC := Lib.hid hc
  have HC2 := Lib.hid (fun k wx h => chk2_any b (atD b.doors k) tb (.slice a b.doors.length c) sv pv wx h)
  have HX := Lib.hid hx
  clear ha hc hx
  go_enter Tryd.func108, Tryd.ntmps108
  go_wp2
  go_loopw [8] (fun i wr => ∃ k : Nat, k ≤ b.doors.length ∧ i = .int .i64 k ∧ Hid (allB k (fun i => !wrongB b.n (atD b.doors i)) = true) ∧ Bel w wr) (fun i _ => b.doors.length - (intOf i).toNat)
  case atStart => exact ⟨0, by omega, rfl, rfl, Bel.refl _⟩
  case round =>
    obtain ⟨k, hk, rfl, hno, hw⟩ := hrel
    have HW := Lib.hid hw
    by_cases hlt : k < b.doors.length
    · have hlti : (k : Int) < (b.doors.length : Int) := by omega
      obtain ⟨k0, k1, k2⟩ := HC.out k hlt
      replace k0 := hw.cell k0
      replace k1 := hw.cell k1
      replace k2 := hw.cell k2
      have lk := cell_lt k0
      have HCK := Lib.hid (HC2.out k wr (HX.out.bel hw))
      clear hw
      cases hwk : wrongB b.n (atD b.doors k)
      · have HR := Lib.hid (allB_succ hno.out (f := fun i => !wrongB b.n (atD b.doors i)) (show (!wrongB b.n (atD b.doors k)) = true by rw [hwk]; rfl))
        rw [hwk] at HCK
        clear hwk
        generalize atD b.doors k = d at *
        go_wp2_with fail
        refine HCK.out.mono ?_
        rintro e w2 ⟨rfl, hb⟩
        have HB := Lib.hid (HW.out.trans hb)
        clear hb k0 k1 k2 lk
        go_wp2
        go_roundw
        case rel => exact ⟨k + 1, by omega, by go_num, HR, HB.out⟩
        case measure => simp [intOf]; omega
      · have HI := Lib.hid (show doorsOkB b.n b.doors = false from allB_false k hlt (by rw [hwk]; rfl))
        rw [hwk] at HCK
        clear hwk
        generalize atD b.doors k = d at *
        go_wp2_with fail
        refine HCK.out.mono ?_
        rintro e w2 ⟨rfl, hb⟩
        have HB := Lib.hid (HW.out.trans hb)
        clear hb k0 k1 k2 lk
        go_wp2
        go_ret
        exact ⟨(k : Int), rfl, by rw [HI.out]; simp, HB.out⟩
    · have HI := Lib.hid (show doorsOkB b.n b.doors = true by unfold doorsOkB; rw [show b.doors.length = k by omega]; exact hno.out)
      clear hw
      go_wp2
      go_ret
      exact ⟨-1, rfl, by rw [HI.out]; rfl, HW.out⟩
theorem conFd_any (b : BT) (tb : Nat) (dv sv pv : Value) (w : World) (hx : BoxB w tb b dv sv pv) (hv : DoorsAt w dv b.doors) :
    Calls Tryd.prog 98 #[dv, .func (.func 96) #[] #[.pointer (some ⟨tb, 0, none⟩)]] w fun e w' => e = .returned (.bool (!doorsOkB b.n b.doors)) ∧ Bel w w' := by
  have HC := Lib.hid (idxFd_any b tb dv sv pv w hx hv)
  clear hx hv
  go_enter Tryd.func98, Tryd.ntmps98
  go_wp2_with fail
  refine HC.out.mono ?_
  rintro e w' ⟨r, rfl, hr, hb⟩
  have HR := Lib.hid hr
  clear hr
  go_wp2
  go_ret
  exact ⟨rb (by rw [← HR.out]), hb⟩
end Go.Proofs.YtogiidkofddhaaaDoor
namespace Go.Proofs.YtogiidkofddhaaaDoor
open Go Go.RowKit
set_option maxHeartbeats 4000000
set_option maxRecDepth 100000
theorem chkT_false {b : BT} (h : validT b = false) : chkT b = 60 := by unfold chkT; rw [h]; rfl
theorem chkT_true {b : BT} (h : validT b = true) : chkT b = 0 := by unfold chkT; rw [h]; rfl
theorem risingP_ch {n : Int} (h1 : 1 ≤ n) (h2 : n ≤ 5) (l : List Int) : risingP l (chamB n) = risingB l 0 (n - 1) := risingP_eq fun p => chamB_in h1 h2 p
theorem risingP_pl {n : Int} (h1 : 1 ≤ n) (h2 : n ≤ 5) (l : List Int) : risingP l (placeB n) = risingB l (-1) (n - 1) := risingP_eq fun p => placeB_in h1 h2 p
theorem doorsOk_eq {n : Int} (h1 : 1 ≤ n) (h2 : n ≤ 5) (l : List BD) : doorsOkB n l = doorsB n l := by
  unfold doorsOkB doorsB
  exact allB_congr fun i _ => by rw [wrongB_eq h1 h2]; simp
theorem bCheck_any (b : BT) (v : Value) (w : World) (hv : BTrapAt w v b) : Calls Tryd.prog 54 #[v] w fun e w' => e = .returned (.int .i64 (chkT b)) ∧ Bel w w' := by
  obtain ⟨dv, sv, pv, rfl, hd, hs, hp⟩ := hv
  have HD := Lib.hid hd
  have HS := Lib.hid hs
  have HP := Lib.hid hp
  obtain ⟨da, dc, db, doff, rfl, _, ⟨hdl, _⟩, _⟩ := hd
  obtain ⟨sa, sc, sb, soff, rfl, _, ⟨hsl, _⟩, _⟩ := hs
  obtain ⟨pa, pc, pb, poff, rfl, _, ⟨hpl, _⟩, _⟩ := hp
  have HV := Lib.hid (show validT b = (withinB b.n 1 5 && (decide (b.doors.length ≤ 8) && (doorsB b.n b.doors && (risingB b.seen 0 (b.n - 1) && (risingB b.places 0 (b.n - 1) && (decide (b.places.length ≠ 0) && (withinB b.look 0 20 && withinB b.eats 1 9))))))) from rfl)
  have HBX : Hid (BoxB (w.alloc (.cells #[.int .i64 b.n, .slice da b.doors.length dc, .slice sa b.seen.length sc, .int .i64 b.look, .int .i64 b.eats, .slice pa b.places.length pc] 25)) w.heap.size b (.slice da b.doors.length dc) (.slice sa b.seen.length sc) (.slice pa b.places.length pc)) := Lib.hid BoxB.new
  have HB0 : Hid (Bel w (w.alloc (.cells #[.int .i64 b.n, .slice da b.doors.length dc, .slice sa b.seen.length sc, .int .i64 b.look, .int .i64 b.eats, .slice pa b.places.length pc] 25))) := Lib.hid ((Bel.refl w).alloc _)
  cases h1 : withinB b.n 1 5
  · have HI := Lib.hid (chkT_false (b := b) (by rw [HV.out, h1]; rfl))
    go_enter Tryd.func54, Tryd.ntmps54
    go_wp2_with (go_at_call 97; refine (bwithin_any _ _ _ _).mono ?_; rintro e w' ⟨rfl, rfl⟩)
    go_ret
    exact ⟨ri HI.out, (by repeat (first | assumption | exact Bel.refl _ | refine Bel.drew ?_ | refine Bel.drewN ?_ _ | refine Bel.alloc ?_ _ | refine Bel.setCell ?_ (by simp <;> omega) _ | refine Bel.trans ?_ (by assumption)))⟩
  obtain ⟨b1, b2⟩ := withinB_true.1 h1
  by_cases h2 : b.doors.length ≤ 8
  case neg =>
    have HI := Lib.hid (chkT_false (b := b) (by rw [HV.out, h1, decide_eq_false h2]; rfl))
    have hb4 : decide (8 < b.doors.length) = true := by simp; omega
    have hb5 : 8 < b.doors.length := by omega
    go_enter Tryd.func54, Tryd.ntmps54
    go_wp2_with (go_at_call 97; refine (bwithin_any _ _ _ _).mono ?_; rintro e w' ⟨rfl, rfl⟩)
    go_ret
    exact ⟨ri HI.out, (by repeat (first | assumption | exact Bel.refl _ | refine Bel.drew ?_ | refine Bel.drewN ?_ _ | refine Bel.alloc ?_ _ | refine Bel.setCell ?_ (by simp <;> omega) _ | refine Bel.trans ?_ (by assumption)))⟩
  have hb4 : decide (8 < b.doors.length) = false := by simp; omega
  have hb5 : ¬ 8 < b.doors.length := by omega
  have HCD := Lib.hid (conFd_any b w.heap.size _ _ _ _ HBX.out (HD.out.bel HB0.out))
  cases h3 : doorsB b.n b.doors
  · have HI := Lib.hid (chkT_false (b := b) (by rw [HV.out, h1, decide_eq_true h2, h3]; rfl))
    rw [doorsOk_eq b1 b2, h3] at HCD
    clear h3
    go_enter Tryd.func54, Tryd.ntmps54
    go_wp2_with (first | (go_at_call 97; refine (bwithin_any _ _ _ _).mono ?_; rintro e w' ⟨rfl, rfl⟩) | (go_at_call 98; refine HCD.out.mono ?_; rintro e w' ⟨rfl, hb⟩))
    go_ret
    exact ⟨ri HI.out, (by repeat (first | assumption | exact Bel.refl _ | refine Bel.drew ?_ | refine Bel.drewN ?_ _ | refine Bel.alloc ?_ _ | refine Bel.setCell ?_ (by simp <;> omega) _ | refine Bel.trans ?_ (by assumption)))⟩
  have HV2 : Hid (validT b = (risingB b.seen 0 (b.n - 1) && (risingB b.places 0 (b.n - 1) && (decide (b.places.length ≠ 0) && (withinB b.look 0 20 && withinB b.eats 1 9))))) := Lib.hid (by rw [HV.out, h1, decide_eq_true h2, h3]; rfl)
  rw [doorsOk_eq b1 b2, h3] at HCD
  have HC1 := Lib.hid (fun p wx (hx : Bel (w.alloc (.cells #[.int .i64 b.n, .slice da b.doors.length dc, .slice sa b.seen.length sc, .int .i64 b.look, .int .i64 b.eats, .slice pa b.places.length pc] 25)) wx) => chk1_any b p w.heap.size _ _ _ wx (HBX.out.bel hx).c0 (HBX.out.bel hx).c1 (HBX.out.bel hx).c2 (HBX.out.bel hx).c3 (HBX.out.bel hx).c4 (HBX.out.bel hx).c5)
  have HRS := Lib.hid (fun wx (hx : Bel (w.alloc (.cells #[.int .i64 b.n, .slice da b.doors.length dc, .slice sa b.seen.length sc, .int .i64 b.look, .int .i64 b.eats, .slice pa b.places.length pc] 25)) wx) =>
    rising_any (.slice sa b.seen.length sc) (.func (.func 95) #[] #[.pointer (some ⟨w.heap.size, 0, none⟩)]) b.seen (chamB b.n) wx (HS.out.bel (HB0.out.trans hx)) 95 w.heap.size rfl (enters_of Tryd.func95 (by kernel_rfl) rfl) (fun p wy hy => HC1.out p wy (hx.trans hy)))
  have HRP := Lib.hid (fun wx (hx : Bel (w.alloc (.cells #[.int .i64 b.n, .slice da b.doors.length dc, .slice sa b.seen.length sc, .int .i64 b.look, .int .i64 b.eats, .slice pa b.places.length pc] 25)) wx) =>
    rising_any (.slice pa b.places.length pc) (.func (.func 95) #[] #[.pointer (some ⟨w.heap.size, 0, none⟩)]) b.places (chamB b.n) wx (HP.out.bel (HB0.out.trans hx)) 95 w.heap.size rfl (enters_of Tryd.func95 (by kernel_rfl) rfl) (fun p wy hy => HC1.out p wy (hx.trans hy)))
  simp only [risingP_ch b1 b2] at HRS HRP
  clear h3 h2 HC1 HV
  have hpn : ¬ b.places.length = 0 ∨ b.places.length = 0 := by omega
  cases h4 : risingB b.seen 0 (b.n - 1)
  · have HI := Lib.hid (chkT_false (b := b) (by rw [HV2.out, h4]; rfl))
    rw [h4] at HRS
    clear h4
    go_enter Tryd.func54, Tryd.ntmps54
    go_wp2_with (first | (go_at_call 97; refine (bwithin_any _ _ _ _).mono ?_; rintro e w' ⟨rfl, rfl⟩) | (go_at_call 98; refine HCD.out.mono ?_; rintro e w1 ⟨rfl, hb1⟩; have y := HBX.out.bel hb1; have x2 := y.c2; have l2 := cell_lt x2; have HB1 := Lib.hid hb1; clear y hb1) | (go_at_call 76; refine (HRS.out _ HB1.out).mono ?_; rintro e w2 ⟨rfl, hb2⟩; have HB2 := Lib.hid (HB0.out.trans (HB1.out.trans hb2)); clear hb2))
    go_ret
    exact ⟨ri HI.out, HB2.out⟩
  rw [h4] at HRS
  cases h5 : risingB b.places 0 (b.n - 1)
  · have HI := Lib.hid (chkT_false (b := b) (by rw [HV2.out, h4, h5]; rfl))
    rw [h5] at HRP
    clear h4 h5
    go_enter Tryd.func54, Tryd.ntmps54
    go_wp2_with (first | (go_at_call 97; refine (bwithin_any _ _ _ _).mono ?_; rintro e w' ⟨rfl, rfl⟩) | (go_at_call 98; refine HCD.out.mono ?_; rintro e w1 ⟨rfl, hb1⟩; have y := HBX.out.bel hb1; have x2 := y.c2; have l2 := cell_lt x2; have HB1 := Lib.hid hb1; clear y hb1) | (go_at_call 76; refine (HRS.out _ HB1.out).mono ?_; rintro e w2 ⟨rfl, hb2⟩; have HB2 := Lib.hid (HB1.out.trans hb2); have y := HBX.out.bel HB2.out; have x5 := y.c5; have l5 := cell_lt x5; clear hb2 y x2 l2 HB1) | (go_at_call 76; refine (HRP.out _ HB2.out).mono ?_; rintro e w3 ⟨rfl, hb3⟩; have HB3 := Lib.hid (HB0.out.trans (HB2.out.trans hb3)); clear hb3))
    go_ret
    exact ⟨ri HI.out, HB3.out⟩
  rw [h5] at HRP
  have HV3 : Hid (validT b = (decide (b.places.length ≠ 0) && (withinB b.look 0 20 && withinB b.eats 1 9))) := Lib.hid (by rw [HV2.out, h4, h5]; rfl)
  clear h4 h5 HV2
  by_cases h6 : b.places.length = 0
  · have HI := Lib.hid (chkT_false (b := b) (by rw [HV3.out, h6]; rfl))
    have hz : ((b.places.length : Int) == 0) = true := by simp [h6]
    clear h6 hpn
    go_enter Tryd.func54, Tryd.ntmps54
    go_wp2_with (first | (go_at_call 97; refine (bwithin_any _ _ _ _).mono ?_; rintro e w' ⟨rfl, rfl⟩) | (go_at_call 98; refine HCD.out.mono ?_; rintro e w1 ⟨rfl, hb1⟩; have y := HBX.out.bel hb1; have x2 := y.c2; have l2 := cell_lt x2; have HB1 := Lib.hid hb1; clear y hb1) | (go_at_call 76; refine (HRS.out _ HB1.out).mono ?_; rintro e w2 ⟨rfl, hb2⟩; have HB2 := Lib.hid (HB1.out.trans hb2); have y := HBX.out.bel HB2.out; have x5 := y.c5; have l5 := cell_lt x5; clear hb2 y x2 l2 HB1) | (go_at_call 76; refine (HRP.out _ HB2.out).mono ?_; rintro e w3 ⟨rfl, hb3⟩; have HB3 := Lib.hid (HB2.out.trans hb3); have y := HBX.out.bel HB3.out; have x5 := y.c5; have l5 := cell_lt x5; clear hb3 y))
    go_ret
    exact ⟨ri HI.out, HB0.out.trans HB3.out⟩
  have hz : ((b.places.length : Int) == 0) = false := by rw [beq_eq_false_iff_ne]; omega
  have HV4 : Hid (validT b = (withinB b.look 0 20 && withinB b.eats 1 9)) := Lib.hid (by rw [HV3.out, decide_eq_true (p := b.places.length ≠ 0) h6]; rfl)
  clear h6 hpn HV3
  cases h7 : withinB b.look 0 20
  all_goals cases h8 : withinB b.eats 1 9
  all_goals
    have HI := Lib.hid (show chkT b = _ by unfold chkT; rw [HV4.out, h7, h8])
    go_enter Tryd.func54, Tryd.ntmps54
    go_wp2_with (first | (go_at_call 97; refine (bwithin_any _ _ _ _).mono ?_; rintro e w' ⟨rfl, rfl⟩) | (go_at_call 98; refine HCD.out.mono ?_; rintro e w1 ⟨rfl, hb1⟩; have y := HBX.out.bel hb1; have x2 := y.c2; have l2 := cell_lt x2; have HB1 := Lib.hid hb1; clear y hb1) | (go_at_call 76; refine (HRS.out _ HB1.out).mono ?_; rintro e w2 ⟨rfl, hb2⟩; have HB2 := Lib.hid (HB1.out.trans hb2); have y := HBX.out.bel HB2.out; have x5 := y.c5; have l5 := cell_lt x5; clear hb2 y x2 l2 HB1) | (go_at_call 76; refine (HRP.out _ HB2.out).mono ?_; rintro e w3 ⟨rfl, hb3⟩; have HB3 := Lib.hid (HB2.out.trans hb3); have y := HBX.out.bel HB3.out; have x3 := y.c3; have x4 := y.c4; have x5 := y.c5; have l5 := cell_lt x5; clear hb3 y))
    go_ret
    exact ⟨ri (by rw [HI.out]; rfl), HB0.out.trans HB3.out⟩
end Go.Proofs.YtogiidkofddhaaaDoor
