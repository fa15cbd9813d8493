/-
  mesh: nets in memory; the program's ready; the checks of holes and of pairs.
-/
import Derived.Test.YtkdcdhkhadhcfaaDoorHoV
import Derived.Test.YtkdcdhkhadhcfaaDoorCut
import Derived.Test.YtkdcdhkhadhcfaaDoorCheck
import Derived.Test.YtkdcdhkhadhcfaaDoorBox
namespace Go.Proofs.YtkdcdhkhadhcfaaDoor
open Go Go.RowKit
set_option maxHeartbeats 4000000
set_option maxRecDepth 100000
def HolesAt (w : World) (v : Value) (l : List Hole) : Prop :=
  ∃ a c b off, v = .slice a l.length c ∧ (0 < l.length → a = some ⟨b, off, none⟩) ∧ (l.length ≤ 140737488355328 ∧ l.length ≤ c) ∧
    ∀ i, i < l.length → w.cell? ⟨b, off + i * 4, none⟩ = some (.int .i64 (atH l i).frm) ∧ w.cell? ⟨b, off + i * 4 + 1, none⟩ = some (.int .i64 (atH l i).lo) ∧ w.cell? ⟨b, off + i * 4 + 2, none⟩ = some (.int .i64 (atH l i).hi) ∧ w.cell? ⟨b, off + i * 4 + 3, none⟩ = some (.int .i64 (atH l i).hrs)
theorem HolesAt.bel {w w' : World} {v : Value} {l : List Hole} (h : HolesAt w v l) (k : Bel w w') : HolesAt w' v l := by
  obtain ⟨a, c, b, off, h1, h2, h3, h4⟩ := h
  exact ⟨a, c, b, off, h1, h2, h3, fun i hi => ⟨k.cell (h4 i hi).1, k.cell (h4 i hi).2.1, k.cell (h4 i hi).2.2.1, k.cell (h4 i hi).2.2.2⟩⟩
def PrsAt (w : World) (v : Value) (l : List HPr) : Prop :=
  ∃ a c b off, v = .slice a l.length c ∧ (0 < l.length → a = some ⟨b, off, none⟩) ∧ (l.length ≤ 140737488355328 ∧ l.length ≤ c) ∧
    ∀ i, i < l.length → w.cell? ⟨b, off + i * 2, none⟩ = some (.int .i64 (atP l i).a) ∧ w.cell? ⟨b, off + i * 2 + 1, none⟩ = some (.int .i64 (atP l i).b)
theorem PrsAt.bel {w w' : World} {v : Value} {l : List HPr} (h : PrsAt w v l) (k : Bel w w') : PrsAt w' v l := by
  obtain ⟨a, c, b, off, h1, h2, h3, h4⟩ := h
  exact ⟨a, c, b, off, h1, h2, h3, fun i hi => ⟨k.cell (h4 i hi).1, k.cell (h4 i hi).2⟩⟩
def MNetAt (w : World) (v : Value) (n : MNet) : Prop := ∃ hv pv, v = .agg #[.int .i64 n.men, hv, pv] ∧ HolesAt w hv n.holes ∧ PrsAt w pv n.prs
theorem MNetAt.bel {w w' : World} {v : Value} {n : MNet} (h : MNetAt w v n) (k : Bel w w') : MNetAt w' v n := by
  obtain ⟨g, a, h1, h2, h3⟩ := h
  exact ⟨g, a, h1, h2.bel k, h3.bel k⟩
theorem MNetAt.open {w : World} {v : Value} {n : MNet} (h : MNetAt w v n) : ∃ ha hc pa pc, v = .agg #[.int .i64 n.men, .slice ha n.holes.length hc, .slice pa n.prs.length pc] ∧ HolesAt w (.slice ha n.holes.length hc) n.holes ∧ PrsAt w (.slice pa n.prs.length pc) n.prs ∧ n.holes.length ≤ 140737488355328 ∧ n.prs.length ≤ 140737488355328 := by
  obtain ⟨g, a, h1, h2, h3⟩ := h
  obtain ⟨ga, gc, gb, go, rfl, h2'⟩ := h2
  obtain ⟨aa, ac, ab, ao, rfl, h3'⟩ := h3
  exact ⟨ga, gc, aa, ac, h1, ⟨_, _, gb, go, rfl, h2'⟩, ⟨_, _, ab, ao, rfl, h3'⟩, h2'.2.1.1, h3'.2.1.1⟩
theorem infoHole : ∃ i, Tryd.prog.info? 89 = some i := Option.isSome_iff_exists.1 (by kernel_rfl)
theorem cellsHole : Tryd.prog.cellsOf 89 = 4 := by kernel_rfl
theorem idxHoles {a : Option Addr} {n c b off : Nat} (ha : 0 < n → a = some ⟨b, off, none⟩) :
    ∀ (w : World) (i : Nat), i < n → (Instr.indexAt 56 (.slice a n c) (.int .i64 i)).run Tryd.prog w = .ok (.pointer (some ⟨b, off + i * 4, none⟩)) w := by
  obtain ⟨i0, hi0⟩ := infoHole
  exact idxRule (P := Tryd.prog) 56 89 4 Tryd.underlying56 hi0 cellsHole (c := c) ha
theorem infoPr : ∃ i, Tryd.prog.info? 92 = some i := Option.isSome_iff_exists.1 (by kernel_rfl)
theorem cellsPr : Tryd.prog.cellsOf 92 = 2 := by kernel_rfl
theorem idxPrs {a : Option Addr} {n c b off : Nat} (ha : 0 < n → a = some ⟨b, off, none⟩) :
    ∀ (w : World) (i : Nat), i < n → (Instr.indexAt 60 (.slice a n c) (.int .i64 i)).run Tryd.prog w = .ok (.pointer (some ⟨b, off + i * 2, none⟩)) w := by
  obtain ⟨i0, hi0⟩ := infoPr
  exact idxRule (P := Tryd.prog) 60 92 2 Tryd.underlying60 hi0 cellsPr (c := c) ha
theorem hwithin_any (n l h : Int) (w : World) : Calls Tryd.prog 86 #[.int .i64 n, .int .i64 l, .int .i64 h] w fun e w' => e = .returned (.bool (withinB n l h)) ∧ w = w' := by
  have HX := Lib.hid (show withinB n l h = (decide (l ≤ n) && decide (n ≤ h)) from rfl)
  cases h1 : decide (l ≤ n) <;> cases h2 : decide (n ≤ h)
  all_goals
    rw [h1, h2] at HX
    go_enter Tryd.func86, Tryd.ntmps86
    go_wp2
    go_ret
    exact ⟨rb (by rw [HX.out]; rfl), rfl⟩
/-! ready -/
def prQ (h : Int) (L : List Int) (p : HPr) : Bool := prB p h L
theorem hready1_any (p : HPr) (h : Int) (l : List Int) (lv : Value) (hb lb : Nat) (w : World) (c0 : w.cell? ⟨hb, 0, none⟩ = some (.int .i64 h)) (c1 : w.cell? ⟨lb, 0, none⟩ = some lv) (hl : IntsAt w lv l) :
    Calls Tryd.prog 119 #[.agg #[.int .i64 p.a, .int .i64 p.b], .pointer (some ⟨hb, 0, none⟩), .pointer (some ⟨lb, 0, none⟩)] w fun e w' => e = .returned (.bool (prQ h l p)) ∧ Bel w w' := by
  have HX := Lib.hid (show prQ h l p = (decide (p.b = h) && !inB l p.a) from rfl)
  have HC := Lib.hid (fun wx (hx : Bel w wx) => Contains_any lv l p.a wx (hl.bel hx))
  obtain ⟨la, lc, lb', lo, rfl, _, _, _⟩ := hl
  have l0 := cell_lt c0
  have l1 := cell_lt c1
  by_cases hbh : p.b = h
  · have e1 : (p.b == h) = true := by rw [hbh]; simp
    rw [decide_eq_true hbh] at HX
    generalize inB l p.a = r at *
    clear hbh
    cases r
    all_goals
      go_enter Tryd.func119, Tryd.ntmps119
      go_wp2_with (go_at_call 98; refine (HC.out _ (by repeat (first | assumption | exact Bel.refl _ | refine Bel.drew ?_ | refine Bel.drewN ?_ _ | refine Bel.alloc ?_ _ | refine Bel.setCell ?_ (by simp <;> omega) _ | refine Bel.trans ?_ (by assumption)))).mono ?_; rintro e w1 ⟨rfl, hb⟩; have HB := Lib.hid (show Bel w w1 from Bel.trans (by repeat (first | assumption | exact Bel.refl _ | refine Bel.drew ?_ | refine Bel.drewN ?_ _ | refine Bel.alloc ?_ _ | refine Bel.setCell ?_ (by simp <;> omega) _ | refine Bel.trans ?_ (by assumption))) hb); clear hb)
      go_ret
      exact ⟨rb (by rw [HX.out]; rfl), HB.out⟩
  · have e1 : (p.b == h) = false := by rw [beq_eq_false_iff_ne]; exact hbh
    rw [decide_eq_false hbh] at HX
    clear hbh
    go_enter Tryd.func119, Tryd.ntmps119
    go_wp2
    go_ret
    exact ⟨rb (by rw [HX.out]; rfl), (by repeat (first | assumption | exact Bel.refl _ | refine Bel.drew ?_ | refine Bel.drewN ?_ _ | refine Bel.alloc ?_ _ | refine Bel.setCell ?_ (by simp <;> omega) _ | refine Bel.trans ?_ (by assumption)))⟩
theorem readyIdx_any (h : Int) (L : List Int) (lv : Value) (hb lb : Nat) (v : Value) (l : List HPr) (w : World) (c0 : w.cell? ⟨hb, 0, none⟩ = some (.int .i64 h)) (c1 : w.cell? ⟨lb, 0, none⟩ = some lv) (hl : IntsAt w lv L) (hv : PrsAt w v l) :
    Calls Tryd.prog 108 #[v, .func (.func 119) #[] #[.pointer (some ⟨hb, 0, none⟩), .pointer (some ⟨lb, 0, none⟩)]] w (SomeIdx (!allB l.length fun i => !prQ h L (atP l i)) w) := by
  obtain ⟨a, c, b, off, rfl, ha, hlen, hc⟩ := hv
  have hix := idxPrs (c := c) ha
  have HC := Lib.hid hc
  have HCK := Lib.hid (fun p wx (hx : Bel w wx) => hready1_any p h L lv hb lb wx (hx.cell c0) (hx.cell c1) (hl.bel hx))
  clear ha hc c0 c1 hl
  go_enter Tryd.func108, Tryd.ntmps108
  go_wp2
  go_loopw [8] (fun i wr => ∃ k : Nat, k ≤ l.length ∧ i = .int .i64 k ∧ Hid (allB k (fun i => !prQ h L (atP l i)) = true) ∧ Bel w wr) (fun i _ => l.length - (intOf i).toNat)
  case atStart => exact ⟨0, by omega, rfl, rfl, Bel.refl _⟩
  case round =>
    obtain ⟨k, hk, rfl, hno, hw⟩ := hrel
    by_cases hlt : k < l.length
    · have hlti : (k : Int) < (l.length : Int) := by omega
      have k0 := hw.cell (HC.out k hlt).1
      have k1 := hw.cell (HC.out k hlt).2
      have lk := cell_lt k0
      have HW := Lib.hid hw
      have HCC := Lib.hid (fun wx (hx : Bel wr wx) => HCK.out (atP l k) wx (HW.out.trans hx))
      have HI := Lib.hid (fun (hq : prQ h L (atP l k) = true) => show (allB l.length fun i => !prQ h L (atP l i)) = false from allB_false k hlt (by rw [hq]; rfl))
      have HR := Lib.hid (fun (hq : prQ h L (atP l k) = false) => allB_succ hno.out (f := fun i => !prQ h L (atP l i)) (by rw [hq]; rfl))
      clear hw
      cases hwk : prQ h L (atP l k)
      · have HR2 := Lib.hid (HR.out hwk)
        rw [hwk] at HCC
        clear HI HR hwk
        generalize atP l k = s at *
        go_wp2_with (go_at_call 119; refine (HCC.out _ (by repeat (first | assumption | exact Bel.refl _ | refine Bel.drew ?_ | refine Bel.drewN ?_ _ | refine Bel.alloc ?_ _ | refine Bel.setCell ?_ (by simp <;> omega) _ | refine Bel.trans ?_ (by assumption)))).mono ?_; rintro e w5 ⟨rfl, hb⟩; have HF := Lib.hid (HW.out.trans (Bel.trans (by repeat (first | assumption | exact Bel.refl _ | refine Bel.drew ?_ | refine Bel.drewN ?_ _ | refine Bel.alloc ?_ _ | refine Bel.setCell ?_ (by simp <;> omega) _ | refine Bel.trans ?_ (by assumption))) hb)); clear hb)
        go_roundw
        case rel => exact ⟨k + 1, by omega, by go_num, HR2.out, HF.out⟩
        case measure => simp [intOf]; omega
      · have HI2 := Lib.hid (HI.out hwk)
        rw [hwk] at HCC
        clear HI HR hwk
        generalize atP l k = s at *
        go_wp2_with (go_at_call 119; refine (HCC.out _ (by repeat (first | assumption | exact Bel.refl _ | refine Bel.drew ?_ | refine Bel.drewN ?_ _ | refine Bel.alloc ?_ _ | refine Bel.setCell ?_ (by simp <;> omega) _ | refine Bel.trans ?_ (by assumption)))).mono ?_; rintro e w5 ⟨rfl, hb⟩; have HF := Lib.hid (HW.out.trans (Bel.trans (by repeat (first | assumption | exact Bel.refl _ | refine Bel.drew ?_ | refine Bel.drewN ?_ _ | refine Bel.alloc ?_ _ | refine Bel.setCell ?_ (by simp <;> omega) _ | refine Bel.trans ?_ (by assumption))) hb)); clear hb)
        go_ret
        exact ⟨(k : Int), rfl, by rw [HI2.out]; simp, HF.out⟩
    · have HI := Lib.hid (show (allB l.length fun i => !prQ h L (atP l i)) = true by rw [show l.length = k by omega]; exact hno.out)
      have hlti : ¬ (k : Int) < (l.length : Int) := by omega
      have HW := Lib.hid hw
      clear hw
      go_wp2
      go_ret
      exact ⟨-1, rfl, by rw [HI.out]; rfl, HW.out⟩
theorem readyCon_any (h : Int) (L : List Int) (lv : Value) (hb lb : Nat) (v : Value) (l : List HPr) (w : World) (c0 : w.cell? ⟨hb, 0, none⟩ = some (.int .i64 h)) (c1 : w.cell? ⟨lb, 0, none⟩ = some lv) (hl : IntsAt w lv L) (hv : PrsAt w v l) :
    Calls Tryd.prog 89 #[v, .func (.func 119) #[] #[.pointer (some ⟨hb, 0, none⟩), .pointer (some ⟨lb, 0, none⟩)]] w fun e w' => e = .returned (.bool (!allB l.length fun i => !prQ h L (atP l i))) ∧ Bel w w' := by
  have HC := Lib.hid (readyIdx_any h L lv hb lb v l w c0 c1 hl hv)
  generalize (allB l.length fun i => !prQ h L (atP l i)) = r at *
  obtain ⟨a, c, b, off, rfl, _, _, _⟩ := hv
  clear c0 c1 hl
  go_enter Tryd.func89, Tryd.ntmps89
  go_wp2_with (go_at_call 108; refine HC.out.mono ?_; rintro e w' ⟨r', rfl, hr, hb⟩; have HR := Lib.hid hr; clear hr)
  go_ret
  exact ⟨rb (by rw [← HR.out]), hb⟩
theorem hready_any (n : MNet) (h : Int) (l : List Int) (v lv : Value) (w : World) (hv : MNetAt w v n) (hl : IntsAt w lv l) :
    Calls Tryd.prog 111 #[v, .int .i64 h, lv] w fun e w' => e = .returned (.bool (prsB n.prs h l)) ∧ Bel w w' := by
  have HX := Lib.hid (show prsB n.prs h l = allB n.prs.length fun i => !prQ h l (atP n.prs i) from rfl)
  obtain ⟨ha, hc, pa, pc, rfl, _, hp, _, hpl⟩ := hv.open
  have HC := Lib.hid (fun hb lb wx (hx : Bel w wx) c0 c1 => readyCon_any h l lv hb lb _ n.prs wx c0 c1 (hl.bel hx) (hp.bel hx))
  rw [← HX.out] at HC
  generalize prsB n.prs h l = r at *
  obtain ⟨la, lc, lb', lo, rfl, _, _, _⟩ := hl
  generalize n.prs.length = X at *
  generalize n.holes.length = G at *
  clear hp hv HX
  cases r
  all_goals
    go_enter Tryd.func111, Tryd.ntmps111
    go_wp2_with fail
    refine (HC.out _ _ _ (by repeat (first | assumption | exact Bel.refl _ | refine Bel.drew ?_ | refine Bel.drewN ?_ _ | refine Bel.alloc ?_ _ | refine Bel.setCell ?_ (by simp <;> omega) _ | refine Bel.trans ?_ (by assumption))) (Bel.cell ((Bel.refl _).alloc _) ((row_facts (new_row (by simp))).1 0)) ((row_facts (new_row (by simp))).1 0)).mono ?_
    rintro e w1 ⟨rfl, hb⟩
    have HB := Lib.hid (show Bel w w1 from Bel.trans (by repeat (first | assumption | exact Bel.refl _ | refine Bel.drew ?_ | refine Bel.drewN ?_ _ | refine Bel.alloc ?_ _ | refine Bel.setCell ?_ (by simp <;> omega) _ | refine Bel.trans ?_ (by assumption))) hb)
    clear hb
    go_wp2
    go_ret
    exact ⟨rfl, HB.out⟩
/-! the checks -/
def holeN (h : Hole) : Bool := !holeB h
theorem hcheck2_any (s : Hole) (w : World) : Calls Tryd.prog 88 #[.agg #[.int .i64 s.frm, .int .i64 s.lo, .int .i64 s.hi, .int .i64 s.hrs]] w fun e w' => e = .returned (.bool (holeN s)) ∧ Bel w w' := by
  have HX := Lib.hid (show holeN s = !(withinB s.frm 0 20 && (withinB s.hi 0 20 && (withinB s.lo 0 s.hi && withinB s.hrs 1 9))) from rfl)
  cases h0 : withinB s.frm 0 20
  · rw [h0] at HX
    go_enter Tryd.func88, Tryd.ntmps88
    go_wp2_with (first | (go_at_call 86; refine (hwithin_any _ _ _ _).mono ?_; rintro e w' ⟨rfl, rfl⟩))
    go_ret
    exact ⟨rb (by rw [HX.out]; rfl), (by repeat (first | assumption | exact Bel.refl _ | refine Bel.drew ?_ | refine Bel.drewN ?_ _ | refine Bel.alloc ?_ _ | refine Bel.setCell ?_ (by simp <;> omega) _ | refine Bel.trans ?_ (by assumption)))⟩
  · cases h1 : withinB s.hi 0 20
    · rw [h0, h1] at HX
      go_enter Tryd.func88, Tryd.ntmps88
      go_wp2_with (first | (go_at_call 86; refine (hwithin_any _ _ _ _).mono ?_; rintro e w' ⟨rfl, rfl⟩))
      go_ret
      exact ⟨rb (by rw [HX.out]; rfl), (by repeat (first | assumption | exact Bel.refl _ | refine Bel.drew ?_ | refine Bel.drewN ?_ _ | refine Bel.alloc ?_ _ | refine Bel.setCell ?_ (by simp <;> omega) _ | refine Bel.trans ?_ (by assumption)))⟩
    · cases h2 : withinB s.lo 0 s.hi
      · rw [h0, h1, h2] at HX
        go_enter Tryd.func88, Tryd.ntmps88
        go_wp2_with (first | (go_at_call 86; refine (hwithin_any _ _ _ _).mono ?_; rintro e w' ⟨rfl, rfl⟩))
        go_ret
        exact ⟨rb (by rw [HX.out]; rfl), (by repeat (first | assumption | exact Bel.refl _ | refine Bel.drew ?_ | refine Bel.drewN ?_ _ | refine Bel.alloc ?_ _ | refine Bel.setCell ?_ (by simp <;> omega) _ | refine Bel.trans ?_ (by assumption)))⟩
      · cases h3 : withinB s.hrs 1 9
        · rw [h0, h1, h2, h3] at HX
          go_enter Tryd.func88, Tryd.ntmps88
          go_wp2_with (first | (go_at_call 86; refine (hwithin_any _ _ _ _).mono ?_; rintro e w' ⟨rfl, rfl⟩))
          go_ret
          exact ⟨rb (by rw [HX.out]; rfl), (by repeat (first | assumption | exact Bel.refl _ | refine Bel.drew ?_ | refine Bel.drewN ?_ _ | refine Bel.alloc ?_ _ | refine Bel.setCell ?_ (by simp <;> omega) _ | refine Bel.trans ?_ (by assumption)))⟩
        · rw [h0, h1, h2, h3] at HX
          go_enter Tryd.func88, Tryd.ntmps88
          go_wp2_with (first | (go_at_call 86; refine (hwithin_any _ _ _ _).mono ?_; rintro e w' ⟨rfl, rfl⟩))
          go_ret
          exact ⟨rb (by rw [HX.out]; rfl), (by repeat (first | assumption | exact Bel.refl _ | refine Bel.drew ?_ | refine Bel.drewN ?_ _ | refine Bel.alloc ?_ _ | refine Bel.setCell ?_ (by simp <;> omega) _ | refine Bel.trans ?_ (by assumption)))⟩
theorem hchkIdx_any (v : Value) (l : List Hole) (w : World) (hv : HolesAt w v l) :
    Calls Tryd.prog 107 #[v, .func (.func 88) #[] #[]] w (SomeIdx (!allB l.length fun i => !holeN (atH l i)) w) := by
  obtain ⟨a, c, b, off, rfl, ha, hlen, hc⟩ := hv
  have hix := idxHoles (c := c) ha
  have HC := Lib.hid hc
  have HCK := Lib.hid (fun p wx (hx : Bel w wx) => hcheck2_any p wx)
  clear ha hc
  go_enter Tryd.func107, Tryd.ntmps107
  go_wp2
  go_loopw [8] (fun i wr => ∃ k : Nat, k ≤ l.length ∧ i = .int .i64 k ∧ Hid (allB k (fun i => !holeN (atH l i)) = true) ∧ Bel w wr) (fun i _ => l.length - (intOf i).toNat)
  case atStart => exact ⟨0, by omega, rfl, rfl, Bel.refl _⟩
  case round =>
    obtain ⟨k, hk, rfl, hno, hw⟩ := hrel
    by_cases hlt : k < l.length
    · have hlti : (k : Int) < (l.length : Int) := by omega
      have k0 := hw.cell (HC.out k hlt).1
      have k1 := hw.cell (HC.out k hlt).2.1
      have k2 := hw.cell (HC.out k hlt).2.2.1
      have k3 := hw.cell (HC.out k hlt).2.2.2
      have lk := cell_lt k0
      have HW := Lib.hid hw
      have HCC := Lib.hid (fun wx (hx : Bel wr wx) => HCK.out (atH l k) wx (HW.out.trans hx))
      have HI := Lib.hid (fun (hq : holeN (atH l k) = true) => show (allB l.length fun i => !holeN (atH l i)) = false from allB_false k hlt (by rw [hq]; rfl))
      have HR := Lib.hid (fun (hq : holeN (atH l k) = false) => allB_succ hno.out (f := fun i => !holeN (atH l i)) (by rw [hq]; rfl))
      clear hw
      cases hwk : holeN (atH l k)
      · have HR2 := Lib.hid (HR.out hwk)
        rw [hwk] at HCC
        clear HI HR hwk
        generalize atH l k = s at *
        go_wp2_with (go_at_call 88; refine (HCC.out _ (by repeat (first | assumption | exact Bel.refl _ | refine Bel.drew ?_ | refine Bel.drewN ?_ _ | refine Bel.alloc ?_ _ | refine Bel.setCell ?_ (by simp <;> omega) _ | refine Bel.trans ?_ (by assumption)))).mono ?_; rintro e w5 ⟨rfl, hb⟩; have HF := Lib.hid (HW.out.trans (Bel.trans (by repeat (first | assumption | exact Bel.refl _ | refine Bel.drew ?_ | refine Bel.drewN ?_ _ | refine Bel.alloc ?_ _ | refine Bel.setCell ?_ (by simp <;> omega) _ | refine Bel.trans ?_ (by assumption))) hb)); clear hb)
        go_roundw
        case rel => exact ⟨k + 1, by omega, by go_num, HR2.out, HF.out⟩
        case measure => simp [intOf]; omega
      · have HI2 := Lib.hid (HI.out hwk)
        rw [hwk] at HCC
        clear HI HR hwk
        generalize atH l k = s at *
        go_wp2_with (go_at_call 88; refine (HCC.out _ (by repeat (first | assumption | exact Bel.refl _ | refine Bel.drew ?_ | refine Bel.drewN ?_ _ | refine Bel.alloc ?_ _ | refine Bel.setCell ?_ (by simp <;> omega) _ | refine Bel.trans ?_ (by assumption)))).mono ?_; rintro e w5 ⟨rfl, hb⟩; have HF := Lib.hid (HW.out.trans (Bel.trans (by repeat (first | assumption | exact Bel.refl _ | refine Bel.drew ?_ | refine Bel.drewN ?_ _ | refine Bel.alloc ?_ _ | refine Bel.setCell ?_ (by simp <;> omega) _ | refine Bel.trans ?_ (by assumption))) hb)); clear hb)
        go_ret
        exact ⟨(k : Int), rfl, by rw [HI2.out]; simp, HF.out⟩
    · have HI := Lib.hid (show (allB l.length fun i => !holeN (atH l i)) = true by rw [show l.length = k by omega]; exact hno.out)
      have hlti : ¬ (k : Int) < (l.length : Int) := by omega
      have HW := Lib.hid hw
      clear hw
      go_wp2
      go_ret
      exact ⟨-1, rfl, by rw [HI.out]; rfl, HW.out⟩
theorem hchkCon_any (v : Value) (l : List Hole) (w : World) (hv : HolesAt w v l) :
    Calls Tryd.prog 87 #[v, .func (.func 88) #[] #[]] w fun e w' => e = .returned (.bool (!allB l.length fun i => !holeN (atH l i))) ∧ Bel w w' := by
  have HC := Lib.hid (hchkIdx_any v l w hv)
  generalize (allB l.length fun i => !holeN (atH l i)) = r at *
  obtain ⟨a, c, b, off, rfl, _, _, _⟩ := hv
  go_enter Tryd.func87, Tryd.ntmps87
  go_wp2_with (go_at_call 107; refine HC.out.mono ?_; rintro e w' ⟨r', rfl, hr, hb⟩; have HR := Lib.hid hr; clear hr)
  go_ret
  exact ⟨rb (by rw [← HR.out]), hb⟩
theorem hcheck1_any (nb : Nat) (ha : Option Addr) (G hc : Nat) (k : Int) (w : World) (c1 : w.cell? ⟨nb, 1, none⟩ = some (.slice ha G hc)) (hG : G ≤ 140737488355328) :
    Calls Tryd.prog 85 #[.int .i64 k, .pointer (some ⟨nb, 0, none⟩)] w fun e w' => e = .returned (.bool (withinB k 0 ((G : Int) - 1))) ∧ w = w' := by
  have l1 := cell_lt c1
  go_enter Tryd.func85, Tryd.ntmps85
  go_wp2_with (first | (go_at_call 86; refine (hwithin_any _ _ _ _).mono ?_; rintro e w' ⟨rfl, rfl⟩))
  go_ret
  exact ⟨rfl, rfl⟩
def prN (G : Nat) (p : HPr) : Bool := !(withinB p.a 0 ((G : Int) - 1) && withinB p.b 0 ((G : Int) - 1))
theorem hcheck3_any (nb cb : Nat) (ha : Option Addr) (G hc : Nat) (p : HPr) (w : World) (c1 : w.cell? ⟨nb, 1, none⟩ = some (.slice ha G hc)) (c2 : w.cell? ⟨cb, 0, none⟩ = some (.func (.func 85) #[] #[.pointer (some ⟨nb, 0, none⟩)])) (hG : G ≤ 140737488355328) :
    Calls Tryd.prog 90 #[.agg #[.int .i64 p.a, .int .i64 p.b], .pointer (some ⟨cb, 0, none⟩)] w fun e w' => e = .returned (.bool (prN G p)) ∧ Bel w w' := by
  have HX := Lib.hid (show prN G p = !(withinB p.a 0 ((G : Int) - 1) && withinB p.b 0 ((G : Int) - 1)) from rfl)
  have HC := Lib.hid (fun k wx (hx : Bel w wx) => hcheck1_any nb ha G hc k wx (hx.cell c1) hG)
  have l2 := cell_lt c2
  cases h1 : withinB p.a 0 ((G : Int) - 1)
  · rw [h1] at HX
    go_enter Tryd.func90, Tryd.ntmps90
    go_wp2_with (go_at_call 85; refine (HC.out _ _ (by repeat (first | assumption | exact Bel.refl _ | refine Bel.drew ?_ | refine Bel.drewN ?_ _ | refine Bel.alloc ?_ _ | refine Bel.setCell ?_ (by simp <;> omega) _ | refine Bel.trans ?_ (by assumption)))).mono ?_; rintro e w' ⟨rfl, rfl⟩)
    go_ret
    exact ⟨rb (by rw [HX.out]; rfl), (by repeat (first | assumption | exact Bel.refl _ | refine Bel.drew ?_ | refine Bel.drewN ?_ _ | refine Bel.alloc ?_ _ | refine Bel.setCell ?_ (by simp <;> omega) _ | refine Bel.trans ?_ (by assumption)))⟩
  · rw [h1] at HX
    cases h2 : withinB p.b 0 ((G : Int) - 1)
    all_goals
      rw [h2] at HX
      go_enter Tryd.func90, Tryd.ntmps90
      go_wp2_with (go_at_call 85; refine (HC.out _ _ (by repeat (first | assumption | exact Bel.refl _ | refine Bel.drew ?_ | refine Bel.drewN ?_ _ | refine Bel.alloc ?_ _ | refine Bel.setCell ?_ (by simp <;> omega) _ | refine Bel.trans ?_ (by assumption)))).mono ?_; rintro e w' ⟨rfl, rfl⟩)
      go_ret
      exact ⟨rb (by rw [HX.out]; rfl), (by repeat (first | assumption | exact Bel.refl _ | refine Bel.drew ?_ | refine Bel.drewN ?_ _ | refine Bel.alloc ?_ _ | refine Bel.setCell ?_ (by simp <;> omega) _ | refine Bel.trans ?_ (by assumption)))⟩
theorem pchkIdx_any (nb cb : Nat) (ha : Option Addr) (G hc : Nat) (v : Value) (l : List HPr) (w : World) (c1 : w.cell? ⟨nb, 1, none⟩ = some (.slice ha G hc)) (c2 : w.cell? ⟨cb, 0, none⟩ = some (.func (.func 85) #[] #[.pointer (some ⟨nb, 0, none⟩)])) (hG : G ≤ 140737488355328) (hv : PrsAt w v l) :
    Calls Tryd.prog 108 #[v, .func (.func 90) #[] #[.pointer (some ⟨cb, 0, none⟩)]] w (SomeIdx (!allB l.length fun i => !prN G (atP l i)) w) := by
  obtain ⟨a, c, b, off, rfl, hxa, hlen, hxc⟩ := hv
  have hix := idxPrs (c := c) hxa
  have HC := Lib.hid hxc
  have HCK := Lib.hid (fun p wx (hx : Bel w wx) => hcheck3_any nb cb ha G hc p wx (hx.cell c1) (hx.cell c2) hG)
  clear hxa hxc c1 c2
  go_enter Tryd.func108, Tryd.ntmps108
  go_wp2
  go_loopw [8] (fun i wr => ∃ k : Nat, k ≤ l.length ∧ i = .int .i64 k ∧ Hid (allB k (fun i => !prN G (atP l i)) = true) ∧ Bel w wr) (fun i _ => l.length - (intOf i).toNat)
  case atStart => exact ⟨0, by omega, rfl, rfl, Bel.refl _⟩
  case round =>
    obtain ⟨k, hk, rfl, hno, hw⟩ := hrel
    by_cases hlt : k < l.length
    · have hlti : (k : Int) < (l.length : Int) := by omega
      have k0 := hw.cell (HC.out k hlt).1
      have k1 := hw.cell (HC.out k hlt).2
      have lk := cell_lt k0
      have HW := Lib.hid hw
      have HCC := Lib.hid (fun wx (hx : Bel wr wx) => HCK.out (atP l k) wx (HW.out.trans hx))
      have HI := Lib.hid (fun (hq : prN G (atP l k) = true) => show (allB l.length fun i => !prN G (atP l i)) = false from allB_false k hlt (by rw [hq]; rfl))
      have HR := Lib.hid (fun (hq : prN G (atP l k) = false) => allB_succ hno.out (f := fun i => !prN G (atP l i)) (by rw [hq]; rfl))
      clear hw
      cases hwk : prN G (atP l k)
      · have HR2 := Lib.hid (HR.out hwk)
        rw [hwk] at HCC
        clear HI HR hwk
        generalize atP l k = s at *
        go_wp2_with (go_at_call 90; refine (HCC.out _ (by repeat (first | assumption | exact Bel.refl _ | refine Bel.drew ?_ | refine Bel.drewN ?_ _ | refine Bel.alloc ?_ _ | refine Bel.setCell ?_ (by simp <;> omega) _ | refine Bel.trans ?_ (by assumption)))).mono ?_; rintro e w5 ⟨rfl, hb⟩; have HF := Lib.hid (HW.out.trans (Bel.trans (by repeat (first | assumption | exact Bel.refl _ | refine Bel.drew ?_ | refine Bel.drewN ?_ _ | refine Bel.alloc ?_ _ | refine Bel.setCell ?_ (by simp <;> omega) _ | refine Bel.trans ?_ (by assumption))) hb)); clear hb)
        go_roundw
        case rel => exact ⟨k + 1, by omega, by go_num, HR2.out, HF.out⟩
        case measure => simp [intOf]; omega
      · have HI2 := Lib.hid (HI.out hwk)
        rw [hwk] at HCC
        clear HI HR hwk
        generalize atP l k = s at *
        go_wp2_with (go_at_call 90; refine (HCC.out _ (by repeat (first | assumption | exact Bel.refl _ | refine Bel.drew ?_ | refine Bel.drewN ?_ _ | refine Bel.alloc ?_ _ | refine Bel.setCell ?_ (by simp <;> omega) _ | refine Bel.trans ?_ (by assumption)))).mono ?_; rintro e w5 ⟨rfl, hb⟩; have HF := Lib.hid (HW.out.trans (Bel.trans (by repeat (first | assumption | exact Bel.refl _ | refine Bel.drew ?_ | refine Bel.drewN ?_ _ | refine Bel.alloc ?_ _ | refine Bel.setCell ?_ (by simp <;> omega) _ | refine Bel.trans ?_ (by assumption))) hb)); clear hb)
        go_ret
        exact ⟨(k : Int), rfl, by rw [HI2.out]; simp, HF.out⟩
    · have HI := Lib.hid (show (allB l.length fun i => !prN G (atP l i)) = true by rw [show l.length = k by omega]; exact hno.out)
      have hlti : ¬ (k : Int) < (l.length : Int) := by omega
      have HW := Lib.hid hw
      clear hw
      go_wp2
      go_ret
      exact ⟨-1, rfl, by rw [HI.out]; rfl, HW.out⟩
theorem pchkCon_any (nb cb : Nat) (ha : Option Addr) (G hc : Nat) (v : Value) (l : List HPr) (w : World) (c1 : w.cell? ⟨nb, 1, none⟩ = some (.slice ha G hc)) (c2 : w.cell? ⟨cb, 0, none⟩ = some (.func (.func 85) #[] #[.pointer (some ⟨nb, 0, none⟩)])) (hG : G ≤ 140737488355328) (hv : PrsAt w v l) :
    Calls Tryd.prog 89 #[v, .func (.func 90) #[] #[.pointer (some ⟨cb, 0, none⟩)]] w fun e w' => e = .returned (.bool (!allB l.length fun i => !prN G (atP l i))) ∧ Bel w w' := by
  have HC := Lib.hid (pchkIdx_any nb cb ha G hc v l w c1 c2 hG hv)
  generalize (allB l.length fun i => !prN G (atP l i)) = r at *
  obtain ⟨a, c, b, off, rfl, _, _, _⟩ := hv
  clear c1 c2
  go_enter Tryd.func89, Tryd.ntmps89
  go_wp2_with (go_at_call 108; refine HC.out.mono ?_; rintro e w' ⟨r', rfl, hr, hb⟩; have HR := Lib.hid hr; clear hr)
  go_ret
  exact ⟨rb (by rw [← HR.out]), hb⟩
end Go.Proofs.YtkdcdhkhadhcfaaDoor
