/-
  anchors: the program's Check.
-/
import Derived.Test.YtkdcdhkhadhcfaaDoorNCheck
namespace Go.Proofs.YtkdcdhkhadhcfaaDoor
open Go Go.RowKit
set_option maxHeartbeats 4000000
set_option maxRecDepth 100000
theorem new_ints {w : World} {l : List Int} {n g : Nat} {T : TypeId} {cs : Array Value} (hg : g = w.heap.size) (hn : n = l.length) (hc : ∀ i, i < l.length → cs[i]? = some (.int .i64 (at0 l i))) (hl : l.length ≤ 1000) : IntsAt (w.alloc (.cells cs T)) (.slice (some ⟨g, 0, none⟩) n n) l := by
  subst hn hg
  refine ⟨some ⟨w.heap.size, 0, none⟩, l.length, w.heap.size, 0, rfl, fun _ => rfl, ⟨by omega, Nat.le_refl _⟩, fun i hi => ?_⟩
  rw [Nat.zero_add, (row_facts (new_row rfl)).1]
  exact hc i hi
theorem ints1 {w : World} {a : Int} {T : TypeId} {g : Nat} (hg : g = w.heap.size) : IntsAt (w.alloc (.cells #[.int .i64 a] T)) (.slice (some ⟨g, 0, none⟩) 1 1) [a] :=
  new_ints hg rfl (fun i hi => by
    have : i = 0 := by simpa using hi
    subst this; rfl) (by simp)
theorem ints2 {w : World} {a b : Int} {T : TypeId} {g : Nat} (hg : g = w.heap.size) : IntsAt (w.alloc (.cells #[.int .i64 a, .int .i64 b] T)) (.slice (some ⟨g, 0, none⟩) 2 2) [a, b] :=
  new_ints hg rfl (fun i hi => by
    have : i = 0 ∨ i = 1 := by simp at hi; omega
    rcases this with rfl | rfl <;> rfl) (by simp)
theorem ints3 {w : World} {a b c : Int} {T : TypeId} {g : Nat} (hg : g = w.heap.size) : IntsAt (w.alloc (.cells #[.int .i64 a, .int .i64 b, .int .i64 c] T)) (.slice (some ⟨g, 0, none⟩) 3 3) [a, b, c] :=
  new_ints hg rfl (fun i hi => by
    have : i = 0 ∨ i = 1 ∨ i = 2 := by simp at hi; omega
    rcases this with rfl | rfl | rfl <;> rfl) (by simp)
theorem allIn1 (m a : Int) : allIn m [a] = withinB a 0 m := by
  show (true && withinB a 0 m) = _; simp
theorem allIn2 (m a b : Int) : allIn m [a, b] = (withinB a 0 m && withinB b 0 m) := by
  show ((true && withinB a 0 m) && withinB b 0 m) = _; simp
theorem allIn3 (m a b c : Int) : allIn m [a, b, c] = (withinB a 0 m && (withinB b 0 m && withinB c 0 m)) := by
  show (((true && withinB a 0 m) && withinB b 0 m) && withinB c 0 m) = _; simp [Bool.and_assoc]
theorem spB_eq (s : NSp) (m : Int) : spB s m = (allIn m [s.lo, s.hi] && decide (s.lo ≤ s.hi)) := by
  rw [allIn2]; unfold spB withinB
  rw [Bool.eq_iff_iff]; simp; omega
theorem nisSpan_any (s : NSp) (m : Int) (w : World) : Calls Tryd.prog 73 #[.agg #[.int .i64 s.lo, .int .i64 s.hi], .int .i64 m] w fun e w' => e = .returned (.bool (spB s m)) ∧ Bel w w' := by
  have HX := Lib.hid (spB_eq s m)
  have HC := Lib.hid (fun wx T (gg : Nat) (hgg : gg = wx.heap.size) => ninside_any m _ [s.lo, s.hi] _ (ints2 (w := wx) (T := T) hgg))
  cases h1 : allIn m [s.lo, s.hi]
  · rw [h1] at HX HC
    clear h1
    go_enter Tryd.func73, Tryd.ntmps73
    go_wp2_with fail
    refine (HC.out _ _ _ (by simp)).mono ?_
    rintro e w1 ⟨rfl, hb⟩
    have HB := Lib.hid (show Bel w w1 from Bel.trans (by repeat (first | assumption | exact Bel.refl _ | refine Bel.drew ?_ | refine Bel.drewN ?_ _ | refine Bel.alloc ?_ _ | refine Bel.setCell ?_ (by simp <;> omega) _ | refine Bel.trans ?_ (by assumption))) hb)
    clear hb
    go_wp2
    go_ret
    exact ⟨rb (by rw [HX.out]; rfl), HB.out⟩
  · cases h2 : decide (s.lo ≤ s.hi)
    all_goals
      rw [h1, h2] at HX
      rw [h1] at HC
      go_enter Tryd.func73, Tryd.ntmps73
      go_wp2_with fail
      refine (HC.out _ _ _ (by simp)).mono ?_
      rintro e w1 ⟨rfl, hb⟩
      have HB := Lib.hid (show Bel w w1 from Bel.trans (by repeat (first | assumption | exact Bel.refl _ | refine Bel.drew ?_ | refine Bel.drewN ?_ _ | refine Bel.alloc ?_ _ | refine Bel.setCell ?_ (by simp <;> omega) _ | refine Bel.trans ?_ (by assumption))) hb)
      have hb0 := hb.cell (((Bel.refl _).alloc _).cell ((row_facts (new_row (w := w) (o := .cells #[.int .i64 s.lo, .int .i64 s.hi] 27) rfl)).1 0))
      have hb1 := hb.cell (((Bel.refl _).alloc _).cell ((row_facts (new_row (w := w) (o := .cells #[.int .i64 s.lo, .int .i64 s.hi] 27) rfl)).1 1))
      have lb := cell_lt hb0
      clear hb h1
      go_wp2
      go_ret
      exact ⟨rb (by rw [HX.out]; rfl), HB.out⟩
theorem ncheck1_any (s : NSp) (w : World) : Calls Tryd.prog 75 #[.agg #[.int .i64 s.lo, .int .i64 s.hi]] w fun e w' => e = .returned (.bool (spB s 9)) ∧ Bel w w' := by
  have HC := Lib.hid (fun wx => nisSpan_any s 9 wx)
  generalize spB s 9 = r at *
  go_enter Tryd.func75, Tryd.ntmps75
  go_wp2_with fail
  refine (HC.out _).mono ?_
  rintro e w1 ⟨rfl, hb⟩
  have HB := Lib.hid (show Bel w w1 from Bel.trans (by repeat (first | assumption | exact Bel.refl _ | refine Bel.drew ?_ | refine Bel.drewN ?_ _ | refine Bel.alloc ?_ _ | refine Bel.setCell ?_ (by simp <;> omega) _ | refine Bel.trans ?_ (by assumption))) hb)
  clear hb
  go_wp2
  go_ret
  exact ⟨rfl, HB.out⟩
theorem everyG_any (v : Value) (l : List NSp) (w : World) (hv : GripsAt w v l) : Calls Tryd.prog 74 #[v, .func (.func 75) #[] #[]] w fun e w' => e = .returned (.bool (gripsB l)) ∧ Bel w w' := by
  obtain ⟨a, c, b, off, rfl, ha, hlen, hc⟩ := hv
  have hix := idxGrips (c := c) ha
  have HC := Lib.hid hc
  clear ha hc
  go_enter Tryd.func74, Tryd.ntmps74
  go_wp2
  go_loopw [9] (fun i wr => ∃ k : Nat, k ≤ l.length ∧ i = .int .i64 k ∧ Hid (allB k (fun i => spB (atG l i) 9) = true) ∧ Bel w wr) (fun i _ => l.length - (intOf i).toNat)
  case atStart => exact ⟨0, by omega, rfl, rfl, Bel.refl _⟩
  case round =>
    obtain ⟨k, hk, rfl, hno, hw⟩ := hrel
    have HW := Lib.hid hw
    by_cases hlt : k < l.length
    · have hlti : (k : Int) < (l.length : Int) := by omega
      have k0 := hw.cell (HC.out k hlt).1
      have k1 := hw.cell (HC.out k hlt).2
      have lk := cell_lt k0
      have HCC := Lib.hid (fun wx => ncheck1_any (atG l k) wx)
      have HI := Lib.hid (fun (h : spB (atG l k) 9 = false) => show gripsB l = false from allB_false k hlt h)
      have HR := Lib.hid (fun (h : spB (atG l k) 9 = true) => allB_succ hno.out (f := fun i => spB (atG l i) 9) h)
      clear hw
      cases hwk : spB (atG l k) 9
      · have HI2 := Lib.hid (HI.out hwk)
        rw [hwk] at HCC
        clear HI HR hwk
        generalize atG l k = s at *
        go_wp2_with (go_at_call 75; refine (HCC.out _).mono ?_; rintro e w5 ⟨rfl, hb⟩; have HF := Lib.hid (HW.out.trans (Bel.trans ((Bel.refl _).alloc _) hb)); clear hb)
        go_ret
        exact ⟨rb (by rw [HI2.out]), HF.out⟩
      · have HR2 := Lib.hid (HR.out hwk)
        rw [hwk] at HCC
        clear HI HR hwk
        generalize atG l k = s at *
        go_wp2_with (go_at_call 75; refine (HCC.out _).mono ?_; rintro e w5 ⟨rfl, hb⟩; have HF := Lib.hid (HW.out.trans (Bel.trans ((Bel.refl _).alloc _) hb)); clear hb)
        go_roundw
        case rel => exact ⟨k + 1, by omega, by go_num, HR2.out, HF.out⟩
        case measure => simp [intOf]; omega
    · have HI := Lib.hid (show gripsB l = true by unfold gripsB; rw [show l.length = k by omega]; exact hno.out)
      have hlti : ¬ (k : Int) < (l.length : Int) := by omega
      clear hw
      go_wp2
      go_ret
      exact ⟨rb (by rw [HI.out]), HW.out⟩
theorem anB_eq (g : Nat) (a : NAn) : anB g a = (allIn 20 [a.wt] && allIn ((g : Int) - 1) [a.bt]) := by
  rw [allIn1, allIn1]; rfl
theorem wlB_eq (x : NWl) : wlB x = (allIn 9 [x.sail, x.drag, x.lean] && allIn 99 [x.corks, x.stones]) := by
  rw [allIn3, allIn2]; unfold wlB; simp only [Bool.and_assoc]
theorem ncheck2_any (a : NAn) (g tb : Nat) (ga : Option Addr) (gc : Nat) (w : World) (h : w.cell? ⟨tb, 4, none⟩ = some (.slice ga g gc)) (hg : g ≤ 140737488355328) :
    Calls Tryd.prog 77 #[.agg #[.int .i64 a.wt, .int .i64 a.bt], .pointer (some ⟨tb, 0, none⟩)] w fun e w' => e = .returned (.bool (anB g a)) ∧ Bel w w' := by
  have HX := Lib.hid (anB_eq g a)
  have HC := Lib.hid (fun wx T (gg : Nat) (hgg : gg = wx.heap.size) => ninside_any 20 _ [a.wt] _ (ints1 (w := wx) (T := T) hgg))
  have HD := Lib.hid (fun wx T (gg : Nat) (hgg : gg = wx.heap.size) => ninside_any ((g : Int) - 1) _ [a.bt] _ (ints1 (w := wx) (T := T) hgg))
  have lt := cell_lt h
  cases h1 : allIn 20 [a.wt]
  · rw [h1] at HX HC
    clear h1
    go_enter Tryd.func77, Tryd.ntmps77
    go_wp2_with fail
    refine (HC.out _ _ _ (by simp)).mono ?_
    rintro e w1 ⟨rfl, hb⟩
    have HB := Lib.hid (show Bel w w1 from Bel.trans (by repeat (first | assumption | exact Bel.refl _ | refine Bel.drew ?_ | refine Bel.drewN ?_ _ | refine Bel.alloc ?_ _ | refine Bel.setCell ?_ (by simp <;> omega) _ | refine Bel.trans ?_ (by assumption))) hb)
    clear hb
    go_wp2
    go_ret
    exact ⟨rb (by rw [HX.out]; rfl), HB.out⟩
  · rw [h1] at HX HC
    generalize allIn ((g : Int) - 1) [a.bt] = r at *
    go_enter Tryd.func77, Tryd.ntmps77
    go_wp2_with fail
    refine (HC.out _ _ _ (by simp)).mono ?_
    rintro e w1 ⟨rfl, hb⟩
    have hB := (show Bel w w1 from Bel.trans (by repeat (first | assumption | exact Bel.refl _ | refine Bel.drew ?_ | refine Bel.drewN ?_ _ | refine Bel.alloc ?_ _ | refine Bel.setCell ?_ (by simp <;> omega) _ | refine Bel.trans ?_ (by assumption))) hb)
    have HB := Lib.hid hB
    have hb0 := hb.cell (((Bel.refl _).alloc _).cell ((row_facts (new_row (w := w) (o := .cells #[.int .i64 a.wt, .int .i64 a.bt] 72) rfl)).1 0))
    have hb1 := hb.cell (((Bel.refl _).alloc _).cell ((row_facts (new_row (w := w) (o := .cells #[.int .i64 a.wt, .int .i64 a.bt] 72) rfl)).1 1))
    have lb := cell_lt hb0
    have h' := hB.cell h
    have lh := cell_lt h'
    clear hb h1 hB h
    go_wp2_with fail
    refine (HD.out _ _ _ (by simp)).mono ?_
    rintro e w2 ⟨rfl, hb⟩
    have HB2 := Lib.hid (show Bel w w2 from Bel.trans HB.out (Bel.trans (by repeat (first | assumption | exact Bel.refl _ | refine Bel.drew ?_ | refine Bel.drewN ?_ _ | refine Bel.alloc ?_ _ | refine Bel.setCell ?_ (by simp <;> omega) _ | refine Bel.trans ?_ (by assumption))) hb))
    clear hb
    go_wp2
    go_ret
    exact ⟨rb (by rw [HX.out]; rfl), HB2.out⟩
theorem everyA_any (tb g : Nat) (ga : Option Addr) (gc : Nat) (v : Value) (l : List NAn) (w : World) (hv : AnsAt w v l) (hcap : w.cell? ⟨tb, 4, none⟩ = some (.slice ga g gc)) (hg : g ≤ 140737488355328) : Calls Tryd.prog 76 #[v, .func (.func 77) #[] #[.pointer (some ⟨tb, 0, none⟩)]] w fun e w' => e = .returned (.bool (ansB g l)) ∧ Bel w w' := by
  obtain ⟨a, c, b, off, rfl, ha, hlen, hc⟩ := hv
  have hix := idxAns (c := c) ha
  have HC := Lib.hid hc
  have HCAP := Lib.hid hcap
  clear ha hc hcap
  go_enter Tryd.func76, Tryd.ntmps76
  go_wp2
  go_loopw [9] (fun i wr => ∃ k : Nat, k ≤ l.length ∧ i = .int .i64 k ∧ Hid (allB k (fun i => anB g (atA l i)) = true) ∧ Bel w wr) (fun i _ => l.length - (intOf i).toNat)
  case atStart => exact ⟨0, by omega, rfl, rfl, Bel.refl _⟩
  case round =>
    obtain ⟨k, hk, rfl, hno, hw⟩ := hrel
    have HW := Lib.hid hw
    by_cases hlt : k < l.length
    · have hlti : (k : Int) < (l.length : Int) := by omega
      have k0 := hw.cell (HC.out k hlt).1
      have k1 := hw.cell (HC.out k hlt).2
      have lk := cell_lt k0
      have HCC := Lib.hid (fun wx (hx : Bel w wx) => ncheck2_any (atA l k) g tb ga gc wx (hx.cell HCAP.out) hg)
      have HI := Lib.hid (fun (h : anB g (atA l k) = false) => show ansB g l = false from allB_false k hlt h)
      have HR := Lib.hid (fun (h : anB g (atA l k) = true) => allB_succ hno.out (f := fun i => anB g (atA l i)) h)
      clear hw
      cases hwk : anB g (atA l k)
      · have HI2 := Lib.hid (HI.out hwk)
        rw [hwk] at HCC
        clear HI HR hwk
        generalize atA l k = s at *
        go_wp2_with (go_at_call 77; refine (HCC.out _ (HW.out.trans (by repeat (first | assumption | exact Bel.refl _ | refine Bel.drew ?_ | refine Bel.drewN ?_ _ | refine Bel.alloc ?_ _ | refine Bel.setCell ?_ (by simp <;> omega) _ | refine Bel.trans ?_ (by assumption))))).mono ?_; rintro e w5 ⟨rfl, hb⟩; have HF := Lib.hid (HW.out.trans (Bel.trans ((Bel.refl _).alloc _) hb)); clear hb)
        go_ret
        exact ⟨rb (by rw [HI2.out]), HF.out⟩
      · have HR2 := Lib.hid (HR.out hwk)
        rw [hwk] at HCC
        clear HI HR hwk
        generalize atA l k = s at *
        go_wp2_with (go_at_call 77; refine (HCC.out _ (HW.out.trans (by repeat (first | assumption | exact Bel.refl _ | refine Bel.drew ?_ | refine Bel.drewN ?_ _ | refine Bel.alloc ?_ _ | refine Bel.setCell ?_ (by simp <;> omega) _ | refine Bel.trans ?_ (by assumption))))).mono ?_; rintro e w5 ⟨rfl, hb⟩; have HF := Lib.hid (HW.out.trans (Bel.trans ((Bel.refl _).alloc _) hb)); clear hb)
        go_roundw
        case rel => exact ⟨k + 1, by omega, by go_num, HR2.out, HF.out⟩
        case measure => simp [intOf]; omega
    · have HI := Lib.hid (show ansB g l = true by unfold ansB; rw [show l.length = k by omega]; exact hno.out)
      have hlti : ¬ (k : Int) < (l.length : Int) := by omega
      clear hw
      go_wp2
      go_ret
      exact ⟨rb (by rw [HI.out]), HW.out⟩
theorem ncheck3_any (x : NWl) (w : World) : Calls Tryd.prog 80 #[.agg #[.int .i64 x.sail, .int .i64 x.drag, .int .i64 x.lean, .int .i64 x.corks, .int .i64 x.stones]] w fun e w' => e = .returned (.bool (wlB x)) ∧ Bel w w' := by
  have HX := Lib.hid (wlB_eq x)
  have HC := Lib.hid (fun wx T (gg : Nat) (hgg : gg = wx.heap.size) => ninside_any 9 _ [x.sail, x.drag, x.lean] _ (ints3 (w := wx) (T := T) hgg))
  have HD := Lib.hid (fun wx T (gg : Nat) (hgg : gg = wx.heap.size) => ninside_any 99 _ [x.corks, x.stones] _ (ints2 (w := wx) (T := T) hgg))
  cases h1 : allIn 9 [x.sail, x.drag, x.lean]
  · rw [h1] at HX HC
    clear h1
    go_enter Tryd.func80, Tryd.ntmps80
    go_wp2_with fail
    refine (HC.out _ _ _ (by simp)).mono ?_
    rintro e w1 ⟨rfl, hb⟩
    have HB := Lib.hid (show Bel w w1 from Bel.trans (by repeat (first | assumption | exact Bel.refl _ | refine Bel.drew ?_ | refine Bel.drewN ?_ _ | refine Bel.alloc ?_ _ | refine Bel.setCell ?_ (by simp <;> omega) _ | refine Bel.trans ?_ (by assumption))) hb)
    clear hb
    go_wp2
    go_ret
    exact ⟨rb (by rw [HX.out]; rfl), HB.out⟩
  · rw [h1] at HX HC
    generalize allIn 99 [x.corks, x.stones] = r at *
    go_enter Tryd.func80, Tryd.ntmps80
    go_wp2_with fail
    refine (HC.out _ _ _ (by simp)).mono ?_
    rintro e w1 ⟨rfl, hb⟩
    have HB := Lib.hid (show Bel w w1 from Bel.trans (by repeat (first | assumption | exact Bel.refl _ | refine Bel.drew ?_ | refine Bel.drewN ?_ _ | refine Bel.alloc ?_ _ | refine Bel.setCell ?_ (by simp <;> omega) _ | refine Bel.trans ?_ (by assumption))) hb)
    have hn := new_row (w := w) (o := .cells #[.int .i64 x.sail, .int .i64 x.drag, .int .i64 x.lean, .int .i64 x.corks, .int .i64 x.stones] 74) rfl
    have hb3 := hb.cell (((Bel.refl _).alloc _).cell ((row_facts hn).1 3))
    have hb4 := hb.cell (((Bel.refl _).alloc _).cell ((row_facts hn).1 4))
    have lb := cell_lt hb3
    clear hb h1 hn
    go_wp2_with fail
    refine (HD.out _ _ _ (by simp)).mono ?_
    rintro e w2 ⟨rfl, hb⟩
    have HB2 := Lib.hid (show Bel w w2 from Bel.trans HB.out (Bel.trans (by repeat (first | assumption | exact Bel.refl _ | refine Bel.drew ?_ | refine Bel.drewN ?_ _ | refine Bel.alloc ?_ _ | refine Bel.setCell ?_ (by simp <;> omega) _ | refine Bel.trans ?_ (by assumption))) hb))
    clear hb
    go_wp2
    go_ret
    exact ⟨rb (by rw [HX.out]; rfl), HB2.out⟩
theorem everyW_any (v : Value) (l : List NWl) (w : World) (hv : WallsAt w v l) : Calls Tryd.prog 79 #[v, .func (.func 80) #[] #[]] w fun e w' => e = .returned (.bool (wallsB l)) ∧ Bel w w' := by
  obtain ⟨a, c, b, off, rfl, ha, hlen, hc⟩ := hv
  have hix := idxWalls (c := c) ha
  have HC := Lib.hid hc
  clear ha hc
  go_enter Tryd.func79, Tryd.ntmps79
  go_wp2
  go_loopw [9] (fun i wr => ∃ k : Nat, k ≤ l.length ∧ i = .int .i64 k ∧ Hid (allB k (fun i => wlB (atWl l i)) = true) ∧ Bel w wr) (fun i _ => l.length - (intOf i).toNat)
  case atStart => exact ⟨0, by omega, rfl, rfl, Bel.refl _⟩
  case round =>
    obtain ⟨k, hk, rfl, hno, hw⟩ := hrel
    have HW := Lib.hid hw
    by_cases hlt : k < l.length
    · have hlti : (k : Int) < (l.length : Int) := by omega
      have k0 := hw.cell (HC.out k hlt).1
      have k1 := hw.cell (HC.out k hlt).2.1
      have k2 := hw.cell (HC.out k hlt).2.2.1
      have k3 := hw.cell (HC.out k hlt).2.2.2.1
      have k4 := hw.cell (HC.out k hlt).2.2.2.2
      have lk := cell_lt k0
      have HCC := Lib.hid (fun wx (hx : Bel w wx) => ncheck3_any (atWl l k) wx)
      have HI := Lib.hid (fun (h : wlB (atWl l k) = false) => show wallsB l = false from allB_false k hlt h)
      have HR := Lib.hid (fun (h : wlB (atWl l k) = true) => allB_succ hno.out (f := fun i => wlB (atWl l i)) h)
      clear hw
      cases hwk : wlB (atWl l k)
      · have HI2 := Lib.hid (HI.out hwk)
        rw [hwk] at HCC
        clear HI HR hwk
        generalize atWl l k = s at *
        go_wp2_with (go_at_call 80; refine (HCC.out _ (HW.out.trans (by repeat (first | assumption | exact Bel.refl _ | refine Bel.drew ?_ | refine Bel.drewN ?_ _ | refine Bel.alloc ?_ _ | refine Bel.setCell ?_ (by simp <;> omega) _ | refine Bel.trans ?_ (by assumption))))).mono ?_; rintro e w5 ⟨rfl, hb⟩; have HF := Lib.hid (HW.out.trans (Bel.trans ((Bel.refl _).alloc _) hb)); clear hb)
        go_ret
        exact ⟨rb (by rw [HI2.out]), HF.out⟩
      · have HR2 := Lib.hid (HR.out hwk)
        rw [hwk] at HCC
        clear HI HR hwk
        generalize atWl l k = s at *
        go_wp2_with (go_at_call 80; refine (HCC.out _ (HW.out.trans (by repeat (first | assumption | exact Bel.refl _ | refine Bel.drew ?_ | refine Bel.drewN ?_ _ | refine Bel.alloc ?_ _ | refine Bel.setCell ?_ (by simp <;> omega) _ | refine Bel.trans ?_ (by assumption))))).mono ?_; rintro e w5 ⟨rfl, hb⟩; have HF := Lib.hid (HW.out.trans (Bel.trans ((Bel.refl _).alloc _) hb)); clear hb)
        go_roundw
        case rel => exact ⟨k + 1, by omega, by go_num, HR2.out, HF.out⟩
        case measure => simp [intOf]; omega
    · have HI := Lib.hid (show wallsB l = true by unfold wallsB; rw [show l.length = k by omega]; exact hno.out)
      have hlti : ¬ (k : Int) < (l.length : Int) := by omega
      clear hw
      go_wp2
      go_ret
      exact ⟨rb (by rw [HI.out]), HW.out⟩
end Go.Proofs.YtkdcdhkhadhcfaaDoor
