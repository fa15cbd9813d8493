/-
  anchors: nets and truths in memory; the program's Check.
-/
import Derived.Test.YtkdcdhkhadhcfaaDoorNV
import Derived.Test.YtkdcdhkhadhcfaaDoorCheck
import Derived.Test.YtkdcdhkhadhcfaaDoorOwnI
namespace Go.Proofs.YtkdcdhkhadhcfaaDoor
open Go Go.RowKit
set_option maxHeartbeats 4000000
set_option maxRecDepth 100000
def GripsAt (w : World) (v : Value) (l : List NSp) : Prop :=
  ∃ a c b off, v = .slice a l.length c ∧ (0 < l.length → a = some ⟨b, off, none⟩) ∧ (l.length ≤ 140737488355328 ∧ l.length ≤ c) ∧
    ∀ i, i < l.length → w.cell? ⟨b, off + i * 2, none⟩ = some (.int .i64 (atG l i).lo) ∧ w.cell? ⟨b, off + i * 2 + 1, none⟩ = some (.int .i64 (atG l i).hi)
theorem GripsAt.bel {w w' : World} {v : Value} {l : List NSp} (h : GripsAt w v l) (k : Bel w w') : GripsAt w' v l := by
  obtain ⟨a, c, b, off, h1, h2, h3, h4⟩ := h
  exact ⟨a, c, b, off, h1, h2, h3, fun i hi => ⟨k.cell (h4 i hi).1, k.cell (h4 i hi).2⟩⟩
def AnsAt (w : World) (v : Value) (l : List NAn) : Prop :=
  ∃ a c b off, v = .slice a l.length c ∧ (0 < l.length → a = some ⟨b, off, none⟩) ∧ (l.length ≤ 140737488355328 ∧ l.length ≤ c) ∧
    ∀ i, i < l.length → w.cell? ⟨b, off + i * 2, none⟩ = some (.int .i64 (atA l i).wt) ∧ w.cell? ⟨b, off + i * 2 + 1, none⟩ = some (.int .i64 (atA l i).bt)
theorem AnsAt.bel {w w' : World} {v : Value} {l : List NAn} (h : AnsAt w v l) (k : Bel w w') : AnsAt w' v l := by
  obtain ⟨a, c, b, off, h1, h2, h3, h4⟩ := h
  exact ⟨a, c, b, off, h1, h2, h3, fun i hi => ⟨k.cell (h4 i hi).1, k.cell (h4 i hi).2⟩⟩
def WallsAt (w : World) (v : Value) (l : List NWl) : Prop :=
  ∃ a c b off, v = .slice a l.length c ∧ (0 < l.length → a = some ⟨b, off, none⟩) ∧ (l.length ≤ 140737488355328 ∧ l.length ≤ c) ∧
    ∀ i, i < l.length → w.cell? ⟨b, off + i * 5, none⟩ = some (.int .i64 (atWl l i).sail) ∧ w.cell? ⟨b, off + i * 5 + 1, none⟩ = some (.int .i64 (atWl l i).drag) ∧
      w.cell? ⟨b, off + i * 5 + 2, none⟩ = some (.int .i64 (atWl l i).lean) ∧ w.cell? ⟨b, off + i * 5 + 3, none⟩ = some (.int .i64 (atWl l i).corks) ∧ w.cell? ⟨b, off + i * 5 + 4, none⟩ = some (.int .i64 (atWl l i).stones)
theorem WallsAt.bel {w w' : World} {v : Value} {l : List NWl} (h : WallsAt w v l) (k : Bel w w') : WallsAt w' v l := by
  obtain ⟨a, c, b, off, h1, h2, h3, h4⟩ := h
  exact ⟨a, c, b, off, h1, h2, h3, fun i hi => ⟨k.cell (h4 i hi).1, k.cell (h4 i hi).2.1, k.cell (h4 i hi).2.2.1, k.cell (h4 i hi).2.2.2.1, k.cell (h4 i hi).2.2.2.2⟩⟩
def netV (n : Net) (gv av wv : Value) : Value := .agg #[.int .i64 n.wind.lo, .int .i64 n.wind.hi, .int .i64 n.cur.lo, .int .i64 n.cur.hi, gv, av, wv]
def NetAt (w : World) (v : Value) (n : Net) : Prop := ∃ gv av wv, v = .agg #[.int .i64 n.wind.lo, .int .i64 n.wind.hi, .int .i64 n.cur.lo, .int .i64 n.cur.hi, gv, av, wv] ∧ GripsAt w gv n.grips ∧ AnsAt w av n.an ∧ WallsAt w wv n.walls
theorem NetAt.bel {w w' : World} {v : Value} {n : Net} (h : NetAt w v n) (k : Bel w w') : NetAt w' v n := by
  obtain ⟨g, a, x, h1, h2, h3, h4⟩ := h
  exact ⟨g, a, x, h1, h2.bel k, h3.bel k, h4.bel k⟩
theorem NetAt.open {w : World} {v : Value} {n : Net} (h : NetAt w v n) : ∃ ga gc aa ac xa xc, v = .agg #[.int .i64 n.wind.lo, .int .i64 n.wind.hi, .int .i64 n.cur.lo, .int .i64 n.cur.hi, .slice ga n.grips.length gc, .slice aa n.an.length ac, .slice xa n.walls.length xc] ∧
    GripsAt w (.slice ga n.grips.length gc) n.grips ∧ AnsAt w (.slice aa n.an.length ac) n.an ∧ WallsAt w (.slice xa n.walls.length xc) n.walls := by
  obtain ⟨g, a, x, h1, h2, h3, h4⟩ := h
  obtain ⟨ga, gc, gb, go, rfl, h2'⟩ := h2
  obtain ⟨aa, ac, ab, ao, rfl, h3'⟩ := h3
  obtain ⟨xa, xc, xb, xo, rfl, h4'⟩ := h4
  exact ⟨ga, gc, aa, ac, xa, xc, h1, ⟨_, _, gb, go, rfl, h2'⟩, ⟨_, _, ab, ao, rfl, h3'⟩, ⟨_, _, xb, xo, rfl, h4'⟩⟩
def NTrAt (w : World) (v : Value) (t : NTr) : Prop := ∃ gv, v = .agg #[.int .i64 t.wind, .int .i64 t.cur, gv] ∧ IntsAt w gv t.grips
theorem NTrAt.bel {w w' : World} {v : Value} {t : NTr} (h : NTrAt w v t) (k : Bel w w') : NTrAt w' v t := by
  obtain ⟨g, h1, h2⟩ := h
  exact ⟨g, h1, h2.bel k⟩
theorem infoNSp : ∃ i, Tryd.prog.info? 27 = some i := Option.isSome_iff_exists.1 (by kernel_rfl)
theorem cellsNSp : Tryd.prog.cellsOf 27 = 2 := by kernel_rfl
theorem idxGrips {a : Option Addr} {n c b off : Nat} (ha : 0 < n → a = some ⟨b, off, none⟩) :
    ∀ (w : World) (i : Nat), i < n → (Instr.indexAt 28 (.slice a n c) (.int .i64 i)).run Tryd.prog w = .ok (.pointer (some ⟨b, off + i * 2, none⟩)) w := by
  obtain ⟨i0, hi0⟩ := infoNSp
  exact idxRule (P := Tryd.prog) 28 27 2 Tryd.underlying28 hi0 cellsNSp (c := c) ha
theorem infoNAn : ∃ i, Tryd.prog.info? 72 = some i := Option.isSome_iff_exists.1 (by kernel_rfl)
theorem cellsNAn : Tryd.prog.cellsOf 72 = 2 := by kernel_rfl
theorem idxAns {a : Option Addr} {n c b off : Nat} (ha : 0 < n → a = some ⟨b, off, none⟩) :
    ∀ (w : World) (i : Nat), i < n → (Instr.indexAt 29 (.slice a n c) (.int .i64 i)).run Tryd.prog w = .ok (.pointer (some ⟨b, off + i * 2, none⟩)) w := by
  obtain ⟨i0, hi0⟩ := infoNAn
  exact idxRule (P := Tryd.prog) 29 72 2 Tryd.underlying29 hi0 cellsNAn (c := c) ha
theorem infoNWl : ∃ i, Tryd.prog.info? 74 = some i := Option.isSome_iff_exists.1 (by kernel_rfl)
theorem cellsNWl : Tryd.prog.cellsOf 74 = 5 := by kernel_rfl
theorem idxWalls {a : Option Addr} {n c b off : Nat} (ha : 0 < n → a = some ⟨b, off, none⟩) :
    ∀ (w : World) (i : Nat), i < n → (Instr.indexAt 30 (.slice a n c) (.int .i64 i)).run Tryd.prog w = .ok (.pointer (some ⟨b, off + i * 5, none⟩)) w := by
  obtain ⟨i0, hi0⟩ := infoNWl
  exact idxRule (P := Tryd.prog) 30 74 5 Tryd.underlying30 hi0 cellsNWl (c := c) ha
/-! inside -/
def allIn (m : Int) (l : List Int) : Bool := allB l.length fun i => withinB (at0 l i) 0 m
theorem out_eq (m n : Int) : (decide (n < 0) || decide (m < n)) = !withinB n 0 m := by
  rw [Bool.eq_iff_iff]; unfold withinB; simp
theorem inside1_any (tb : Nat) (m n : Int) (w : World) (h : w.cell? ⟨tb, 0, none⟩ = some (.int .i64 m)) : Calls Tryd.prog 101 #[.int .i64 n, .pointer (some ⟨tb, 0, none⟩)] w fun e w' => e = .returned (.bool (!withinB n 0 m)) ∧ w = w' := by
  have HX := Lib.hid (out_eq m n)
  have hl := cell_lt h
  cases h1 : decide (n < 0) <;> cases h2 : decide (m < n)
  all_goals
    rw [h1, h2] at HX
    go_enter Tryd.func101, Tryd.ntmps101
    go_wp2
    go_ret
    exact ⟨rb (by rw [← HX.out]; rfl), rfl⟩
theorem insideIdx_any (tb : Nat) (m : Int) (v : Value) (l : List Int) (w : World) (h : w.cell? ⟨tb, 0, none⟩ = some (.int .i64 m)) (hv : IntsAt w v l) :
    Calls Tryd.prog 117 #[v, .func (.func 101) #[] #[.pointer (some ⟨tb, 0, none⟩)]] w (SomeIdx (!allIn m l) w) := by
  obtain ⟨a, c, b, off, rfl, ha, hlen, hc⟩ := hv
  have hix := idxInts (c := c) ha
  clear ha
  go_enter Tryd.func117, Tryd.ntmps117
  go_wp2
  go_loopw [8] (fun i wr => ∃ k : Nat, k ≤ l.length ∧ i = .int .i64 k ∧ Hid (allB k (fun i => withinB (at0 l i) 0 m) = true) ∧ Bel w wr) (fun i _ => l.length - (intOf i).toNat)
  case atStart => exact ⟨0, by omega, rfl, rfl, Bel.refl _⟩
  case round =>
    obtain ⟨k, hk, rfl, hno, hw⟩ := hrel
    by_cases hlt : k < l.length
    · have k0 := hw.cell (hc k hlt)
      have hC := inside1_any tb m (at0 l k) wr (hw.cell h)
      clear hc h
      cases hwk : withinB (at0 l k) 0 m
      · have HI := Lib.hid (show allIn m l = false from allB_false k hlt hwk)
        rw [hwk] at hC
        have HC := Lib.hid hC
        clear hC hwk
        go_wp2_with (go_at_call 101; refine HC.out.mono ?_; rintro e w' ⟨rfl, rfl⟩)
        go_ret
        exact ⟨(k : Int), rfl, by rw [HI.out]; simp, hw⟩
      · have HR := Lib.hid (allB_succ hno.out (f := fun i => withinB (at0 l i) 0 m) hwk)
        rw [hwk] at hC
        have HC := Lib.hid hC
        clear hC hwk
        go_wp2_with (go_at_call 101; refine HC.out.mono ?_; rintro e w' ⟨rfl, rfl⟩)
        go_roundw
        case rel => exact ⟨k + 1, by omega, by go_num, HR, hw⟩
        case measure => simp [intOf]; omega
    · have HI := Lib.hid (show allIn m l = true by unfold allIn; rw [show l.length = k by omega]; exact hno.out)
      clear hc h
      go_wp2
      go_ret
      exact ⟨-1, rfl, by rw [HI.out]; rfl, hw⟩
theorem insideCon_any (tb : Nat) (m : Int) (v : Value) (l : List Int) (w : World) (h : w.cell? ⟨tb, 0, none⟩ = some (.int .i64 m)) (hv : IntsAt w v l) :
    Calls Tryd.prog 100 #[v, .func (.func 101) #[] #[.pointer (some ⟨tb, 0, none⟩)]] w fun e w' => e = .returned (.bool (!allIn m l)) ∧ Bel w w' := by
  have HC := Lib.hid (insideIdx_any tb m v l w h hv)
  clear h
  go_enter Tryd.func100, Tryd.ntmps100
  go_wp2_with (go_at_call 117; refine HC.out.mono ?_; rintro e w' ⟨r, rfl, hr, hb⟩; have HR := Lib.hid hr; clear hr)
  go_ret
  exact ⟨rb (by rw [← HR.out]), hb⟩
theorem ninside_any (m : Int) (v : Value) (l : List Int) (w : World) (hv : IntsAt w v l) : Calls Tryd.prog 78 #[.int .i64 m, v] w fun e w' => e = .returned (.bool (allIn m l)) ∧ Bel w w' := by
  have HC := Lib.hid (insideCon_any w.heap.size m v l (w.alloc (.cells #[.int .i64 m] 3)) ((row_facts (new_row rfl)).1 0) (hv.bel ((Bel.refl w).alloc _)))
  cases ha : allIn m l
  all_goals
    rw [ha] at HC
    clear ha
    go_enter Tryd.func78, Tryd.ntmps78
    go_wp2_with (go_at_call 100; refine HC.out.mono ?_; rintro e w' ⟨rfl, hb⟩)
    go_ret
    exact ⟨rfl, Bel.trans ((Bel.refl w).alloc _) hb⟩
end Go.Proofs.YtkdcdhkhadhcfaaDoor
