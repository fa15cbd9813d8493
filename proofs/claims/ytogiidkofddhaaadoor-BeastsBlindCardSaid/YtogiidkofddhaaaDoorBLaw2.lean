/-
  beasts: the law's both, SameSteps, Same; the reference's At.
-/
import Derived.Test.YtogiidkofddhaaaDoorBCopy
import Derived.Test.YtogiidkofddhaaaDoorBLawV
import Derived.Test.YtogiidkofddhaaaDoorBFree
import Derived.Test.YtogiidkofddhaaaDoorBAft
namespace Go.Proofs.YtogiidkofddhaaaDoor
open Go Go.RowKit Go.Shelf
set_option maxHeartbeats 4000000
set_option maxRecDepth 100000
theorem both_any (b : BT) (hval : validT b = true) (v : Value) (w : World) (hf : FarAt w) (hv : BTrapAt w v b) :
    Calls Tryd.prog 31 #[v] w fun e w' => e = .returned (.tuple #[.int .i64 (leastV b true), .int .i64 (leastV b false), .bool (planB b), .bool false]) ∧ Bel w w' := by
  have HL := Lib.hid (fun wx (hx : Bel w wx) => Least_any b v wx (hf.bel hx) (hv.bel hx))
  have HBL := Lib.hid (fun wx (hx : Bel w wx) => Blind_any b v wx (hf.bel hx) (hv.bel hx))
  obtain ⟨g0, g1, g2, g3, g4, _, g6⟩ := both_law hval
  rw [g3] at HL
  rw [g4] at HBL
  obtain ⟨da, dc, sa, sc, pa, pc, rfl, _, _, _⟩ := hv.open
  have HBX := Lib.hid (fun wx hx => (BoxB.new (w := w) (b := b) (dv := .slice da b.doors.length dc) (sv := .slice sa b.seen.length sc) (pv := .slice pa b.places.length pc) (T := 25)).bel (w' := wx) hx)
  clear hv hf g3 g4 g6
  generalize leastV b true = m at *
  generalize leastV b false = n at *
  have c1 : ¬ m < 0 := by omega
  have c2 : ¬ n < m := by omega
  have c3 : ¬ (100000 : Int) < n := by omega
  cases hp : planB b
  all_goals
    rw [hp] at HL HBL
    first
      | rw [if_pos rfl] at HL HBL
      | rw [if_neg (by simp)] at HL HBL
    clear hp
    go_enter Tryd.func31, Tryd.ntmps31
    go_wp2_with fail
    refine (HL.out _ (by repeat (first | assumption | exact Bel.refl _ | refine Bel.drew ?_ | refine Bel.drewN ?_ _ | refine Bel.alloc ?_ _ | refine Bel.setCell ?_ (by simp <;> omega) _ | refine Bel.trans ?_ (by assumption)))).mono ?_
    rintro e w1 ⟨rfl, hb⟩
    obtain ⟨y0, y1, y2, y3, y4, y5⟩ := HBX.out _ hb
    have ly := cell_lt y0
    have HB := Lib.hid (show Bel w w1 from Bel.trans (by repeat (first | assumption | exact Bel.refl _ | refine Bel.drew ?_ | refine Bel.drewN ?_ _ | refine Bel.alloc ?_ _ | refine Bel.setCell ?_ (by simp <;> omega) _ | refine Bel.trans ?_ (by assumption))) hb)
    clear hb
    go_wp2_with fail
    refine (HBL.out _ HB.out).mono ?_
    rintro e w2 ⟨rfl, hb⟩
    have HB2 := Lib.hid (HB.out.trans hb)
    clear hb
    go_wp2
    first
      | exact bodyPost_ret (v := .tuple #[.int .i64 m, .int .i64 n, .bool true, .bool false]) (by simp [results, Tryd.results31, go_sem]) rfl ⟨rfl, HB2.out⟩
      | exact bodyPost_ret (v := .tuple #[.int .i64 m, .int .i64 n, .bool false, .bool false]) (by simp [results, Tryd.results31, go_sem]) rfl ⟨rfl, HB2.out⟩
theorem SameSteps_eq (v1 v2 : Value) (l : List BS) (w : World) (h1 : StepsAt w v1 l) (h2 : StepsAt w v2 l) : Calls Tryd.prog 22 #[v1, v2] w fun e w' => e = .returned (.bool true) ∧ Bel w w' := by
  obtain ⟨a, c, b, off, rfl, ha, ⟨hlen, _⟩, hc⟩ := h1
  obtain ⟨a2, c2, b2, off2, rfl, ha2, _, hc2⟩ := h2
  have hix := idxSteps (c := c) ha
  have hix2 := idxSteps (c := c2) ha2
  have HC := Lib.hid hc
  have HC2 := Lib.hid hc2
  clear ha ha2 hc hc2
  go_enter Tryd.func22, Tryd.ntmps22
  go_wp2
  go_loopw [5] (fun i wr => ∃ k : Nat, k ≤ l.length ∧ i = .int .i64 k ∧ Bel w wr) (fun i _ => l.length - (intOf i).toNat)
  case atStart => exact ⟨0, by omega, rfl, Bel.refl _⟩
  case round =>
    obtain ⟨k, hk, rfl, hw⟩ := hrel
    have HW := Lib.hid hw
    by_cases hlt : k < l.length
    · have hlti : (k : Int) < (l.length : Int) := by omega
      obtain ⟨e0, e1⟩ := HC.out k hlt
      obtain ⟨f0, f1⟩ := HC2.out k hlt
      replace e0 := hw.cell e0
      replace e1 := hw.cell e1
      replace f0 := hw.cell f0
      replace f1 := hw.cell f1
      have le := cell_lt e0
      have lf := cell_lt f0
      clear hw
      generalize atS l k = x at *
      go_wp2
      refine wp_region_mixB (Plan.seq [0, 1, 2, 3, 4, 5, 6, 7, 8] .nil) (by kernel_rfl) (by kernel_rfl) (fun hcur => ?_)
      simp only [Plan.seq, Plan.fill, List.getD_cons_zero, List.getD_cons_succ, Nat.reduceLT, ↓reduceIte]
      apply mix_pure _ rfl
      · intro w' hw'
        have hcr := hw'.cells
        go_simp
        rfl
      intro K hK
      go_simp
      refine hK _ ?_
      clear hK K
      apply mix_pure _ rfl
      · intro w' hw'
        have hcr := hw'.cells
        go_simp
        rfl
      intro K hK
      go_simp
      refine hK _ ?_
      clear hK K
      apply mix_pure _ rfl
      · intro w' hw'
        have hcr := hw'.cells
        go_simp
        rfl
      intro K hK
      go_simp
      refine hK _ ?_
      clear hK K
      apply mix_pure _ rfl
      · intro w' hw'
        have hcr := hw'.cells
        go_simp
        rfl
      intro K hK
      go_simp
      refine hK _ ?_
      clear hK K
      apply mix_pure _ rfl
      · intro w' hw'
        have hcr := hw'.cells
        go_simp
        rfl
      intro K hK
      go_simp
      refine hK _ ?_
      clear hK K
      apply mix_pure _ rfl
      · intro w' hw'
        have hcr := hw'.cells
        go_simp
        rfl
      intro K hK
      go_simp
      refine hK _ ?_
      clear hK K
      apply mix_pure _ rfl
      · intro w' hw'
        have hcr := hw'.cells
        go_simp
        rfl
      intro K hK
      go_simp
      refine hK _ ?_
      clear hK K
      apply mix_pure _ rfl
      · intro w' hw'
        have hcr := hw'.cells
        go_simp
        rfl
      intro K hK
      go_simp
      refine hK _ ?_
      clear hK K
      apply mix_pure _ rfl
      · intro w' hw'
        have hcr := hw'.cells
        go_simp
        rfl
      intro K hK
      go_simp
      refine hK _ ?_
      clear hK K
      refine mix_nil ?_
      have HF := Lib.hid (HW.out.trans hcur)
      clear hcur e0 e1 f0 f1 le lf
      go_wp2
      go_roundw
      case rel => exact ⟨k + 1, by omega, by go_num, HF.out⟩
      case measure => simp [intOf]; omega
    · have hlti : ¬ (k : Int) < (l.length : Int) := by omega
      clear hw
      go_wp2
      go_ret
      exact ⟨rfl, HW.out⟩
theorem BoxB.two {w : World} {b b2 : BT} {xd xs xp yd ys yp : Value} {T : TypeId} :
    BoxB ((w.alloc (.cells #[.int .i64 b.n, xd, xs, .int .i64 b.look, .int .i64 b.eats, xp] T)).alloc (.cells #[.int .i64 b2.n, yd, ys, .int .i64 b2.look, .int .i64 b2.eats, yp] T)) w.heap.size b xd xs xp ∧
    BoxB ((w.alloc (.cells #[.int .i64 b.n, xd, xs, .int .i64 b.look, .int .i64 b.eats, xp] T)).alloc (.cells #[.int .i64 b2.n, yd, ys, .int .i64 b2.look, .int .i64 b2.eats, yp] T)) (w.heap.size + 1) b2 yd ys yp := by
  refine ⟨BoxB.new.bel ((Bel.refl _).alloc _), ?_⟩
  have r : ∀ (o1 o2 : Obj), ((w.alloc o1).alloc o2).heap[w.heap.size + 1]? = some o2 := fun o1 o2 => new_row (by simp)
  exact ⟨(row_facts (r _ _)).1 0, (row_facts (r _ _)).1 1, (row_facts (r _ _)).1 2, (row_facts (r _ _)).1 3, (row_facts (r _ _)).1 4, (row_facts (r _ _)).1 5⟩
theorem bSame_eq (v1 v2 : Value) (b : BT) (w : World) (h1 : BTrapAt w v1 b) (h2 : BTrapAt w v2 b) : Calls Tryd.prog 23 #[v1, v2] w fun e w' => e = .returned (.bool true) ∧ Bel w w' := by
  obtain ⟨da, dc, sa, sc, pa, pc, rfl, hd, hs, hp⟩ := h1.open
  obtain ⟨da2, dc2, sa2, sc2, pa2, pc2, rfl, hd2, hs2, hp2⟩ := h2.open
  obtain ⟨db, doff, hda, hdl, _, hdc⟩ := hd.open
  obtain ⟨db2, doff2, hda2, _, _, hdc2⟩ := hd2.open
  have hix := idxDoors (c := dc) hda
  have hix2 := idxDoors (c := dc2) hda2
  have HC := Lib.hid hdc
  have HC2 := Lib.hid hdc2
  have HSS := Lib.hid (fun wx (hx : Bel w wx) => (SameInts_any _ _ _ _ wx (hs.bel hx) (hs2.bel hx)).mono (R' := fun e w' => e = .returned (.bool true) ∧ Bel wx w') fun e w' q => ⟨by rw [q.1]; unfold sameB; simp, q.2⟩)
  have HSP := Lib.hid (fun wx (hx : Bel w wx) => (SameInts_any _ _ _ _ wx (hp.bel hx) (hp2.bel hx)).mono (R' := fun e w' => e = .returned (.bool true) ∧ Bel wx w') fun e w' q => ⟨by rw [q.1]; unfold sameB; simp, q.2⟩)
  clear h1 h2 hd hd2 hs hs2 hp hp2 hda hda2 hdc hdc2
  have HTW := Lib.hid (BoxB.two (w := w) (b := b) (b2 := b) (xd := .slice da b.doors.length dc) (xs := .slice sa b.seen.length sc) (xp := .slice pa b.places.length pc) (yd := .slice da2 b.doors.length dc2) (ys := .slice sa2 b.seen.length sc2) (yp := .slice pa2 b.places.length pc2) (T := 25))
  go_enter Tryd.func23, Tryd.ntmps23
  go_wp2_with fail
  refine (HSS.out _ (by repeat (first | assumption | exact Bel.refl _ | refine Bel.drew ?_ | refine Bel.drewN ?_ _ | refine Bel.alloc ?_ _ | refine Bel.setCell ?_ (by simp <;> omega) _ | refine Bel.trans ?_ (by assumption)))).mono ?_
  rintro e w1 ⟨rfl, hb⟩
  have HX := Lib.hid (HTW.out.1.bel hb)
  have HX2 := Lib.hid (HTW.out.2.bel hb)
  have HB := Lib.hid (show Bel w w1 from Bel.trans (by repeat (first | assumption | exact Bel.refl _ | refine Bel.drew ?_ | refine Bel.drewN ?_ _ | refine Bel.alloc ?_ _ | refine Bel.setCell ?_ (by simp <;> omega) _ | refine Bel.trans ?_ (by assumption))) hb)
  obtain ⟨y0, y1, y2, y3, y4, y5⟩ := HX.out
  have ly := cell_lt y0
  obtain ⟨z0, z1, z2, z3, z4, z5⟩ := HX2.out
  have lz := cell_lt z0
  clear hb HTW HSS
  go_wp2_with fail
  refine (HSP.out _ HB.out).mono ?_
  rintro e w2 ⟨rfl, hb⟩
  replace HX := Lib.hid (HX.out.bel hb)
  replace HX2 := Lib.hid (HX2.out.bel hb)
  replace HB := Lib.hid (HB.out.trans hb)
  clear hb HSP y0 y1 y2 y3 y4 y5 ly z0 z1 z2 z3 z4 z5 lz
  obtain ⟨y0, y1, y2, y3, y4, y5⟩ := HX.out
  have ly := cell_lt y0
  obtain ⟨z0, z1, z2, z3, z4, z5⟩ := HX2.out
  have lz := cell_lt z0
  go_wp2
  clear y0 y1 y2 y3 y4 y5 ly z0 z1 z2 z3 z4 z5 lz
  go_loopw [5] (fun i wr => ∃ k : Nat, k ≤ b.doors.length ∧ i = .int .i64 k ∧ Bel w2 wr) (fun i _ => b.doors.length - (intOf i).toNat)
  case atStart => exact ⟨0, by omega, rfl, Bel.refl _⟩
  case round =>
    obtain ⟨k, hk, rfl, hw⟩ := hrel
    have HW := Lib.hid hw
    obtain ⟨y0, y1, y2, y3, y4, y5⟩ := HX.out.bel hw
    have ly := cell_lt y0
    obtain ⟨z0, z1, z2, z3, z4, z5⟩ := HX2.out.bel hw
    have lz := cell_lt z0
    by_cases hlt : k < b.doors.length
    · have hlti : (k : Int) < (b.doors.length : Int) := by omega
      obtain ⟨e0, e1, e2⟩ := HC.out k hlt
      obtain ⟨f0, f1, f2⟩ := HC2.out k hlt
      replace e0 := (HB.out.trans hw).cell e0
      replace e1 := (HB.out.trans hw).cell e1
      replace e2 := (HB.out.trans hw).cell e2
      replace f0 := (HB.out.trans hw).cell f0
      replace f1 := (HB.out.trans hw).cell f1
      replace f2 := (HB.out.trans hw).cell f2
      have le := cell_lt e0
      have lf := cell_lt f0
      clear hw
      generalize atD b.doors k = x at *
      go_wp2
      refine wp_region_mixB (Plan.seq [0, 1, 2, 3, 4, 5, 6, 7, 8, 9, 10] .nil) (by kernel_rfl) (by kernel_rfl) (fun hcur => ?_)
      simp only [Plan.seq, Plan.fill, List.getD_cons_zero, List.getD_cons_succ, Nat.reduceLT, ↓reduceIte]
      apply mix_pure _ rfl
      · intro w' hw'
        have hcr := hw'.cells
        go_simp
        rfl
      intro K hK
      go_simp
      refine hK _ ?_
      clear hK K
      apply mix_pure _ rfl
      · intro w' hw'
        have hcr := hw'.cells
        go_simp
        rfl
      intro K hK
      go_simp
      refine hK _ ?_
      clear hK K
      apply mix_pure _ rfl
      · intro w' hw'
        have hcr := hw'.cells
        go_simp
        rfl
      intro K hK
      go_simp
      refine hK _ ?_
      clear hK K
      apply mix_pure _ rfl
      · intro w' hw'
        have hcr := hw'.cells
        go_simp
        rfl
      intro K hK
      go_simp
      refine hK _ ?_
      clear hK K
      apply mix_pure _ rfl
      · intro w' hw'
        have hcr := hw'.cells
        go_simp
        rfl
      intro K hK
      go_simp
      refine hK _ ?_
      clear hK K
      apply mix_pure _ rfl
      · intro w' hw'
        have hcr := hw'.cells
        go_simp
        rfl
      intro K hK
      go_simp
      refine hK _ ?_
      clear hK K
      apply mix_pure _ rfl
      · intro w' hw'
        have hcr := hw'.cells
        go_simp
        rfl
      intro K hK
      go_simp
      refine hK _ ?_
      clear hK K
      apply mix_pure _ rfl
      · intro w' hw'
        have hcr := hw'.cells
        go_simp
        rfl
      intro K hK
      go_simp
      refine hK _ ?_
      clear hK K
      apply mix_pure _ rfl
      · intro w' hw'
        have hcr := hw'.cells
        go_simp
        rfl
      intro K hK
      go_simp
      refine hK _ ?_
      clear hK K
      apply mix_pure _ rfl
      · intro w' hw'
        have hcr := hw'.cells
        go_simp
        rfl
      intro K hK
      go_simp
      refine hK _ ?_
      clear hK K
      apply mix_pure _ rfl
      · intro w' hw'
        have hcr := hw'.cells
        go_simp
        rfl
      intro K hK
      go_simp
      refine hK _ ?_
      clear hK K
      refine mix_nil ?_
      have HF := Lib.hid (HW.out.trans hcur)
      clear hcur e0 e1 e2 f0 f1 f2 le lf y0 y1 y2 y3 y4 y5 ly z0 z1 z2 z3 z4 z5 lz
      go_wp2
      go_roundw
      case rel => exact ⟨k + 1, by omega, by go_num, HF.out⟩
      case measure => simp [intOf]; omega
    · have hlti : ¬ (k : Int) < (b.doors.length : Int) := by omega
      clear hw
      go_wp2
      go_ret
      exact ⟨rfl, HB.out.trans HW.out⟩
theorem At_any (b : BT) (c : Int) (v : Value) (w : World) (hv : BTrapAt w v b) (h1 : b.doors.length ≤ 1000) (h2 : b.seen.length ≤ 1000) (h3 : b.places.length ≤ 1000) :
    Calls Tryd.prog 37 #[v, .int .i64 c] w fun e w' => ∃ V, e = .returned V ∧ BTrapAt w' V (plB b [c]) ∧ Bel w w' := by
  have HC := Lib.hid (fun wx (hx : Bel w wx) => bCopy_any b v wx (hv.bel hx) h1 h2 h3)
  obtain ⟨da, dc, sa, sc, pa, pc, rfl, _, _, _⟩ := hv.open
  clear hv
  go_enter Tryd.func37, Tryd.ntmps37
  go_wp2_with fail
  refine (HC.out _ (by repeat (first | assumption | exact Bel.refl _ | refine Bel.drew ?_ | refine Bel.drewN ?_ _ | refine Bel.alloc ?_ _ | refine Bel.setCell ?_ (by simp <;> omega) _ | refine Bel.trans ?_ (by assumption)))).mono ?_
  rintro e w1 ⟨gd, cd, gs, cs, gp, cp, rfl, hown⟩
  have hb := hown.bel
  have HO := Lib.hid hown
  have zr : ∀ (o1 : Obj) (cs : Array Value) (T : TypeId), ((w.alloc o1).alloc (.cells cs T)).heap[w.heap.size + 1]? = some (.cells cs T (0, 0)) := fun o1 cs T => new_row (by simp)
  have HZ := Lib.hid (row_facts (zr (.cells #[.int .i64 b.n, .slice da b.doors.length dc, .slice sa b.seen.length sc, .int .i64 b.look, .int .i64 b.eats, .slice pa b.places.length pc] 25) #[.int .i64 0, .slice none 0 0, .slice none 0 0, .int .i64 0, .int .i64 0, .slice none 0 0] 25))
  have z0 := hb.cell (HZ.out.1 0)
  have z1 := hb.cell (HZ.out.1 1)
  have z2 := hb.cell (HZ.out.1 2)
  have z3 := hb.cell (HZ.out.1 3)
  have z4 := hb.cell (HZ.out.1 4)
  have z5 := hb.cell (HZ.out.1 5)
  have fz : ∀ o, w1.frozen? ⟨w.heap.size + 1, o, none⟩ = false := fun o => (hb.frozens _ (by simp)).trans (HZ.out.2 o)
  have lz : w.heap.size + 1 < w1.heap.size := cell_lt z0
  have lz0 : w.heap.size < w1.heap.size := by omega
  have HB := Lib.hid (show Bel w w1 from Bel.trans (by repeat (first | assumption | exact Bel.refl _ | refine Bel.drew ?_ | refine Bel.drewN ?_ _ | refine Bel.alloc ?_ _ | refine Bel.setCell ?_ (by simp <;> omega) _ | refine Bel.trans ?_ (by assumption))) hb)
  have hgd := hown.hgd
  have hgs := hown.hgs
  have hgp := hown.hgp
  simp only [World.size_alloc] at hgd
  have lp : gp < w1.heap.size := own_lt hown.op rfl
  have n1 : w.heap.size + 1 ≠ w1.heap.size := by omega
  have n2 : w1.heap.size ≠ w.heap.size + 1 := by omega
  unfold trapAgg
  clear hb hown zr HZ
  go_wp2
  refine bodyPost_ret (v := .agg #[.int .i64 b.n, .slice (some ⟨gd, 0, none⟩) b.doors.length cd, .slice (some ⟨gs, 0, none⟩) b.seen.length cs, .int .i64 b.look, .int .i64 b.eats, .slice (some ⟨w1.heap.size + 1, 0, none⟩) 1 1]) (by simp [results, Tryd.results37, go_sem, *]) rfl ⟨_, rfl, ⟨_, _, _, rfl, ?_, ?_, ?_⟩, ?_⟩
  · exact DoorsAt.own (l := b.doors) (by omega) (ownsRow_bel (own_set (own_set (own_set (own_set (own_set (own_set HO.out.od (fun g hg => by injection hg with hg; subst hg; show gd ≠ w.heap.size + 1; omega)) (fun g hg => by injection hg with hg; subst hg; show gd ≠ w.heap.size + 1; omega)) (fun g hg => by injection hg with hg; subst hg; show gd ≠ w.heap.size + 1; omega)) (fun g hg => by injection hg with hg; subst hg; show gd ≠ w.heap.size + 1; omega)) (fun g hg => by injection hg with hg; subst hg; show gd ≠ w.heap.size + 1; omega)) (fun g hg => by injection hg with hg; subst hg; show gd ≠ w.heap.size + 1; omega)) (((Bel.refl _).alloc _).alloc _))
  · exact ownInts (l := b.seen) (by omega) (ownsRow_bel (own_set (own_set (own_set (own_set (own_set (own_set HO.out.os (fun g hg => by injection hg with hg; subst hg; show gs ≠ w.heap.size + 1; omega)) (fun g hg => by injection hg with hg; subst hg; show gs ≠ w.heap.size + 1; omega)) (fun g hg => by injection hg with hg; subst hg; show gs ≠ w.heap.size + 1; omega)) (fun g hg => by injection hg with hg; subst hg; show gs ≠ w.heap.size + 1; omega)) (fun g hg => by injection hg with hg; subst hg; show gs ≠ w.heap.size + 1; omega)) (fun g hg => by injection hg with hg; subst hg; show gs ≠ w.heap.size + 1; omega)) (((Bel.refl _).alloc _).alloc _))
  · exact one_intsG (by simp)
  · exact (((((((HB.out.setCell (by show w.heap.size ≤ w.heap.size + 1; omega) _).setCell (by show w.heap.size ≤ w.heap.size + 1; omega) _).setCell (by show w.heap.size ≤ w.heap.size + 1; omega) _).setCell (by show w.heap.size ≤ w.heap.size + 1; omega) _).setCell (by show w.heap.size ≤ w.heap.size + 1; omega) _).setCell (by show w.heap.size ≤ w.heap.size + 1; omega) _).alloc _).alloc _
end Go.Proofs.YtogiidkofddhaaaDoor
