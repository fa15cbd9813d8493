/-
  the top law: TopWeighed: the catch that was counted, for every trap, sea, numbers, pounds, crew and word: the call returns true and changes nothing that was there.
-/
import Derived.Test.YtkdcdhkhadhcfaaLfSur
import Derived.Test.YtkdcdhkhadhcfaaTold
import Derived.Test.YtkdcdhkhadhcfaaIsTruth
import Derived.Test.YtkdcdhkhadhcfaaSmall
import Derived.Test.YtkdcdhkhadhcfaaLaw1
namespace Go.Proofs.Ytkdcdhkhadhcfaa
open Go Go.RowKit
set_option maxHeartbeats 8000000
set_option maxRecDepth 100000
theorem weigh_l0 (t : CT) (s : LSea) (l : List (List Int)) (m : Int) (cr : List Int) (x : CW) (v vs vl vc : Value) (w : World) (hv : TrapAt w v t) (hs : SeaAt w vs s) (hl : RowsAt w vl l) (hc : IntsAt w vc cr) (h0 : FarB t = true) :
    Calls Try.prog 4 #[v, vs, .agg #[vl, .int .i64 m, vc, .int .i64 x.time, .int .i64 x.chamber, .int .i64 x.low, .int .i64 x.high]] w fun e w' => e = .returned (.bool true) ∧ Bel w w' := by
  have HV := Lib.hid hv
  have HS := Lib.hid hs
  have HL := Lib.hid hl
  have HCR := Lib.hid hc
  have HFA := Lib.hid (fun wx (hb : Bel w wx) => Far_any t v wx (hv.bel hb))
  have HCK := Lib.hid (fun wx (hb : Bel w wx) => RCheck_any t v wx (hv.bel hb))
  have HLF := Lib.hid (fun wx (hb : Bel w wx) => lfFar_any s vs wx (hs.bel hb))
  have HC5 := Lib.hid (fun wx (hb : Bel w wx) => R5Check_any s vs wx (hs.bel hb))
  have HIT := Lib.hid (fun (hval : validB t = true) wx (hb : Bel w wx) => IsTruth_any t v vl l wx (hv.bel hb) (hl.bel hb) hval)
  have HHE := Lib.hid (fun wx (_ : Bel w wx) => weighed_any wx)
  have HTO := Lib.hid (fun (hroom : Room t) wx (hb : Bel w wx) => Told_any t x v wx (hv.bel hb) hroom)
  have HWO := Lib.hid (fun (ov wv : Value) wx => IsWord_any t.C t.T x ov wv wx)
  unfold CW.val at HTO HWO
  obtain ⟨ta, tc, tw, twc, rfl, _, _⟩ := hv.formW
  obtain ⟨pa, pc, ba, bc, rfl, _, _, hpl, hbl⟩ := hs.open
  obtain ⟨la, lc, lb, lo, rv, rfl, hla, hll, hlc⟩ := hl
  obtain ⟨ca, cc, cb, co, rfl, _, ⟨hcl, _⟩, _⟩ := hc
  have hixl := idxRows (c := lc) hla
  have HLC := Lib.hid hlc
  clear hv hs hla hlc
  go_enter Try.func4, Try.ntmps4
  go_wp2_with fail
  generalize hW : World.alloc _ _ = w0
  have HB : Hid (Bel w w0) := Lib.hid (by rw [← hW]; exact (((Bel.refl w).alloc _).alloc _).alloc _)
  have HX0 : Hid (Bx w0 w.heap.size [.int .i64 t.C, .int .i64 t.T, .slice ta t.op.length tc, .slice tw t.ws.length twc]) := Lib.hid (by rw [← hW]; exact ((Bx.new rfl).bel ((Bel.refl _).alloc _)).bel ((Bel.refl _).alloc _))
  have HX1 : Hid (Bx w0 (w.heap.size + 1) [.int .i64 s.w.lo, .int .i64 s.w.hi, .slice pa s.pl.length pc, .slice ba s.bo.length bc]) := Lib.hid (by rw [← hW]; exact (Bx.new (by simp)).bel ((Bel.refl _).alloc _))
  have HX2 : Hid (Bx w0 (w.heap.size + 1 + 1) [.slice la l.length lc, .int .i64 m, .slice ca cr.length cc, .int .i64 x.time, .int .i64 x.chamber, .int .i64 x.low, .int .i64 x.high]) := Lib.hid (by rw [← hW]; exact Bx.new (by simp))
  clear hW
  refine (HFA.out _ HB.out).mono ?_
  rintro e w1 ⟨rfl, hb⟩
  replace HX0 := Lib.hid (HX0.out.bel hb)
  replace HX1 := Lib.hid (HX1.out.bel hb)
  replace HX2 := Lib.hid (HX2.out.bel hb)
  replace HB := Lib.hid (HB.out.trans hb)
  clear hb
  rw [h0]
  go_wp2_with fail
  refine (HHE.out _ HB.out).mono ?_
  rintro e wz ⟨rfl, hb⟩
  have HBZ := Lib.hid (HB.out.trans hb)
  clear hb
  go_wp2
  go_ret
  exact ⟨rfl, HBZ.out⟩
theorem weigh_l1 (t : CT) (s : LSea) (l : List (List Int)) (m : Int) (cr : List Int) (x : CW) (v vs vl vc : Value) (w : World) (hv : TrapAt w v t) (hs : SeaAt w vs s) (hl : RowsAt w vl l) (hc : IntsAt w vc cr) (h0 : FarB t = false) (h1 : validB t = false) :
    Calls Try.prog 4 #[v, vs, .agg #[vl, .int .i64 m, vc, .int .i64 x.time, .int .i64 x.chamber, .int .i64 x.low, .int .i64 x.high]] w fun e w' => e = .returned (.bool true) ∧ Bel w w' := by
  have HV := Lib.hid hv
  have HS := Lib.hid hs
  have HL := Lib.hid hl
  have HCR := Lib.hid hc
  have HFA := Lib.hid (fun wx (hb : Bel w wx) => Far_any t v wx (hv.bel hb))
  have HCK := Lib.hid (fun wx (hb : Bel w wx) => RCheck_any t v wx (hv.bel hb))
  have HLF := Lib.hid (fun wx (hb : Bel w wx) => lfFar_any s vs wx (hs.bel hb))
  have HC5 := Lib.hid (fun wx (hb : Bel w wx) => R5Check_any s vs wx (hs.bel hb))
  have HIT := Lib.hid (fun (hval : validB t = true) wx (hb : Bel w wx) => IsTruth_any t v vl l wx (hv.bel hb) (hl.bel hb) hval)
  have HHE := Lib.hid (fun wx (_ : Bel w wx) => weighed_any wx)
  have HTO := Lib.hid (fun (hroom : Room t) wx (hb : Bel w wx) => Told_any t x v wx (hv.bel hb) hroom)
  have HWO := Lib.hid (fun (ov wv : Value) wx => IsWord_any t.C t.T x ov wv wx)
  unfold CW.val at HTO HWO
  obtain ⟨ta, tc, tw, twc, rfl, _, _⟩ := hv.formW
  obtain ⟨pa, pc, ba, bc, rfl, _, _, hpl, hbl⟩ := hs.open
  obtain ⟨la, lc, lb, lo, rv, rfl, hla, hll, hlc⟩ := hl
  obtain ⟨ca, cc, cb, co, rfl, _, ⟨hcl, _⟩, _⟩ := hc
  have hixl := idxRows (c := lc) hla
  have HLC := Lib.hid hlc
  clear hv hs hla hlc
  go_enter Try.func4, Try.ntmps4
  go_wp2_with fail
  generalize hW : World.alloc _ _ = w0
  have HB : Hid (Bel w w0) := Lib.hid (by rw [← hW]; exact (((Bel.refl w).alloc _).alloc _).alloc _)
  have HX0 : Hid (Bx w0 w.heap.size [.int .i64 t.C, .int .i64 t.T, .slice ta t.op.length tc, .slice tw t.ws.length twc]) := Lib.hid (by rw [← hW]; exact ((Bx.new rfl).bel ((Bel.refl _).alloc _)).bel ((Bel.refl _).alloc _))
  have HX1 : Hid (Bx w0 (w.heap.size + 1) [.int .i64 s.w.lo, .int .i64 s.w.hi, .slice pa s.pl.length pc, .slice ba s.bo.length bc]) := Lib.hid (by rw [← hW]; exact (Bx.new (by simp)).bel ((Bel.refl _).alloc _))
  have HX2 : Hid (Bx w0 (w.heap.size + 1 + 1) [.slice la l.length lc, .int .i64 m, .slice ca cr.length cc, .int .i64 x.time, .int .i64 x.chamber, .int .i64 x.low, .int .i64 x.high]) := Lib.hid (by rw [← hW]; exact Bx.new (by simp))
  clear hW
  refine (HFA.out _ HB.out).mono ?_
  rintro e w1 ⟨rfl, hb⟩
  replace HX0 := Lib.hid (HX0.out.bel hb)
  replace HX1 := Lib.hid (HX1.out.bel hb)
  replace HX2 := Lib.hid (HX2.out.bel hb)
  replace HB := Lib.hid (HB.out.trans hb)
  clear hb
  rw [h0]
  have gx0 := HX0.out.c 0 _ rfl
  have gx1 := HX0.out.c 1 _ rfl
  have gx2 := HX0.out.c 2 _ rfl
  have gx3 := HX0.out.c 3 _ rfl
  have glx := HX0.out.lt
  go_wp2_with fail
  refine (HCK.out _ HB.out).mono ?_
  rintro e w2 ⟨rfl, hb⟩
  replace HX0 := Lib.hid (HX0.out.bel hb)
  replace HX1 := Lib.hid (HX1.out.bel hb)
  replace HX2 := Lib.hid (HX2.out.bel hb)
  replace HB := Lib.hid (HB.out.trans hb)
  clear hb
  clear gx0 gx1 gx2 gx3 glx
  rw [chk_false h1]
  go_wp2_with fail
  refine (HHE.out _ HB.out).mono ?_
  rintro e wz ⟨rfl, hb⟩
  have HBZ := Lib.hid (HB.out.trans hb)
  clear hb
  go_wp2
  go_ret
  exact ⟨rfl, HBZ.out⟩
theorem weigh_l2 (t : CT) (s : LSea) (l : List (List Int)) (m : Int) (cr : List Int) (x : CW) (v vs vl vc : Value) (w : World) (hv : TrapAt w v t) (hs : SeaAt w vs s) (hl : RowsAt w vl l) (hc : IntsAt w vc cr) (h0 : FarB t = false) (h1 : validB t = true) (h2 : lfarB s = true) :
    Calls Try.prog 4 #[v, vs, .agg #[vl, .int .i64 m, vc, .int .i64 x.time, .int .i64 x.chamber, .int .i64 x.low, .int .i64 x.high]] w fun e w' => e = .returned (.bool true) ∧ Bel w w' := by
  have HV := Lib.hid hv
  have HS := Lib.hid hs
  have HL := Lib.hid hl
  have HCR := Lib.hid hc
  have HFA := Lib.hid (fun wx (hb : Bel w wx) => Far_any t v wx (hv.bel hb))
  have HCK := Lib.hid (fun wx (hb : Bel w wx) => RCheck_any t v wx (hv.bel hb))
  have HLF := Lib.hid (fun wx (hb : Bel w wx) => lfFar_any s vs wx (hs.bel hb))
  have HC5 := Lib.hid (fun wx (hb : Bel w wx) => R5Check_any s vs wx (hs.bel hb))
  have HIT := Lib.hid (fun (hval : validB t = true) wx (hb : Bel w wx) => IsTruth_any t v vl l wx (hv.bel hb) (hl.bel hb) hval)
  have HHE := Lib.hid (fun wx (_ : Bel w wx) => weighed_any wx)
  have HTO := Lib.hid (fun (hroom : Room t) wx (hb : Bel w wx) => Told_any t x v wx (hv.bel hb) hroom)
  have HWO := Lib.hid (fun (ov wv : Value) wx => IsWord_any t.C t.T x ov wv wx)
  unfold CW.val at HTO HWO
  obtain ⟨ta, tc, tw, twc, rfl, _, _⟩ := hv.formW
  obtain ⟨pa, pc, ba, bc, rfl, _, _, hpl, hbl⟩ := hs.open
  obtain ⟨la, lc, lb, lo, rv, rfl, hla, hll, hlc⟩ := hl
  obtain ⟨ca, cc, cb, co, rfl, _, ⟨hcl, _⟩, _⟩ := hc
  have hixl := idxRows (c := lc) hla
  have HLC := Lib.hid hlc
  clear hv hs hla hlc
  go_enter Try.func4, Try.ntmps4
  go_wp2_with fail
  generalize hW : World.alloc _ _ = w0
  have HB : Hid (Bel w w0) := Lib.hid (by rw [← hW]; exact (((Bel.refl w).alloc _).alloc _).alloc _)
  have HX0 : Hid (Bx w0 w.heap.size [.int .i64 t.C, .int .i64 t.T, .slice ta t.op.length tc, .slice tw t.ws.length twc]) := Lib.hid (by rw [← hW]; exact ((Bx.new rfl).bel ((Bel.refl _).alloc _)).bel ((Bel.refl _).alloc _))
  have HX1 : Hid (Bx w0 (w.heap.size + 1) [.int .i64 s.w.lo, .int .i64 s.w.hi, .slice pa s.pl.length pc, .slice ba s.bo.length bc]) := Lib.hid (by rw [← hW]; exact (Bx.new (by simp)).bel ((Bel.refl _).alloc _))
  have HX2 : Hid (Bx w0 (w.heap.size + 1 + 1) [.slice la l.length lc, .int .i64 m, .slice ca cr.length cc, .int .i64 x.time, .int .i64 x.chamber, .int .i64 x.low, .int .i64 x.high]) := Lib.hid (by rw [← hW]; exact Bx.new (by simp))
  clear hW
  refine (HFA.out _ HB.out).mono ?_
  rintro e w1 ⟨rfl, hb⟩
  replace HX0 := Lib.hid (HX0.out.bel hb)
  replace HX1 := Lib.hid (HX1.out.bel hb)
  replace HX2 := Lib.hid (HX2.out.bel hb)
  replace HB := Lib.hid (HB.out.trans hb)
  clear hb
  rw [h0]
  have gx0 := HX0.out.c 0 _ rfl
  have gx1 := HX0.out.c 1 _ rfl
  have gx2 := HX0.out.c 2 _ rfl
  have gx3 := HX0.out.c 3 _ rfl
  have glx := HX0.out.lt
  go_wp2_with fail
  refine (HCK.out _ HB.out).mono ?_
  rintro e w2 ⟨rfl, hb⟩
  replace HX0 := Lib.hid (HX0.out.bel hb)
  replace HX1 := Lib.hid (HX1.out.bel hb)
  replace HX2 := Lib.hid (HX2.out.bel hb)
  replace HB := Lib.hid (HB.out.trans hb)
  clear hb
  clear gx0 gx1 gx2 gx3 glx
  rw [chk_true h1]
  have gy0 := HX1.out.c 0 _ rfl
  have gy1 := HX1.out.c 1 _ rfl
  have gy2 := HX1.out.c 2 _ rfl
  have gy3 := HX1.out.c 3 _ rfl
  have gly := HX1.out.lt
  go_wp2_with fail
  refine (HLF.out _ HB.out).mono ?_
  rintro e w3 ⟨rfl, hb⟩
  replace HX0 := Lib.hid (HX0.out.bel hb)
  replace HX1 := Lib.hid (HX1.out.bel hb)
  replace HX2 := Lib.hid (HX2.out.bel hb)
  replace HB := Lib.hid (HB.out.trans hb)
  clear hb
  clear gy0 gy1 gy2 gy3 gly
  rw [h2]
  go_wp2_with fail
  refine (HHE.out _ HB.out).mono ?_
  rintro e wz ⟨rfl, hb⟩
  have HBZ := Lib.hid (HB.out.trans hb)
  clear hb
  go_wp2
  go_ret
  exact ⟨rfl, HBZ.out⟩
end Go.Proofs.Ytkdcdhkhadhcfaa
namespace Go.Proofs.Ytkdcdhkhadhcfaa
open Go Go.RowKit
set_option maxHeartbeats 8000000
set_option maxRecDepth 100000
theorem weigh_main (t : CT) (s : LSea) (l : List (List Int)) (m : Int) (cr : List Int) (x : CW) (v vs vl vc : Value) (w : World) (hv : TrapAt w v t) (hs : SeaAt w vs s) (hl : RowsAt w vl l) (hc : IntsAt w vc cr) (h0 : FarB t = false) (h1 : validB t = true) (h2 : lfarB s = false) :
    Calls Try.prog 4 #[v, vs, .agg #[vl, .int .i64 m, vc, .int .i64 x.time, .int .i64 x.chamber, .int .i64 x.low, .int .i64 x.high]] w fun e w' => e = .returned (.bool true) ∧ Bel w w' := by
  have HV := Lib.hid hv
  have HS := Lib.hid hs
  have HL := Lib.hid hl
  have HCR := Lib.hid hc
  have HFA := Lib.hid (fun wx (hb : Bel w wx) => Far_any t v wx (hv.bel hb))
  have HCK := Lib.hid (fun wx (hb : Bel w wx) => RCheck_any t v wx (hv.bel hb))
  have HLF := Lib.hid (fun wx (hb : Bel w wx) => lfFar_any s vs wx (hs.bel hb))
  have HC5 := Lib.hid (fun wx (hb : Bel w wx) => R5Check_any s vs wx (hs.bel hb))
  have HIT := Lib.hid (fun (hval : validB t = true) wx (hb : Bel w wx) => IsTruth_any t v vl l wx (hv.bel hb) (hl.bel hb) hval)
  have HHE := Lib.hid (fun wx (_ : Bel w wx) => weighed_any wx)
  have HTO := Lib.hid (fun (hroom : Room t) wx (hb : Bel w wx) => Told_any t x v wx (hv.bel hb) hroom)
  have HWO := Lib.hid (fun (ov wv : Value) wx => IsWord_any t.C t.T x ov wv wx)
  unfold CW.val at HTO HWO
  obtain ⟨ta, tc, tw, twc, rfl, _, _⟩ := hv.formW
  obtain ⟨pa, pc, ba, bc, rfl, _, _, hpl, hbl⟩ := hs.open
  obtain ⟨la, lc, lb, lo, rv, rfl, hla, hll, hlc⟩ := hl
  obtain ⟨ca, cc, cb, co, rfl, _, ⟨hcl, _⟩, _⟩ := hc
  have hixl := idxRows (c := lc) hla
  have HLC := Lib.hid hlc
  clear hv hs hla hlc
  go_enter Try.func4, Try.ntmps4
  go_wp2_with fail
  generalize hW : World.alloc _ _ = w0
  have HB : Hid (Bel w w0) := Lib.hid (by rw [← hW]; exact (((Bel.refl w).alloc _).alloc _).alloc _)
  have HX0 : Hid (Bx w0 w.heap.size [.int .i64 t.C, .int .i64 t.T, .slice ta t.op.length tc, .slice tw t.ws.length twc]) := Lib.hid (by rw [← hW]; exact ((Bx.new rfl).bel ((Bel.refl _).alloc _)).bel ((Bel.refl _).alloc _))
  have HX1 : Hid (Bx w0 (w.heap.size + 1) [.int .i64 s.w.lo, .int .i64 s.w.hi, .slice pa s.pl.length pc, .slice ba s.bo.length bc]) := Lib.hid (by rw [← hW]; exact (Bx.new (by simp)).bel ((Bel.refl _).alloc _))
  have HX2 : Hid (Bx w0 (w.heap.size + 1 + 1) [.slice la l.length lc, .int .i64 m, .slice ca cr.length cc, .int .i64 x.time, .int .i64 x.chamber, .int .i64 x.low, .int .i64 x.high]) := Lib.hid (by rw [← hW]; exact Bx.new (by simp))
  clear hW
  refine (HFA.out _ HB.out).mono ?_
  rintro e w1 ⟨rfl, hb⟩
  replace HX0 := Lib.hid (HX0.out.bel hb)
  replace HX1 := Lib.hid (HX1.out.bel hb)
  replace HX2 := Lib.hid (HX2.out.bel hb)
  replace HB := Lib.hid (HB.out.trans hb)
  clear hb
  rw [h0]
  have gx0 := HX0.out.c 0 _ rfl
  have gx1 := HX0.out.c 1 _ rfl
  have gx2 := HX0.out.c 2 _ rfl
  have gx3 := HX0.out.c 3 _ rfl
  have glx := HX0.out.lt
  go_wp2_with fail
  refine (HCK.out _ HB.out).mono ?_
  rintro e w2 ⟨rfl, hb⟩
  replace HX0 := Lib.hid (HX0.out.bel hb)
  replace HX1 := Lib.hid (HX1.out.bel hb)
  replace HX2 := Lib.hid (HX2.out.bel hb)
  replace HB := Lib.hid (HB.out.trans hb)
  clear hb
  clear gx0 gx1 gx2 gx3 glx
  rw [chk_true h1]
  have gy0 := HX1.out.c 0 _ rfl
  have gy1 := HX1.out.c 1 _ rfl
  have gy2 := HX1.out.c 2 _ rfl
  have gy3 := HX1.out.c 3 _ rfl
  have gly := HX1.out.lt
  go_wp2_with fail
  refine (HLF.out _ HB.out).mono ?_
  rintro e w3 ⟨rfl, hb⟩
  replace HX0 := Lib.hid (HX0.out.bel hb)
  replace HX1 := Lib.hid (HX1.out.bel hb)
  replace HX2 := Lib.hid (HX2.out.bel hb)
  replace HB := Lib.hid (HB.out.trans hb)
  clear hb
  clear gy0 gy1 gy2 gy3 gly
  rw [h2]
  have gy0 := HX1.out.c 0 _ rfl
  have gy1 := HX1.out.c 1 _ rfl
  have gy2 := HX1.out.c 2 _ rfl
  have gy3 := HX1.out.c 3 _ rfl
  have gly := HX1.out.lt
  go_wp2_with fail
  refine (HC5.out _ HB.out).mono ?_
  rintro e w4 ⟨r, rfl, hr, hb⟩
  replace HX0 := Lib.hid (HX0.out.bel hb)
  replace HX1 := Lib.hid (HX1.out.bel hb)
  replace HX2 := Lib.hid (HX2.out.bel hb)
  replace HB := Lib.hid (HB.out.trans hb)
  have HR := Lib.hid hr
  clear hr
  clear hb
  clear gy0 gy1 gy2 gy3 gly
  by_cases q3 : r = 0
  rotate_left
  · have d3 : (r != 0) = true := by rw [bne_iff_ne]; exact q3
    go_wp2_with fail
    refine (HHE.out _ HB.out).mono ?_
    rintro e wz ⟨rfl, hb⟩
    have HBZ := Lib.hid (HB.out.trans hb)
    clear hb
    go_wp2
    go_ret
    exact ⟨rfl, HBZ.out⟩
  subst q3
  have hok := HR.out rfl
  have HOK := Lib.hid hok
  clear hok HR
  by_cases q4 : (40 : Int) < (l.length : Int)
  · have d4 : decide ((40 : Int) < (l.length : Int)) = true := decide_eq_true q4
    have gz0 := HX2.out.c 0 _ rfl
    have gz1 := HX2.out.c 1 _ rfl
    have gz2 := HX2.out.c 2 _ rfl
    have gz3 := HX2.out.c 3 _ rfl
    have gz4 := HX2.out.c 4 _ rfl
    have gz5 := HX2.out.c 5 _ rfl
    have gz6 := HX2.out.c 6 _ rfl
    have glz := HX2.out.lt
    go_wp2_with fail
    refine (HHE.out _ HB.out).mono ?_
    rintro e wz ⟨rfl, hb⟩
    have HBZ := Lib.hid (HB.out.trans hb)
    clear hb
    go_wp2
    go_ret
    exact ⟨rfl, HBZ.out⟩
  have d4 : decide ((40 : Int) < (l.length : Int)) = false := decide_eq_false q4
  by_cases q5 : (40 : Int) < (cr.length : Int)
  · have d5 : decide ((40 : Int) < (cr.length : Int)) = true := decide_eq_true q5
    have gz0 := HX2.out.c 0 _ rfl
    have gz1 := HX2.out.c 1 _ rfl
    have gz2 := HX2.out.c 2 _ rfl
    have gz3 := HX2.out.c 3 _ rfl
    have gz4 := HX2.out.c 4 _ rfl
    have gz5 := HX2.out.c 5 _ rfl
    have gz6 := HX2.out.c 6 _ rfl
    have glz := HX2.out.lt
    go_wp2_with fail
    refine (HHE.out _ HB.out).mono ?_
    rintro e wz ⟨rfl, hb⟩
    have HBZ := Lib.hid (HB.out.trans hb)
    clear hb
    go_wp2
    go_ret
    exact ⟨rfl, HBZ.out⟩
  have d5 : decide ((40 : Int) < (cr.length : Int)) = false := decide_eq_false q5
  have gz0 := HX2.out.c 0 _ rfl
  have gz1 := HX2.out.c 1 _ rfl
  have gz2 := HX2.out.c 2 _ rfl
  have gz3 := HX2.out.c 3 _ rfl
  have gz4 := HX2.out.c 4 _ rfl
  have gz5 := HX2.out.c 5 _ rfl
  have gz6 := HX2.out.c 6 _ rfl
  have glz := HX2.out.lt
  go_wp2_with fail
  refine (Within_any _ _ _ _).mono ?_
  rintro e w9 ⟨rfl, rfl⟩
  clear gz0 gz1 gz2 gz3 gz4 gz5 gz6 glz
  cases q6 : withinB m 0 50
  · skip
    go_wp2_with fail
    refine (HHE.out _ HB.out).mono ?_
    rintro e wz ⟨rfl, hb⟩
    have HBZ := Lib.hid (HB.out.trans hb)
    clear hb
    go_wp2
    go_ret
    exact ⟨rfl, HBZ.out⟩
  have hm := withinB_true.1 q6
  have gx0 := HX0.out.c 0 _ rfl
  have gx1 := HX0.out.c 1 _ rfl
  have gx2 := HX0.out.c 2 _ rfl
  have gx3 := HX0.out.c 3 _ rfl
  have glx := HX0.out.lt
  have gz0 := HX2.out.c 0 _ rfl
  have gz1 := HX2.out.c 1 _ rfl
  have gz2 := HX2.out.c 2 _ rfl
  have gz3 := HX2.out.c 3 _ rfl
  have gz4 := HX2.out.c 4 _ rfl
  have gz5 := HX2.out.c 5 _ rfl
  have gz6 := HX2.out.c 6 _ rfl
  have glz := HX2.out.lt
  go_wp2_with fail
  refine (HIT.out h1 _ HB.out).mono ?_
  rintro e w5 ⟨b7, rfl, hiff, hb⟩
  replace HX0 := Lib.hid (HX0.out.bel hb)
  replace HX1 := Lib.hid (HX1.out.bel hb)
  replace HX2 := Lib.hid (HX2.out.bel hb)
  replace HB := Lib.hid (HB.out.trans hb)
  clear hb
  clear gx0 gx1 gx2 gx3 glx gz0 gz1 gz2 gz3 gz4 gz5 gz6 glz
  cases b7
  · skip
    go_wp2_with fail
    refine (HHE.out _ HB.out).mono ?_
    rintro e wz ⟨rfl, hb⟩
    have HBZ := Lib.hid (HB.out.trans hb)
    clear hb
    go_wp2
    go_ret
    exact ⟨rfl, HBZ.out⟩
  have ht := hiff.1 rfl
  have hf := fit_of_valid h1
  have hroom : Room t := room_small (by cases e : HugeB t with | false => rfl | true => (unfold FarB at h0; rw [e] at h0; cases h0))
  obtain ⟨bb1, bb2, bb3, bb4⟩ := last_b h1 ht
  have HLF1 := Lib.hid (fun vx wx (hx : TrapAt wx vx t) => lastFish_any t l vx wx hx h1 ht)
  have HLF2 := Lib.hid (fun (hvo : validB (told t x) = true) (ho : IsT (told t x) l) vx wx (hx : TrapAt wx vx (told t x)) => lastFish_any (told t x) l vx wx hx hvo ho)
  have HLB2 := Lib.hid (fun (hvo : validB (told t x) = true) (ho : IsT (told t x) l) => And.intro (last_b hvo ho) (last_told h1 hvo ho))
  have HWC := Lib.hid (fun lo2 hi2 (a1 : 0 ≤ lo2) (a2 : lo2 ≤ hi2) (a3 : hi2 ≤ 40) vx wx (hx : SeaAt wx vx s) => withCatch_any s lo2 hi2 m vx wx HOK.out a1 a2 a3 hm hx)
  have HSU := Lib.hid (fun a b a2 b2 (p1 : 0 ≤ a) (p2 : a ≤ b) (p3 : b ≤ 40) (p4 : 0 ≤ a2) (p5 : a2 ≤ b2) (p6 : b2 ≤ 40) (p7 : a2 ≤ a) (p8 : b ≤ b2) va vb wx (ha : SeaAt wx va (catchS s a b m)) (hb : SeaAt wx vb (catchS s a2 b2 m)) (hcx : IntsAt wx (.slice ca cr.length cc) cr) => surer_any (catchS s a b m) (catchS s a2 b2 m) cr va vb _ wx (catch_ok HOK.out p1 p2 p3 hm) (catch_ok HOK.out p4 p5 p6 hm) (catch_nar p7 p8 hm.1) (by omega) ha hb hcx)
  obtain ⟨i, hi⟩ : ∃ i : Nat, t.T.toNat = i + 1 := ⟨t.T.toNat - 1, by have := hf.t1; omega⟩
  obtain ⟨c, hcc⟩ : ∃ c : Nat, t.C.toNat = c + 1 := ⟨t.C.toNat - 1, by have := hf.c1; omega⟩
  have hT1 : IntKind.i64.wrap (t.T - 1) = (i : Int) := by have := hf.t1; have := hf.t2; rw [IntWalk.i64_in] <;> omega
  have hC1 : IntKind.i64.wrap (t.C - 1) = (c : Int) := by have := hf.c1; have := hf.c2; rw [IntWalk.i64_in] <;> omega
  have hil : i < l.length := by rw [ht.len]; omega
  have hrl : c < (atL l i).length := by rw [(ht.row i (by omega)).len]; omega
  have HN2 := Lib.hid (show lastN (told t x) l = lastN t l from rfl)
  have HNN := Lib.hid (show lastN t l = at0 (atL l i) c by unfold lastN; rw [hi, hcc]; rfl)
  have HROW := Lib.hid (HLC.out i hil)
  obtain ⟨ra, rc, rb, ro, hrv, hra, ⟨hrll, _⟩, hrc⟩ := HROW.out.2
  have hixr := idxInts (c := rc) hra
  have HRC := Lib.hid (hrc c hrl)
  have HRV := Lib.hid (HROW.out.1)
  rw [hrv] at HRV
  have HVAL := Lib.hid h1
  have HROOM := Lib.hid hroom
  generalize hrll2 : (atL l i).length = RL at *
  clear hrll2 hrv hra hrc HROW
  rw [← HNN.out] at HRC
  generalize lastN t l = NN at *
  generalize lastLo t = LO at *
  generalize lastHi t = HI at *
  clear HNN h0 h1 h2 q4 d4 q5 d5 q6 hiff ht hf hroom hi hcc HFA HCK HLF HC5 HIT hll
  have gx0 := HX0.out.c 0 _ rfl
  have gx1 := HX0.out.c 1 _ rfl
  have gx2 := HX0.out.c 2 _ rfl
  have gx3 := HX0.out.c 3 _ rfl
  have glx := HX0.out.lt
  go_wp2_with fail
  refine (HLF1.out _ _ (HV.out.bel HB.out)).mono ?_
  rintro e w6 ⟨rfl, hb⟩
  replace HX0 := Lib.hid (HX0.out.bel hb)
  replace HX1 := Lib.hid (HX1.out.bel hb)
  replace HX2 := Lib.hid (HX2.out.bel hb)
  replace HB := Lib.hid (HB.out.trans hb)
  clear hb
  clear gx0 gx1 gx2 gx3 glx
  go_upto_region 4 with fail
  generalize hW : World.alloc _ _ = wo6
  have hb : Bel w6 wo6 := by rw [← hW]; exact (Bel.refl _).alloc _
  have HX3 : Hid (Bx wo6 w6.heap.size [.int .i64 LO, .int .i64 HI]) := Lib.hid (by rw [← hW]; exact Bx.new rfl)
  clear hW
  replace HX0 := Lib.hid (HX0.out.bel hb)
  replace HX1 := Lib.hid (HX1.out.bel hb)
  replace HX2 := Lib.hid (HX2.out.bel hb)
  replace HB := Lib.hid (HB.out.trans hb)
  clear hb
  have gx0 := HX0.out.c 0 _ rfl
  have gx1 := HX0.out.c 1 _ rfl
  have gx2 := HX0.out.c 2 _ rfl
  have gx3 := HX0.out.c 3 _ rfl
  have glx := HX0.out.lt
  have gz0 := HX2.out.c 0 _ rfl
  have gz1 := HX2.out.c 1 _ rfl
  have gz2 := HX2.out.c 2 _ rfl
  have gz3 := HX2.out.c 3 _ rfl
  have gz4 := HX2.out.c 4 _ rfl
  have gz5 := HX2.out.c 5 _ rfl
  have gz6 := HX2.out.c 6 _ rfl
  have glz := HX2.out.lt
  have r0 := HB.out.cell HRV.out
  have r1 := HB.out.cell HRC.out
  have lr0 := cell_lt r0
  have lr1 := cell_lt r1
  refine wp_region_mixB (Plan.seq [0, 1, 2, 3, 4, 5, 6, 7, 8, 9, 10, 11, 12] .nil) (by kernel_rfl) (by kernel_rfl) (fun hcur => ?_)
  simp only [Plan.seq, Plan.fill, List.getD_cons_zero, List.getD_cons_succ, Nat.reduceLT, ↓reduceIte]
  apply mix_pure _ rfl
  · intro w' hw'
    have hcr := hw'.cells
    go_simp
    rfl
  intro K hK
  go_simp
  refine hK _ ?_
  clear hK K
  apply mix_pure _ rfl
  · intro w' hw'
    have hcr := hw'.cells
    go_simp
    rfl
  intro K hK
  go_simp
  refine hK _ ?_
  clear hK K
  apply mix_pure _ rfl
  · intro w' hw'
    have hcr := hw'.cells
    go_simp
    rfl
  intro K hK
  go_simp
  refine hK _ ?_
  clear hK K
  apply mix_pure _ rfl
  · intro w' hw'
    have hcr := hw'.cells
    go_simp
    rfl
  intro K hK
  go_simp
  refine hK _ ?_
  clear hK K
  apply mix_pure _ rfl
  · intro w' hw'
    have hcr := hw'.cells
    go_simp
    first | rfl | (rw [hT1]; rfl)
  intro K hK
  go_simp
  refine hK _ ?_
  clear hK K
  apply mix_pure _ rfl
  · intro w' hw'
    have hcr := hw'.cells
    go_simp
    rfl
  intro K hK
  go_simp
  refine hK _ ?_
  clear hK K
  apply mix_pure _ rfl
  · intro w' hw'
    have hcr := hw'.cells
    go_simp
    rfl
  intro K hK
  go_simp
  refine hK _ ?_
  clear hK K
  apply mix_pure _ rfl
  · intro w' hw'
    have hcr := hw'.cells
    go_simp
    rfl
  intro K hK
  go_simp
  refine hK _ ?_
  clear hK K
  apply mix_pure _ rfl
  · intro w' hw'
    have hcr := hw'.cells
    go_simp
    rfl
  intro K hK
  go_simp
  refine hK _ ?_
  clear hK K
  apply mix_pure _ rfl
  · intro w' hw'
    have hcr := hw'.cells
    go_simp
    first | rfl | (rw [hC1]; rfl)
  intro K hK
  go_simp
  refine hK _ ?_
  clear hK K
  apply mix_pure _ rfl
  · intro w' hw'
    have hcr := hw'.cells
    go_simp
    rfl
  intro K hK
  go_simp
  refine hK _ ?_
  clear hK K
  apply mix_pure _ rfl
  · intro w' hw'
    have hcr := hw'.cells
    go_simp
    rfl
  intro K hK
  go_simp
  refine hK _ ?_
  clear hK K
  apply mix_pure _ rfl
  · intro w' hw'
    have hcr := hw'.cells
    go_simp
    rfl
  intro K hK
  go_simp
  refine hK _ ?_
  clear hK K
  refine mix_nil ?_
  replace HX0 := Lib.hid (HX0.out.bel hcur)
  replace HX1 := Lib.hid (HX1.out.bel hcur)
  replace HX2 := Lib.hid (HX2.out.bel hcur)
  replace HX3 := Lib.hid (HX3.out.bel hcur)
  replace HB := Lib.hid (HB.out.trans hcur)
  clear hcur r0 r1 lr0 lr1
  clear gx0 gx1 gx2 gx3 glx gz0 gz1 gz2 gz3 gz4 gz5 gz6 glz
  have dn1 : decide (NN < LO) = false := decide_eq_false (by omega)
  have dn2 : decide (HI < NN) = false := decide_eq_false (by omega)
  have gy0 := HX1.out.c 0 _ rfl
  have gy1 := HX1.out.c 1 _ rfl
  have gy2 := HX1.out.c 2 _ rfl
  have gy3 := HX1.out.c 3 _ rfl
  have gly := HX1.out.lt
  have gz0 := HX2.out.c 0 _ rfl
  have gz1 := HX2.out.c 1 _ rfl
  have gz2 := HX2.out.c 2 _ rfl
  have gz3 := HX2.out.c 3 _ rfl
  have gz4 := HX2.out.c 4 _ rfl
  have gz5 := HX2.out.c 5 _ rfl
  have gz6 := HX2.out.c 6 _ rfl
  have glz := HX2.out.lt
  have ga0 := HX3.out.c 0 _ rfl
  have ga1 := HX3.out.c 1 _ rfl
  have gla := HX3.out.lt
  go_wp2_with fail
  refine (HWC.out LO HI bb1 (by omega) bb4 _ _ (HS.out.bel HB.out)).mono ?_
  rintro e w7 ⟨v1, rfl, hs1, hb⟩
  replace HX0 := Lib.hid (HX0.out.bel hb)
  replace HX1 := Lib.hid (HX1.out.bel hb)
  replace HX2 := Lib.hid (HX2.out.bel hb)
  replace HX3 := Lib.hid (HX3.out.bel hb)
  replace HB := Lib.hid (HB.out.trans hb)
  have HS1 := Lib.hid hs1
  obtain ⟨pa1, pc1, ba1, bc1, rfl, _, _, _, _⟩ := hs1.open
  clear hs1
  clear hb
  clear gy0 gy1 gy2 gy3 gly gz0 gz1 gz2 gz3 gz4 gz5 gz6 glz ga0 ga1 gla
  go_upto_region 8 with fail
  generalize hW : World.alloc _ _ = wo7
  have hb : Bel w7 wo7 := by rw [← hW]; exact (Bel.refl _).alloc _
  have HX4 : Hid (Bx wo7 w7.heap.size [.int .i64 (catchS s LO HI m).w.lo, .int .i64 (catchS s LO HI m).w.hi, .slice pa1 (catchS s LO HI m).pl.length pc1, .slice ba1 (catchS s LO HI m).bo.length bc1]) := Lib.hid (by rw [← hW]; exact Bx.new rfl)
  clear hW
  replace HX0 := Lib.hid (HX0.out.bel hb)
  replace HX1 := Lib.hid (HX1.out.bel hb)
  replace HX2 := Lib.hid (HX2.out.bel hb)
  replace HX3 := Lib.hid (HX3.out.bel hb)
  replace HS1 := Lib.hid (HS1.out.bel hb)
  replace HB := Lib.hid (HB.out.trans hb)
  clear hb
  have gy0 := HX1.out.c 0 _ rfl
  have gy1 := HX1.out.c 1 _ rfl
  have gy2 := HX1.out.c 2 _ rfl
  have gy3 := HX1.out.c 3 _ rfl
  have gly := HX1.out.lt
  have gz0 := HX2.out.c 0 _ rfl
  have gz1 := HX2.out.c 1 _ rfl
  have gz2 := HX2.out.c 2 _ rfl
  have gz3 := HX2.out.c 3 _ rfl
  have gz4 := HX2.out.c 4 _ rfl
  have gz5 := HX2.out.c 5 _ rfl
  have gz6 := HX2.out.c 6 _ rfl
  have glz := HX2.out.lt
  go_wp2_with fail
  refine (HWC.out NN NN (by omega) (by omega) (by omega) _ _ (HS.out.bel HB.out)).mono ?_
  rintro e w8 ⟨v2, rfl, hs2, hb⟩
  replace HX0 := Lib.hid (HX0.out.bel hb)
  replace HX1 := Lib.hid (HX1.out.bel hb)
  replace HX2 := Lib.hid (HX2.out.bel hb)
  replace HX3 := Lib.hid (HX3.out.bel hb)
  replace HX4 := Lib.hid (HX4.out.bel hb)
  replace HS1 := Lib.hid (HS1.out.bel hb)
  replace HB := Lib.hid (HB.out.trans hb)
  have HS2 := Lib.hid hs2
  obtain ⟨pa2, pc2, ba2, bc2, rfl, _, _, _, _⟩ := hs2.open
  clear hs2
  clear hb
  clear gy0 gy1 gy2 gy3 gly gz0 gz1 gz2 gz3 gz4 gz5 gz6 glz
  go_upto_region 9 with fail
  generalize hW : World.alloc _ _ = wo8
  have hb : Bel w8 wo8 := by rw [← hW]; exact (Bel.refl _).alloc _
  have HX5 : Hid (Bx wo8 w8.heap.size [.int .i64 (catchS s NN NN m).w.lo, .int .i64 (catchS s NN NN m).w.hi, .slice pa2 (catchS s NN NN m).pl.length pc2, .slice ba2 (catchS s NN NN m).bo.length bc2]) := Lib.hid (by rw [← hW]; exact Bx.new rfl)
  clear hW
  replace HX0 := Lib.hid (HX0.out.bel hb)
  replace HX1 := Lib.hid (HX1.out.bel hb)
  replace HX2 := Lib.hid (HX2.out.bel hb)
  replace HX3 := Lib.hid (HX3.out.bel hb)
  replace HX4 := Lib.hid (HX4.out.bel hb)
  replace HS1 := Lib.hid (HS1.out.bel hb)
  replace HS2 := Lib.hid (HS2.out.bel hb)
  replace HB := Lib.hid (HB.out.trans hb)
  clear hb
  have gz0 := HX2.out.c 0 _ rfl
  have gz1 := HX2.out.c 1 _ rfl
  have gz2 := HX2.out.c 2 _ rfl
  have gz3 := HX2.out.c 3 _ rfl
  have gz4 := HX2.out.c 4 _ rfl
  have gz5 := HX2.out.c 5 _ rfl
  have gz6 := HX2.out.c 6 _ rfl
  have glz := HX2.out.lt
  have gb0 := HX4.out.c 0 _ rfl
  have gb1 := HX4.out.c 1 _ rfl
  have gb2 := HX4.out.c 2 _ rfl
  have gb3 := HX4.out.c 3 _ rfl
  have glb := HX4.out.lt
  have gc0 := HX5.out.c 0 _ rfl
  have gc1 := HX5.out.c 1 _ rfl
  have gc2 := HX5.out.c 2 _ rfl
  have gc3 := HX5.out.c 3 _ rfl
  have glc := HX5.out.lt
  go_wp2_with fail
  refine (HSU.out NN NN LO HI (by omega) (by omega) (by omega) bb1 (by omega) bb4 bb2 bb3 _ _ _ HS2.out HS1.out (HCR.out.bel HB.out)).mono ?_
  rintro e w9 ⟨rfl, hb⟩
  replace HX0 := Lib.hid (HX0.out.bel hb)
  replace HX1 := Lib.hid (HX1.out.bel hb)
  replace HX2 := Lib.hid (HX2.out.bel hb)
  replace HX3 := Lib.hid (HX3.out.bel hb)
  replace HX4 := Lib.hid (HX4.out.bel hb)
  replace HX5 := Lib.hid (HX5.out.bel hb)
  replace HS1 := Lib.hid (HS1.out.bel hb)
  replace HS2 := Lib.hid (HS2.out.bel hb)
  replace HB := Lib.hid (HB.out.trans hb)
  clear hb
  clear gz0 gz1 gz2 gz3 gz4 gz5 gz6 glz gb0 gb1 gb2 gb3 glb gc0 gc1 gc2 gc3 glc
  have gx0 := HX0.out.c 0 _ rfl
  have gx1 := HX0.out.c 1 _ rfl
  have gx2 := HX0.out.c 2 _ rfl
  have gx3 := HX0.out.c 3 _ rfl
  have glx := HX0.out.lt
  have gz0 := HX2.out.c 0 _ rfl
  have gz1 := HX2.out.c 1 _ rfl
  have gz2 := HX2.out.c 2 _ rfl
  have gz3 := HX2.out.c 3 _ rfl
  have gz4 := HX2.out.c 4 _ rfl
  have gz5 := HX2.out.c 5 _ rfl
  have gz6 := HX2.out.c 6 _ rfl
  have glz := HX2.out.lt
  go_wp2_with fail
  refine (HWO.out _ _ _).mono ?_
  rintro e w10 ⟨rfl, hb⟩
  replace HX0 := Lib.hid (HX0.out.bel hb)
  replace HX1 := Lib.hid (HX1.out.bel hb)
  replace HX2 := Lib.hid (HX2.out.bel hb)
  replace HX3 := Lib.hid (HX3.out.bel hb)
  replace HX4 := Lib.hid (HX4.out.bel hb)
  replace HX5 := Lib.hid (HX5.out.bel hb)
  replace HS1 := Lib.hid (HS1.out.bel hb)
  replace HS2 := Lib.hid (HS2.out.bel hb)
  replace HB := Lib.hid (HB.out.trans hb)
  clear hb
  clear gx0 gx1 gx2 gx3 glx gz0 gz1 gz2 gz3 gz4 gz5 gz6 glz
  cases h8 : isWordB t.C t.T x
  · skip
    go_wp2_with fail
    refine (HHE.out _ HB.out).mono ?_
    rintro e wz ⟨rfl, hb⟩
    have HBZ := Lib.hid (HB.out.trans hb)
    clear hb
    go_wp2
    go_ret
    exact ⟨rfl, HBZ.out⟩
  have gx0 := HX0.out.c 0 _ rfl
  have gx1 := HX0.out.c 1 _ rfl
  have gx2 := HX0.out.c 2 _ rfl
  have gx3 := HX0.out.c 3 _ rfl
  have glx := HX0.out.lt
  have gz0 := HX2.out.c 0 _ rfl
  have gz1 := HX2.out.c 1 _ rfl
  have gz2 := HX2.out.c 2 _ rfl
  have gz3 := HX2.out.c 3 _ rfl
  have gz4 := HX2.out.c 4 _ rfl
  have gz5 := HX2.out.c 5 _ rfl
  have gz6 := HX2.out.c 6 _ rfl
  have glz := HX2.out.lt
  go_wp2_with fail
  refine (HTO.out HROOM.out _ HB.out).mono ?_
  rintro e w11 ⟨vo, rfl, hb, ho⟩
  replace HX0 := Lib.hid (HX0.out.bel hb)
  replace HX1 := Lib.hid (HX1.out.bel hb)
  replace HX2 := Lib.hid (HX2.out.bel hb)
  replace HX3 := Lib.hid (HX3.out.bel hb)
  replace HX4 := Lib.hid (HX4.out.bel hb)
  replace HX5 := Lib.hid (HX5.out.bel hb)
  replace HS1 := Lib.hid (HS1.out.bel hb)
  replace HS2 := Lib.hid (HS2.out.bel hb)
  replace HB := Lib.hid (HB.out.trans hb)
  have HO := Lib.hid ho.now
  obtain ⟨oa, oc, owa, owc, rfl⟩ := ho.shape
  clear ho
  clear hb
  clear gx0 gx1 gx2 gx3 glx gz0 gz1 gz2 gz3 gz4 gz5 gz6 glz
  go_upto_region 14 with fail
  generalize hW : World.alloc _ _ = wo11
  have hb : Bel w11 wo11 := by rw [← hW]; exact (Bel.refl _).alloc _
  have HX6 : Hid (Bx wo11 w11.heap.size [.int .i64 (told t x).C, .int .i64 (told t x).T, .slice oa (told t x).op.length oc, .slice owa (told t x).ws.length owc]) := Lib.hid (by rw [← hW]; exact Bx.new rfl)
  clear hW
  replace HX0 := Lib.hid (HX0.out.bel hb)
  replace HX1 := Lib.hid (HX1.out.bel hb)
  replace HX2 := Lib.hid (HX2.out.bel hb)
  replace HX3 := Lib.hid (HX3.out.bel hb)
  replace HX4 := Lib.hid (HX4.out.bel hb)
  replace HX5 := Lib.hid (HX5.out.bel hb)
  replace HS1 := Lib.hid (HS1.out.bel hb)
  replace HS2 := Lib.hid (HS2.out.bel hb)
  replace HO := Lib.hid (HO.out.bel hb)
  replace HB := Lib.hid (HB.out.trans hb)
  clear hb
  have go0 := HX6.out.c 0 _ rfl
  have go1 := HX6.out.c 1 _ rfl
  have go2 := HX6.out.c 2 _ rfl
  have go3 := HX6.out.c 3 _ rfl
  have glo := HX6.out.lt
  go_wp2_with fail
  refine (RCheck_any (told t x) _ _ HO.out).mono ?_
  rintro e w12 ⟨rfl, hb⟩
  replace HX0 := Lib.hid (HX0.out.bel hb)
  replace HX1 := Lib.hid (HX1.out.bel hb)
  replace HX2 := Lib.hid (HX2.out.bel hb)
  replace HX3 := Lib.hid (HX3.out.bel hb)
  replace HX4 := Lib.hid (HX4.out.bel hb)
  replace HX5 := Lib.hid (HX5.out.bel hb)
  replace HX6 := Lib.hid (HX6.out.bel hb)
  replace HS1 := Lib.hid (HS1.out.bel hb)
  replace HS2 := Lib.hid (HS2.out.bel hb)
  replace HO := Lib.hid (HO.out.bel hb)
  replace HB := Lib.hid (HB.out.trans hb)
  clear hb
  clear go0 go1 go2 go3 glo
  cases h9 : validB (told t x)
  · rw [chk_false h9]
    go_wp2_with fail
    refine (HHE.out _ HB.out).mono ?_
    rintro e wz ⟨rfl, hb⟩
    have HBZ := Lib.hid (HB.out.trans hb)
    clear hb
    go_wp2
    go_ret
    exact ⟨rfl, HBZ.out⟩
  rw [chk_true h9]
  have gz0 := HX2.out.c 0 _ rfl
  have gz1 := HX2.out.c 1 _ rfl
  have gz2 := HX2.out.c 2 _ rfl
  have gz3 := HX2.out.c 3 _ rfl
  have gz4 := HX2.out.c 4 _ rfl
  have gz5 := HX2.out.c 5 _ rfl
  have gz6 := HX2.out.c 6 _ rfl
  have glz := HX2.out.lt
  have go0 := HX6.out.c 0 _ rfl
  have go1 := HX6.out.c 1 _ rfl
  have go2 := HX6.out.c 2 _ rfl
  have go3 := HX6.out.c 3 _ rfl
  have glo := HX6.out.lt
  go_wp2_with fail
  refine (IsTruth_any (told t x) _ _ l _ HO.out (HL.out.bel HB.out) h9).mono ?_
  rintro e w13 ⟨b8, rfl, hio, hb⟩
  replace HX0 := Lib.hid (HX0.out.bel hb)
  replace HX1 := Lib.hid (HX1.out.bel hb)
  replace HX2 := Lib.hid (HX2.out.bel hb)
  replace HX3 := Lib.hid (HX3.out.bel hb)
  replace HX4 := Lib.hid (HX4.out.bel hb)
  replace HX5 := Lib.hid (HX5.out.bel hb)
  replace HX6 := Lib.hid (HX6.out.bel hb)
  replace HS1 := Lib.hid (HS1.out.bel hb)
  replace HS2 := Lib.hid (HS2.out.bel hb)
  replace HO := Lib.hid (HO.out.bel hb)
  replace HB := Lib.hid (HB.out.trans hb)
  clear hb
  clear gz0 gz1 gz2 gz3 gz4 gz5 gz6 glz go0 go1 go2 go3 glo
  cases b8
  · skip
    go_wp2_with fail
    refine (HHE.out _ HB.out).mono ?_
    rintro e wz ⟨rfl, hb⟩
    have HBZ := Lib.hid (HB.out.trans hb)
    clear hb
    go_wp2
    go_ret
    exact ⟨rfl, HBZ.out⟩
  have ho := hio.1 rfl
  have HLF3 := Lib.hid (HLF2.out h9 ho)
  obtain ⟨⟨e1, e2, e3, e4⟩, e5, e6⟩ := HLB2.out h9 ho
  clear hio ho h8 h9 HLF1 HLF2 HLB2 HVAL HROOM
  have hNN : lastN (told t x) l = NN := HN2.out
  rw [hNN] at e2 e3
  clear hNN
  generalize lastLo (told t x) = LO2 at *
  generalize lastHi (told t x) = HI2 at *
  have go0 := HX6.out.c 0 _ rfl
  have go1 := HX6.out.c 1 _ rfl
  have go2 := HX6.out.c 2 _ rfl
  have go3 := HX6.out.c 3 _ rfl
  have glo := HX6.out.lt
  go_wp2_with fail
  refine (HLF3.out _ _ HO.out).mono ?_
  rintro e w14 ⟨rfl, hb⟩
  replace HX0 := Lib.hid (HX0.out.bel hb)
  replace HX1 := Lib.hid (HX1.out.bel hb)
  replace HX2 := Lib.hid (HX2.out.bel hb)
  replace HX3 := Lib.hid (HX3.out.bel hb)
  replace HX4 := Lib.hid (HX4.out.bel hb)
  replace HX5 := Lib.hid (HX5.out.bel hb)
  replace HX6 := Lib.hid (HX6.out.bel hb)
  replace HS1 := Lib.hid (HS1.out.bel hb)
  replace HS2 := Lib.hid (HS2.out.bel hb)
  replace HO := Lib.hid (HO.out.bel hb)
  replace HB := Lib.hid (HB.out.trans hb)
  clear hb
  clear go0 go1 go2 go3 glo
  go_upto_region 17 with fail
  generalize hW : World.alloc _ _ = wo14
  have hb : Bel w14 wo14 := by rw [← hW]; exact (Bel.refl _).alloc _
  have HX7 : Hid (Bx wo14 w14.heap.size [.int .i64 LO2, .int .i64 HI2]) := Lib.hid (by rw [← hW]; exact Bx.new rfl)
  clear hW
  replace HX0 := Lib.hid (HX0.out.bel hb)
  replace HX1 := Lib.hid (HX1.out.bel hb)
  replace HX2 := Lib.hid (HX2.out.bel hb)
  replace HX3 := Lib.hid (HX3.out.bel hb)
  replace HX4 := Lib.hid (HX4.out.bel hb)
  replace HX5 := Lib.hid (HX5.out.bel hb)
  replace HX6 := Lib.hid (HX6.out.bel hb)
  replace HS1 := Lib.hid (HS1.out.bel hb)
  replace HS2 := Lib.hid (HS2.out.bel hb)
  replace HO := Lib.hid (HO.out.bel hb)
  replace HB := Lib.hid (HB.out.trans hb)
  clear hb
  have gy0 := HX1.out.c 0 _ rfl
  have gy1 := HX1.out.c 1 _ rfl
  have gy2 := HX1.out.c 2 _ rfl
  have gy3 := HX1.out.c 3 _ rfl
  have gly := HX1.out.lt
  have gz0 := HX2.out.c 0 _ rfl
  have gz1 := HX2.out.c 1 _ rfl
  have gz2 := HX2.out.c 2 _ rfl
  have gz3 := HX2.out.c 3 _ rfl
  have gz4 := HX2.out.c 4 _ rfl
  have gz5 := HX2.out.c 5 _ rfl
  have gz6 := HX2.out.c 6 _ rfl
  have glz := HX2.out.lt
  have gp0 := HX7.out.c 0 _ rfl
  have gp1 := HX7.out.c 1 _ rfl
  have glp := HX7.out.lt
  go_wp2_with fail
  refine (HWC.out LO2 HI2 e1 (by omega) e4 _ _ (HS.out.bel HB.out)).mono ?_
  rintro e w15 ⟨v3, rfl, hs3, hb⟩
  replace HX0 := Lib.hid (HX0.out.bel hb)
  replace HX1 := Lib.hid (HX1.out.bel hb)
  replace HX2 := Lib.hid (HX2.out.bel hb)
  replace HX3 := Lib.hid (HX3.out.bel hb)
  replace HX4 := Lib.hid (HX4.out.bel hb)
  replace HX5 := Lib.hid (HX5.out.bel hb)
  replace HX6 := Lib.hid (HX6.out.bel hb)
  replace HX7 := Lib.hid (HX7.out.bel hb)
  replace HS1 := Lib.hid (HS1.out.bel hb)
  replace HS2 := Lib.hid (HS2.out.bel hb)
  replace HO := Lib.hid (HO.out.bel hb)
  replace HB := Lib.hid (HB.out.trans hb)
  have HS3 := Lib.hid hs3
  obtain ⟨pa3, pc3, ba3, bc3, rfl, _, _, _, _⟩ := hs3.open
  clear hs3
  clear hb
  clear gy0 gy1 gy2 gy3 gly gz0 gz1 gz2 gz3 gz4 gz5 gz6 glz gp0 gp1 glp
  go_upto_region 20 with fail
  generalize hW : World.alloc _ _ = wo15
  have hb : Bel w15 wo15 := by rw [← hW]; exact (Bel.refl _).alloc _
  have HX8 : Hid (Bx wo15 w15.heap.size [.int .i64 (catchS s LO2 HI2 m).w.lo, .int .i64 (catchS s LO2 HI2 m).w.hi, .slice pa3 (catchS s LO2 HI2 m).pl.length pc3, .slice ba3 (catchS s LO2 HI2 m).bo.length bc3]) := Lib.hid (by rw [← hW]; exact Bx.new rfl)
  clear hW
  replace HX0 := Lib.hid (HX0.out.bel hb)
  replace HX1 := Lib.hid (HX1.out.bel hb)
  replace HX2 := Lib.hid (HX2.out.bel hb)
  replace HX3 := Lib.hid (HX3.out.bel hb)
  replace HX4 := Lib.hid (HX4.out.bel hb)
  replace HX5 := Lib.hid (HX5.out.bel hb)
  replace HX6 := Lib.hid (HX6.out.bel hb)
  replace HX7 := Lib.hid (HX7.out.bel hb)
  replace HS1 := Lib.hid (HS1.out.bel hb)
  replace HS2 := Lib.hid (HS2.out.bel hb)
  replace HO := Lib.hid (HO.out.bel hb)
  replace HS3 := Lib.hid (HS3.out.bel hb)
  replace HB := Lib.hid (HB.out.trans hb)
  clear hb
  have gz0 := HX2.out.c 0 _ rfl
  have gz1 := HX2.out.c 1 _ rfl
  have gz2 := HX2.out.c 2 _ rfl
  have gz3 := HX2.out.c 3 _ rfl
  have gz4 := HX2.out.c 4 _ rfl
  have gz5 := HX2.out.c 5 _ rfl
  have gz6 := HX2.out.c 6 _ rfl
  have glz := HX2.out.lt
  have gb0 := HX4.out.c 0 _ rfl
  have gb1 := HX4.out.c 1 _ rfl
  have gb2 := HX4.out.c 2 _ rfl
  have gb3 := HX4.out.c 3 _ rfl
  have glb := HX4.out.lt
  have gq0 := HX8.out.c 0 _ rfl
  have gq1 := HX8.out.c 1 _ rfl
  have gq2 := HX8.out.c 2 _ rfl
  have gq3 := HX8.out.c 3 _ rfl
  have glq := HX8.out.lt
  go_wp2_with fail
  refine (HSU.out LO2 HI2 LO HI e1 (by omega) e4 bb1 (by omega) bb4 e5 e6 _ _ _ HS3.out HS1.out (HCR.out.bel HB.out)).mono ?_
  rintro e w16 ⟨rfl, hb⟩
  replace HX0 := Lib.hid (HX0.out.bel hb)
  replace HX1 := Lib.hid (HX1.out.bel hb)
  replace HX2 := Lib.hid (HX2.out.bel hb)
  replace HX3 := Lib.hid (HX3.out.bel hb)
  replace HX4 := Lib.hid (HX4.out.bel hb)
  replace HX5 := Lib.hid (HX5.out.bel hb)
  replace HX6 := Lib.hid (HX6.out.bel hb)
  replace HX7 := Lib.hid (HX7.out.bel hb)
  replace HX8 := Lib.hid (HX8.out.bel hb)
  replace HS1 := Lib.hid (HS1.out.bel hb)
  replace HS2 := Lib.hid (HS2.out.bel hb)
  replace HO := Lib.hid (HO.out.bel hb)
  replace HS3 := Lib.hid (HS3.out.bel hb)
  replace HB := Lib.hid (HB.out.trans hb)
  clear hb
  clear gz0 gz1 gz2 gz3 gz4 gz5 gz6 glz gb0 gb1 gb2 gb3 glb gq0 gq1 gq2 gq3 glq
  have gz0 := HX2.out.c 0 _ rfl
  have gz1 := HX2.out.c 1 _ rfl
  have gz2 := HX2.out.c 2 _ rfl
  have gz3 := HX2.out.c 3 _ rfl
  have gz4 := HX2.out.c 4 _ rfl
  have gz5 := HX2.out.c 5 _ rfl
  have gz6 := HX2.out.c 6 _ rfl
  have glz := HX2.out.lt
  have gc0 := HX5.out.c 0 _ rfl
  have gc1 := HX5.out.c 1 _ rfl
  have gc2 := HX5.out.c 2 _ rfl
  have gc3 := HX5.out.c 3 _ rfl
  have glc := HX5.out.lt
  have gq0 := HX8.out.c 0 _ rfl
  have gq1 := HX8.out.c 1 _ rfl
  have gq2 := HX8.out.c 2 _ rfl
  have gq3 := HX8.out.c 3 _ rfl
  have glq := HX8.out.lt
  go_wp2_with fail
  refine (HSU.out NN NN LO2 HI2 (by omega) (by omega) (by omega) e1 (by omega) e4 e2 e3 _ _ _ HS2.out HS3.out (HCR.out.bel HB.out)).mono ?_
  rintro e w17 ⟨rfl, hb⟩
  replace HX0 := Lib.hid (HX0.out.bel hb)
  replace HX1 := Lib.hid (HX1.out.bel hb)
  replace HX2 := Lib.hid (HX2.out.bel hb)
  replace HX3 := Lib.hid (HX3.out.bel hb)
  replace HX4 := Lib.hid (HX4.out.bel hb)
  replace HX5 := Lib.hid (HX5.out.bel hb)
  replace HX6 := Lib.hid (HX6.out.bel hb)
  replace HX7 := Lib.hid (HX7.out.bel hb)
  replace HX8 := Lib.hid (HX8.out.bel hb)
  replace HS1 := Lib.hid (HS1.out.bel hb)
  replace HS2 := Lib.hid (HS2.out.bel hb)
  replace HO := Lib.hid (HO.out.bel hb)
  replace HS3 := Lib.hid (HS3.out.bel hb)
  replace HB := Lib.hid (HB.out.trans hb)
  clear hb
  clear gz0 gz1 gz2 gz3 gz4 gz5 gz6 glz gc0 gc1 gc2 gc3 glc gq0 gq1 gq2 gq3 glq
  go_wp2_with fail
  refine (HHE.out _ HB.out).mono ?_
  rintro e wz ⟨rfl, hb⟩
  have HBZ := Lib.hid (HB.out.trans hb)
  clear hb
  go_wp2
  go_ret
  exact ⟨rfl, HBZ.out⟩
end Go.Proofs.Ytkdcdhkhadhcfaa
namespace Go.Proofs.Ytkdcdhkhadhcfaa
open Go Go.RowKit
set_option maxHeartbeats 8000000
set_option maxRecDepth 100000
theorem TopWeighed_any (t : CT) (s : LSea) (l : List (List Int)) (m : Int) (cr : List Int) (x : CW) (v vs vl vc : Value) (w : World) (hv : TrapAt w v t) (hs : SeaAt w vs s) (hl : RowsAt w vl l) (hc : IntsAt w vc cr) :
    Calls Try.prog 4 #[v, vs, .agg #[vl, .int .i64 m, vc, .int .i64 x.time, .int .i64 x.chamber, .int .i64 x.low, .int .i64 x.high]] w fun e w' => e = .returned (.bool true) ∧ Bel w w' := by
  cases h0 : FarB t
  · cases h1 : validB t
    · exact weigh_l1 t s l m cr x v vs vl vc w hv hs hl hc h0 h1
    · cases h2 : lfarB s
      · exact weigh_main t s l m cr x v vs vl vc w hv hs hl hc h0 h1 h2
      · exact weigh_l2 t s l m cr x v vs vl vc w hv hs hl hc h0 h1 h2
  · exact weigh_l0 t s l m cr x v vs vl vc w hv hs hl hc h0
end Go.Proofs.Ytkdcdhkhadhcfaa
