/-
  the top law: TopTorn: more ways out.
-/
import Derived.Test.YtkdcdhkhadhcfaaDoorTornH
import Derived.Test.YtkdcdhkhadhcfaaDoorNLaw2
namespace Go.Proofs.YtkdcdhkhadhcfaaDoor
open Go Go.RowKit
set_option maxHeartbeats 8000000
set_option maxRecDepth 100000
theorem torn_l3 (n : Net) (u c : NTr) (hs : List Hole) (m : Int) (vn vu vc vh : Value) (w : World) (hn : NetAt w vn n) (hug : IntsAt w vu u.grips) (hcg : IntsAt w vc c.grips) (hh : HolesAt w vh hs) (hT : BruAt w) (h0 : hugeN n u = false) (h1 : hugeN n c = false) (h3 : netB n = true) (h4 : ntrB n u = false) :
    Calls Tryd.prog 4 #[vn, .agg #[.int .i64 u.wind, .int .i64 u.cur, vu, .int .i64 c.wind, .int .i64 c.cur, vc, vh, .int .i64 m]] w fun e w' => e = .returned (.bool true) ∧ Bel w w' := by
  have hu0 : NTrAt w (.agg #[.int .i64 u.wind, .int .i64 u.cur, vu]) u := ⟨vu, rfl, hug⟩
  have hc0 : NTrAt w (.agg #[.int .i64 c.wind, .int .i64 c.cur, vc]) c := ⟨vc, rfl, hcg⟩
  have HN := Lib.hid hn
  have HU := Lib.hid hu0
  have HC := Lib.hid hc0
  have HH := Lib.hid hh
  have HT := Lib.hid hT
  have HHU := Lib.hid (fun wx (hb : Bel w wx) => nHuge_any n u vn _ wx (hn.bel hb) (hu0.bel hb))
  have HHC := Lib.hid (fun wx (hb : Bel w wx) => nHuge_any n c vn _ wx (hn.bel hb) (hc0.bel hb))
  have HC2 := Lib.hid (fun wx (hb : Bel w wx) => R2Check_any n vn wx (hn.bel hb))
  have HIU := Lib.hid (fun wx (hb : Bel w wx) => R2IsTruth_any n u vn _ wx (hn.bel hb) (hu0.bel hb))
  have HIC := Lib.hid (fun wx (hb : Bel w wx) => R2IsTruth_any n c vn _ wx (hn.bel hb) (hc0.bel hb))
  have HR4 := Lib.hid (fun wx (hb : Bel w wx) => R4Check_any m hs vh wx (hh.bel hb))
  have HHE := Lib.hid (fun wx (hb : Bel w wx) => torn_any wx)
  obtain ⟨na, nc, aa, ac, xa, xc, rfl, _, _, _⟩ := hn.openL
  obtain ⟨ua, uc, ub, uo, rfl, hua, ⟨hul, _⟩, huc⟩ := hug
  obtain ⟨ca, cc, cb, co, rfl, hca, ⟨hcl, _⟩, hcc⟩ := hcg
  have HHX := Lib.hid hh
  obtain ⟨ha, hcp, hb', ho, rfl, _, ⟨hhl, _⟩, _⟩ := hh
  have hixu := idxInts (c := uc) hua
  have hixc := idxInts (c := cc) hca
  have HUC := Lib.hid huc
  have HCG := Lib.hid hcc
  clear hn hu0 hc0 hT hua huc hca hcc
  go_enter Tryd.func4, Tryd.ntmps4
  go_wp2_with fail
  generalize hW : World.alloc _ _ = w0
  have HB : Hid (Bel w w0) := Lib.hid (by rw [← hW]; exact ((Bel.refl w).alloc _).alloc _)
  have HX1 : Hid (Bx w0 w.heap.size [.int .i64 n.wind.lo, .int .i64 n.wind.hi, .int .i64 n.cur.lo, .int .i64 n.cur.hi, .slice na n.grips.length nc, .slice aa n.an.length ac, .slice xa n.walls.length xc]) := Lib.hid (by rw [← hW]; exact (Bx.new rfl).bel ((Bel.refl _).alloc _))
  have HX2 : Hid (Bx w0 (w.heap.size + 1) [.int .i64 u.wind, .int .i64 u.cur, .slice ua u.grips.length uc, .int .i64 c.wind, .int .i64 c.cur, .slice ca c.grips.length cc, .slice ha hs.length hcp, .int .i64 m]) := Lib.hid (by rw [← hW]; exact Bx.new (by simp))
  clear hW
  refine (HHU.out _ HB.out).mono ?_
  rintro e w1 ⟨rfl, hb⟩
  replace HX1 := Lib.hid (HX1.out.bel hb)
  replace HX2 := Lib.hid (HX2.out.bel hb)
  replace HB := Lib.hid (HB.out.trans hb)
  clear hb
  rw [h0]
  have y0 := HX1.out.c 0 _ rfl
  have y1 := HX1.out.c 1 _ rfl
  have y2 := HX1.out.c 2 _ rfl
  have y3 := HX1.out.c 3 _ rfl
  have y4 := HX1.out.c 4 _ rfl
  have y5 := HX1.out.c 5 _ rfl
  have y6 := HX1.out.c 6 _ rfl
  have ly := HX1.out.lt
  have z0 := HX2.out.c 0 _ rfl
  have z1 := HX2.out.c 1 _ rfl
  have z2 := HX2.out.c 2 _ rfl
  have z3 := HX2.out.c 3 _ rfl
  have z4 := HX2.out.c 4 _ rfl
  have z5 := HX2.out.c 5 _ rfl
  have z6 := HX2.out.c 6 _ rfl
  have z7 := HX2.out.c 7 _ rfl
  have lz := HX2.out.lt
  go_wp2_with fail
  refine (HHC.out _ HB.out).mono ?_
  rintro e w2 ⟨rfl, hb⟩
  replace HX1 := Lib.hid (HX1.out.bel hb)
  replace HX2 := Lib.hid (HX2.out.bel hb)
  replace HB := Lib.hid (HB.out.trans hb)
  clear hb
  clear y0 y1 y2 y3 y4 y5 y6 ly z0 z1 z2 z3 z4 z5 z6 z7 lz
  rw [h1]
  have y0 := HX1.out.c 0 _ rfl
  have y1 := HX1.out.c 1 _ rfl
  have y2 := HX1.out.c 2 _ rfl
  have y3 := HX1.out.c 3 _ rfl
  have y4 := HX1.out.c 4 _ rfl
  have y5 := HX1.out.c 5 _ rfl
  have y6 := HX1.out.c 6 _ rfl
  have ly := HX1.out.lt
  go_wp2_with fail
  refine (HC2.out _ HB.out).mono ?_
  rintro e w3 ⟨rfl, hb⟩
  replace HX1 := Lib.hid (HX1.out.bel hb)
  replace HX2 := Lib.hid (HX2.out.bel hb)
  replace HB := Lib.hid (HB.out.trans hb)
  clear hb
  clear y0 y1 y2 y3 y4 y5 y6 ly
  rw [show netE n = 0 by unfold netE; rw [h3]; rfl]
  have y0 := HX1.out.c 0 _ rfl
  have y1 := HX1.out.c 1 _ rfl
  have y2 := HX1.out.c 2 _ rfl
  have y3 := HX1.out.c 3 _ rfl
  have y4 := HX1.out.c 4 _ rfl
  have y5 := HX1.out.c 5 _ rfl
  have y6 := HX1.out.c 6 _ rfl
  have ly := HX1.out.lt
  have z0 := HX2.out.c 0 _ rfl
  have z1 := HX2.out.c 1 _ rfl
  have z2 := HX2.out.c 2 _ rfl
  have z3 := HX2.out.c 3 _ rfl
  have z4 := HX2.out.c 4 _ rfl
  have z5 := HX2.out.c 5 _ rfl
  have z6 := HX2.out.c 6 _ rfl
  have z7 := HX2.out.c 7 _ rfl
  have lz := HX2.out.lt
  go_wp2_with fail
  refine (HIU.out _ HB.out).mono ?_
  rintro e w4 ⟨rfl, hb⟩
  replace HX1 := Lib.hid (HX1.out.bel hb)
  replace HX2 := Lib.hid (HX2.out.bel hb)
  replace HB := Lib.hid (HB.out.trans hb)
  clear hb
  clear y0 y1 y2 y3 y4 y5 y6 ly z0 z1 z2 z3 z4 z5 z6 z7 lz
  rw [h4]
  go_wp2_with fail
  refine (HHE.out _ HB.out).mono ?_
  rintro e wz ⟨rfl, hb⟩
  have HBZ := Lib.hid (HB.out.trans hb)
  clear hb
  go_wp2
  go_ret
  exact ⟨rfl, HBZ.out⟩
theorem torn_l4 (n : Net) (u c : NTr) (hs : List Hole) (m : Int) (vn vu vc vh : Value) (w : World) (hn : NetAt w vn n) (hug : IntsAt w vu u.grips) (hcg : IntsAt w vc c.grips) (hh : HolesAt w vh hs) (hT : BruAt w) (h0 : hugeN n u = false) (h1 : hugeN n c = false) (h3 : netB n = true) (h4 : ntrB n u = true) (h5 : ntrB n c = false) :
    Calls Tryd.prog 4 #[vn, .agg #[.int .i64 u.wind, .int .i64 u.cur, vu, .int .i64 c.wind, .int .i64 c.cur, vc, vh, .int .i64 m]] w fun e w' => e = .returned (.bool true) ∧ Bel w w' := by
  have hu0 : NTrAt w (.agg #[.int .i64 u.wind, .int .i64 u.cur, vu]) u := ⟨vu, rfl, hug⟩
  have hc0 : NTrAt w (.agg #[.int .i64 c.wind, .int .i64 c.cur, vc]) c := ⟨vc, rfl, hcg⟩
  have HN := Lib.hid hn
  have HU := Lib.hid hu0
  have HC := Lib.hid hc0
  have HH := Lib.hid hh
  have HT := Lib.hid hT
  have HHU := Lib.hid (fun wx (hb : Bel w wx) => nHuge_any n u vn _ wx (hn.bel hb) (hu0.bel hb))
  have HHC := Lib.hid (fun wx (hb : Bel w wx) => nHuge_any n c vn _ wx (hn.bel hb) (hc0.bel hb))
  have HC2 := Lib.hid (fun wx (hb : Bel w wx) => R2Check_any n vn wx (hn.bel hb))
  have HIU := Lib.hid (fun wx (hb : Bel w wx) => R2IsTruth_any n u vn _ wx (hn.bel hb) (hu0.bel hb))
  have HIC := Lib.hid (fun wx (hb : Bel w wx) => R2IsTruth_any n c vn _ wx (hn.bel hb) (hc0.bel hb))
  have HR4 := Lib.hid (fun wx (hb : Bel w wx) => R4Check_any m hs vh wx (hh.bel hb))
  have HHE := Lib.hid (fun wx (hb : Bel w wx) => torn_any wx)
  obtain ⟨na, nc, aa, ac, xa, xc, rfl, _, _, _⟩ := hn.openL
  obtain ⟨ua, uc, ub, uo, rfl, hua, ⟨hul, _⟩, huc⟩ := hug
  obtain ⟨ca, cc, cb, co, rfl, hca, ⟨hcl, _⟩, hcc⟩ := hcg
  have HHX := Lib.hid hh
  obtain ⟨ha, hcp, hb', ho, rfl, _, ⟨hhl, _⟩, _⟩ := hh
  have hixu := idxInts (c := uc) hua
  have hixc := idxInts (c := cc) hca
  have HUC := Lib.hid huc
  have HCG := Lib.hid hcc
  clear hn hu0 hc0 hT hua huc hca hcc
  go_enter Tryd.func4, Tryd.ntmps4
  go_wp2_with fail
  generalize hW : World.alloc _ _ = w0
  have HB : Hid (Bel w w0) := Lib.hid (by rw [← hW]; exact ((Bel.refl w).alloc _).alloc _)
  have HX1 : Hid (Bx w0 w.heap.size [.int .i64 n.wind.lo, .int .i64 n.wind.hi, .int .i64 n.cur.lo, .int .i64 n.cur.hi, .slice na n.grips.length nc, .slice aa n.an.length ac, .slice xa n.walls.length xc]) := Lib.hid (by rw [← hW]; exact (Bx.new rfl).bel ((Bel.refl _).alloc _))
  have HX2 : Hid (Bx w0 (w.heap.size + 1) [.int .i64 u.wind, .int .i64 u.cur, .slice ua u.grips.length uc, .int .i64 c.wind, .int .i64 c.cur, .slice ca c.grips.length cc, .slice ha hs.length hcp, .int .i64 m]) := Lib.hid (by rw [← hW]; exact Bx.new (by simp))
  clear hW
  refine (HHU.out _ HB.out).mono ?_
  rintro e w1 ⟨rfl, hb⟩
  replace HX1 := Lib.hid (HX1.out.bel hb)
  replace HX2 := Lib.hid (HX2.out.bel hb)
  replace HB := Lib.hid (HB.out.trans hb)
  clear hb
  rw [h0]
  have y0 := HX1.out.c 0 _ rfl
  have y1 := HX1.out.c 1 _ rfl
  have y2 := HX1.out.c 2 _ rfl
  have y3 := HX1.out.c 3 _ rfl
  have y4 := HX1.out.c 4 _ rfl
  have y5 := HX1.out.c 5 _ rfl
  have y6 := HX1.out.c 6 _ rfl
  have ly := HX1.out.lt
  have z0 := HX2.out.c 0 _ rfl
  have z1 := HX2.out.c 1 _ rfl
  have z2 := HX2.out.c 2 _ rfl
  have z3 := HX2.out.c 3 _ rfl
  have z4 := HX2.out.c 4 _ rfl
  have z5 := HX2.out.c 5 _ rfl
  have z6 := HX2.out.c 6 _ rfl
  have z7 := HX2.out.c 7 _ rfl
  have lz := HX2.out.lt
  go_wp2_with fail
  refine (HHC.out _ HB.out).mono ?_
  rintro e w2 ⟨rfl, hb⟩
  replace HX1 := Lib.hid (HX1.out.bel hb)
  replace HX2 := Lib.hid (HX2.out.bel hb)
  replace HB := Lib.hid (HB.out.trans hb)
  clear hb
  clear y0 y1 y2 y3 y4 y5 y6 ly z0 z1 z2 z3 z4 z5 z6 z7 lz
  rw [h1]
  have y0 := HX1.out.c 0 _ rfl
  have y1 := HX1.out.c 1 _ rfl
  have y2 := HX1.out.c 2 _ rfl
  have y3 := HX1.out.c 3 _ rfl
  have y4 := HX1.out.c 4 _ rfl
  have y5 := HX1.out.c 5 _ rfl
  have y6 := HX1.out.c 6 _ rfl
  have ly := HX1.out.lt
  go_wp2_with fail
  refine (HC2.out _ HB.out).mono ?_
  rintro e w3 ⟨rfl, hb⟩
  replace HX1 := Lib.hid (HX1.out.bel hb)
  replace HX2 := Lib.hid (HX2.out.bel hb)
  replace HB := Lib.hid (HB.out.trans hb)
  clear hb
  clear y0 y1 y2 y3 y4 y5 y6 ly
  rw [show netE n = 0 by unfold netE; rw [h3]; rfl]
  have y0 := HX1.out.c 0 _ rfl
  have y1 := HX1.out.c 1 _ rfl
  have y2 := HX1.out.c 2 _ rfl
  have y3 := HX1.out.c 3 _ rfl
  have y4 := HX1.out.c 4 _ rfl
  have y5 := HX1.out.c 5 _ rfl
  have y6 := HX1.out.c 6 _ rfl
  have ly := HX1.out.lt
  have z0 := HX2.out.c 0 _ rfl
  have z1 := HX2.out.c 1 _ rfl
  have z2 := HX2.out.c 2 _ rfl
  have z3 := HX2.out.c 3 _ rfl
  have z4 := HX2.out.c 4 _ rfl
  have z5 := HX2.out.c 5 _ rfl
  have z6 := HX2.out.c 6 _ rfl
  have z7 := HX2.out.c 7 _ rfl
  have lz := HX2.out.lt
  go_wp2_with fail
  refine (HIU.out _ HB.out).mono ?_
  rintro e w4 ⟨rfl, hb⟩
  replace HX1 := Lib.hid (HX1.out.bel hb)
  replace HX2 := Lib.hid (HX2.out.bel hb)
  replace HB := Lib.hid (HB.out.trans hb)
  clear hb
  clear y0 y1 y2 y3 y4 y5 y6 ly z0 z1 z2 z3 z4 z5 z6 z7 lz
  rw [h4]
  have y0 := HX1.out.c 0 _ rfl
  have y1 := HX1.out.c 1 _ rfl
  have y2 := HX1.out.c 2 _ rfl
  have y3 := HX1.out.c 3 _ rfl
  have y4 := HX1.out.c 4 _ rfl
  have y5 := HX1.out.c 5 _ rfl
  have y6 := HX1.out.c 6 _ rfl
  have ly := HX1.out.lt
  have z0 := HX2.out.c 0 _ rfl
  have z1 := HX2.out.c 1 _ rfl
  have z2 := HX2.out.c 2 _ rfl
  have z3 := HX2.out.c 3 _ rfl
  have z4 := HX2.out.c 4 _ rfl
  have z5 := HX2.out.c 5 _ rfl
  have z6 := HX2.out.c 6 _ rfl
  have z7 := HX2.out.c 7 _ rfl
  have lz := HX2.out.lt
  go_wp2_with fail
  refine (HIC.out _ HB.out).mono ?_
  rintro e w5 ⟨rfl, hb⟩
  replace HX1 := Lib.hid (HX1.out.bel hb)
  replace HX2 := Lib.hid (HX2.out.bel hb)
  replace HB := Lib.hid (HB.out.trans hb)
  clear hb
  clear y0 y1 y2 y3 y4 y5 y6 ly z0 z1 z2 z3 z4 z5 z6 z7 lz
  rw [h5]
  go_wp2_with fail
  refine (HHE.out _ HB.out).mono ?_
  rintro e wz ⟨rfl, hb⟩
  have HBZ := Lib.hid (HB.out.trans hb)
  clear hb
  go_wp2
  go_ret
  exact ⟨rfl, HBZ.out⟩
theorem torn_l5 (n : Net) (u c : NTr) (hs : List Hole) (m : Int) (vn vu vc vh : Value) (w : World) (hn : NetAt w vn n) (hug : IntsAt w vu u.grips) (hcg : IntsAt w vc c.grips) (hh : HolesAt w vh hs) (hT : BruAt w) (h0 : hugeN n u = false) (h1 : hugeN n c = false) (h3 : netB n = true) (h4 : ntrB n u = true) (h5 : ntrB n c = true) (q1 : u.wind < c.wind) :
    Calls Tryd.prog 4 #[vn, .agg #[.int .i64 u.wind, .int .i64 u.cur, vu, .int .i64 c.wind, .int .i64 c.cur, vc, vh, .int .i64 m]] w fun e w' => e = .returned (.bool true) ∧ Bel w w' := by
  have hu0 : NTrAt w (.agg #[.int .i64 u.wind, .int .i64 u.cur, vu]) u := ⟨vu, rfl, hug⟩
  have hc0 : NTrAt w (.agg #[.int .i64 c.wind, .int .i64 c.cur, vc]) c := ⟨vc, rfl, hcg⟩
  have HN := Lib.hid hn
  have HU := Lib.hid hu0
  have HC := Lib.hid hc0
  have HH := Lib.hid hh
  have HT := Lib.hid hT
  have HHU := Lib.hid (fun wx (hb : Bel w wx) => nHuge_any n u vn _ wx (hn.bel hb) (hu0.bel hb))
  have HHC := Lib.hid (fun wx (hb : Bel w wx) => nHuge_any n c vn _ wx (hn.bel hb) (hc0.bel hb))
  have HC2 := Lib.hid (fun wx (hb : Bel w wx) => R2Check_any n vn wx (hn.bel hb))
  have HIU := Lib.hid (fun wx (hb : Bel w wx) => R2IsTruth_any n u vn _ wx (hn.bel hb) (hu0.bel hb))
  have HIC := Lib.hid (fun wx (hb : Bel w wx) => R2IsTruth_any n c vn _ wx (hn.bel hb) (hc0.bel hb))
  have HR4 := Lib.hid (fun wx (hb : Bel w wx) => R4Check_any m hs vh wx (hh.bel hb))
  have HHE := Lib.hid (fun wx (hb : Bel w wx) => torn_any wx)
  obtain ⟨na, nc, aa, ac, xa, xc, rfl, _, _, _⟩ := hn.openL
  obtain ⟨ua, uc, ub, uo, rfl, hua, ⟨hul, _⟩, huc⟩ := hug
  obtain ⟨ca, cc, cb, co, rfl, hca, ⟨hcl, _⟩, hcc⟩ := hcg
  have HHX := Lib.hid hh
  obtain ⟨ha, hcp, hb', ho, rfl, _, ⟨hhl, _⟩, _⟩ := hh
  have hixu := idxInts (c := uc) hua
  have hixc := idxInts (c := cc) hca
  have HUC := Lib.hid huc
  have HCG := Lib.hid hcc
  clear hn hu0 hc0 hT hua huc hca hcc
  go_enter Tryd.func4, Tryd.ntmps4
  go_wp2_with fail
  generalize hW : World.alloc _ _ = w0
  have HB : Hid (Bel w w0) := Lib.hid (by rw [← hW]; exact ((Bel.refl w).alloc _).alloc _)
  have HX1 : Hid (Bx w0 w.heap.size [.int .i64 n.wind.lo, .int .i64 n.wind.hi, .int .i64 n.cur.lo, .int .i64 n.cur.hi, .slice na n.grips.length nc, .slice aa n.an.length ac, .slice xa n.walls.length xc]) := Lib.hid (by rw [← hW]; exact (Bx.new rfl).bel ((Bel.refl _).alloc _))
  have HX2 : Hid (Bx w0 (w.heap.size + 1) [.int .i64 u.wind, .int .i64 u.cur, .slice ua u.grips.length uc, .int .i64 c.wind, .int .i64 c.cur, .slice ca c.grips.length cc, .slice ha hs.length hcp, .int .i64 m]) := Lib.hid (by rw [← hW]; exact Bx.new (by simp))
  clear hW
  refine (HHU.out _ HB.out).mono ?_
  rintro e w1 ⟨rfl, hb⟩
  replace HX1 := Lib.hid (HX1.out.bel hb)
  replace HX2 := Lib.hid (HX2.out.bel hb)
  replace HB := Lib.hid (HB.out.trans hb)
  clear hb
  rw [h0]
  have y0 := HX1.out.c 0 _ rfl
  have y1 := HX1.out.c 1 _ rfl
  have y2 := HX1.out.c 2 _ rfl
  have y3 := HX1.out.c 3 _ rfl
  have y4 := HX1.out.c 4 _ rfl
  have y5 := HX1.out.c 5 _ rfl
  have y6 := HX1.out.c 6 _ rfl
  have ly := HX1.out.lt
  have z0 := HX2.out.c 0 _ rfl
  have z1 := HX2.out.c 1 _ rfl
  have z2 := HX2.out.c 2 _ rfl
  have z3 := HX2.out.c 3 _ rfl
  have z4 := HX2.out.c 4 _ rfl
  have z5 := HX2.out.c 5 _ rfl
  have z6 := HX2.out.c 6 _ rfl
  have z7 := HX2.out.c 7 _ rfl
  have lz := HX2.out.lt
  go_wp2_with fail
  refine (HHC.out _ HB.out).mono ?_
  rintro e w2 ⟨rfl, hb⟩
  replace HX1 := Lib.hid (HX1.out.bel hb)
  replace HX2 := Lib.hid (HX2.out.bel hb)
  replace HB := Lib.hid (HB.out.trans hb)
  clear hb
  clear y0 y1 y2 y3 y4 y5 y6 ly z0 z1 z2 z3 z4 z5 z6 z7 lz
  rw [h1]
  have y0 := HX1.out.c 0 _ rfl
  have y1 := HX1.out.c 1 _ rfl
  have y2 := HX1.out.c 2 _ rfl
  have y3 := HX1.out.c 3 _ rfl
  have y4 := HX1.out.c 4 _ rfl
  have y5 := HX1.out.c 5 _ rfl
  have y6 := HX1.out.c 6 _ rfl
  have ly := HX1.out.lt
  go_wp2_with fail
  refine (HC2.out _ HB.out).mono ?_
  rintro e w3 ⟨rfl, hb⟩
  replace HX1 := Lib.hid (HX1.out.bel hb)
  replace HX2 := Lib.hid (HX2.out.bel hb)
  replace HB := Lib.hid (HB.out.trans hb)
  clear hb
  clear y0 y1 y2 y3 y4 y5 y6 ly
  rw [show netE n = 0 by unfold netE; rw [h3]; rfl]
  have y0 := HX1.out.c 0 _ rfl
  have y1 := HX1.out.c 1 _ rfl
  have y2 := HX1.out.c 2 _ rfl
  have y3 := HX1.out.c 3 _ rfl
  have y4 := HX1.out.c 4 _ rfl
  have y5 := HX1.out.c 5 _ rfl
  have y6 := HX1.out.c 6 _ rfl
  have ly := HX1.out.lt
  have z0 := HX2.out.c 0 _ rfl
  have z1 := HX2.out.c 1 _ rfl
  have z2 := HX2.out.c 2 _ rfl
  have z3 := HX2.out.c 3 _ rfl
  have z4 := HX2.out.c 4 _ rfl
  have z5 := HX2.out.c 5 _ rfl
  have z6 := HX2.out.c 6 _ rfl
  have z7 := HX2.out.c 7 _ rfl
  have lz := HX2.out.lt
  go_wp2_with fail
  refine (HIU.out _ HB.out).mono ?_
  rintro e w4 ⟨rfl, hb⟩
  replace HX1 := Lib.hid (HX1.out.bel hb)
  replace HX2 := Lib.hid (HX2.out.bel hb)
  replace HB := Lib.hid (HB.out.trans hb)
  clear hb
  clear y0 y1 y2 y3 y4 y5 y6 ly z0 z1 z2 z3 z4 z5 z6 z7 lz
  rw [h4]
  have y0 := HX1.out.c 0 _ rfl
  have y1 := HX1.out.c 1 _ rfl
  have y2 := HX1.out.c 2 _ rfl
  have y3 := HX1.out.c 3 _ rfl
  have y4 := HX1.out.c 4 _ rfl
  have y5 := HX1.out.c 5 _ rfl
  have y6 := HX1.out.c 6 _ rfl
  have ly := HX1.out.lt
  have z0 := HX2.out.c 0 _ rfl
  have z1 := HX2.out.c 1 _ rfl
  have z2 := HX2.out.c 2 _ rfl
  have z3 := HX2.out.c 3 _ rfl
  have z4 := HX2.out.c 4 _ rfl
  have z5 := HX2.out.c 5 _ rfl
  have z6 := HX2.out.c 6 _ rfl
  have z7 := HX2.out.c 7 _ rfl
  have lz := HX2.out.lt
  go_wp2_with fail
  refine (HIC.out _ HB.out).mono ?_
  rintro e w5 ⟨rfl, hb⟩
  replace HX1 := Lib.hid (HX1.out.bel hb)
  replace HX2 := Lib.hid (HX2.out.bel hb)
  replace HB := Lib.hid (HB.out.trans hb)
  clear hb
  clear y0 y1 y2 y3 y4 y5 y6 ly z0 z1 z2 z3 z4 z5 z6 z7 lz
  rw [h5]
  have d1 : decide (u.wind < c.wind) = true := decide_eq_true q1
  have z0 := HX2.out.c 0 _ rfl
  have z1 := HX2.out.c 1 _ rfl
  have z2 := HX2.out.c 2 _ rfl
  have z3 := HX2.out.c 3 _ rfl
  have z4 := HX2.out.c 4 _ rfl
  have z5 := HX2.out.c 5 _ rfl
  have z6 := HX2.out.c 6 _ rfl
  have z7 := HX2.out.c 7 _ rfl
  have lz := HX2.out.lt
  go_wp2_with fail
  refine (HHE.out _ HB.out).mono ?_
  rintro e wz ⟨rfl, hb⟩
  have HBZ := Lib.hid (HB.out.trans hb)
  clear hb
  go_wp2
  go_ret
  exact ⟨rfl, HBZ.out⟩
end Go.Proofs.YtkdcdhkhadhcfaaDoor
