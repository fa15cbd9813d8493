/-
  the top law: TopHeld: what drags with the fish that the counts say, for every trap, net, truth, time and word: the call returns true and changes nothing that was there, where the library's table lies as it was laid.
-/
import Derived.Test.YtkdcdhkhadhcfaaDoorHeld
import Derived.Test.YtkdcdhkhadhcfaaDoorTopEnds
import Derived.Test.YtkdcdhkhadhcfaaDoorIsTruth
import Derived.Test.YtkdcdhkhadhcfaaDoorSmall
import Derived.Test.YtkdcdhkhadhcfaaDoorLaw1
namespace Go.Proofs.YtkdcdhkhadhcfaaDoor
open Go Go.RowKit
set_option maxHeartbeats 8000000
set_option maxRecDepth 100000
theorem los_nn {t : CT} (hval : validB t = true) {l : List (List Int)} (h : IsT t l) {i : Nat} (hi : i < t.T.toNat) : ∀ j, j < (losTo t i t.C.toNat).length → 0 ≤ at0 (losTo t i t.C.toNat) j := fun j hj => by
  rw [(losTo_len t i _).1] at hj
  rw [(losTo_at t i _ hj).1]
  exact (fish_b hval h hi hj).2.1
theorem his_nn {t : CT} (hval : validB t = true) {l : List (List Int)} (h : IsT t l) {i : Nat} (hi : i < t.T.toNat) : ∀ j, j < (hisTo t i t.C.toNat).length → 0 ≤ at0 (hisTo t i t.C.toNat) j := fun j hj => by
  rw [(losTo_len t i _).2] at hj
  rw [(losTo_at t i _ hj).2]
  have := (fish_b hval h hi hj).2
  omega
theorem row_nn {t : CT} {l : List (List Int)} (h : IsT t l) {i : Nat} (hi : i < t.T.toNat) : ∀ j, j < (atL l i).length → 0 ≤ at0 (atL l i) j := fun j hj => ((h.row i hi).num j (by rw [← (h.row i hi).len]; exact hj)).1
theorem drag_le {n : Net} (hn : NetOk n) {u : NTr} (hu : TrOk n u) {a b : List Int} (ha : ∀ i, i < a.length → 0 ≤ at0 a i) (hb : ∀ i, i < b.length → 0 ≤ at0 b i) (hl : a.length = b.length) (h : ∀ i, i < a.length → at0 a i ≤ at0 b i) {D E : Nat}
    (hD : Fin (loadN n a) u D) (hE : Fin (loadN n b) u E) : partB (blOf D) (blOf E) = true :=
  bl_part (drg_lt (load_ok hn ha) hD.1) (drg_lt (load_ok hn hb) hE.1) (fin_mono (load_heavier hl h) (load_ok hn ha) (load_tr hu a) hD hE)
theorem drag_part {n : Net} (hn : NetOk n) {u : NTr} (hu : TrOk n u) {t : CT} (hval : validB t = true) {l : List (List Int)} (h : IsT t l) {i : Nat} (hi : i < t.T.toNat) {A B C : Nat}
    (hA : Fin (loadN n (losTo t i t.C.toNat)) u A) (hB : Fin (loadN n (atL l i)) u B) (hC : Fin (loadN n (hisTo t i t.C.toNat)) u C) : partB (blOf A) (blOf B) = true ∧ partB (blOf B) (blOf C) = true := by
  have hlen := (h.row i hi).len
  refine ⟨drag_le hn hu (los_nn hval h hi) (row_nn h hi) (by rw [(losTo_len t i _).1, hlen]) (fun j hj => ?_) hA hB, drag_le hn hu (row_nn h hi) (his_nn hval h hi) (by rw [(losTo_len t i _).2, hlen]) (fun j hj => ?_) hB hC⟩
  · rw [(losTo_len t i _).1] at hj
    rw [(losTo_at t i _ hj).1]
    exact (fish_b hval h hi hj).2.2.1
  · rw [hlen] at hj
    rw [(losTo_at t i _ hj).2]
    exact (fish_b hval h hi hj).2.2.2.1
theorem drag_told {n : Net} (hn : NetOk n) {u : NTr} (hu : TrOk n u) {t : CT} {x : CW} (hval : validB t = true) (hvo : validB (told t x) = true) {l : List (List Int)} (h : IsT (told t x) l) {i : Nat} (hi : i < t.T.toNat) {A P Q C : Nat}
    (hA : Fin (loadN n (losTo t i t.C.toNat)) u A) (hP : Fin (loadN n (losTo (told t x) i t.C.toNat)) u P) (hQ : Fin (loadN n (hisTo (told t x) i t.C.toNat)) u Q) (hC : Fin (loadN n (hisTo t i t.C.toNat)) u C) : partB (blOf A) (blOf P) = true ∧ partB (blOf Q) (blOf C) = true := by
  have ht := (isT_told h).1
  refine ⟨drag_le hn hu (los_nn hval ht hi) (show ∀ j, j < (losTo (told t x) i t.C.toNat).length → 0 ≤ at0 (losTo (told t x) i t.C.toNat) j from los_nn (t := told t x) hvo h hi) (by rw [(losTo_len t i _).1, (losTo_len _ i _).1]) (fun j hj => ?_) hA hP, drag_le hn hu (show ∀ j, j < (hisTo (told t x) i t.C.toNat).length → 0 ≤ at0 (hisTo (told t x) i t.C.toNat) j from his_nn (t := told t x) hvo h hi) (his_nn hval ht hi) (by rw [(losTo_len t i _).2, (losTo_len _ i _).2]) (fun j hj => ?_) hQ hC⟩
  · rw [(losTo_len t i _).1] at hj
    rw [(losTo_at t i _ hj).1, (losTo_at _ i _ hj).1]
    exact (fish_told hval hvo h hi hj).1
  · rw [(losTo_len _ i _).2] at hj
    rw [(losTo_at t i _ hj).2, (losTo_at _ i _ hj).2]
    exact (fish_told hval hvo h hi hj).2
theorem TopHeld_any (t : CT) (n : Net) (l : List (List Int)) (ti : Int) (u : NTr) (x : CW) (v vn vl vg : Value) (w : World) (hv : TrapAt w v t) (hn : NetAt w vn n) (hl : RowsAt w vl l) (hg : IntsAt w vg u.grips) (hT : BruAt w) :
    Calls Tryd.prog 3 #[v, vn, .agg #[vl, .int .i64 ti, .int .i64 u.wind, .int .i64 u.cur, vg, .int .i64 x.time, .int .i64 x.chamber, .int .i64 x.low, .int .i64 x.high]] w fun e w' => e = .returned (.bool true) ∧ Bel w w' := by
  have hu : NTrAt w (.agg #[.int .i64 u.wind, .int .i64 u.cur, vg]) u := ⟨vg, rfl, hg⟩
  have HV := Lib.hid hv
  have HN := Lib.hid hn
  have HL := Lib.hid hl
  have HU := Lib.hid hu
  have HT := Lib.hid hT
  have HFA := Lib.hid (fun wx (hb : Bel w wx) => Far_any t v wx (hv.bel hb))
  have HCK := Lib.hid (fun wx (hb : Bel w wx) => RCheck_any t v wx (hv.bel hb))
  have HHU := Lib.hid (fun wx (hb : Bel w wx) => nHuge_any n u vn _ wx (hn.bel hb) (hu.bel hb))
  have HC2 := Lib.hid (fun wx (hb : Bel w wx) => R2Check_any n vn wx (hn.bel hb))
  have HI2 := Lib.hid (fun wx (hb : Bel w wx) => R2IsTruth_any n u vn _ wx (hn.bel hb) (hu.bel hb))
  have HIT := Lib.hid (fun (hval : validB t = true) wx (hb : Bel w wx) => IsTruth_any t v vl l wx (hv.bel hb) (hl.bel hb) hval)
  have HHE := Lib.hid (fun wx (hb : Bel w wx) => held_any wx (hT.bel hb))
  have HTO := Lib.hid (fun (hroom : Room t) wx (hb : Bel w wx) => Told_any t x v wx (hv.bel hb) hroom)
  have HWO := Lib.hid (fun (ov wv : Value) wx => IsWord_any t.C t.T x ov wv wx)
  unfold CW.val at HTO HWO
  obtain ⟨ta, tc, tw, twc, rfl, _, _⟩ := hv.form
  obtain ⟨na, nc, aa, ac, xa, xc, rfl, _, _, _⟩ := hn.openL
  obtain ⟨la, lc, lb, lo, rv, rfl, hla, hll, hlc⟩ := hl
  obtain ⟨ga, gc, gb, go, rfl, _, _, _⟩ := hg
  have hixl := idxRows (c := lc) hla
  have HLC := Lib.hid hlc
  clear hv hn hu hT hla hlc
  go_enter Tryd.func3, Tryd.ntmps3
  go_upto_region 1 with fail
  generalize hW : World.alloc _ _ = w0
  have HB : Hid (Bel w w0) := Lib.hid (by rw [← hW]; exact (((Bel.refl w).alloc _).alloc _).alloc _)
  have HX0 : Hid (Bx w0 w.heap.size [.int .i64 t.C, .int .i64 t.T, .slice ta t.op.length tc, .slice tw t.ws.length twc]) := Lib.hid (by rw [← hW]; exact ((Bx.new rfl).bel ((Bel.refl _).alloc _)).bel ((Bel.refl _).alloc _))
  have HX1 : Hid (Bx w0 (w.heap.size + 1) [.int .i64 n.wind.lo, .int .i64 n.wind.hi, .int .i64 n.cur.lo, .int .i64 n.cur.hi, .slice na n.grips.length nc, .slice aa n.an.length ac, .slice xa n.walls.length xc]) := Lib.hid (by rw [← hW]; exact (Bx.new (by simp)).bel ((Bel.refl _).alloc _))
  have HX2 : Hid (Bx w0 (w.heap.size + 1 + 1) [.slice la l.length lc, .int .i64 ti, .int .i64 u.wind, .int .i64 u.cur, .slice ga u.grips.length gc, .int .i64 x.time, .int .i64 x.chamber, .int .i64 x.low, .int .i64 x.high]) := Lib.hid (by rw [← hW]; exact Bx.new (by simp))
  clear hW
  have x0 := HX0.out.c 0 _ rfl
  have x1 := HX0.out.c 1 _ rfl
  have x2 := HX0.out.c 2 _ rfl
  have x3 := HX0.out.c 3 _ rfl
  have lx := cell_lt x0
  go_wp2_with fail
  refine (HFA.out _ HB.out).mono ?_
  rintro e w1 ⟨rfl, hb⟩
  replace HX0 := Lib.hid (HX0.out.bel hb)
  replace HX1 := Lib.hid (HX1.out.bel hb)
  replace HX2 := Lib.hid (HX2.out.bel hb)
  replace HB := Lib.hid (HB.out.trans hb)
  clear hb
  clear x0 x1 x2 x3 lx
  cases h0 : FarB t
  rotate_left
  · skip
    go_wp2_with fail
    refine (HHE.out _ HB.out).mono ?_
    rintro e wz ⟨rfl, hb⟩
    have HBZ := Lib.hid (HB.out.trans hb)
    clear hb
    go_wp2
    go_ret
    exact ⟨rfl, HBZ.out⟩
  have x0 := HX0.out.c 0 _ rfl
  have x1 := HX0.out.c 1 _ rfl
  have x2 := HX0.out.c 2 _ rfl
  have x3 := HX0.out.c 3 _ rfl
  have lx := cell_lt x0
  go_wp2_with fail
  refine (HCK.out _ HB.out).mono ?_
  rintro e w2 ⟨rfl, hb⟩
  replace HX0 := Lib.hid (HX0.out.bel hb)
  replace HX1 := Lib.hid (HX1.out.bel hb)
  replace HX2 := Lib.hid (HX2.out.bel hb)
  replace HB := Lib.hid (HB.out.trans hb)
  clear hb
  clear x0 x1 x2 x3 lx
  cases h1 : validB t
  · rw [chk_false h1]
    go_wp2_with fail
    refine (HHE.out _ HB.out).mono ?_
    rintro e wz ⟨rfl, hb⟩
    have HBZ := Lib.hid (HB.out.trans hb)
    clear hb
    go_wp2
    go_ret
    exact ⟨rfl, HBZ.out⟩
  rw [chk_true h1]
  have y0 := HX1.out.c 0 _ rfl
  have y1 := HX1.out.c 1 _ rfl
  have y2 := HX1.out.c 2 _ rfl
  have y3 := HX1.out.c 3 _ rfl
  have y4 := HX1.out.c 4 _ rfl
  have y5 := HX1.out.c 5 _ rfl
  have y6 := HX1.out.c 6 _ rfl
  have ly := cell_lt y0
  have z0 := HX2.out.c 0 _ rfl
  have z1 := HX2.out.c 1 _ rfl
  have z2 := HX2.out.c 2 _ rfl
  have z3 := HX2.out.c 3 _ rfl
  have z4 := HX2.out.c 4 _ rfl
  have z5 := HX2.out.c 5 _ rfl
  have z6 := HX2.out.c 6 _ rfl
  have z7 := HX2.out.c 7 _ rfl
  have z8 := HX2.out.c 8 _ rfl
  have lz := cell_lt z0
  go_wp2_with fail
  refine (HHU.out _ HB.out).mono ?_
  rintro e w3 ⟨rfl, hb⟩
  replace HX0 := Lib.hid (HX0.out.bel hb)
  replace HX1 := Lib.hid (HX1.out.bel hb)
  replace HX2 := Lib.hid (HX2.out.bel hb)
  replace HB := Lib.hid (HB.out.trans hb)
  clear hb
  clear y0 y1 y2 y3 y4 y5 y6 ly z0 z1 z2 z3 z4 z5 z6 z7 z8 lz
  cases h2 : hugeN n u
  rotate_left
  · skip
    go_wp2_with fail
    refine (HHE.out _ HB.out).mono ?_
    rintro e wz ⟨rfl, hb⟩
    have HBZ := Lib.hid (HB.out.trans hb)
    clear hb
    go_wp2
    go_ret
    exact ⟨rfl, HBZ.out⟩
  have y0 := HX1.out.c 0 _ rfl
  have y1 := HX1.out.c 1 _ rfl
  have y2 := HX1.out.c 2 _ rfl
  have y3 := HX1.out.c 3 _ rfl
  have y4 := HX1.out.c 4 _ rfl
  have y5 := HX1.out.c 5 _ rfl
  have y6 := HX1.out.c 6 _ rfl
  have ly := cell_lt y0
  go_wp2_with fail
  refine (HC2.out _ HB.out).mono ?_
  rintro e w4 ⟨rfl, hb⟩
  replace HX0 := Lib.hid (HX0.out.bel hb)
  replace HX1 := Lib.hid (HX1.out.bel hb)
  replace HX2 := Lib.hid (HX2.out.bel hb)
  replace HB := Lib.hid (HB.out.trans hb)
  clear hb
  clear y0 y1 y2 y3 y4 y5 y6 ly
  cases h3 : netB n
  · rw [show netE n = 20 by unfold netE; rw [h3]; rfl]
    go_wp2_with fail
    refine (HHE.out _ HB.out).mono ?_
    rintro e wz ⟨rfl, hb⟩
    have HBZ := Lib.hid (HB.out.trans hb)
    clear hb
    go_wp2
    go_ret
    exact ⟨rfl, HBZ.out⟩
  rw [show netE n = 0 by unfold netE; rw [h3]; rfl]
  have y0 := HX1.out.c 0 _ rfl
  have y1 := HX1.out.c 1 _ rfl
  have y2 := HX1.out.c 2 _ rfl
  have y3 := HX1.out.c 3 _ rfl
  have y4 := HX1.out.c 4 _ rfl
  have y5 := HX1.out.c 5 _ rfl
  have y6 := HX1.out.c 6 _ rfl
  have ly := cell_lt y0
  have z0 := HX2.out.c 0 _ rfl
  have z1 := HX2.out.c 1 _ rfl
  have z2 := HX2.out.c 2 _ rfl
  have z3 := HX2.out.c 3 _ rfl
  have z4 := HX2.out.c 4 _ rfl
  have z5 := HX2.out.c 5 _ rfl
  have z6 := HX2.out.c 6 _ rfl
  have z7 := HX2.out.c 7 _ rfl
  have z8 := HX2.out.c 8 _ rfl
  have lz := cell_lt z0
  go_wp2_with fail
  refine (HI2.out _ HB.out).mono ?_
  rintro e w5 ⟨rfl, hb⟩
  replace HX0 := Lib.hid (HX0.out.bel hb)
  replace HX1 := Lib.hid (HX1.out.bel hb)
  replace HX2 := Lib.hid (HX2.out.bel hb)
  replace HB := Lib.hid (HB.out.trans hb)
  clear hb
  clear y0 y1 y2 y3 y4 y5 y6 ly z0 z1 z2 z3 z4 z5 z6 z7 z8 lz
  cases h4 : ntrB n u
  · skip
    go_wp2_with fail
    refine (HHE.out _ HB.out).mono ?_
    rintro e wz ⟨rfl, hb⟩
    have HBZ := Lib.hid (HB.out.trans hb)
    clear hb
    go_wp2
    go_ret
    exact ⟨rfl, HBZ.out⟩
  have x0 := HX0.out.c 0 _ rfl
  have x1 := HX0.out.c 1 _ rfl
  have x2 := HX0.out.c 2 _ rfl
  have x3 := HX0.out.c 3 _ rfl
  have lx := cell_lt x0
  have z0 := HX2.out.c 0 _ rfl
  have z1 := HX2.out.c 1 _ rfl
  have z2 := HX2.out.c 2 _ rfl
  have z3 := HX2.out.c 3 _ rfl
  have z4 := HX2.out.c 4 _ rfl
  have z5 := HX2.out.c 5 _ rfl
  have z6 := HX2.out.c 6 _ rfl
  have z7 := HX2.out.c 7 _ rfl
  have z8 := HX2.out.c 8 _ rfl
  have lz := cell_lt z0
  go_wp2_with fail
  refine (IsTime_any _ _ _ _ _ _).mono ?_
  rintro e w6 ⟨rfl, hb⟩
  replace HX0 := Lib.hid (HX0.out.bel hb)
  replace HX1 := Lib.hid (HX1.out.bel hb)
  replace HX2 := Lib.hid (HX2.out.bel hb)
  replace HB := Lib.hid (HB.out.trans hb)
  clear hb
  clear x0 x1 x2 x3 lx z0 z1 z2 z3 z4 z5 z6 z7 z8 lz
  cases h5 : isTimeB t.T ti
  · skip
    go_wp2_with fail
    refine (HHE.out _ HB.out).mono ?_
    rintro e wz ⟨rfl, hb⟩
    have HBZ := Lib.hid (HB.out.trans hb)
    clear hb
    go_wp2
    go_ret
    exact ⟨rfl, HBZ.out⟩
  have hf := fit_of_valid h1
  obtain ⟨i, rfl, hi⟩ := time_nat hf.t1 hf.t2 h5
  by_cases h6 : 40 < l.length
  · have h6i : (40 : Int) < (l.length : Int) := by omega
    have h6d : decide ((40 : Int) < (l.length : Int)) = true := decide_eq_true h6i
    have x0 := HX0.out.c 0 _ rfl
    have x1 := HX0.out.c 1 _ rfl
    have x2 := HX0.out.c 2 _ rfl
    have x3 := HX0.out.c 3 _ rfl
    have lx := cell_lt x0
    have z0 := HX2.out.c 0 _ rfl
    have z1 := HX2.out.c 1 _ rfl
    have z2 := HX2.out.c 2 _ rfl
    have z3 := HX2.out.c 3 _ rfl
    have z4 := HX2.out.c 4 _ rfl
    have z5 := HX2.out.c 5 _ rfl
    have z6 := HX2.out.c 6 _ rfl
    have z7 := HX2.out.c 7 _ rfl
    have z8 := HX2.out.c 8 _ rfl
    have lz := cell_lt z0
    go_wp2_with fail
    refine (HHE.out _ HB.out).mono ?_
    rintro e wz ⟨rfl, hb⟩
    have HBZ := Lib.hid (HB.out.trans hb)
    clear hb
    go_wp2
    go_ret
    exact ⟨rfl, HBZ.out⟩
  have h6i : ¬ (40 : Int) < (l.length : Int) := by omega
  have h6d : decide ((40 : Int) < (l.length : Int)) = false := decide_eq_false h6i
  have x0 := HX0.out.c 0 _ rfl
  have x1 := HX0.out.c 1 _ rfl
  have x2 := HX0.out.c 2 _ rfl
  have x3 := HX0.out.c 3 _ rfl
  have lx := cell_lt x0
  have z0 := HX2.out.c 0 _ rfl
  have z1 := HX2.out.c 1 _ rfl
  have z2 := HX2.out.c 2 _ rfl
  have z3 := HX2.out.c 3 _ rfl
  have z4 := HX2.out.c 4 _ rfl
  have z5 := HX2.out.c 5 _ rfl
  have z6 := HX2.out.c 6 _ rfl
  have z7 := HX2.out.c 7 _ rfl
  have z8 := HX2.out.c 8 _ rfl
  have lz := cell_lt z0
  go_wp2_with fail
  refine (HIT.out h1 _ HB.out).mono ?_
  rintro e w7 ⟨b7, rfl, hiff, hb⟩
  replace HX0 := Lib.hid (HX0.out.bel hb)
  replace HX1 := Lib.hid (HX1.out.bel hb)
  replace HX2 := Lib.hid (HX2.out.bel hb)
  replace HB := Lib.hid (HB.out.trans hb)
  clear hb
  clear x0 x1 x2 x3 lx z0 z1 z2 z3 z4 z5 z6 z7 z8 lz
  cases b7
  · skip
    go_wp2_with fail
    refine (HHE.out _ HB.out).mono ?_
    rintro e wz ⟨rfl, hb⟩
    have HBZ := Lib.hid (HB.out.trans hb)
    clear hb
    go_wp2
    go_ret
    exact ⟨rfl, HBZ.out⟩
  have ht := hiff.1 rfl
  have hnok := netB_iff.1 h3
  have htok := ntrB_iff.1 h4
  have hroom : Room t := room_small (by cases e : HugeB t with | false => rfl | true => (unfold FarB at h0; rw [e] at h0; cases h0))
  have HPL := Lib.hid (fun A B C a b c => drag_part (A := A) (B := B) (C := C) hnok htok h1 ht hi a b c)
  have HPT := Lib.hid (fun (hvo : validB (told t x) = true) (ho : IsT (told t x) l) A P Q C a p q c => drag_told (A := A) (P := P) (Q := Q) (C := C) hnok htok h1 hvo ho hi a p q c)
  have HPO := Lib.hid (fun (hvo : validB (told t x) = true) (ho : IsT (told t x) l) A B C a b c => drag_part (A := A) (B := B) (C := C) hnok htok hvo ho (show i < (told t x).T.toNat from hi) a b c)
  have HEN := Lib.hid (fun wx (hb : Bel w wx) => ends_any t l i _ wx (HV.out.bel hb) h1 ht hi)
  have HEO := Lib.hid (fun (hvo : validB (told t x) = true) (ho : IsT (told t x) l) vo wx (hb : TrapAt wx vo (told t x)) => ends_any (told t x) l i vo wx hb hvo ho (show i < (told t x).T.toNat from hi))
  have HDR := Lib.hid (fun fish (hf0 : ∀ j, j < fish.length → 0 ≤ at0 fish j) vf wx (hb : Bel w wx) (hvf : IntsAt wx vf fish) => dragged_any n u fish hnok htok hf0 _ vf _ wx (HN.out.bel hb) hvf (HU.out.bel hb) (HT.out.bel hb))
  have HN0 := Lib.hid (los_nn h1 ht hi)
  have HN1 := Lib.hid (row_nn ht hi)
  have HN2 := Lib.hid (his_nn h1 ht hi)
  have HNO := Lib.hid (fun (hvo : validB (told t x) = true) (ho : IsT (told t x) l) => And.intro (los_nn (t := told t x) hvo ho (show i < (told t x).T.toNat from hi)) (his_nn (t := told t x) hvo ho (show i < (told t x).T.toNat from hi)))
  have hil : i < l.length := by rw [ht.len]; exact hi
  have hili : (i : Int) < (l.length : Int) := by omega
  have HVAL := Lib.hid h1
  have HTT := Lib.hid ht
  have HROOM := Lib.hid hroom
  have HROW := Lib.hid (HLC.out i hil)
  clear h0 h1 h2 h3 h4 h5 h6 h6i h6d hf hiff ht hnok htok hroom hi HFA HCK HHU HC2 HI2 HIT hll
  have x0 := HX0.out.c 0 _ rfl
  have x1 := HX0.out.c 1 _ rfl
  have x2 := HX0.out.c 2 _ rfl
  have x3 := HX0.out.c 3 _ rfl
  have lx := cell_lt x0
  have z0 := HX2.out.c 0 _ rfl
  have z1 := HX2.out.c 1 _ rfl
  have z2 := HX2.out.c 2 _ rfl
  have z3 := HX2.out.c 3 _ rfl
  have z4 := HX2.out.c 4 _ rfl
  have z5 := HX2.out.c 5 _ rfl
  have z6 := HX2.out.c 6 _ rfl
  have z7 := HX2.out.c 7 _ rfl
  have z8 := HX2.out.c 8 _ rfl
  have lz := cell_lt z0
  go_wp2_with fail
  refine (HEN.out _ HB.out).mono ?_
  rintro e w8 ⟨V1, V2, rfl, hv1, hv2, hb⟩
  replace HX0 := Lib.hid (HX0.out.bel hb)
  replace HX1 := Lib.hid (HX1.out.bel hb)
  replace HX2 := Lib.hid (HX2.out.bel hb)
  replace HB := Lib.hid (HB.out.trans hb)
  have HV1 := Lib.hid hv1
  have HV2 := Lib.hid hv2
  clear hv1 hv2
  clear hb
  clear x0 x1 x2 x3 lx z0 z1 z2 z3 z4 z5 z6 z7 z8 lz
  have y0 := HX1.out.c 0 _ rfl
  have y1 := HX1.out.c 1 _ rfl
  have y2 := HX1.out.c 2 _ rfl
  have y3 := HX1.out.c 3 _ rfl
  have y4 := HX1.out.c 4 _ rfl
  have y5 := HX1.out.c 5 _ rfl
  have y6 := HX1.out.c 6 _ rfl
  have ly := cell_lt y0
  have z0 := HX2.out.c 0 _ rfl
  have z1 := HX2.out.c 1 _ rfl
  have z2 := HX2.out.c 2 _ rfl
  have z3 := HX2.out.c 3 _ rfl
  have z4 := HX2.out.c 4 _ rfl
  have z5 := HX2.out.c 5 _ rfl
  have z6 := HX2.out.c 6 _ rfl
  have z7 := HX2.out.c 7 _ rfl
  have z8 := HX2.out.c 8 _ rfl
  have lz := cell_lt z0
  go_wp2_with fail
  refine (HDR.out _ HN0.out V1 _ HB.out HV1.out).mono ?_
  rintro e w9 ⟨D1, l1, rfl, hf1, hl1, hb⟩
  replace HX0 := Lib.hid (HX0.out.bel hb)
  replace HX1 := Lib.hid (HX1.out.bel hb)
  replace HX2 := Lib.hid (HX2.out.bel hb)
  replace HB := Lib.hid (HB.out.trans hb)
  have HF1 := Lib.hid hf1
  have HL1 := Lib.hid hl1
  replace HV2 := Lib.hid (HV2.out.bel hb)
  clear hf1 hl1
  clear hb
  clear y0 y1 y2 y3 y4 y5 y6 ly z0 z1 z2 z3 z4 z5 z6 z7 z8 lz
  go_upto_region 5 with fail
  have y0 := HX1.out.c 0 _ rfl
  have y1 := HX1.out.c 1 _ rfl
  have y2 := HX1.out.c 2 _ rfl
  have y3 := HX1.out.c 3 _ rfl
  have y4 := HX1.out.c 4 _ rfl
  have y5 := HX1.out.c 5 _ rfl
  have y6 := HX1.out.c 6 _ rfl
  have ly := cell_lt y0
  have z0 := HX2.out.c 0 _ rfl
  have z1 := HX2.out.c 1 _ rfl
  have z2 := HX2.out.c 2 _ rfl
  have z3 := HX2.out.c 3 _ rfl
  have z4 := HX2.out.c 4 _ rfl
  have z5 := HX2.out.c 5 _ rfl
  have z6 := HX2.out.c 6 _ rfl
  have z7 := HX2.out.c 7 _ rfl
  have z8 := HX2.out.c 8 _ rfl
  have lz := cell_lt z0
  have r0 := HB.out.cell HROW.out.1
  have lr := cell_lt r0
  generalize rv i = rvi at *
  refine wp_region_mixB (Plan.seq [0, 1, 2, 3, 4, 5, 6, 7, 8, 1009, 10, 11, 12, 13, 14] .nil) (by kernel_rfl) (by kernel_rfl) (fun hcur => ?_)
  simp only [Plan.seq, Plan.fill, List.getD_cons_zero, List.getD_cons_succ, Nat.reduceLT, ↓reduceIte, Nat.reduceSub]
  apply mix_pure _ rfl
  · intro w' hw'
    have hcr := hw'.cells
    go_simp
    rfl
  intro K hK
  go_simp
  refine hK _ ?_
  clear hK K
  apply mix_pure _ rfl
  · intro w' hw'
    have hcr := hw'.cells
    go_simp
    rfl
  intro K hK
  go_simp
  refine hK _ ?_
  clear hK K
  apply mix_pure _ rfl
  · intro w' hw'
    have hcr := hw'.cells
    go_simp
    rfl
  intro K hK
  go_simp
  refine hK _ ?_
  clear hK K
  apply mix_pure _ rfl
  · intro w' hw'
    have hcr := hw'.cells
    go_simp
    rfl
  intro K hK
  go_simp
  refine hK _ ?_
  clear hK K
  apply mix_pure _ rfl
  · intro w' hw'
    have hcr := hw'.cells
    go_simp
    rfl
  intro K hK
  go_simp
  refine hK _ ?_
  clear hK K
  apply mix_pure _ rfl
  · intro w' hw'
    have hcr := hw'.cells
    go_simp
    rfl
  intro K hK
  go_simp
  refine hK _ ?_
  clear hK K
  apply mix_pure _ rfl
  · intro w' hw'
    have hcr := hw'.cells
    go_simp
    rfl
  intro K hK
  go_simp
  refine hK _ ?_
  clear hK K
  apply mix_pure _ rfl
  · intro w' hw'
    have hcr := hw'.cells
    go_simp
    rfl
  intro K hK
  go_simp
  refine hK _ ?_
  clear hK K
  apply mix_pure _ rfl
  · intro w' hw'
    have hcr := hw'.cells
    go_simp
    rfl
  intro K hK
  go_simp
  refine hK _ ?_
  clear hK K
  refine mix_act rfl (fun K hK => ?_)
  go_simp
  refine (HDR.out _ HN1.out rvi _ (HB.out.trans hcur) (HROW.out.2.bel (HB.out.trans hcur))).mono ?_
  rintro e wd ⟨D2, l2, rfl, hf2, hl2, hb⟩
  simp only []
  refine hK _ _ (hcur.trans hb) (fun hcur => ?_)
  clear hK K
  apply mix_pure _ rfl
  · intro w' hw'
    have hcr := hw'.cells
    go_simp
    rfl
  intro K hK
  go_simp
  refine hK _ ?_
  clear hK K
  apply mix_pure _ rfl
  · intro w' hw'
    have hcr := hw'.cells
    go_simp
    rfl
  intro K hK
  go_simp
  refine hK _ ?_
  clear hK K
  apply mix_pure _ rfl
  · intro w' hw'
    have hcr := hw'.cells
    go_simp
    rfl
  intro K hK
  go_simp
  refine hK _ ?_
  clear hK K
  apply mix_pure _ rfl
  · intro w' hw'
    have hcr := hw'.cells
    go_simp
    rfl
  intro K hK
  go_simp
  refine hK _ ?_
  clear hK K
  apply mix_pure _ rfl
  · intro w' hw'
    have hcr := hw'.cells
    go_simp
    rfl
  intro K hK
  go_simp
  refine hK _ ?_
  clear hK K
  refine mix_nil ?_
  replace HX0 := Lib.hid (HX0.out.bel hcur)
  replace HX1 := Lib.hid (HX1.out.bel hcur)
  replace HX2 := Lib.hid (HX2.out.bel hcur)
  replace HB := Lib.hid (HB.out.trans hcur)
  have HF2 := Lib.hid hf2
  have HL2 := Lib.hid hl2
  replace HL1 := Lib.hid (HL1.out.bel hcur)
  replace HV2 := Lib.hid (HV2.out.bel hcur)
  clear hf2 hl2 hb r0 lr hcur
  clear y0 y1 y2 y3 y4 y5 y6 ly z0 z1 z2 z3 z4 z5 z6 z7 z8 lz
  have y0 := HX1.out.c 0 _ rfl
  have y1 := HX1.out.c 1 _ rfl
  have y2 := HX1.out.c 2 _ rfl
  have y3 := HX1.out.c 3 _ rfl
  have y4 := HX1.out.c 4 _ rfl
  have y5 := HX1.out.c 5 _ rfl
  have y6 := HX1.out.c 6 _ rfl
  have ly := cell_lt y0
  have z0 := HX2.out.c 0 _ rfl
  have z1 := HX2.out.c 1 _ rfl
  have z2 := HX2.out.c 2 _ rfl
  have z3 := HX2.out.c 3 _ rfl
  have z4 := HX2.out.c 4 _ rfl
  have z5 := HX2.out.c 5 _ rfl
  have z6 := HX2.out.c 6 _ rfl
  have z7 := HX2.out.c 7 _ rfl
  have z8 := HX2.out.c 8 _ rfl
  have lz := cell_lt z0
  go_wp2_with fail
  refine (HDR.out _ HN2.out V2 _ HB.out HV2.out).mono ?_
  rintro e w10 ⟨D3, l3, rfl, hf3, hl3, hb⟩
  replace HX0 := Lib.hid (HX0.out.bel hb)
  replace HX1 := Lib.hid (HX1.out.bel hb)
  replace HX2 := Lib.hid (HX2.out.bel hb)
  replace HB := Lib.hid (HB.out.trans hb)
  have HF3 := Lib.hid hf3
  have HL3 := Lib.hid hl3
  replace HL1 := Lib.hid (HL1.out.bel hb)
  replace HL2 := Lib.hid (HL2.out.bel hb)
  clear hf3 hl3
  clear hb
  clear y0 y1 y2 y3 y4 y5 y6 ly z0 z1 z2 z3 z4 z5 z6 z7 z8 lz
  have HQ := Lib.hid (HPL.out _ _ _ HF1.out HF2.out HF3.out)
  go_wp2_with fail
  refine (isPart_any _ _ l1 l2 _ HL1.out HL2.out).mono ?_
  rintro e w11 ⟨rfl, hb⟩
  replace HX0 := Lib.hid (HX0.out.bel hb)
  replace HX1 := Lib.hid (HX1.out.bel hb)
  replace HX2 := Lib.hid (HX2.out.bel hb)
  replace HB := Lib.hid (HB.out.trans hb)
  replace HL1 := Lib.hid (HL1.out.bel hb)
  replace HL2 := Lib.hid (HL2.out.bel hb)
  replace HL3 := Lib.hid (HL3.out.bel hb)
  rw [HQ.out.1]
  clear hb
  go_wp2_with fail
  refine (isPart_any _ _ l2 l3 _ HL2.out HL3.out).mono ?_
  rintro e w12 ⟨rfl, hb⟩
  replace HX0 := Lib.hid (HX0.out.bel hb)
  replace HX1 := Lib.hid (HX1.out.bel hb)
  replace HX2 := Lib.hid (HX2.out.bel hb)
  replace HB := Lib.hid (HB.out.trans hb)
  replace HL1 := Lib.hid (HL1.out.bel hb)
  replace HL2 := Lib.hid (HL2.out.bel hb)
  replace HL3 := Lib.hid (HL3.out.bel hb)
  rw [HQ.out.2]
  clear hb
  have x0 := HX0.out.c 0 _ rfl
  have x1 := HX0.out.c 1 _ rfl
  have x2 := HX0.out.c 2 _ rfl
  have x3 := HX0.out.c 3 _ rfl
  have lx := cell_lt x0
  have z0 := HX2.out.c 0 _ rfl
  have z1 := HX2.out.c 1 _ rfl
  have z2 := HX2.out.c 2 _ rfl
  have z3 := HX2.out.c 3 _ rfl
  have z4 := HX2.out.c 4 _ rfl
  have z5 := HX2.out.c 5 _ rfl
  have z6 := HX2.out.c 6 _ rfl
  have z7 := HX2.out.c 7 _ rfl
  have z8 := HX2.out.c 8 _ rfl
  have lz := cell_lt z0
  go_wp2_with fail
  refine (HWO.out _ _ _).mono ?_
  rintro e w13 ⟨rfl, hb⟩
  replace HX0 := Lib.hid (HX0.out.bel hb)
  replace HX1 := Lib.hid (HX1.out.bel hb)
  replace HX2 := Lib.hid (HX2.out.bel hb)
  replace HB := Lib.hid (HB.out.trans hb)
  replace HL1 := Lib.hid (HL1.out.bel hb)
  replace HL2 := Lib.hid (HL2.out.bel hb)
  replace HL3 := Lib.hid (HL3.out.bel hb)
  clear hb
  clear x0 x1 x2 x3 lx z0 z1 z2 z3 z4 z5 z6 z7 z8 lz
  cases h8 : isWordB t.C t.T x
  · skip
    go_wp2_with fail
    refine (HHE.out _ HB.out).mono ?_
    rintro e wz ⟨rfl, hb⟩
    have HBZ := Lib.hid (HB.out.trans hb)
    clear hb
    go_wp2
    go_ret
    exact ⟨rfl, HBZ.out⟩
  have x0 := HX0.out.c 0 _ rfl
  have x1 := HX0.out.c 1 _ rfl
  have x2 := HX0.out.c 2 _ rfl
  have x3 := HX0.out.c 3 _ rfl
  have lx := cell_lt x0
  have z0 := HX2.out.c 0 _ rfl
  have z1 := HX2.out.c 1 _ rfl
  have z2 := HX2.out.c 2 _ rfl
  have z3 := HX2.out.c 3 _ rfl
  have z4 := HX2.out.c 4 _ rfl
  have z5 := HX2.out.c 5 _ rfl
  have z6 := HX2.out.c 6 _ rfl
  have z7 := HX2.out.c 7 _ rfl
  have z8 := HX2.out.c 8 _ rfl
  have lz := cell_lt z0
  go_wp2_with fail
  refine (HTO.out HROOM.out _ HB.out).mono ?_
  rintro e w14 ⟨vo, rfl, hb, ho⟩
  replace HX0 := Lib.hid (HX0.out.bel hb)
  replace HX1 := Lib.hid (HX1.out.bel hb)
  replace HX2 := Lib.hid (HX2.out.bel hb)
  replace HB := Lib.hid (HB.out.trans hb)
  replace HL1 := Lib.hid (HL1.out.bel hb)
  replace HL2 := Lib.hid (HL2.out.bel hb)
  replace HL3 := Lib.hid (HL3.out.bel hb)
  have HO := Lib.hid ho.now
  obtain ⟨oa, oc, owa, owc, rfl⟩ := ho.shape
  clear ho
  clear hb
  clear x0 x1 x2 x3 lx z0 z1 z2 z3 z4 z5 z6 z7 z8 lz
  go_upto_region 12 with fail
  generalize hW : World.alloc _ _ = wo
  have hb : Bel w14 wo := by rw [← hW]; exact (Bel.refl _).alloc _
  have HX3 : Hid (Bx wo w14.heap.size [.int .i64 (told t x).C, .int .i64 (told t x).T, .slice oa (told t x).op.length oc, .slice owa (told t x).ws.length owc]) := Lib.hid (by rw [← hW]; exact Bx.new rfl)
  clear hW
  replace HX0 := Lib.hid (HX0.out.bel hb)
  replace HX1 := Lib.hid (HX1.out.bel hb)
  replace HX2 := Lib.hid (HX2.out.bel hb)
  replace HO := Lib.hid (HO.out.bel hb)
  replace HL1 := Lib.hid (HL1.out.bel hb)
  replace HL2 := Lib.hid (HL2.out.bel hb)
  replace HL3 := Lib.hid (HL3.out.bel hb)
  replace HB := Lib.hid (HB.out.trans hb)
  clear hb
  have o0 := HX3.out.c 0 _ rfl
  have o1 := HX3.out.c 1 _ rfl
  have o2 := HX3.out.c 2 _ rfl
  have o3 := HX3.out.c 3 _ rfl
  have lo := cell_lt o0
  go_wp2_with fail
  refine (RCheck_any (told t x) _ _ HO.out).mono ?_
  rintro e w15 ⟨rfl, hb⟩
  replace HX0 := Lib.hid (HX0.out.bel hb)
  replace HX1 := Lib.hid (HX1.out.bel hb)
  replace HX2 := Lib.hid (HX2.out.bel hb)
  replace HX3 := Lib.hid (HX3.out.bel hb)
  replace HO := Lib.hid (HO.out.bel hb)
  replace HL1 := Lib.hid (HL1.out.bel hb)
  replace HL2 := Lib.hid (HL2.out.bel hb)
  replace HL3 := Lib.hid (HL3.out.bel hb)
  replace HB := Lib.hid (HB.out.trans hb)
  clear o0 o1 o2 o3 lo
  clear hb
  cases h9 : validB (told t x)
  · rw [chk_false h9]
    go_wp2_with fail
    refine (HHE.out _ HB.out).mono ?_
    rintro e wz ⟨rfl, hb⟩
    have HBZ := Lib.hid (HB.out.trans hb)
    clear hb
    go_wp2
    go_ret
    exact ⟨rfl, HBZ.out⟩
  rw [chk_true h9]
  have z0 := HX2.out.c 0 _ rfl
  have z1 := HX2.out.c 1 _ rfl
  have z2 := HX2.out.c 2 _ rfl
  have z3 := HX2.out.c 3 _ rfl
  have z4 := HX2.out.c 4 _ rfl
  have z5 := HX2.out.c 5 _ rfl
  have z6 := HX2.out.c 6 _ rfl
  have z7 := HX2.out.c 7 _ rfl
  have z8 := HX2.out.c 8 _ rfl
  have lz := cell_lt z0
  have o0 := HX3.out.c 0 _ rfl
  have o1 := HX3.out.c 1 _ rfl
  have o2 := HX3.out.c 2 _ rfl
  have o3 := HX3.out.c 3 _ rfl
  have lo := cell_lt o0
  go_wp2_with fail
  refine (IsTruth_any (told t x) _ _ l _ HO.out (HL.out.bel HB.out) h9).mono ?_
  rintro e w16 ⟨b8, rfl, hio, hb⟩
  replace HX0 := Lib.hid (HX0.out.bel hb)
  replace HX1 := Lib.hid (HX1.out.bel hb)
  replace HX2 := Lib.hid (HX2.out.bel hb)
  replace HX3 := Lib.hid (HX3.out.bel hb)
  replace HO := Lib.hid (HO.out.bel hb)
  replace HL1 := Lib.hid (HL1.out.bel hb)
  replace HL2 := Lib.hid (HL2.out.bel hb)
  replace HL3 := Lib.hid (HL3.out.bel hb)
  replace HB := Lib.hid (HB.out.trans hb)
  clear o0 o1 o2 o3 lo
  clear hb
  clear z0 z1 z2 z3 z4 z5 z6 z7 z8 lz
  cases b8
  · skip
    go_wp2_with fail
    refine (HHE.out _ HB.out).mono ?_
    rintro e wz ⟨rfl, hb⟩
    have HBZ := Lib.hid (HB.out.trans hb)
    clear hb
    go_wp2
    go_ret
    exact ⟨rfl, HBZ.out⟩
  have ho := hio.1 rfl
  have HPO2 := Lib.hid (fun A B C => HPO.out h9 ho A B C)
  have HPT2 := Lib.hid (fun A P Q C => HPT.out h9 ho A P Q C)
  have HEO2 := Lib.hid (fun vo wx hb => HEO.out h9 ho vo wx hb)
  have HNO2 := Lib.hid (HNO.out h9 ho)
  clear hio ho h8 h9 HPO HPT HEO HNO
  have z0 := HX2.out.c 0 _ rfl
  have z1 := HX2.out.c 1 _ rfl
  have z2 := HX2.out.c 2 _ rfl
  have z3 := HX2.out.c 3 _ rfl
  have z4 := HX2.out.c 4 _ rfl
  have z5 := HX2.out.c 5 _ rfl
  have z6 := HX2.out.c 6 _ rfl
  have z7 := HX2.out.c 7 _ rfl
  have z8 := HX2.out.c 8 _ rfl
  have lz := cell_lt z0
  have o0 := HX3.out.c 0 _ rfl
  have o1 := HX3.out.c 1 _ rfl
  have o2 := HX3.out.c 2 _ rfl
  have o3 := HX3.out.c 3 _ rfl
  have lo := cell_lt o0
  go_wp2_with fail
  refine (HEO2.out _ _ HO.out).mono ?_
  rintro e w17 ⟨V3, V4, rfl, hv1, hv2, hb⟩
  replace HX0 := Lib.hid (HX0.out.bel hb)
  replace HX1 := Lib.hid (HX1.out.bel hb)
  replace HX2 := Lib.hid (HX2.out.bel hb)
  replace HX3 := Lib.hid (HX3.out.bel hb)
  replace HO := Lib.hid (HO.out.bel hb)
  replace HL1 := Lib.hid (HL1.out.bel hb)
  replace HL2 := Lib.hid (HL2.out.bel hb)
  replace HL3 := Lib.hid (HL3.out.bel hb)
  replace HB := Lib.hid (HB.out.trans hb)
  clear o0 o1 o2 o3 lo
  have HV3 := Lib.hid hv1
  have HV4 := Lib.hid hv2
  clear hv1 hv2
  clear hb
  clear z0 z1 z2 z3 z4 z5 z6 z7 z8 lz
  have y0 := HX1.out.c 0 _ rfl
  have y1 := HX1.out.c 1 _ rfl
  have y2 := HX1.out.c 2 _ rfl
  have y3 := HX1.out.c 3 _ rfl
  have y4 := HX1.out.c 4 _ rfl
  have y5 := HX1.out.c 5 _ rfl
  have y6 := HX1.out.c 6 _ rfl
  have ly := cell_lt y0
  have z0 := HX2.out.c 0 _ rfl
  have z1 := HX2.out.c 1 _ rfl
  have z2 := HX2.out.c 2 _ rfl
  have z3 := HX2.out.c 3 _ rfl
  have z4 := HX2.out.c 4 _ rfl
  have z5 := HX2.out.c 5 _ rfl
  have z6 := HX2.out.c 6 _ rfl
  have z7 := HX2.out.c 7 _ rfl
  have z8 := HX2.out.c 8 _ rfl
  have lz := cell_lt z0
  go_wp2_with fail
  refine (HDR.out _ HNO2.out.1 V3 _ HB.out HV3.out).mono ?_
  rintro e w18 ⟨D4, l4, rfl, hf4, hl4, hb⟩
  replace HX0 := Lib.hid (HX0.out.bel hb)
  replace HX1 := Lib.hid (HX1.out.bel hb)
  replace HX2 := Lib.hid (HX2.out.bel hb)
  replace HX3 := Lib.hid (HX3.out.bel hb)
  replace HO := Lib.hid (HO.out.bel hb)
  replace HL1 := Lib.hid (HL1.out.bel hb)
  replace HL2 := Lib.hid (HL2.out.bel hb)
  replace HL3 := Lib.hid (HL3.out.bel hb)
  replace HV4 := Lib.hid (HV4.out.bel hb)
  replace HB := Lib.hid (HB.out.trans hb)
  have HF4 := Lib.hid hf4
  have HL4 := Lib.hid hl4
  clear hf4 hl4
  clear hb
  clear y0 y1 y2 y3 y4 y5 y6 ly z0 z1 z2 z3 z4 z5 z6 z7 z8 lz
  have y0 := HX1.out.c 0 _ rfl
  have y1 := HX1.out.c 1 _ rfl
  have y2 := HX1.out.c 2 _ rfl
  have y3 := HX1.out.c 3 _ rfl
  have y4 := HX1.out.c 4 _ rfl
  have y5 := HX1.out.c 5 _ rfl
  have y6 := HX1.out.c 6 _ rfl
  have ly := cell_lt y0
  have z0 := HX2.out.c 0 _ rfl
  have z1 := HX2.out.c 1 _ rfl
  have z2 := HX2.out.c 2 _ rfl
  have z3 := HX2.out.c 3 _ rfl
  have z4 := HX2.out.c 4 _ rfl
  have z5 := HX2.out.c 5 _ rfl
  have z6 := HX2.out.c 6 _ rfl
  have z7 := HX2.out.c 7 _ rfl
  have z8 := HX2.out.c 8 _ rfl
  have lz := cell_lt z0
  go_wp2_with fail
  refine (HDR.out _ HNO2.out.2 V4 _ HB.out HV4.out).mono ?_
  rintro e w19 ⟨D5, l5, rfl, hf5, hl5, hb⟩
  replace HX0 := Lib.hid (HX0.out.bel hb)
  replace HX1 := Lib.hid (HX1.out.bel hb)
  replace HX2 := Lib.hid (HX2.out.bel hb)
  replace HX3 := Lib.hid (HX3.out.bel hb)
  replace HO := Lib.hid (HO.out.bel hb)
  replace HL1 := Lib.hid (HL1.out.bel hb)
  replace HL2 := Lib.hid (HL2.out.bel hb)
  replace HL3 := Lib.hid (HL3.out.bel hb)
  replace HL4 := Lib.hid (HL4.out.bel hb)
  replace HB := Lib.hid (HB.out.trans hb)
  have HF5 := Lib.hid hf5
  have HL5 := Lib.hid hl5
  clear hf5 hl5
  clear hb
  clear y0 y1 y2 y3 y4 y5 y6 ly z0 z1 z2 z3 z4 z5 z6 z7 z8 lz
  have HQ4 := Lib.hid (HPT2.out _ _ _ _ HF1.out HF4.out HF5.out HF3.out)
  have HQ5 := Lib.hid (HPO2.out _ _ _ HF4.out HF2.out HF5.out)
  go_wp2_with fail
  refine (isPart_any _ _ l1 l4 _ HL1.out HL4.out).mono ?_
  rintro e w20 ⟨rfl, hb⟩
  replace HB := Lib.hid (HB.out.trans hb)
  replace HL1 := Lib.hid (HL1.out.bel hb)
  replace HL2 := Lib.hid (HL2.out.bel hb)
  replace HL3 := Lib.hid (HL3.out.bel hb)
  replace HL4 := Lib.hid (HL4.out.bel hb)
  replace HL5 := Lib.hid (HL5.out.bel hb)
  rw [HQ4.out.1]
  clear hb
  go_wp2_with fail
  refine (isPart_any _ _ l4 l2 _ HL4.out HL2.out).mono ?_
  rintro e w21 ⟨rfl, hb⟩
  replace HB := Lib.hid (HB.out.trans hb)
  replace HL1 := Lib.hid (HL1.out.bel hb)
  replace HL2 := Lib.hid (HL2.out.bel hb)
  replace HL3 := Lib.hid (HL3.out.bel hb)
  replace HL4 := Lib.hid (HL4.out.bel hb)
  replace HL5 := Lib.hid (HL5.out.bel hb)
  rw [HQ5.out.1]
  clear hb
  go_wp2_with fail
  refine (isPart_any _ _ l2 l5 _ HL2.out HL5.out).mono ?_
  rintro e w22 ⟨rfl, hb⟩
  replace HB := Lib.hid (HB.out.trans hb)
  replace HL1 := Lib.hid (HL1.out.bel hb)
  replace HL2 := Lib.hid (HL2.out.bel hb)
  replace HL3 := Lib.hid (HL3.out.bel hb)
  replace HL4 := Lib.hid (HL4.out.bel hb)
  replace HL5 := Lib.hid (HL5.out.bel hb)
  rw [HQ5.out.2]
  clear hb
  go_wp2_with fail
  refine (isPart_any _ _ l5 l3 _ HL5.out HL3.out).mono ?_
  rintro e w23 ⟨rfl, hb⟩
  replace HB := Lib.hid (HB.out.trans hb)
  replace HL1 := Lib.hid (HL1.out.bel hb)
  replace HL2 := Lib.hid (HL2.out.bel hb)
  replace HL3 := Lib.hid (HL3.out.bel hb)
  replace HL4 := Lib.hid (HL4.out.bel hb)
  replace HL5 := Lib.hid (HL5.out.bel hb)
  rw [HQ4.out.2]
  clear hb
  go_wp2_with fail
  refine (HHE.out _ HB.out).mono ?_
  rintro e wz ⟨rfl, hb⟩
  have HBZ := Lib.hid (HB.out.trans hb)
  clear hb
  go_wp2
  go_ret
  exact ⟨rfl, HBZ.out⟩
end Go.Proofs.YtkdcdhkhadhcfaaDoor
