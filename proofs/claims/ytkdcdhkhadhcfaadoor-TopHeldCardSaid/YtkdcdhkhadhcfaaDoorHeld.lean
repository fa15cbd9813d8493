/-
  the top law: held, the examples of the chapters 1 and 2.
-/
import Derived.Test.YtkdcdhkhadhcfaaDoorNEx
import Derived.Test.YtkdcdhkhadhcfaaDoorExample
namespace Go.Proofs.YtkdcdhkhadhcfaaDoor
open Go Go.RowKit
set_option maxHeartbeats 4000000
set_option maxRecDepth 100000
theorem TrapAt.form {w : World} {v : Value} {t : CT} (h : TrapAt w v t) : ∃ a c wa wc, v = .agg #[.int .i64 t.C, .int .i64 t.T, .slice a t.op.length c, .slice wa t.ws.length wc] ∧ t.op.length ≤ 140737488355328 ∧ t.ws.length ≤ 140737488355328 := by
  obtain ⟨ov, wv, rfl, ⟨a, c, b, off, rv, rfl, _, h1, _⟩, ⟨wa, wc, wb, woff, rfl, _, h2, _⟩⟩ := h
  exact ⟨a, c, wa, wc, rfl, h1, h2.1⟩
theorem ints12 (T : TypeId) {w : World} {g : Nat} {a b : Int} (hg : g = w.heap.size) : IntsAt (w.alloc (.cells #[.int .i64 a, .int .i64 b] T)) (.slice (some ⟨g, 0, none⟩) 2 2) [a, b] := ints2 hg
theorem held_any (w : World) (hT : BruAt w) : Calls Tryd.prog 12 #[] w fun e w' => e = .returned (.bool true) ∧ Bel w w' := by
  have HT := Lib.hid hT
  have HFI : Hid (∀ v wx, TrapAt wx v exT → Calls Tryd.prog 32 #[v, .int .i64 1, .int .i64 1] wx fun e w' => e = .returned (.tuple #[.agg #[.int .i64 0, .int .i64 10], .int .i64 0]) ∧ Bel wx w') := Lib.hid (fun v wx hx => by
    have := Fish_any exT v 1 1 wx hx
    unfold SpanPost at this
    rw [exT_err _ (by kernel_rfl), ex_fish11.1, ex_fish11.2] at this
    exact this)
  have HDR : Hid (∀ v vt wx, NetAt wx v exN → NTrAt wx vt exNA → Bel w wx → Calls Tryd.prog 33 #[v, vt] wx fun e w' => ∃ l, e = .returned (.tuple #[l, .int .i64 0]) ∧ IntsAt w' l [1, 2] ∧ Bel wx w') := Lib.hid (fun v vt wx h1 h2 hb => by
    refine (nDrags_any exN exNA exN_ok exNA_ok v vt wx h1 h2 (hT.bel hb)).mono ?_
    rintro e w' ⟨D, l, rfl, hF, hl, hb'⟩
    rw [exN_drags hF] at hl
    exact ⟨l, rfl, hl, hb'⟩)
  clear hT
  go_enter Tryd.func12, Tryd.ntmps12
  go_wp2_with fail
  refine (Example_any _).mono ?_
  rintro e w1 ⟨vt, vq, rfl, hb, ht, hq⟩
  have HB1 := Lib.hid hb
  have HTR := Lib.hid ht
  obtain ⟨a, c, wa, wc, rfl, _, _⟩ := ht.form
  obtain ⟨qa, qc, qwa, qwc, rfl, _, _⟩ := hq.form
  clear hb ht hq
  generalize exT.op.length = n1 at *
  generalize exT.ws.length = n2 at *
  generalize exQ.op.length = n3 at *
  generalize exQ.ws.length = n4 at *
  generalize hC : exT.C = C at *
  generalize hTt : exT.T = T at *
  generalize exQ.C = C2 at *
  generalize exQ.T = T2 at *
  clear hC hTt
  go_wp2_with fail
  generalize hW : World.alloc _ _ = W1
  have HB2 : Hid (Bel w1 W1) := Lib.hid (by rw [← hW]; exact ((Bel.refl w1).alloc _).alloc _)
  have HX : Hid (Bx W1 w1.heap.size [.int .i64 C, .int .i64 T, .slice a n1 c, .slice wa n2 wc]) := Lib.hid (by rw [← hW]; exact (Bx.new rfl).bel ((Bel.refl _).alloc _))
  clear hW
  refine (NExample_any _).mono ?_
  rintro e w2 ⟨vn, va, vb, rfl, hb, hn, ha, ⟨y1, y2, ya, ym, yc, rfl⟩⟩
  have HB3 := Lib.hid (HB2.out.trans hb)
  replace HX := Lib.hid (HX.out.bel hb)
  have HN := Lib.hid hn
  have HA := Lib.hid ha
  obtain ⟨ga, gc, aa, ac, xa, xc, rfl, _, _, _⟩ := hn.openL
  obtain ⟨ta, tc, rfl, _⟩ := ha.open
  clear hb hn ha HB2
  generalize exN.grips.length = m1 at *
  generalize exN.an.length = m2 at *
  generalize exN.walls.length = m3 at *
  generalize exNA.grips.length = m4 at *
  generalize exN.wind.lo = n5 at *
  generalize exN.wind.hi = n6 at *
  generalize exN.cur.lo = n7 at *
  generalize exN.cur.hi = n8 at *
  generalize exNA.wind = n9 at *
  generalize exNA.cur = n10 at *
  go_upto_region 3 with fail
  generalize hW : World.alloc _ _ = W2
  have HB4 : Hid (Bel w2 W2) := Lib.hid (by rw [← hW]; exact (((Bel.refl w2).alloc _).alloc _).alloc _)
  have HP : Hid (Bx W2 w2.heap.size [.int .i64 n5, .int .i64 n6, .int .i64 n7, .int .i64 n8, .slice ga m1 gc, .slice aa m2 ac, .slice xa m3 xc]) := Lib.hid (by rw [← hW]; exact ((Bx.new rfl).bel ((Bel.refl _).alloc _)).bel ((Bel.refl _).alloc _))
  have HQ : Hid (Bx W2 (w2.heap.size + 1) [.int .i64 n9, .int .i64 n10, .slice ta m4 tc]) := Lib.hid (by rw [← hW]; exact (Bx.new (by simp)).bel ((Bel.refl _).alloc _))
  clear hW
  replace HX := Lib.hid (HX.out.bel HB4.out)
  have x0 := HX.out.c 0 _ rfl
  have x1 := HX.out.c 1 _ rfl
  have x2 := HX.out.c 2 _ rfl
  have x3 := HX.out.c 3 _ rfl
  have lx := cell_lt x0
  go_wp2_with fail
  refine (HFI.out _ _ (HTR.out.bel (HB3.out.trans HB4.out))).mono ?_
  rintro e w3 ⟨rfl, hb⟩
  replace HP := Lib.hid (HP.out.bel hb)
  replace HQ := Lib.hid (HQ.out.bel hb)
  have HB5 := Lib.hid (HB4.out.trans hb)
  clear hb HB4 HFI x0 x1 x2 x3 lx
  go_upto_region 4 with fail
  generalize hW : World.alloc _ _ = W3
  have HB6 : Hid (Bel w3 W3) := Lib.hid (by rw [← hW]; exact (Bel.refl w3).alloc _)
  have HS : Hid (Bx W3 w3.heap.size [.int .i64 0, .int .i64 10]) := Lib.hid (by rw [← hW]; exact Bx.new rfl)
  clear hW
  replace HP := Lib.hid (HP.out.bel HB6.out)
  replace HQ := Lib.hid (HQ.out.bel HB6.out)
  have x0 := HP.out.c 0 _ rfl
  have x1 := HP.out.c 1 _ rfl
  have x2 := HP.out.c 2 _ rfl
  have x3 := HP.out.c 3 _ rfl
  have x4 := HP.out.c 4 _ rfl
  have x5 := HP.out.c 5 _ rfl
  have x6 := HP.out.c 6 _ rfl
  have y0 := HQ.out.c 0 _ rfl
  have y1 := HQ.out.c 1 _ rfl
  have y2 := HQ.out.c 2 _ rfl
  have lx := cell_lt x0
  have ly := cell_lt y0
  have HBW := Lib.hid (((HB1.out.trans HB3.out).trans HB5.out).trans HB6.out)
  go_wp2_with fail
  refine (HDR.out _ _ _ (HN.out.bel (HB5.out.trans HB6.out)) (HA.out.bel (HB5.out.trans HB6.out)) HBW.out).mono ?_
  rintro e w4 ⟨l, rfl, hl, hb⟩
  replace HS := Lib.hid (HS.out.bel hb)
  have HBZ := Lib.hid (HBW.out.trans hb)
  have HL := Lib.hid hl
  obtain ⟨la, lc, lb, lo, rfl, hla, _, _⟩ := hl
  obtain rfl := hla (by simp)
  clear hla
  clear hb HB6 HBW HDR x0 x1 x2 x3 x4 x5 x6 y0 y1 y2 lx ly
  have s0 := HS.out.c 0 _ rfl
  have s1 := HS.out.c 1 _ rfl
  have ls := cell_lt s0
  go_wp2_with fail
  refine (SameInts_any (.slice (some ⟨lb, lo, none⟩) 2 lc) (.slice (some ⟨w4.heap.size, 0, none⟩) 2 2) [1, 2] [1, 2] (w4.alloc (.cells #[.int .i64 1, .int .i64 2] 3)) (HL.out.bel ((Bel.refl w4).alloc _)) (ints2 rfl)).mono ?_
  rintro e w5 ⟨rfl, hb⟩
  have HBY := Lib.hid (HBZ.out.trans (Bel.trans (by repeat (first | assumption | exact Bel.refl _ | refine Bel.drew ?_ | refine Bel.drewN ?_ _ | refine Bel.alloc ?_ _ | refine Bel.setCell ?_ (by simp <;> omega) _ | refine Bel.trans ?_ (by assumption))) hb))
  clear hb
  have HSM := Lib.hid (show sameB [1, 2] [1, 2] = true from rfl)
  rw [HSM.out]
  go_wp2
  go_ret
  exact ⟨rfl, HBY.out⟩
end Go.Proofs.YtkdcdhkhadhcfaaDoor
