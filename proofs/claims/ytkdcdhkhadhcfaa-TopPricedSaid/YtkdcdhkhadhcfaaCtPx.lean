/-
  cuts: between, span, Price.
-/
import Derived.Test.YtkdcdhkhadhcfaaCtLs
namespace Go.Proofs.Ytkdcdhkhadhcfaa
open Go Go.RowKit
set_option maxHeartbeats 4000000
set_option maxRecDepth 100000
/-- A cut that has a price. -/
structure PrOk (t : List CP) (c : List Int) : Prop where
  lo : LsOk t (loC t c)
  hi : LsOk t (hiC t c)
  nn : 0 ≤ priceLo t c
  lt : priceLo t c < (1099511627776 : Int)
  h0 : 0 ≤ priceHi t c
  up : priceHi t c ≤ 1000000
theorem PriceLaw.pr {t : List CP} {c y : List Int} (h : PriceLaw t c y) : PrOk t c := ⟨h.lo, h.hi, h.nn, h.lt, by have := h.nn; have := h.le; have := h.ge; omega, h.up⟩
theorem between7_any (t : List CP) (c : List Int) (p q : Nat) (v : Value) (w : World) (ht : CtOk t) (hp : PrOk t c) (hv : CtAt w v t)
    (htl : Tells w 72 #[.pointer (some ⟨p, 0, none⟩), .pointer (some ⟨q, 0, none⟩)] t.length (eachV t c)) :
    Calls Try.prog 68 #[v, .func (.func 72) #[] #[.pointer (some ⟨p, 0, none⟩), .pointer (some ⟨q, 0, none⟩)]] w fun e w' => e = .returned (.tuple #[.agg #[.int .i64 (priceLo t c), .int .i64 (priceHi t c)], .bool true]) ∧ Bel w w' := by
  have HT1 := Lib.hid (fun ge wx (hb : Bel w wx) (hx : Bx wx ge [.func (.func 72) #[] #[.pointer (some ⟨p, 0, none⟩), .pointer (some ⟨q, 0, none⟩)]]) =>
    truth_any t (fun i u => eachV t c i * u) 95 ge v wx ht.l8 (enters_of Try.func95 (by kernel_rfl) rfl) (hv.bel hb) (btw1_any t.length (eachV t c) ge p q wx (each_in ht c) hx (htl.bel hb)))
  have HT2 := Lib.hid (fun ge wx (hb : Bel w wx) (hx : Bx wx ge [.func (.func 72) #[] #[.pointer (some ⟨p, 0, none⟩), .pointer (some ⟨q, 0, none⟩)]]) =>
    truth_any t (fun i u => -eachV t c i * u) 96 ge v wx ht.l8 (enters_of Try.func96 (by kernel_rfl) rfl) (hv.bel hb) (btw2_any t.length (eachV t c) ge p q wx (each_in ht c) hx (htl.bel hb)))
  have HL1 := Lib.hid (fun p1 p2 wx (hb : Bel w wx) hf => least_any t (loC t c) 0 v p1 p2 wx ht (lo_ok ht c) hp.lo (hv.bel hb) hf)
  have HL2 := Lib.hid (fun p1 p2 wx (hb : Bel w wx) hf => least_any t (hiC t c) 2970 v p1 p2 wx ht (hi_ok ht c) hp.hi (hv.bel hb) hf)
  have hlo := And.intro hp.nn hp.lt
  have hhi := And.intro hp.h0 hp.up
  have HE1 := Lib.hid (show leastV t (loC t c) = priceLo t c from rfl)
  have HE2 := Lib.hid (show leastV t (hiC t c) = -priceHi t c by unfold priceHi; omega)
  have hmf : ∀ (fn : Fn) (first cap : Array Value) (w : World), (Instr.makeFunc fn first cap).run Try.prog w = .ok (.func fn first cap) w := fun _ _ _ _ => rfl
  clear htl hp
  obtain ⟨a, cc, b, off, rfl, _, _, _⟩ := hv
  rw [HE1.out] at HL1
  rw [HE2.out] at HL2
  generalize hlv : priceLo t c = lo at *
  generalize hhv : priceHi t c = hi at *
  clear hlv hhv HE1 HE2
  obtain ⟨hlo1, hlo2⟩ := hlo
  obtain ⟨hhi1, hhi2⟩ := hhi
  have hw1 : IntKind.i64.wrap (-(-hi)) = hi := by rw [IntWalk.i64_in]; all_goals omega
  have hfar : decide (lo < (1099511627776 : Int)) = true := decide_eq_true hlo2
  go_enter Try.func68, Try.ntmps68
  go_wp2_with fail
  generalize hW : World.alloc _ _ = W0
  have HX : Hid (Bx W0 w.heap.size [.func (.func 72) #[] #[.pointer (some ⟨p, 0, none⟩), .pointer (some ⟨q, 0, none⟩)]]) := Lib.hid (by rw [← hW]; exact (Bx.new rfl).bel ((Bel.refl _).alloc _))
  have HR : Hid (Bx W0 (w.heap.size + 1) [.int .i64 0, .int .i64 0]) := Lib.hid (by rw [← hW]; exact Bx.new (by simp))
  have HB : Hid (Bel w W0) := Lib.hid (by rw [← hW]; exact ((Bel.refl w).alloc _).alloc _)
  clear hW
  refine (HT1.out _ _ HB.out HX.out).mono ?_
  rintro e w1 ⟨gt1, gf1, rfl, hcf, hb⟩
  have HCF := Lib.hid hcf
  replace HX := Lib.hid (HX.out.bel hb)
  replace HR := Lib.hid (HR.out.bel hb)
  replace HB := Lib.hid (HB.out.trans hb)
  clear hcf hb HT1
  go_wp2_with fail
  refine (HL1.out gt1 gf1 _ HB.out HCF.out).mono ?_
  rintro e w2 ⟨rfl, hb⟩
  replace HX := Lib.hid (HX.out.bel hb)
  replace HR := Lib.hid (HR.out.bel hb)
  replace HB := Lib.hid (HB.out.trans hb)
  clear hb HL1 HCF
  go_wp2_with fail
  refine (HT2.out _ _ HB.out HX.out).mono ?_
  rintro e w3 ⟨gt2, gf2, rfl, hcf, hb⟩
  have HCF := Lib.hid hcf
  replace HX := Lib.hid (HX.out.bel hb)
  replace HR := Lib.hid (HR.out.bel hb)
  replace HB := Lib.hid (HB.out.trans hb)
  clear hcf hb HT2
  go_wp2_with fail
  refine (HL2.out gt2 gf2 _ HB.out HCF.out).mono ?_
  rintro e w4 ⟨rfl, hb⟩
  replace HR := Lib.hid (HR.out.bel hb)
  replace HB := Lib.hid (HB.out.trans hb)
  clear hb HL2 HCF HX
  have r0 := HR.out.c 0 _ rfl
  have r1 := HR.out.c 1 _ rfl
  have rf := HR.out.f
  have lr := HR.out.lt
  go_wp2
  generalize hW9 : World.setCell _ _ _ = W9
  have HR9 : Hid (Bx W9 (w.heap.size + 1) [.int .i64 lo, .int .i64 hi]) := Lib.hid (by rw [← hW9]; exact (HR.out.set (i := 0) (by simp) (.int .i64 lo)).set (i := 1) (by simp) (.int .i64 hi))
  have HB9 : Hid (Bel w W9) := Lib.hid (by rw [← hW9]; exact (HB.out.setCell (p := ⟨w.heap.size + 1, 0, none⟩) (by show w.heap.size ≤ w.heap.size + 1; omega) _).setCell (p := ⟨w.heap.size + 1, 1, none⟩) (by show w.heap.size ≤ w.heap.size + 1; omega) _)
  clear hW9 r0 r1 rf lr
  have r0 := HR9.out.c 0 _ rfl
  have r1 := HR9.out.c 1 _ rfl
  have lr := HR9.out.lt
  exact bodyPost_ret (v := .tuple #[.agg #[.int .i64 lo, .int .i64 hi], .bool true]) (by simp [results, Try.results68, go_sem, *]) rfl ⟨rfl, HB9.out⟩
theorem span7_any (t : List CP) (c : List Int) (p q : Nat) (v : Value) (w : World) (ht : CtOk t) (hp : PrOk t c) (hv : CtAt w v t)
    (htl : Tells w 72 #[.pointer (some ⟨p, 0, none⟩), .pointer (some ⟨q, 0, none⟩)] t.length (eachV t c)) :
    Calls Try.prog 41 #[v, .bool true, .func (.func 72) #[] #[.pointer (some ⟨p, 0, none⟩), .pointer (some ⟨q, 0, none⟩)]] w fun e w' => e = .returned (.tuple #[.agg #[.int .i64 (priceLo t c), .int .i64 (priceHi t c)], .int .i64 0]) ∧ Bel w w' := by
  have HA := Lib.hid (fun wx (hb : Bel w wx) => Cask_any t v wx ht (hv.bel hb))
  have HBT := Lib.hid (fun wx (hb : Bel w wx) => between7_any t c p q v wx ht hp (hv.bel hb) (htl.bel hb))
  clear htl hp
  obtain ⟨a, cc, b, off, rfl, _, _, _⟩ := hv
  generalize hlv : priceLo t c = lo at *
  generalize hhv : priceHi t c = hi at *
  clear hlv hhv
  go_enter Try.func41, Try.ntmps41
  go_wp2_with fail
  generalize hW : World.alloc _ _ = W0
  have HR : Hid (Bx W0 w.heap.size [.int .i64 0, .int .i64 0]) := Lib.hid (by rw [← hW]; exact Bx.new rfl)
  have HB : Hid (Bel w W0) := Lib.hid (by rw [← hW]; exact (Bel.refl w).alloc _)
  clear hW
  refine (HA.out _ HB.out).mono ?_
  rintro e w1 ⟨rfl, hb⟩
  replace HR := Lib.hid (HR.out.bel hb)
  replace HB := Lib.hid (HB.out.trans hb)
  clear hb HA
  go_wp2_with fail
  refine (HBT.out _ HB.out).mono ?_
  rintro e w2 ⟨rfl, hb⟩
  replace HR := Lib.hid (HR.out.bel hb)
  replace HB := Lib.hid (HB.out.trans hb)
  clear hb HBT
  have r0 := HR.out.c 0 _ rfl
  have r1 := HR.out.c 1 _ rfl
  have rf := HR.out.f
  have lr := HR.out.lt
  go_wp2
  generalize hW9 : World.setCell _ _ _ = W9
  have HR9 : Hid (Bx W9 w.heap.size [.int .i64 lo, .int .i64 hi]) := Lib.hid (by rw [← hW9]; exact (HR.out.set (i := 0) (by simp) (.int .i64 lo)).set (i := 1) (by simp) (.int .i64 hi))
  have HB9 : Hid (Bel w W9) := Lib.hid (by rw [← hW9]; exact (HB.out.setCell (p := ⟨w.heap.size, 0, none⟩) (by show w.heap.size ≤ w.heap.size; omega) _).setCell (p := ⟨w.heap.size, 1, none⟩) (by show w.heap.size ≤ w.heap.size; omega) _)
  clear hW9 r0 r1 rf lr
  have r0 := HR9.out.c 0 _ rfl
  have r1 := HR9.out.c 1 _ rfl
  have lr := HR9.out.lt
  exact bodyPost_ret (v := .tuple #[.agg #[.int .i64 lo, .int .i64 hi], .int .i64 0]) (by simp [results, Try.results41, go_sem, *]) rfl ⟨rfl, HB9.out.trans ((Bel.refl _).alloc _)⟩
theorem Price7_any (t : List CP) (c : List Int) (v vc : Value) (w : World) (ht : CtOk t) (hcu : CutOk t c) (h40 : c.length ≤ 40) (hp : PrOk t c) (hv : CtAt w v t) (hcv : IntsAt w vc c) :
    Calls Try.prog 12 #[v, vc] w fun e w' => e = .returned (.tuple #[.agg #[.int .i64 (priceLo t c), .int .i64 (priceHi t c)], .int .i64 0]) ∧ Bel w w' := by
  have HA := Lib.hid (fun wx (hb : Bel w wx) => Cask_any t v wx ht (hv.bel hb))
  have HC := Lib.hid (fun wx (hb : Bel w wx) => isCut_any t c v vc wx ht hcu h40 (hv.bel hb) (hcv.bel hb))
  have HP := Lib.hid (fun wx (hb : Bel w wx) => pays_any t c v vc wx ht.l8 (hv.bel hb) (hcv.bel hb))
  have HSP := Lib.hid (fun p q wx (hb : Bel w wx) htl => span7_any t c p q v wx ht hp (hv.bel hb) htl)
  clear hp hcu
  obtain ⟨a, cc, b, off, rfl, _, _, _⟩ := hv
  obtain ⟨ya, yc, yb, yo, rfl, _, _, _⟩ := hcv
  generalize hlv : priceLo t c = lo at *
  generalize hhv : priceHi t c = hi at *
  clear hlv hhv
  go_enter Try.func12, Try.ntmps12
  go_wp2_with fail
  generalize hW : World.alloc _ _ = W0
  have HR : Hid (Bx W0 w.heap.size [.int .i64 0, .int .i64 0]) := Lib.hid (by rw [← hW]; exact Bx.new rfl)
  have HB : Hid (Bel w W0) := Lib.hid (by rw [← hW]; exact (Bel.refl w).alloc _)
  clear hW
  refine (HA.out _ HB.out).mono ?_
  rintro e w1 ⟨rfl, hb⟩
  replace HR := Lib.hid (HR.out.bel hb)
  replace HB := Lib.hid (HB.out.trans hb)
  clear hb HA
  go_wp2_with fail
  refine (HC.out _ HB.out).mono ?_
  rintro e w2 ⟨rfl, hb⟩
  replace HR := Lib.hid (HR.out.bel hb)
  replace HB := Lib.hid (HB.out.trans hb)
  clear hb HC
  go_wp2_with fail
  refine (HP.out _ HB.out).mono ?_
  rintro e w3 ⟨gt, gc, rfl, htl, hb⟩
  have HTL := Lib.hid htl
  replace HR := Lib.hid (HR.out.bel hb)
  replace HB := Lib.hid (HB.out.trans hb)
  clear hb HP htl
  go_wp2_with fail
  refine (HSP.out _ _ _ HB.out HTL.out).mono ?_
  rintro e w4 ⟨rfl, hb⟩
  replace HR := Lib.hid (HR.out.bel hb)
  replace HB := Lib.hid (HB.out.trans hb)
  clear hb HSP HTL
  have r0 := HR.out.c 0 _ rfl
  have r1 := HR.out.c 1 _ rfl
  have rf := HR.out.f
  have lr := HR.out.lt
  go_wp2
  generalize hW9 : World.setCell _ _ _ = W9
  have HR9 : Hid (Bx W9 w.heap.size [.int .i64 lo, .int .i64 hi]) := Lib.hid (by rw [← hW9]; exact (HR.out.set (i := 0) (by simp) (.int .i64 lo)).set (i := 1) (by simp) (.int .i64 hi))
  have HB9 : Hid (Bel w W9) := Lib.hid (by rw [← hW9]; exact (HB.out.setCell (p := ⟨w.heap.size, 0, none⟩) (by show w.heap.size ≤ w.heap.size; omega) _).setCell (p := ⟨w.heap.size, 1, none⟩) (by show w.heap.size ≤ w.heap.size; omega) _)
  clear hW9 r0 r1 rf lr
  have r0 := HR9.out.c 0 _ rfl
  have r1 := HR9.out.c 1 _ rfl
  have lr := HR9.out.lt
  exact bodyPost_ret (v := .tuple #[.agg #[.int .i64 lo, .int .i64 hi], .int .i64 0]) (by simp [results, Try.results12, go_sem, *]) rfl ⟨rfl, HB9.out⟩
end Go.Proofs.Ytkdcdhkhadhcfaa
