/-
  the top law: priced.
-/
import Derived.Test.YtkdcdhkhadhcfaaCtPx
import Derived.Test.YtkdcdhkhadhcfaaCtEx
import Derived.Test.YtkdcdhkhadhcfaaShGk
import Derived.Test.YtkdcdhkhadhcfaaShEx
namespace Go.Proofs.Ytkdcdhkhadhcfaa
open Go Go.RowKit
set_option maxHeartbeats 4000000
set_option maxRecDepth 100000
theorem priced_any (w : World) : Calls Try.prog 11 #[] w fun e w' => e = .returned (.bool true) ∧ Bel w w' := by
  have HPR := Lib.hid (fun v vc wx hv hcv => Price7_any exT7 [0, 1] v vc wx ex7_ok ex7_cut (by decide) ex7_law.pr hv hcv)
  rw [ex7_lo, ex7_hi] at HPR
  have HKE := Lib.hid (fun v wx hv => SKeeps_any exC10 42 v wx ex10_ok (by decide) hv)
  have h8 : exC10.length = 8 := rfl
  have h5 : exT7.length = 5 := rfl
  rw [h8, ex10_keeps] at HKE
  go_enter Try.func11, Try.ntmps11
  go_wp2_with fail
  refine (Example7_any w).mono ?_
  rintro e w1 ⟨g, g2, c2, rfl, hc, hb⟩
  have HT := Lib.hid (cells7_at hc)
  have HB := Lib.hid hb
  clear hc hb
  go_wp2_with fail
  refine (Example10_any w1).mono ?_
  rintro e w2 ⟨k, k2, rfl, hc, hb⟩
  replace HB := Lib.hid (HB.out.trans hb)
  replace HT := Lib.hid (HT.out.bel hb)
  have HC := Lib.hid (cells10_at hc)
  clear hc hb
  go_upto_region 3 with fail
  generalize hW : World.alloc _ _ = W2
  have HX : Hid (Bx W2 w2.heap.size [.slice (some ⟨k, 0, none⟩) 8 8]) := Lib.hid (by rw [← hW]; exact (Bx.new rfl).bel ((Bel.refl _).alloc _))
  have hb : Bel w2 W2 := by rw [← hW]; exact ((Bel.refl w2).alloc _).alloc _
  replace HB := Lib.hid (HB.out.trans hb)
  replace HT := Lib.hid (HT.out.bel hb)
  replace HC := Lib.hid (HC.out.bel hb)
  generalize w2.heap.size = gx at *
  clear hW hb
  go_wp2_with fail
  generalize hW : World.alloc _ _ = W3
  have HL : Hid (IntsAt W3 (.slice (some ⟨W2.heap.size, 0, none⟩) 2 2) [0, 1]) := Lib.hid (by
    rw [← hW]
    exact bx_ints (l := [0, 1]) (Bx.new rfl) (by decide))
  have hb : Bel W2 W3 := by rw [← hW]; exact (Bel.refl W2).alloc _
  replace HB := Lib.hid (HB.out.trans hb)
  replace HT := Lib.hid (HT.out.bel hb)
  replace HC := Lib.hid (HC.out.bel hb)
  replace HX := Lib.hid (HX.out.bel hb)
  clear hW hb
  refine (HPR.out _ _ _ HT.out HL.out).mono ?_
  rintro e w4 ⟨rfl, hb⟩
  replace HB := Lib.hid (HB.out.trans hb)
  replace HC := Lib.hid (HC.out.bel hb)
  replace HX := Lib.hid (HX.out.bel hb)
  clear hb HPR HL HT
  go_upto_region 4 with fail
  generalize hW : World.alloc _ _ = W5
  have HS : Hid (Bx W5 w4.heap.size [.int .i64 72, .int .i64 87]) := Lib.hid (by rw [← hW]; exact Bx.new rfl)
  have hb : Bel w4 W5 := by rw [← hW]; exact (Bel.refl w4).alloc _
  replace HB := Lib.hid (HB.out.trans hb)
  replace HC := Lib.hid (HC.out.bel hb)
  replace HX := Lib.hid (HX.out.bel hb)
  generalize w4.heap.size = gs at *
  clear hW hb
  have x0 := HX.out.c 0 _ rfl
  have lx := cell_lt x0
  go_wp2_with fail
  refine (HKE.out _ _ ⟨_, rfl, HC.out⟩).mono ?_
  rintro e w6 ⟨gk, rfl, hk, hb⟩
  have HKL := Lib.hid (show IntsAt w6 (.slice (some ⟨gk, 0, none⟩) 8 8) [0, 3, 0, 0, 14, 6, 6, 13] from bx_ints (l := [0, 3, 0, 0, 14, 6, 6, 13]) hk (by decide))
  replace HB := Lib.hid (HB.out.trans hb)
  replace HS := Lib.hid (HS.out.bel hb)
  clear hb hk HKE HC x0 lx HX
  have s0 := HS.out.c 0 _ rfl
  have s1 := HS.out.c 1 _ rfl
  have ls := HS.out.lt
  go_wp2_with fail
  generalize hW : World.alloc _ _ = W7
  have HL7 : Hid (IntsAt W7 (.slice (some ⟨w6.heap.size, 0, none⟩) 8 8) [0, 3, 0, 0, 14, 6, 6, 13]) := Lib.hid (by
    rw [← hW]
    exact bx_ints (l := [0, 3, 0, 0, 14, 6, 6, 13]) (Bx.new rfl) (by decide))
  have hb : Bel w6 W7 := by rw [← hW]; exact (Bel.refl w6).alloc _
  replace HB := Lib.hid (HB.out.trans hb)
  replace HKL := Lib.hid (HKL.out.bel hb)
  clear hW hb s0 s1 ls HS
  refine (SameInts_any _ _ _ _ _ HKL.out HL7.out).mono ?_
  rintro e w8 ⟨rfl, hb⟩
  replace HB := Lib.hid (HB.out.trans hb)
  have hsm : sameB [0, 3, 0, 0, 14, 6, 6, 13] [0, 3, 0, 0, 14, 6, 6, 13] = true := by decide
  rw [hsm]
  clear hb HKL HL7 hsm
  go_wp2
  go_ret
  exact ⟨rfl, HB.out⟩
end Go.Proofs.Ytkdcdhkhadhcfaa
