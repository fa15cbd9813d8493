/-
  the top law: torn, the examples of the chapters 2 and 4.
-/
import Derived.Test.YtkdcdhkhadhcfaaDoorNEx
import Derived.Test.YtkdcdhkhadhcfaaDoorTornV
import Derived.Test.YtkdcdhkhadhcfaaDoorTornW
namespace Go.Proofs.YtkdcdhkhadhcfaaDoor
open Go Go.RowKit
set_option maxHeartbeats 4000000
set_option maxRecDepth 100000
theorem exN_least {r : Int} (h : LeastW exN r) : r = 1 := by
  have h0 : stepM (withW exN 0) (worstT (withW exN 0)) 0 = 0 := by decide +kernel
  have h1 : stepM (withW exN 1) (worstT (withW exN 1)) 0 ≠ 0 := by decide +kernel
  rcases h with ⟨k, rfl, hk, h2, h3⟩ | ⟨_, h3⟩
  · rcases Nat.lt_or_ge k 1 with q | q
    · obtain rfl : k = 0 := by omega
      exact absurd h0 h2
    · rcases Nat.lt_or_ge 1 k with q2 | q2
      · exact absurd (h3 1 q2) h1
      · obtain rfl : k = 1 := by omega
        rfl
  · exact absurd (h3 1 (by omega)) h1
theorem nwind_any (n : Net) (hn : NetOk n) (h1 : ∀ r, LeastW n r → r = 1) (v : Value) (w : World) (hv : NetAt w v n) :
    Calls Tryd.prog 61 #[v, .func (.func 62) #[] #[]] w fun e w' => e = .returned (.tuple #[.int .i64 1, .int .i64 0]) ∧ Bel w w' := by
  have HC := Lib.hid (fun wx (hb : Bel w wx) => nCheck_any n v wx (hv.bel hb))
  rw [show netE n = 0 by unfold netE; rw [if_pos (netB_iff.2 hn)]] at HC
  have HL := Lib.hid (fun wx (hb : Bel w wx) => nleast_any n hn v wx (hv.bel hb))
  have H1 := Lib.hid h1
  obtain ⟨ga, gc, aa, ac, xa, xc, rfl, _, _, _⟩ := hv.open
  clear hv hn h1
  generalize n.an.length = A at *
  generalize n.walls.length = X at *
  generalize n.grips.length = G at *
  go_enter Tryd.func61, Tryd.ntmps61
  go_wp2_with fail
  refine (HC.out _ (by repeat (first | assumption | exact Bel.refl _ | refine Bel.drew ?_ | refine Bel.drewN ?_ _ | refine Bel.alloc ?_ _ | refine Bel.setCell ?_ (by simp <;> omega) _ | refine Bel.trans ?_ (by assumption)))).mono ?_
  rintro e w1 ⟨rfl, hb⟩
  have HX0 : Hid (Bx w1 w.heap.size [.int .i64 n.wind.lo, .int .i64 n.wind.hi, .int .i64 n.cur.lo, .int .i64 n.cur.hi, .slice ga G gc, .slice aa A ac, .slice xa X xc]) := Lib.hid ((Bx.new rfl).bel hb)
  have HB1 := Lib.hid (show Bel w w1 from Bel.trans (by repeat (first | assumption | exact Bel.refl _ | refine Bel.drew ?_ | refine Bel.drewN ?_ _ | refine Bel.alloc ?_ _ | refine Bel.setCell ?_ (by simp <;> omega) _ | refine Bel.trans ?_ (by assumption))) hb)
  clear hb
  have x0 := HX0.out.c 0 _ rfl
  have x1 := HX0.out.c 1 _ rfl
  have x2 := HX0.out.c 2 _ rfl
  have x3 := HX0.out.c 3 _ rfl
  have x4 := HX0.out.c 4 _ rfl
  have x5 := HX0.out.c 5 _ rfl
  have x6 := HX0.out.c 6 _ rfl
  have lx := HX0.out.lt
  go_wp2_with fail
  refine (HL.out _ HB1.out).mono ?_
  rintro e w2 ⟨r, rfl, hr, hb⟩
  have hr1 := H1.out r hr
  subst hr1
  have HB2 := Lib.hid (HB1.out.trans hb)
  clear hb hr x0 x1 x2 x3 x4 x5 x6 lx
  go_wp2
  go_ret2
  exact ⟨rfl, HB2.out⟩
theorem nWind_any (n : Net) (hn : NetOk n) (h1 : ∀ r, LeastW n r → r = 1) (v : Value) (w : World) (hv : NetAt w v n) :
    Calls Tryd.prog 43 #[v] w fun e w' => e = .returned (.tuple #[.int .i64 1, .int .i64 0]) ∧ Bel w w' := by
  have HL := Lib.hid (fun wx (hb : Bel w wx) => nwind_any n hn h1 v wx (hv.bel hb))
  obtain ⟨ga, gc, aa, ac, xa, xc, rfl, _, _, _⟩ := hv.open
  clear hv hn h1
  generalize n.an.length = A at *
  generalize n.walls.length = X at *
  generalize n.grips.length = G at *
  go_enter Tryd.func43, Tryd.ntmps43
  go_wp2_with fail
  refine (HL.out _ (by repeat (first | assumption | exact Bel.refl _ | refine Bel.drew ?_ | refine Bel.drewN ?_ _ | refine Bel.alloc ?_ _ | refine Bel.setCell ?_ (by simp <;> omega) _ | refine Bel.trans ?_ (by assumption)))).mono ?_
  rintro e w2 ⟨rfl, hb⟩
  have HB2 := Lib.hid (show Bel w w2 from Bel.trans (by repeat (first | assumption | exact Bel.refl _ | refine Bel.drew ?_ | refine Bel.drewN ?_ _ | refine Bel.alloc ?_ _ | refine Bel.setCell ?_ (by simp <;> omega) _ | refine Bel.trans ?_ (by assumption))) hb)
  clear hb
  go_wp2
  go_ret2
  exact ⟨rfl, HB2.out⟩
theorem lhole_any (a b c d : Int) (w : World) : Calls Tryd.prog 60 #[.int .i64 a, .int .i64 b, .int .i64 c, .int .i64 d] w fun e w' => e = .returned (.agg #[.int .i64 a, .int .i64 b, .int .i64 c, .int .i64 d]) ∧ Bel w w' := by
  go_enter Tryd.func60, Tryd.ntmps60
  go_wp2
  exact bodyPost_ret (v := .agg #[.int .i64 a, .int .i64 b, .int .i64 c, .int .i64 d]) (by simp [results, Tryd.results60, go_sem, *]) rfl ⟨rfl, (Bel.refl _).alloc _⟩
def exHs : List Value := [.int .i64 0, .int .i64 2, .int .i64 3, .int .i64 2, .int .i64 0, .int .i64 5, .int .i64 6, .int .i64 3, .int .i64 1, .int .i64 4, .int .i64 8, .int .i64 1]
/-- The example's memory. -/
structure ExSt (w : World) (b : Nat) (q : World) : Prop where
  y0 : Bx q w.heap.size [.int .i64 1, .slice (some ⟨b, 0, none⟩) 3 3, .slice (some ⟨b + 1, 0, none⟩) 1 1]
  y1 : Bx q (w.heap.size + 1) [.int .i64 2, .slice (some ⟨b, 0, none⟩) 3 3, .slice (some ⟨b + 1, 0, none⟩) 1 1]
  h : Bx q b exHs
  p : Bx q (b + 1) [.int .i64 0, .int .i64 2]
  bel : Bel w q
  lt : w.heap.size + 1 < b
theorem ExSt.s0 {w q : World} {b i : Nat} {v : Value} (h : ExSt w b q) (hi : i < 3) (hv : ([.int .i64 1, .slice (some ⟨b, 0, none⟩) 3 3, .slice (some ⟨b + 1, 0, none⟩) 1 1] : List Value).set i v = [.int .i64 1, .slice (some ⟨b, 0, none⟩) 3 3, .slice (some ⟨b + 1, 0, none⟩) 1 1]) : ExSt w b (q.setCell ⟨w.heap.size, i, none⟩ v) :=
  ⟨by have := h.y0.set (i := i) (by simpa using hi) v; rwa [hv] at this, h.y1.other (by omega) v, h.h.other (by have := h.lt; omega) v, h.p.other (by have := h.lt; omega) v, h.bel.setCell (p := ⟨w.heap.size, i, none⟩) (Nat.le_refl _) v, h.lt⟩
theorem ExSt.s1 {w q : World} {b i : Nat} {v : Value} (h : ExSt w b q) (hi : i < 3) (hv : ([.int .i64 2, .slice (some ⟨b, 0, none⟩) 3 3, .slice (some ⟨b + 1, 0, none⟩) 1 1] : List Value).set i v = [.int .i64 2, .slice (some ⟨b, 0, none⟩) 3 3, .slice (some ⟨b + 1, 0, none⟩) 1 1]) : ExSt w b (q.setCell ⟨w.heap.size + 1, i, none⟩ v) :=
  ⟨h.y0.other (by omega) v, by have := h.y1.set (i := i) (by simpa using hi) v; rwa [hv] at this, h.h.other (by have := h.lt; omega) v, h.p.other (by have := h.lt; omega) v, h.bel.setCell (p := ⟨w.heap.size + 1, i, none⟩) (by show w.heap.size ≤ w.heap.size + 1; omega) v, h.lt⟩
theorem ExSt.keep {w q q' : World} {b : Nat} (h : ExSt w b q) (k : Bel q q') : ExSt w b q' := ⟨h.y0.bel k, h.y1.bel k, h.h.bel k, h.p.bel k, h.bel.trans k, h.lt⟩
theorem ExSt.nets {w q : World} {b : Nat} (h : ExSt w b q) : HolesAt q (.slice (some ⟨b, 0, none⟩) 3 3) (exM 1).holes ∧ PrsAt q (.slice (some ⟨b + 1, 0, none⟩) 1 1) (exM 1).prs := by
  refine ⟨⟨_, 3, b, 0, rfl, fun _ => rfl, by decide, fun i hi => ?_⟩, ⟨_, 1, b + 1, 0, rfl, fun _ => rfl, by decide, fun i hi => ?_⟩⟩
  · have : i = 0 ∨ i = 1 ∨ i = 2 := by simp [exM] at hi; omega
    rcases this with rfl | rfl | rfl
    · exact ⟨h.h.c 0 _ rfl, h.h.c 1 _ rfl, h.h.c 2 _ rfl, h.h.c 3 _ rfl⟩
    · exact ⟨h.h.c 4 _ rfl, h.h.c 5 _ rfl, h.h.c 6 _ rfl, h.h.c 7 _ rfl⟩
    · exact ⟨h.h.c 8 _ rfl, h.h.c 9 _ rfl, h.h.c 10 _ rfl, h.h.c 11 _ rfl⟩
  · have : i = 0 := by simp [exM] at hi; omega
    subst this
    exact ⟨h.p.c 0 _ rfl, h.p.c 1 _ rfl⟩
theorem MExample_any (w : World) : Calls Tryd.prog 42 #[] w fun e w' => ∃ vn vm, e = .returned (.tuple #[vn, vm]) ∧ Bel w w' ∧ MNetAt w' vn (exM 1) ∧ MNetAt w' vm (exM 2) := by
  go_enter Tryd.func42, Tryd.ntmps42
  go_upto_region 1 with fail
  generalize hW : World.alloc _ _ = W0
  have HB0 : Hid (Bel w W0) := Lib.hid (by rw [← hW]; exact ((Bel.refl w).alloc _).alloc _)
  have HX0 : Hid (Bx W0 w.heap.size [.int .i64 0, .slice none 0 0, .slice none 0 0]) := Lib.hid (by rw [← hW]; exact (Bx.new rfl).bel ((Bel.refl _).alloc _))
  have HX1 : Hid (Bx W0 (w.heap.size + 1) [.int .i64 0, .slice none 0 0, .slice none 0 0]) := Lib.hid (by rw [← hW]; exact Bx.new (by simp))
  clear hW
  go_wp2_with fail
  refine (lhole_any _ _ _ _ _).mono ?_
  rintro e w1 ⟨rfl, hb⟩
  replace HB0 := Lib.hid (HB0.out.trans hb)
  replace HX0 := Lib.hid (HX0.out.bel hb)
  replace HX1 := Lib.hid (HX1.out.bel hb)
  clear hb
  go_wp2_with fail
  refine (lhole_any _ _ _ _ _).mono ?_
  rintro e w2 ⟨rfl, hb⟩
  replace HB0 := Lib.hid (HB0.out.trans hb)
  replace HX0 := Lib.hid (HX0.out.bel hb)
  replace HX1 := Lib.hid (HX1.out.bel hb)
  clear hb
  go_wp2_with fail
  refine (lhole_any _ _ _ _ _).mono ?_
  rintro e w3 ⟨rfl, hb⟩
  replace HB0 := Lib.hid (HB0.out.trans hb)
  replace HX0 := Lib.hid (HX0.out.bel hb)
  replace HX1 := Lib.hid (HX1.out.bel hb)
  clear hb
  have l0 := HX0.out.lt
  have l1 := HX1.out.lt
  have x0 := HX0.out.c 0 _ rfl
  have x1 := HX0.out.c 1 _ rfl
  have x2 := HX0.out.c 2 _ rfl
  have xf := HX0.out.f
  go_upto_region 2 with fail
  generalize hW4 : World.alloc _ _ = W4
  have HY0 : Hid (Bx W4 w.heap.size [.int .i64 1, .slice (some ⟨w3.heap.size, 0, none⟩) 3 3, .slice (some ⟨w3.heap.size + 1, 0, none⟩) 1 1]) := Lib.hid (by rw [← hW4]; exact (((HX0.out.set (i := 0) (by simp) (.int .i64 1)).set (i := 1) (by simp) (.slice (some ⟨w3.heap.size, 0, none⟩) 3 3)).set (i := 2) (by simp) (.slice (some ⟨w3.heap.size + 1, 0, none⟩) 1 1)).bel (((Bel.refl _).alloc _).alloc _))
  have HY1 : Hid (Bx W4 (w.heap.size + 1) [.int .i64 0, .slice none 0 0, .slice none 0 0]) := Lib.hid (by rw [← hW4]; exact (((HX1.out.other (q := w.heap.size) (i := 0) (by omega) (.int .i64 1)).other (q := w.heap.size) (i := 1) (by omega) (.slice (some ⟨w3.heap.size, 0, none⟩) 3 3)).other (q := w.heap.size) (i := 2) (by omega) (.slice (some ⟨w3.heap.size + 1, 0, none⟩) 1 1)).bel (((Bel.refl _).alloc _).alloc _))
  have HH0 : Hid (Bx W4 w3.heap.size exHs) := Lib.hid (by rw [← hW4]; exact (Bx.new (cs := exHs) (by simp [World.size_setCell])).bel ((Bel.refl _).alloc _))
  have HP0 : Hid (Bx W4 (w3.heap.size + 1) [.int .i64 0, .int .i64 2]) := Lib.hid (by rw [← hW4]; exact Bx.new (by simp [World.size_setCell, World.size_alloc]))
  have HB3 : Hid (Bel w W4) := Lib.hid (by rw [← hW4]; exact ((((HB0.out.setCell (p := ⟨w.heap.size, 0, none⟩) (Nat.le_refl _) (.int .i64 1)).setCell (p := ⟨w.heap.size, 1, none⟩) (Nat.le_refl _) (.slice (some ⟨w3.heap.size, 0, none⟩) 3 3)).setCell (p := ⟨w.heap.size, 2, none⟩) (Nat.le_refl _) (.slice (some ⟨w3.heap.size + 1, 0, none⟩) 1 1)).alloc _).alloc _)
  clear HX0 HX1 HB0 x0 x1 x2 xf hW4
  have x0 := HY0.out.c 0 _ rfl
  have x1 := HY0.out.c 1 _ rfl
  have x2 := HY0.out.c 2 _ rfl
  have y0 := HY1.out.c 0 _ rfl
  have y1 := HY1.out.c 1 _ rfl
  have y2 := HY1.out.c 2 _ rfl
  have yf := HY1.out.f
  have m1 := HY1.out.lt
  have m0 := HY0.out.lt
  have hw3 : w.heap.size + 1 < w3.heap.size := l1
  go_upto_region 4 with fail
  generalize hW5 : World.setCell _ _ _ = W5
  have HEX : Hid (ExSt w w3.heap.size W5) := Lib.hid (by rw [← hW5]; exact ⟨(((HY0.out.other (q := w.heap.size + 1) (i := 0) (by omega) (.int .i64 1)).other (q := w.heap.size + 1) (i := 1) (by omega) (.slice (some ⟨w3.heap.size, 0, none⟩) 3 3)).other (q := w.heap.size + 1) (i := 2) (by omega) (.slice (some ⟨w3.heap.size + 1, 0, none⟩) 1 1)).other (q := w.heap.size + 1) (i := 0) (by omega) (.int .i64 2),
    (((HY1.out.set (i := 0) (by simp) (.int .i64 1)).set (i := 1) (by simp) (.slice (some ⟨w3.heap.size, 0, none⟩) 3 3)).set (i := 2) (by simp) (.slice (some ⟨w3.heap.size + 1, 0, none⟩) 1 1)).set (i := 0) (by simp) (.int .i64 2),
    (((HH0.out.other (q := w.heap.size + 1) (i := 0) (by omega) (.int .i64 1)).other (q := w.heap.size + 1) (i := 1) (by omega) (.slice (some ⟨w3.heap.size, 0, none⟩) 3 3)).other (q := w.heap.size + 1) (i := 2) (by omega) (.slice (some ⟨w3.heap.size + 1, 0, none⟩) 1 1)).other (q := w.heap.size + 1) (i := 0) (by omega) (.int .i64 2),
    (((HP0.out.other (q := w.heap.size + 1) (i := 0) (by omega) (.int .i64 1)).other (q := w.heap.size + 1) (i := 1) (by omega) (.slice (some ⟨w3.heap.size, 0, none⟩) 3 3)).other (q := w.heap.size + 1) (i := 2) (by omega) (.slice (some ⟨w3.heap.size + 1, 0, none⟩) 1 1)).other (q := w.heap.size + 1) (i := 0) (by omega) (.int .i64 2),
    (((HB3.out.setCell (p := ⟨w.heap.size + 1, 0, none⟩) (by show w.heap.size ≤ w.heap.size + 1; omega) (.int .i64 1)).setCell (p := ⟨w.heap.size + 1, 1, none⟩) (by show w.heap.size ≤ w.heap.size + 1; omega) (.slice (some ⟨w3.heap.size, 0, none⟩) 3 3)).setCell (p := ⟨w.heap.size + 1, 2, none⟩) (by show w.heap.size ≤ w.heap.size + 1; omega) (.slice (some ⟨w3.heap.size + 1, 0, none⟩) 1 1)).setCell (p := ⟨w.heap.size + 1, 0, none⟩) (by show w.heap.size ≤ w.heap.size + 1; omega) (.int .i64 2), hw3⟩)
  clear HY0 HY1 HH0 HP0 HB3 x0 x1 x2 y0 y1 y2 yf m1 m0 hW5
  have hEX := HEX.out
  have d0 : ExSt w w3.heap.size W5.drew := hEX.keep (Bel.refl _).drew
  refine wp_region_mixC (Plan.seq [0, 1, 1002, 1003] .nil) (fun q => ExSt w w3.heap.size q) (by kernel_rfl) (by kernel_rfl) (d0) (fun hcur => ?_)
  simp only [Plan.seq, Plan.fill, List.getD_cons_zero, List.getD_cons_succ, Nat.reduceLT, ↓reduceIte, Nat.reduceSub]
  apply mix_pure _ rfl
  · intro w' hw'
    have x0 := hw'.y0.c 0 _ rfl
    have x1 := hw'.y0.c 1 _ rfl
    have x2 := hw'.y0.c 2 _ rfl
    have y0 := hw'.y1.c 0 _ rfl
    have y1 := hw'.y1.c 1 _ rfl
    have y2 := hw'.y1.c 2 _ rfl
    go_simp
    rfl
  intro K hK
  go_simp
  refine hK _ ?_
  clear hK K
  apply mix_pure _ rfl
  · intro w' hw'
    have x0 := hw'.y0.c 0 _ rfl
    have x1 := hw'.y0.c 1 _ rfl
    have x2 := hw'.y0.c 2 _ rfl
    have y0 := hw'.y1.c 0 _ rfl
    have y1 := hw'.y1.c 1 _ rfl
    have y2 := hw'.y1.c 2 _ rfl
    go_simp
    rfl
  intro K hK
  go_simp
  refine hK _ ?_
  clear hK K
  refine mix_act rfl (fun K hK => ?_)
  have x0 := hEX.y0.c 0 _ rfl
  have x1 := hEX.y0.c 1 _ rfl
  have x2 := hEX.y0.c 2 _ rfl
  have xf := hEX.y0.f
  have xl := hEX.y0.lt
  go_simp
  generalize hW7 : World.drew _ = W7
  have h7 : ExSt w w3.heap.size W7 := by rw [← hW7]; exact (((hEX.s0 (i := 0) (by decide) rfl).s0 (i := 1) (by decide) rfl).s0 (i := 2) (by decide) rfl).keep (Bel.refl _).drew
  refine hK _ _ h7 (fun hcur => ?_)
  clear hK K x0 x1 x2 xf xl hW7 h7
  refine mix_act rfl (fun K hK => ?_)
  have y0 := hcur.y1.c 0 _ rfl
  have y1 := hcur.y1.c 1 _ rfl
  have y2 := hcur.y1.c 2 _ rfl
  have yf := hcur.y1.f
  have yl := hcur.y1.lt
  go_simp
  refine hK _ _ (((hcur.s1 (i := 0) (by decide) rfl).s1 (i := 1) (by decide) rfl).s1 (i := 2) (by decide) rfl) (fun hcur => ?_)
  clear hK K y0 y1 y2 yf yl
  refine mix_nil ?_
  generalize World.setCell _ _ _ = W6 at *
  have HC := Lib.hid hcur
  have x0 := hcur.y0.c 0 _ rfl
  have x1 := hcur.y0.c 1 _ rfl
  have x2 := hcur.y0.c 2 _ rfl
  have y0 := hcur.y1.c 0 _ rfl
  have y1 := hcur.y1.c 1 _ rfl
  have y2 := hcur.y1.c 2 _ rfl
  have yl := hcur.y1.lt
  clear hcur
  go_wp2
  exact bodyPost_ret (v := .tuple #[.agg #[.int .i64 1, .slice (some ⟨w3.heap.size, 0, none⟩) 3 3, .slice (some ⟨w3.heap.size + 1, 0, none⟩) 1 1], .agg #[.int .i64 2, .slice (some ⟨w3.heap.size, 0, none⟩) 3 3, .slice (some ⟨w3.heap.size + 1, 0, none⟩) 1 1]]) (by simp [results, Tryd.results42, go_sem, *]) rfl ⟨_, _, rfl, HC.out.bel, ⟨_, _, rfl, HC.out.nets.1, HC.out.nets.2⟩, ⟨_, _, rfl, HC.out.nets.1, HC.out.nets.2⟩⟩
theorem ints3T {T : TypeId} {w : World} {g : Nat} {a b c : Int} (hg : g = w.heap.size) : IntsAt (w.alloc (.cells #[.int .i64 a, .int .i64 b, .int .i64 c] T)) (.slice (some ⟨g, 0, none⟩) 3 3) [a, b, c] := by
  have hb := Bx.new (T := T) (cs := [.int .i64 a, .int .i64 b, .int .i64 c]) hg
  refine ⟨some ⟨g, 0, none⟩, 3, g, 0, rfl, fun _ => rfl, by simp, fun i hi => ?_⟩
  have : i = 0 ∨ i = 1 ∨ i = 2 := by simp at hi; omega
  rcases this with rfl | rfl | rfl
  · exact hb.c 0 _ rfl
  · exact hb.c 1 _ rfl
  · exact hb.c 2 _ rfl
theorem torn_any (w : World) : Calls Tryd.prog 19 #[] w fun e w' => e = .returned (.bool true) ∧ Bel w w' := by
  have HWI : Hid (∀ v wx, NetAt wx v exN → Calls Tryd.prog 43 #[v] wx fun e w' => e = .returned (.tuple #[.int .i64 1, .int .i64 0]) ∧ Bel wx w') := Lib.hid (fun v wx hx => nWind_any exN exN_ok (fun r h => exN_least h) v wx hx)
  have HOR : Hid (∀ v wx, MNetAt wx v (exM 1) → Calls Tryd.prog 44 #[v] wx fun e w' => ∃ ov, e = .returned (.tuple #[ov, .int .i64 0]) ∧ IntsAt w' ov [0, 2, 1] ∧ Bel wx w') := Lib.hid (fun v wx hx => by
    refine (mOrder_any (exM 1) v wx exM_ok hx).mono ?_
    rintro e w' ⟨o, k, h1, ov, rfl, h2, h3⟩
    rw [exM_best h1] at h2
    exact ⟨ov, rfl, h2, h3⟩)
  go_enter Tryd.func19, Tryd.ntmps19
  go_wp2_with fail
  refine (NExample_any _).mono ?_
  rintro e w1 ⟨vn, va, vb, rfl, hb, hn, ha, ⟨y1, y2, ya, ym, yc, rfl⟩⟩
  have HB1 := Lib.hid hb
  have HN := Lib.hid hn
  obtain ⟨ga, gc, aa, ac, xa, xc, rfl, _, _, _⟩ := hn.openL
  obtain ⟨ta, tc, rfl, _⟩ := ha.open
  clear hb hn ha
  generalize exN.grips.length = m1 at *
  generalize exN.an.length = m2 at *
  generalize exN.walls.length = m3 at *
  generalize exNA.grips.length = m4 at *
  generalize exN.wind.lo = n5 at *
  generalize exN.wind.hi = n6 at *
  generalize exN.cur.lo = n7 at *
  generalize exN.cur.hi = n8 at *
  generalize exNA.wind = n9 at *
  generalize exNA.cur = n10 at *
  go_upto_region 2 with fail
  generalize hW : World.alloc _ _ = W2
  have HB4 : Hid (Bel w1 W2) := Lib.hid (by rw [← hW]; exact (((Bel.refl w1).alloc _).alloc _).alloc _)
  have HP : Hid (Bx W2 w1.heap.size [.int .i64 n5, .int .i64 n6, .int .i64 n7, .int .i64 n8, .slice ga m1 gc, .slice aa m2 ac, .slice xa m3 xc]) := Lib.hid (by rw [← hW]; exact ((Bx.new rfl).bel ((Bel.refl _).alloc _)).bel ((Bel.refl _).alloc _))
  clear hW
  go_wp2_with fail
  refine (MExample_any _).mono ?_
  rintro e w3 ⟨vt, vq, rfl, hb, ht, hq⟩
  have HB5 := Lib.hid (HB4.out.trans hb)
  replace HP := Lib.hid (HP.out.bel hb)
  have HM := Lib.hid ht
  obtain ⟨ma, mc, na, nc, rfl, _, _, _, _⟩ := ht.open
  obtain ⟨qa, qc, ra, rc, rfl, _, _, _, _⟩ := hq.open
  clear hb ht hq HB4
  generalize (exM 1).holes.length = k1 at *
  generalize (exM 1).prs.length = k2 at *
  generalize (exM 2).holes.length = k3 at *
  generalize (exM 2).prs.length = k4 at *
  generalize (exM 1).men = k5 at *
  generalize (exM 2).men = k6 at *
  go_upto_region 3 with fail
  generalize hW : World.alloc _ _ = W3
  have HB6 : Hid (Bel w3 W3) := Lib.hid (by rw [← hW]; exact ((Bel.refl w3).alloc _).alloc _)
  have HQ : Hid (Bx W3 w3.heap.size [.int .i64 k5, .slice ma k1 mc, .slice na k2 nc]) := Lib.hid (by rw [← hW]; exact (Bx.new rfl).bel ((Bel.refl _).alloc _))
  clear hW
  replace HP := Lib.hid (HP.out.bel HB6.out)
  have x0 := HP.out.c 0 _ rfl
  have x1 := HP.out.c 1 _ rfl
  have x2 := HP.out.c 2 _ rfl
  have x3 := HP.out.c 3 _ rfl
  have x4 := HP.out.c 4 _ rfl
  have x5 := HP.out.c 5 _ rfl
  have x6 := HP.out.c 6 _ rfl
  have lx := HP.out.lt
  go_wp2_with fail
  refine (HWI.out _ _ (HN.out.bel (HB5.out.trans HB6.out))).mono ?_
  rintro e w4 ⟨rfl, hb⟩
  replace HQ := Lib.hid (HQ.out.bel hb)
  have HB7 := Lib.hid (HB6.out.trans hb)
  clear hb HB6 HWI x0 x1 x2 x3 x4 x5 x6 lx HP
  have y0 := HQ.out.c 0 _ rfl
  have y1 := HQ.out.c 1 _ rfl
  have y2 := HQ.out.c 2 _ rfl
  have ly := HQ.out.lt
  go_wp2_with fail
  refine (HOR.out _ _ (HM.out.bel HB7.out)).mono ?_
  rintro e w5 ⟨l, rfl, hl, hb⟩
  have HBZ := Lib.hid (((HB1.out.trans HB5.out).trans HB7.out).trans hb)
  have HL := Lib.hid hl
  obtain ⟨la, lc, lb, lo, rfl, hla, _, _⟩ := hl
  obtain rfl := hla (by simp)
  clear hla hb HOR HQ y0 y1 y2 ly HB7 HB5
  go_wp2_with fail
  refine (SameInts_any (.slice (some ⟨lb, lo, none⟩) 3 lc) (.slice (some ⟨w5.heap.size, 0, none⟩) 3 3) [0, 2, 1] [0, 2, 1] (w5.alloc (.cells #[.int .i64 0, .int .i64 2, .int .i64 1] 3)) (HL.out.bel ((Bel.refl w5).alloc _)) (ints3T rfl)).mono ?_
  rintro e w6 ⟨rfl, hb⟩
  have HBY := Lib.hid (HBZ.out.trans (Bel.trans (by repeat (first | assumption | exact Bel.refl _ | refine Bel.drew ?_ | refine Bel.drewN ?_ _ | refine Bel.alloc ?_ _ | refine Bel.setCell ?_ (by simp <;> omega) _ | refine Bel.trans ?_ (by assumption))) hb))
  clear hb
  have HSM := Lib.hid (show sameB [0, 2, 1] [0, 2, 1] = true from rfl)
  rw [HSM.out]
  go_wp2
  go_ret
  exact ⟨rfl, HBY.out⟩
end Go.Proofs.YtkdcdhkhadhcfaaDoor
