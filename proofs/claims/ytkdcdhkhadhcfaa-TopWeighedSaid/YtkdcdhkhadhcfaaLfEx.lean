/-
  lifts: the law's Example; the top law: weighed.
-/
import Derived.Test.YtkdcdhkhadhcfaaLfRef
import Derived.Test.YtkdcdhkhadhcfaaExample
namespace Go.Proofs.Ytkdcdhkhadhcfaa
open Go Go.RowKit
set_option maxHeartbeats 4000000
set_option maxRecDepth 100000
def exPl : List Value := [.int .i64 2, .int .i64 6, .int .i64 3, .int .i64 5, .int .i64 4, .int .i64 6]
def exBo : List Value := [.int .i64 50, .int .i64 4, .int .i64 60, .int .i64 7, .int .i64 45, .int .i64 2, .int .i64 70, .int .i64 9]
/-- The example's memory. -/
structure Ex5 (w : World) (pb bb : Nat) (L1 : List Value) (q : World) : Prop where
  y0 : Bx q w.heap.size [.int .i64 100, .int .i64 120, .slice (some ⟨pb, 0, none⟩) 3 3, .slice (some ⟨bb, 0, none⟩) 4 4]
  y1 : Bx q (w.heap.size + 1) L1
  p : Bx q pb exPl
  b : Bx q bb exBo
  bel : Bel w q
  lt1 : w.heap.size + 1 < pb
  lt2 : w.heap.size + 1 < bb
theorem Ex5.keep {w q q' : World} {pb bb : Nat} {L1 : List Value} (h : Ex5 w pb bb L1 q) (k : Bel q q') : Ex5 w pb bb L1 q' := ⟨h.y0.bel k, h.y1.bel k, h.p.bel k, h.b.bel k, h.bel.trans k, h.lt1, h.lt2⟩
theorem Ex5.s0 {w q : World} {pb bb i : Nat} {L1 : List Value} {v : Value} (h : Ex5 w pb bb L1 q) (hi : i < 4) (hv : ([.int .i64 100, .int .i64 120, .slice (some ⟨pb, 0, none⟩) 3 3, .slice (some ⟨bb, 0, none⟩) 4 4] : List Value).set i v = [.int .i64 100, .int .i64 120, .slice (some ⟨pb, 0, none⟩) 3 3, .slice (some ⟨bb, 0, none⟩) 4 4]) : Ex5 w pb bb L1 (q.setCell ⟨w.heap.size, i, none⟩ v) :=
  ⟨by have := h.y0.set (i := i) (by simpa using hi) v; rwa [hv] at this, h.y1.other (by omega) v, h.p.other (by have := h.lt1; omega) v, h.b.other (by have := h.lt2; omega) v, h.bel.setCell (p := ⟨w.heap.size, i, none⟩) (Nat.le_refl _) v, h.lt1, h.lt2⟩
theorem Ex5.s1 {w q : World} {pb bb i : Nat} {L1 : List Value} (h : Ex5 w pb bb L1 q) (hi : i < L1.length) (v : Value) : Ex5 w pb bb (L1.set i v) (q.setCell ⟨w.heap.size + 1, i, none⟩ v) :=
  ⟨h.y0.other (by omega) v, h.y1.set hi v, h.p.other (by have := h.lt1; omega) v, h.b.other (by have := h.lt2; omega) v, h.bel.setCell (p := ⟨w.heap.size + 1, i, none⟩) (by show w.heap.size ≤ w.heap.size + 1; omega) v, h.lt1, h.lt2⟩
theorem Ex5.sea {w q : World} {pb bb : Nat} {L1 : List Value} (h : Ex5 w pb bb L1 q) : SeaAt q (.agg #[.int .i64 100, .int .i64 120, .slice (some ⟨pb, 0, none⟩) 3 3, .slice (some ⟨bb, 0, none⟩) 4 4]) exSea := by
  refine ⟨_, _, rfl, ⟨_, 3, pb, 0, rfl, fun _ => rfl, by decide, fun i hi => ?_⟩, ⟨_, 4, bb, 0, rfl, fun _ => rfl, by decide, fun i hi => ?_⟩⟩
  · have : i = 0 ∨ i = 1 ∨ i = 2 := by simp [exSea] at hi; omega
    rcases this with rfl | rfl | rfl
    · exact ⟨h.p.c 0 _ rfl, h.p.c 1 _ rfl⟩
    · exact ⟨h.p.c 2 _ rfl, h.p.c 3 _ rfl⟩
    · exact ⟨h.p.c 4 _ rfl, h.p.c 5 _ rfl⟩
  · have : i = 0 ∨ i = 1 ∨ i = 2 ∨ i = 3 := by simp [exSea] at hi; omega
    rcases this with rfl | rfl | rfl | rfl
    · exact ⟨h.b.c 0 _ rfl, h.b.c 1 _ rfl⟩
    · exact ⟨h.b.c 2 _ rfl, h.b.c 3 _ rfl⟩
    · exact ⟨h.b.c 4 _ rfl, h.b.c 5 _ rfl⟩
    · exact ⟨h.b.c 6 _ rfl, h.b.c 7 _ rfl⟩
theorem LExample_any (w : World) : Calls Try.prog 52 #[] w fun e w' => ∃ vs vr, e = .returned (.tuple #[vs, vr]) ∧ Bel w w' ∧ SeaAt w' vs exSea ∧ ∃ (x y : Int) (a1 a2 : Option Addr) (m1 c1 m2 c2 : Nat), vr = .agg #[.int .i64 x, .int .i64 y, .slice a1 m1 c1, .slice a2 m2 c2] := by
  go_enter Try.func52, Try.ntmps52
  go_upto_region 1 with fail
  generalize hW : World.alloc _ _ = W0
  have HB0 : Hid (Bel w W0) := Lib.hid (by rw [← hW]; exact ((Bel.refl w).alloc _).alloc _)
  have HX0 : Hid (Bx W0 w.heap.size [.int .i64 0, .int .i64 0, .slice none 0 0, .slice none 0 0]) := Lib.hid (by rw [← hW]; exact (Bx.new rfl).bel ((Bel.refl _).alloc _))
  have HX1 : Hid (Bx W0 (w.heap.size + 1) [.int .i64 0, .int .i64 0, .slice none 0 0, .slice none 0 0]) := Lib.hid (by rw [← hW]; exact Bx.new (by simp))
  clear hW
  have l0 := HX0.out.lt
  have l1 := HX1.out.lt
  have x0 := HX0.out.c 0 _ rfl
  have x1 := HX0.out.c 1 _ rfl
  have x2 := HX0.out.c 2 _ rfl
  have x3 := HX0.out.c 3 _ rfl
  have xf := HX0.out.f
  go_upto_region 2 with fail
  generalize hW4 : World.alloc _ _ = W4
  have HE : Hid (Ex5 w W0.heap.size (W0.heap.size + 1) [.int .i64 0, .int .i64 0, .slice none 0 0, .slice none 0 0] W4) := Lib.hid (by
    rw [← hW4]
    exact ⟨((((HX0.out.set (i := 0) (by simp) (.int .i64 100)).set (i := 1) (by simp) (.int .i64 120)).set (i := 2) (by simp) (.slice (some ⟨W0.heap.size, 0, none⟩) 3 3)).set (i := 3) (by simp) (.slice (some ⟨W0.heap.size + 1, 0, none⟩) 4 4)).bel (((Bel.refl _).alloc _).alloc _),
      ((((HX1.out.other (q := w.heap.size) (i := 0) (by omega) (.int .i64 100)).other (q := w.heap.size) (i := 1) (by omega) (.int .i64 120)).other (q := w.heap.size) (i := 2) (by omega) (.slice (some ⟨W0.heap.size, 0, none⟩) 3 3)).other (q := w.heap.size) (i := 3) (by omega) (.slice (some ⟨W0.heap.size + 1, 0, none⟩) 4 4)).bel (((Bel.refl _).alloc _).alloc _),
      (Bx.new (cs := exPl) (by simp [World.size_setCell])).bel ((Bel.refl _).alloc _), Bx.new (cs := exBo) (by simp [World.size_setCell, World.size_alloc]),
      (((((HB0.out.setCell (p := ⟨w.heap.size, 0, none⟩) (Nat.le_refl _) (.int .i64 100)).setCell (p := ⟨w.heap.size, 1, none⟩) (Nat.le_refl _) (.int .i64 120)).setCell (p := ⟨w.heap.size, 2, none⟩) (Nat.le_refl _) (.slice (some ⟨W0.heap.size, 0, none⟩) 3 3)).setCell (p := ⟨w.heap.size, 3, none⟩) (Nat.le_refl _) (.slice (some ⟨W0.heap.size + 1, 0, none⟩) 4 4)).alloc _).alloc _, l1, by omega⟩)
  clear HX0 HX1 HB0 x0 x1 x2 x3 xf hW4
  have y0 := HE.out.y0.c 0 _ rfl
  have y1 := HE.out.y0.c 1 _ rfl
  have y2 := HE.out.y0.c 2 _ rfl
  have y3 := HE.out.y0.c 3 _ rfl
  have m0 := HE.out.y0.lt
  go_wp2_with fail
  refine (R5Copy_any exSea _ _ HE.out.sea (by decide) (by decide)).mono ?_
  rintro e w5 ⟨qa, qc, ra, rc, rfl, _, _, _, _, _, _, hb⟩
  replace HE := Lib.hid (HE.out.keep hb)
  clear hb y0 y1 y2 y3 m0
  have z0 := HE.out.y1.c 0 _ rfl
  have z1 := HE.out.y1.c 1 _ rfl
  have z2 := HE.out.y1.c 2 _ rfl
  have z3 := HE.out.y1.c 3 _ rfl
  have zf := HE.out.y1.f
  have zl := HE.out.y1.lt
  generalize exSea.pl.length = n1 at *
  generalize exSea.bo.length = n2 at *
  generalize exSea.w.lo = n3 at *
  generalize exSea.w.hi = n4 at *
  go_upto_region 3 with fail
  generalize hW6 : World.setCell _ _ _ = W6
  have HE6 : Hid (Ex5 w W0.heap.size (W0.heap.size + 1) [.int .i64 n3, .int .i64 n4, .slice qa n1 qc, .slice ra n2 rc] W6) := Lib.hid (by
    rw [← hW6]
    exact (((HE.out.s1 (i := 0) (by simp) (.int .i64 n3)).s1 (i := 1) (by simp) (.int .i64 n4)).s1 (i := 2) (by simp) (.slice qa n1 qc)).s1 (i := 3) (by simp) (.slice ra n2 rc))
  clear HE z0 z1 z2 z3 zf zl hW6
  have hix := idxBo (a := some ⟨W0.heap.size + 1, 0, none⟩) (n := 4) (c := 4) (b := W0.heap.size + 1) (off := 0) (fun _ => rfl)
  have hix0 : ∀ wx : World, (Instr.indexAt 49 (.slice (some ⟨W0.heap.size + 1, 0, none⟩) 4 4) (.int .i64 0)).run Try.prog wx = .ok (.pointer (some ⟨W0.heap.size + 1, 0, none⟩)) wx := fun wx => hix wx 0 (by decide)
  have hix2 : ∀ wx : World, (Instr.indexAt 49 (.slice (some ⟨W0.heap.size + 1, 0, none⟩) 4 4) (.int .i64 2)).run Try.prog wx = .ok (.pointer (some ⟨W0.heap.size + 1, 4, none⟩)) wx := fun wx => hix wx 2 (by decide)
  clear hix
  have d6 : Ex5 w W0.heap.size (W0.heap.size + 1) [.int .i64 n3, .int .i64 n4, .slice qa n1 qc, .slice ra n2 rc] W6.drew := HE6.out.keep (Bel.refl _).drew
  have hd6 : ∃ L3, Ex5 w W0.heap.size (W0.heap.size + 1) [.int .i64 n3, .int .i64 n4, .slice qa n1 qc, L3] W6.drew := ⟨_, d6⟩
  refine wp_region_mixC (Plan.seq [0, 1, 2, 3, 4, 5, 6, 7, 1008, 9, 1010] .nil) (fun q => ∃ L3, Ex5 w W0.heap.size (W0.heap.size + 1) [.int .i64 n3, .int .i64 n4, .slice qa n1 qc, L3] q) (by kernel_rfl) (by kernel_rfl) (hd6) (fun hcur => ?_)
  simp only [Plan.seq, Plan.fill, List.getD_cons_zero, List.getD_cons_succ, Nat.reduceLT, ↓reduceIte, Nat.reduceSub]
  apply mix_pure _ rfl
  · rintro w' ⟨_, hw'⟩
    have y3 := hw'.y0.c 3 _ rfl
    have b0 := hw'.b.c 0 _ rfl
    have b1 := hw'.b.c 1 _ rfl
    have b4 := hw'.b.c 4 _ rfl
    have b5 := hw'.b.c 5 _ rfl
    go_simp
    rfl
  intro K hK
  go_simp
  refine hK _ ?_
  clear hK K
  apply mix_pure _ rfl
  · rintro w' ⟨_, hw'⟩
    have y3 := hw'.y0.c 3 _ rfl
    have b0 := hw'.b.c 0 _ rfl
    have b1 := hw'.b.c 1 _ rfl
    have b4 := hw'.b.c 4 _ rfl
    have b5 := hw'.b.c 5 _ rfl
    go_simp
    rfl
  intro K hK
  go_simp
  refine hK _ ?_
  clear hK K
  apply mix_pure _ rfl
  · rintro w' ⟨_, hw'⟩
    have y3 := hw'.y0.c 3 _ rfl
    have b0 := hw'.b.c 0 _ rfl
    have b1 := hw'.b.c 1 _ rfl
    have b4 := hw'.b.c 4 _ rfl
    have b5 := hw'.b.c 5 _ rfl
    go_simp
    rfl
  intro K hK
  go_simp
  refine hK _ ?_
  clear hK K
  apply mix_pure _ rfl
  · rintro w' ⟨_, hw'⟩
    have y3 := hw'.y0.c 3 _ rfl
    have b0 := hw'.b.c 0 _ rfl
    have b1 := hw'.b.c 1 _ rfl
    have b4 := hw'.b.c 4 _ rfl
    have b5 := hw'.b.c 5 _ rfl
    go_simp
    rfl
  intro K hK
  go_simp
  refine hK _ ?_
  clear hK K
  apply mix_pure _ rfl
  · rintro w' ⟨_, hw'⟩
    have y3 := hw'.y0.c 3 _ rfl
    have b0 := hw'.b.c 0 _ rfl
    have b1 := hw'.b.c 1 _ rfl
    have b4 := hw'.b.c 4 _ rfl
    have b5 := hw'.b.c 5 _ rfl
    go_simp
    rfl
  intro K hK
  go_simp
  refine hK _ ?_
  clear hK K
  apply mix_pure _ rfl
  · rintro w' ⟨_, hw'⟩
    have y3 := hw'.y0.c 3 _ rfl
    have b0 := hw'.b.c 0 _ rfl
    have b1 := hw'.b.c 1 _ rfl
    have b4 := hw'.b.c 4 _ rfl
    have b5 := hw'.b.c 5 _ rfl
    go_simp
    rfl
  intro K hK
  go_simp
  refine hK _ ?_
  clear hK K
  apply mix_pure _ rfl
  · rintro w' ⟨_, hw'⟩
    have y3 := hw'.y0.c 3 _ rfl
    have b0 := hw'.b.c 0 _ rfl
    have b1 := hw'.b.c 1 _ rfl
    have b4 := hw'.b.c 4 _ rfl
    have b5 := hw'.b.c 5 _ rfl
    go_simp
    rfl
  intro K hK
  go_simp
  refine hK _ ?_
  clear hK K
  apply mix_pure _ rfl
  · rintro w' ⟨_, hw'⟩
    have y3 := hw'.y0.c 3 _ rfl
    have b0 := hw'.b.c 0 _ rfl
    have b1 := hw'.b.c 1 _ rfl
    have b4 := hw'.b.c 4 _ rfl
    have b5 := hw'.b.c 5 _ rfl
    go_simp
    rfl
  intro K hK
  go_simp
  refine hK _ ?_
  clear hK K
  refine mix_act rfl (fun K hK => ?_)
  go_simp
  generalize hWA : World.drew (World.alloc _ _) = WA
  have hna := new_at hWA
  have HE7 := Lib.hid (HE6.out.keep hna.1)
  refine hK _ _ ⟨_, HE7.out⟩ (fun hcur => ?_)
  clear hK K hWA hna
  apply mix_pure _ rfl
  · rintro w' ⟨_, hw'⟩
    have y3 := hw'.y0.c 3 _ rfl
    have b0 := hw'.b.c 0 _ rfl
    have b1 := hw'.b.c 1 _ rfl
    have b4 := hw'.b.c 4 _ rfl
    have b5 := hw'.b.c 5 _ rfl
    go_simp
    rfl
  intro K hK
  go_simp
  refine hK _ ?_
  clear hK K
  refine mix_act rfl (fun K hK => ?_)
  have z3 := HE7.out.y1.c 3 _ rfl
  have zf := HE7.out.y1.f
  have zl := HE7.out.y1.lt
  go_simp
  have HE8 := Lib.hid (HE7.out.s1 (i := 3) (by simp) (.slice (some ⟨W6.heap.size, 0, none⟩) 2 2))
  refine hK _ _ ⟨_, HE8.out⟩ (fun hcur => ?_)
  clear hK K z3 zf zl
  refine mix_nil ?_
  clear hcur HE6 HE7 d6 hd6 hix0 hix2
  generalize World.setCell _ _ _ = W8 at *
  go_wp2_with fail
  have d0 : Ex5 w W0.heap.size (W0.heap.size + 1) [.int .i64 n3, .int .i64 n4, .slice qa n1 qc, .slice (some ⟨W6.heap.size, 0, none⟩) 2 2] W8.drew := HE8.out.keep (Bel.refl _).drew
  refine wp_region_mixC (Plan.seq [0, 1, 1002, 1003] .nil) (fun q => Ex5 w W0.heap.size (W0.heap.size + 1) [.int .i64 n3, .int .i64 n4, .slice qa n1 qc, .slice (some ⟨W6.heap.size, 0, none⟩) 2 2] q) (by kernel_rfl) (by kernel_rfl) (d0) (fun hcur => ?_)
  simp only [Plan.seq, Plan.fill, List.getD_cons_zero, List.getD_cons_succ, Nat.reduceLT, ↓reduceIte, Nat.reduceSub]
  apply mix_pure _ rfl
  · intro w' hw'
    have x0 := hw'.y0.c 0 _ rfl
    have x1 := hw'.y0.c 1 _ rfl
    have x2 := hw'.y0.c 2 _ rfl
    have x3 := hw'.y0.c 3 _ rfl
    have y0 := hw'.y1.c 0 _ rfl
    have y1 := hw'.y1.c 1 _ rfl
    have y2 := hw'.y1.c 2 _ rfl
    have y3 := hw'.y1.c 3 _ rfl
    go_simp
    rfl
  intro K hK
  go_simp
  refine hK _ ?_
  clear hK K
  apply mix_pure _ rfl
  · intro w' hw'
    have x0 := hw'.y0.c 0 _ rfl
    have x1 := hw'.y0.c 1 _ rfl
    have x2 := hw'.y0.c 2 _ rfl
    have x3 := hw'.y0.c 3 _ rfl
    have y0 := hw'.y1.c 0 _ rfl
    have y1 := hw'.y1.c 1 _ rfl
    have y2 := hw'.y1.c 2 _ rfl
    have y3 := hw'.y1.c 3 _ rfl
    go_simp
    rfl
  intro K hK
  go_simp
  refine hK _ ?_
  clear hK K
  refine mix_act rfl (fun K hK => ?_)
  have x0 := HE8.out.y0.c 0 _ rfl
  have x1 := HE8.out.y0.c 1 _ rfl
  have x2 := HE8.out.y0.c 2 _ rfl
  have x3 := HE8.out.y0.c 3 _ rfl
  have xf := HE8.out.y0.f
  have xl := HE8.out.y0.lt
  go_simp
  generalize hW9 : World.drew _ = W9
  have h9 : Ex5 w W0.heap.size (W0.heap.size + 1) [.int .i64 n3, .int .i64 n4, .slice qa n1 qc, .slice (some ⟨W6.heap.size, 0, none⟩) 2 2] W9 := by rw [← hW9]; exact ((((HE8.out.s0 (i := 0) (by decide) rfl).s0 (i := 1) (by decide) rfl).s0 (i := 2) (by decide) rfl).s0 (i := 3) (by decide) rfl).keep (Bel.refl _).drew
  refine hK _ _ h9 (fun hcur => ?_)
  clear hK K x0 x1 x2 x3 xf xl hW9 h9
  refine mix_act rfl (fun K hK => ?_)
  have y0 := hcur.y1.c 0 _ rfl
  have y1 := hcur.y1.c 1 _ rfl
  have y2 := hcur.y1.c 2 _ rfl
  have y3 := hcur.y1.c 3 _ rfl
  have yf := hcur.y1.f
  have yl := hcur.y1.lt
  go_simp
  refine hK _ _ ((((hcur.s1 (i := 0) (by simp) (.int .i64 n3)).s1 (i := 1) (by simp) (.int .i64 n4)).s1 (i := 2) (by simp) (.slice qa n1 qc)).s1 (i := 3) (by simp) (.slice (some ⟨W6.heap.size, 0, none⟩) 2 2)) (fun hcur => ?_)
  clear hK K y0 y1 y2 y3 yf yl
  refine mix_nil ?_
  generalize World.setCell _ _ _ = W10 at *
  have HC := Lib.hid hcur
  have x0 := hcur.y0.c 0 _ rfl
  have x1 := hcur.y0.c 1 _ rfl
  have x2 := hcur.y0.c 2 _ rfl
  have x3 := hcur.y0.c 3 _ rfl
  have y0 := hcur.y1.c 0 _ rfl
  have y1 := hcur.y1.c 1 _ rfl
  have y2 := hcur.y1.c 2 _ rfl
  have y3 := hcur.y1.c 3 _ rfl
  have yl := hcur.y1.lt
  clear hcur
  go_wp2
  exact bodyPost_ret (v := .tuple #[.agg #[.int .i64 100, .int .i64 120, .slice (some ⟨W0.heap.size, 0, none⟩) 3 3, .slice (some ⟨W0.heap.size + 1, 0, none⟩) 4 4], .agg #[.int .i64 n3, .int .i64 n4, .slice qa n1 qc, .slice (some ⟨W6.heap.size, 0, none⟩) 2 2]]) (by simp [results, Try.results52, go_sem, *]) rfl ⟨_, _, rfl, HC.out.bel, HC.out.sea, _, _, _, _, _, _, _, _, rfl⟩
theorem TrapAt.formW {w : World} {v : Value} {t : CT} (h : TrapAt w v t) : ∃ a c wa wc, v = .agg #[.int .i64 t.C, .int .i64 t.T, .slice a t.op.length c, .slice wa t.ws.length wc] ∧ t.op.length ≤ 140737488355328 ∧ t.ws.length ≤ 140737488355328 := by
  obtain ⟨ov, wv, rfl, ⟨a, c, b, off, rv, rfl, _, h1, _⟩, ⟨wa, wc, wb, woff, rfl, _, h2, _⟩⟩ := h
  exact ⟨a, c, wa, wc, rfl, h1, h2.1⟩
theorem weighed_any (w : World) : Calls Try.prog 22 #[] w fun e w' => e = .returned (.bool true) ∧ Bel w w' := by
  have HFI : Hid (∀ v wx, TrapAt wx v exT → Calls Try.prog 53 #[v, .int .i64 2, .int .i64 1] wx fun e w' => e = .returned (.tuple #[.agg #[.int .i64 4, .int .i64 10], .int .i64 0]) ∧ Bel wx w') := Lib.hid (fun v wx hx => by
    have := Fish_any exT v 2 1 wx hx
    unfold SpanPost at this
    rw [exT_err _ (by kernel_rfl), ex_fish.1, ex_fish.2] at this
    exact this)
  have HCP : Hid (∀ v wx, SeaAt wx v exSea → Calls Try.prog 54 #[v] wx fun e w' => e = .returned (.tuple #[.int .i64 20, .int .i64 0]) ∧ Bel wx w') := Lib.hid (fun v wx hx => by
    refine (lfCheap_any exSea v wx exSea_ok hx).mono ?_
    rintro e w' ⟨h, hb⟩
    unfold CheapP at h
    rw [exSea_cheap] at h
    rcases h with ⟨h1, _⟩ | ⟨_, h2⟩
    · exact absurd h1 (by decide)
    · exact ⟨h2, hb⟩)
  go_enter Try.func22, Try.ntmps22
  go_wp2_with fail
  refine (Example_any _).mono ?_
  rintro e w1 ⟨vt, vq, rfl, hb, ht, hq⟩
  have HB1 := Lib.hid hb
  have HTR := Lib.hid ht
  obtain ⟨a, c, wa, wc, rfl, _, _⟩ := ht.formW
  obtain ⟨qa, qc, qwa, qwc, rfl, _, _⟩ := hq.formW
  clear hb ht hq
  generalize exT.op.length = n1 at *
  generalize exT.ws.length = n2 at *
  generalize exQ.op.length = n3 at *
  generalize exQ.ws.length = n4 at *
  generalize hC : exT.C = C at *
  generalize hTt : exT.T = T at *
  generalize exQ.C = C2 at *
  generalize exQ.T = T2 at *
  clear hC hTt
  go_upto_region 2 with fail
  generalize hW : World.alloc _ _ = W1
  have HB2 : Hid (Bel w1 W1) := Lib.hid (by rw [← hW]; exact ((Bel.refl w1).alloc _).alloc _)
  have HX : Hid (Bx W1 w1.heap.size [.int .i64 C, .int .i64 T, .slice a n1 c, .slice wa n2 wc]) := Lib.hid (by rw [← hW]; exact (Bx.new rfl).bel ((Bel.refl _).alloc _))
  clear hW
  go_wp2_with fail
  refine (LExample_any _).mono ?_
  rintro e w2 ⟨vs, vr, rfl, hb, hs, ⟨y1, y2, ya1, ya2, m1, c1, m2, c2, rfl⟩⟩
  have HB3 := Lib.hid (HB2.out.trans hb)
  replace HX := Lib.hid (HX.out.bel hb)
  have HS := Lib.hid hs
  obtain ⟨pa, pc, ba, bc, rfl, _, _, _, _⟩ := hs.open
  clear hb hs HB2
  generalize exSea.pl.length = k1 at *
  generalize exSea.bo.length = k2 at *
  generalize exSea.w.lo = k3 at *
  generalize exSea.w.hi = k4 at *
  go_upto_region 3 with fail
  generalize hW : World.alloc _ _ = W2
  have HB4 : Hid (Bel w2 W2) := Lib.hid (by rw [← hW]; exact ((Bel.refl w2).alloc _).alloc _)
  have HP : Hid (Bx W2 w2.heap.size [.int .i64 k3, .int .i64 k4, .slice pa k1 pc, .slice ba k2 bc]) := Lib.hid (by rw [← hW]; exact (Bx.new rfl).bel ((Bel.refl _).alloc _))
  clear hW
  replace HX := Lib.hid (HX.out.bel HB4.out)
  have x0 := HX.out.c 0 _ rfl
  have x1 := HX.out.c 1 _ rfl
  have x2 := HX.out.c 2 _ rfl
  have x3 := HX.out.c 3 _ rfl
  have lx := HX.out.lt
  go_wp2_with fail
  refine (HFI.out _ _ (HTR.out.bel (HB3.out.trans HB4.out))).mono ?_
  rintro e w3 ⟨rfl, hb⟩
  replace HP := Lib.hid (HP.out.bel hb)
  have HB5 := Lib.hid (HB4.out.trans hb)
  clear hb HB4 HFI x0 x1 x2 x3 lx HX
  go_upto_region 4 with fail
  generalize hW : World.alloc _ _ = W3
  have HB6 : Hid (Bel w3 W3) := Lib.hid (by rw [← hW]; exact (Bel.refl w3).alloc _)
  have HSP : Hid (Bx W3 w3.heap.size [.int .i64 4, .int .i64 10]) := Lib.hid (by rw [← hW]; exact Bx.new rfl)
  clear hW
  replace HP := Lib.hid (HP.out.bel HB6.out)
  have p0 := HP.out.c 0 _ rfl
  have p1 := HP.out.c 1 _ rfl
  have p2 := HP.out.c 2 _ rfl
  have p3 := HP.out.c 3 _ rfl
  have lp := HP.out.lt
  go_wp2_with fail
  refine (HCP.out _ _ (HS.out.bel (HB5.out.trans HB6.out))).mono ?_
  rintro e w4 ⟨rfl, hb⟩
  replace HSP := Lib.hid (HSP.out.bel hb)
  have HBZ := Lib.hid ((((HB1.out.trans HB3.out).trans HB5.out).trans HB6.out).trans hb)
  clear hb HCP p0 p1 p2 p3 lp HP HB6
  have s0 := HSP.out.c 0 _ rfl
  have s1 := HSP.out.c 1 _ rfl
  have ls := HSP.out.lt
  go_wp2
  go_ret
  exact ⟨rfl, HBZ.out⟩
end Go.Proofs.Ytkdcdhkhadhcfaa
