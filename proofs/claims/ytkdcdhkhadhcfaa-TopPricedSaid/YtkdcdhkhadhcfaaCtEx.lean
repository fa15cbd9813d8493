/-
  cuts: the law's Example, and what its cut costs.
-/
import Derived.Test.YtkdcdhkhadhcfaaCtPr
namespace Go.Proofs.Ytkdcdhkhadhcfaa
open Go Go.RowKit
set_option maxHeartbeats 4000000
set_option maxRecDepth 100000
def exT7 : List CP := [⟨-1, 20, 24, 1, 3, 2⟩, ⟨0, 8, 12, 0, 2, 3⟩, ⟨0, 9, 10, 0, 0, 4⟩, ⟨1, 6, 7, 0, 0, 6⟩, ⟨1, 0, 30, 0, 0, 1⟩]
theorem ex7_ok : CtOk exT7 := ⟨by decide, by decide, by decide, by decide, by decide⟩
theorem ex7_cut : CutOk exT7 [0, 1] := ⟨by decide, by decide⟩
theorem ex7_tr : TrOk exT7 [20, 8, 10, 6, 2] := ⟨⟨⟨by decide, by decide⟩, by decide⟩, by decide⟩
theorem ex7_law : PriceLaw exT7 [0, 1] [20, 8, 10, 6, 2] := price_law ex7_ok ex7_tr
theorem ex7_lo : priceLo exT7 [0, 1] = 72 := by decide +kernel
theorem ex7_hi : priceHi exT7 [0, 1] = 87 := by decide +kernel
theorem part7_any (a b c d e f : Int) (w : World) : Calls Try.prog 63 #[.int .i64 a, .int .i64 b, .int .i64 c, .int .i64 d, .int .i64 e, .int .i64 f] w fun en w' => en = .returned (.agg #[.int .i64 a, .int .i64 b, .int .i64 c, .int .i64 d, .int .i64 e, .int .i64 f]) ∧ Bel w w' := by
  go_enter Try.func63, Try.ntmps63
  go_upto_region 1 with fail
  generalize hW : World.alloc _ _ = W0
  have HR : Hid (Bx W0 w.heap.size [.int .i64 0, .int .i64 0, .int .i64 0, .int .i64 0, .int .i64 0, .int .i64 0]) := Lib.hid (by rw [← hW]; exact Bx.new rfl)
  have HB : Hid (Bel w W0) := Lib.hid (by rw [← hW]; exact (Bel.refl w).alloc _)
  clear hW
  have r0 := HR.out.c 0 _ rfl
  have r1 := HR.out.c 1 _ rfl
  have r2 := HR.out.c 2 _ rfl
  have r3 := HR.out.c 3 _ rfl
  have r4 := HR.out.c 4 _ rfl
  have r5 := HR.out.c 5 _ rfl
  have rf := HR.out.f
  have lr := HR.out.lt
  go_wp2
  generalize hW9 : World.setCell _ _ _ = W9
  have HR9 : Hid (Bx W9 w.heap.size [.int .i64 a, .int .i64 b, .int .i64 c, .int .i64 d, .int .i64 e, .int .i64 f]) := Lib.hid (by
    rw [← hW9]
    exact (((((HR.out.set (i := 0) (by simp) (.int .i64 a)).set (i := 1) (by simp) (.int .i64 b)).set (i := 2) (by simp) (.int .i64 c)).set (i := 3) (by simp) (.int .i64 d)).set (i := 4) (by simp) (.int .i64 e)).set (i := 5) (by simp) (.int .i64 f))
  have HB9 : Hid (Bel w W9) := Lib.hid (by
    rw [← hW9]
    exact (((((HB.out.setCell (p := ⟨w.heap.size, 0, none⟩) (Nat.le_refl _) _).setCell (p := ⟨w.heap.size, 1, none⟩) (Nat.le_refl _) _).setCell (p := ⟨w.heap.size, 2, none⟩) (Nat.le_refl _) _).setCell (p := ⟨w.heap.size, 3, none⟩) (Nat.le_refl _) _).setCell (p := ⟨w.heap.size, 4, none⟩) (Nat.le_refl _) _).setCell (p := ⟨w.heap.size, 5, none⟩) (Nat.le_refl _) _)
  clear hW9 r0 r1 r2 r3 r4 r5 rf lr
  have r0 := HR9.out.c 0 _ rfl
  have r1 := HR9.out.c 1 _ rfl
  have r2 := HR9.out.c 2 _ rfl
  have r3 := HR9.out.c 3 _ rfl
  have r4 := HR9.out.c 4 _ rfl
  have r5 := HR9.out.c 5 _ rfl
  have lr := HR9.out.lt
  exact bodyPost_ret (v := .agg #[.int .i64 a, .int .i64 b, .int .i64 c, .int .i64 d, .int .i64 e, .int .i64 f]) (by simp [results, Try.results63, go_sem, *]) rfl ⟨rfl, HB9.out⟩
def cells7 : List Value := flat cpCells exT7
theorem cells7_at {w : World} {g : Nat} (h : Bx w g cells7) : CtAt w (.slice (some ⟨g, 0, none⟩) 5 5) exT7 := by
  refine ⟨_, 5, g, 0, rfl, fun _ => rfl, by decide, fun i hi => ?_⟩
  have : i = 0 ∨ i = 1 ∨ i = 2 ∨ i = 3 ∨ i = 4 := by simp [exT7] at hi; omega
  rcases this with rfl | rfl | rfl | rfl | rfl
  · exact ⟨h.c 0 _ rfl, h.c 1 _ rfl, h.c 2 _ rfl, h.c 3 _ rfl, h.c 4 _ rfl, h.c 5 _ rfl⟩
  · exact ⟨h.c 6 _ rfl, h.c 7 _ rfl, h.c 8 _ rfl, h.c 9 _ rfl, h.c 10 _ rfl, h.c 11 _ rfl⟩
  · exact ⟨h.c 12 _ rfl, h.c 13 _ rfl, h.c 14 _ rfl, h.c 15 _ rfl, h.c 16 _ rfl, h.c 17 _ rfl⟩
  · exact ⟨h.c 18 _ rfl, h.c 19 _ rfl, h.c 20 _ rfl, h.c 21 _ rfl, h.c 22 _ rfl, h.c 23 _ rfl⟩
  · exact ⟨h.c 24 _ rfl, h.c 25 _ rfl, h.c 26 _ rfl, h.c 27 _ rfl, h.c 28 _ rfl, h.c 29 _ rfl⟩
theorem cells7_one : ∀ u, u ∈ cells7 → u.oneCell' = true := flat_one (fun a u hu => by unfold cpCells at hu; simp at hu; rcases hu with rfl | rfl | rfl | rfl | rfl | rfl <;> rfl) _
theorem cells7_src {w : World} {g : Nat} (h : Bx w g cells7) : 0 < 5 → ∃ ad, (some ⟨g, 0, none⟩ : Option Addr) = some ad ∧ ∀ j u, cells7[j]? = some u → w.cell? (ad.add j) = some u := fun _ => ⟨_, rfl, fun j u hu => by
  rw [add_at, Nat.zero_add]
  exact h.c j u hu⟩
theorem mkCP : (Try.prog.info? 70).map (fun i => (i.zero, i.size, i.bytes)) = some (some (.agg #[.int .i64 0, .int .i64 0, .int .i64 0, .int .i64 0, .int .i64 0, .int .i64 0]), 6, 48) := by kernel_rfl
theorem own_frozen {w : World} {T sz g n c : Nat} {xs : List Value} (h : w.ownsRow 0 T sz (.slice (some ⟨g, 0, none⟩) n c) n xs) : ∀ o, w.frozen? ⟨g, o, none⟩ = false := by
  rcases h.2 with ⟨e, _⟩ | ⟨g', cap, cur, hv, _, hh, _⟩
  · cases e
  · injection hv with e1
    injection e1 with e1
    injection e1 with e1
    subst e1
    exact (row_facts hh).2
theorem Example7_any (w : World) : Calls Try.prog 36 #[] w fun en w' => ∃ (g g2 c2 : Nat), en = .returned (.tuple #[.slice (some ⟨g, 0, none⟩) 5 5, .slice (some ⟨g2, 0, none⟩) 5 c2]) ∧ Bx w' g cells7 ∧ Bel w w' := by
  obtain ⟨i1, hi1, hz1, hs1, hb1⟩ := info_parts mkCP
  have HI1 := Lib.hid hi1
  have HZ1 := Lib.hid hz1
  clear hi1 hz1
  have HB := Lib.hid (Bel.refl w)
  go_enter Try.func36, Try.ntmps36
  go_upto_region 2 with (first | (go_at_call 63; refine (part7_any _ _ _ _ _ _ _).mono ?_; rintro e w2 ⟨rfl, hb⟩; replace HB := Lib.hid (HB.out.trans hb); clear hb) | fail)
  generalize hW : World.alloc _ _ = W0
  have HX : Hid (Bx W0 w2.heap.size cells7) := Lib.hid (by rw [← hW]; exact Bx.new (cs := cells7) rfl)
  have HB0 : Hid (Bel w W0) := Lib.hid (HB.out.trans (by rw [← hW]; exact (Bel.refl _).alloc _))
  clear hW HB
  generalize w2.heap.size = g at *
  have HFR : Hid ((W0.alloc (.cells #[] 70)).ownsRow 0 70 6 (.slice (some ⟨W0.heap.size, 0, none⟩) 0 0) 0 []) := Lib.hid (fresh_at (new_row rfl))
  have lg := HX.out.lt
  go_upto_region 3 with (at_builtin; refine wpList_append_opt rfl _ _ 22 rfl 70 i1 (.agg #[.int .i64 0, .int .i64 0, .int .i64 0, .int .i64 0, .int .i64 0, .int .i64 0]) 6 48 Try.underlying22 HI1.out HZ1.out hs1 hb1 rfl (by decide) _ 0 [] rfl HFR.out (some ⟨g, 0, none⟩) 5 5 cells7 rfl rfl (cells7_src (HX.out.bel ((Bel.refl _).alloc _))) cells7_one (by unfold maxLen; omega) (by omega) ?_; intro V w3 hown hgrow hwhere; obtain ⟨g2, c2, rfl, hg2, lg2, HK, HR⟩ := stage hown hgrow hwhere; clear hown hgrow hwhere)
  have HX3 := Lib.hid (HX.out.bel HK.out)
  have HB3 := Lib.hid (HB0.out.trans HK.out)
  have hz3 := HB0.out.szle
  have hfr := own_frozen HR.out
  have hcl : ∀ j, j < 30 → ∃ u, w3.cell? ⟨g2, j, none⟩ = some u := fun j hj => by
    have h1 : j < cells7.length := by rw [show cells7.length = 30 from rfl]; exact hj
    have := World.ownsRow.cells HR.out (g := g2) rfl j _ (List.getElem?_eq_getElem h1)
    rw [add_at, Nat.zero_add] at this
    exact ⟨_, this⟩
  clear HFR HX HB0 HK HR
  obtain ⟨u0, q0⟩ := hcl 6 (by omega)
  obtain ⟨u1, q1⟩ := hcl 7 (by omega)
  obtain ⟨u2, q2⟩ := hcl 8 (by omega)
  obtain ⟨u3, q3⟩ := hcl 9 (by omega)
  obtain ⟨u4, q4⟩ := hcl 10 (by omega)
  obtain ⟨u5, q5⟩ := hcl 11 (by omega)
  have HQ := Lib.hid (And.intro q0 (And.intro q1 (And.intro q2 (And.intro q3 (And.intro q4 q5)))))
  have HF := Lib.hid hfr
  clear hcl q0 q1 q2 q3 q4 q5 hfr
  go_wp2_with fail
  refine (part7_any _ _ _ _ _ _ _).mono ?_
  rintro e w5 ⟨rfl, hb⟩
  obtain ⟨p0, p1, p2, p3, p4, p5⟩ := HQ.out
  have f9 : ∀ o, w5.frozen? ⟨g2, o, none⟩ = false := fun o => (hb.frozens _ (by exact lg2)).trans (HF.out o)
  replace p0 := hb.cell p0
  replace p1 := hb.cell p1
  replace p2 := hb.cell p2
  replace p3 := hb.cell p3
  replace p4 := hb.cell p4
  replace p5 := hb.cell p5
  have l9 := cell_lt p0
  have HX5 := Lib.hid (HX3.out.bel hb)
  have HB5 := Lib.hid (HB3.out.trans hb)
  have hix := idxCP (a := some ⟨g2, 0, none⟩) (n := 5) (c := c2) (b := g2) (off := 0) (fun _ => rfl)
  have hix1 : ∀ wx : World, (Instr.indexAt 22 (.slice (some ⟨g2, 0, none⟩) 5 c2) (.int .i64 1)).run Try.prog wx = .ok (.pointer (some ⟨g2, 6, none⟩)) wx := fun wx => hix wx 1 (by decide)
  clear hix hb HX3 HB3 HQ HF
  go_wp2
  generalize hW9 : World.setCell _ _ _ = W9
  have HX9 : Hid (Bx W9 g cells7) := Lib.hid (by
    rw [← hW9]
    exact (((((HX5.out.other (by omega) _).other (by omega) _).other (by omega) _).other (by omega) _).other (by omega) _).other (by omega) _)
  have HB9 : Hid (Bel w W9) := Lib.hid (by
    rw [← hW9]
    have : w.heap.size ≤ g2 := by omega
    exact (((((HB5.out.setCell this _).setCell this _).setCell this _).setCell this _).setCell this _).setCell this _)
  clear hW9
  exact bodyPost_ret (v := .tuple #[.slice (some ⟨g, 0, none⟩) 5 5, .slice (some ⟨g2, 0, none⟩) 5 c2]) (by simp [results, Try.results36, go_sem, *]) rfl ⟨g, g2, c2, rfl, HX9.out, HB9.out⟩
end Go.Proofs.Ytkdcdhkhadhcfaa
