/-
  shares: the law's Example.
-/
import Derived.Test.YtkdcdhkhadhcfaaShSh
namespace Go.Proofs.Ytkdcdhkhadhcfaa
open Go Go.RowKit
set_option maxHeartbeats 4000000
set_option maxRecDepth 100000
def exC10 : List SNd := [⟨-1, 0, 0⟩, ⟨0, 0, 3⟩, ⟨0, 1, 0⟩, ⟨0, 1, 0⟩, ⟨2, 2, 0⟩, ⟨2, 1, 0⟩, ⟨3, 1, 2⟩, ⟨3, 4, 0⟩]
theorem ex10_ok : CusOk exC10 := cusB_iff.1 (by decide)
theorem ex10_keeps : kpTo exC10 42 8 = [0, 3, 0, 0, 14, 6, 6, 13] := by decide +kernel
def cells10 : List Value := flat ndCells exC10
theorem cells10_at {w : World} {g : Nat} (h : Bx w g cells10) : NdsAt w (.slice (some ⟨g, 0, none⟩) 8 8) exC10 := by
  refine ⟨_, 8, g, 0, rfl, fun _ => rfl, by decide, fun i hi => ?_⟩
  have : i = 0 ∨ i = 1 ∨ i = 2 ∨ i = 3 ∨ i = 4 ∨ i = 5 ∨ i = 6 ∨ i = 7 := by simp [exC10] at hi; omega
  rcases this with rfl | rfl | rfl | rfl | rfl | rfl | rfl | rfl
  · exact ⟨h.c 0 _ rfl, h.c 1 _ rfl, h.c 2 _ rfl⟩
  · exact ⟨h.c 3 _ rfl, h.c 4 _ rfl, h.c 5 _ rfl⟩
  · exact ⟨h.c 6 _ rfl, h.c 7 _ rfl, h.c 8 _ rfl⟩
  · exact ⟨h.c 9 _ rfl, h.c 10 _ rfl, h.c 11 _ rfl⟩
  · exact ⟨h.c 12 _ rfl, h.c 13 _ rfl, h.c 14 _ rfl⟩
  · exact ⟨h.c 15 _ rfl, h.c 16 _ rfl, h.c 17 _ rfl⟩
  · exact ⟨h.c 18 _ rfl, h.c 19 _ rfl, h.c 20 _ rfl⟩
  · exact ⟨h.c 21 _ rfl, h.c 22 _ rfl, h.c 23 _ rfl⟩
/-- The two results, in boxes. -/
structure Ex10 (w : World) (g1 g2 : Nat) (v1 v2 : Value) (q : World) : Prop where
  bel : Bel w q
  a : Bx q g1 [v1]
  b : Bx q g2 [v2]
theorem Ex10.go {w : World} {g1 g2 : Nat} {v1 v2 : Value} {q q' : World} (h : Ex10 w g1 g2 v1 v2 q) (k : Bel q q') : Ex10 w g1 g2 v1 v2 q' := ⟨h.bel.trans k, h.a.bel k, h.b.bel k⟩
theorem Ex10.sa {w : World} {g1 g2 : Nat} {v1 v2 : Value} {q : World} (h : Ex10 w g1 g2 v1 v2 q) (hn : w.heap.size ≤ g1 ∧ g1 ≠ g2) (v : Value) : Ex10 w g1 g2 v v2 (q.setCell ⟨g1, 0, none⟩ v) := ⟨h.bel.setCell (p := ⟨g1, 0, none⟩) hn.1 _, h.a.set (i := 0) (by simp) v, h.b.other hn.2 _⟩
theorem Ex10.sb {w : World} {g1 g2 : Nat} {v1 v2 : Value} {q : World} (h : Ex10 w g1 g2 v1 v2 q) (hn : w.heap.size ≤ g2 ∧ g2 ≠ g1) (v : Value) : Ex10 w g1 g2 v1 v (q.setCell ⟨g2, 0, none⟩ v) := ⟨h.bel.setCell (p := ⟨g2, 0, none⟩) hn.1 _, h.a.other hn.2 _, h.b.set (i := 0) (by simp) v⟩
theorem Example10_any (w : World) : Calls Try.prog 37 #[] w fun en w' => ∃ (g g2 : Nat), en = .returned (.tuple #[.agg #[.slice (some ⟨g, 0, none⟩) 8 8], .agg #[.slice (some ⟨g2, 0, none⟩) 5 5]]) ∧ Bx w' g cells10 ∧ Bel w w' := by
  go_enter Try.func37, Try.ntmps37
  go_upto_region 1 with fail
  generalize hW : World.alloc _ _ = W0
  obtain ⟨ga, hga⟩ : ∃ k, k = w.heap.size := ⟨_, rfl⟩
  obtain ⟨gb, hgb⟩ : ∃ k, k = w.heap.size + 1 := ⟨_, rfl⟩
  rw [← hgb, ← hga]
  have HE0 : Hid (Ex10 w ga gb (.slice none 0 0) (.slice none 0 0) W0) := Lib.hid (by
    rw [← hW]
    exact ⟨((Bel.refl w).alloc _).alloc _, (Bx.new hga).bel ((Bel.refl _).alloc _), Bx.new (by rw [hgb]; simp)⟩)
  have hga0 : ga < W0.heap.size := HE0.out.a.lt
  have hgb0 : gb < W0.heap.size := HE0.out.b.lt
  have hn1 : w.heap.size ≤ ga ∧ ga ≠ gb := by omega
  have hn2 : w.heap.size ≤ gb ∧ gb ≠ ga := by omega
  have HN1 := Lib.hid hn1
  have HN2 := Lib.hid hn2
  clear hW hga hgb hn1 hn2
  have a0 := HE0.out.a.c 0 _ rfl
  have af := HE0.out.a.f
  go_upto_region 2 with fail
  generalize hW1 : World.alloc _ _ = W1
  have HE1 : Hid (Ex10 w ga gb (.slice (some ⟨W0.heap.size, 0, none⟩) 8 8) (.slice none 0 0) W1) := Lib.hid (by rw [← hW1]; exact (HE0.out.sa HN1.out _).go ((Bel.refl _).alloc _))
  have HC1 : Hid (Bx W1 W0.heap.size cells10) := Lib.hid (by rw [← hW1]; exact Bx.new (cs := cells10) (by rw [World.size_setCell]))
  clear hW1 a0 af HE0
  have b0 := HE1.out.b.c 0 _ rfl
  have bf := HE1.out.b.f
  have hgb1 : gb < W1.heap.size := HE1.out.b.lt
  go_upto_region 3 with fail
  generalize hW2 : World.alloc _ _ = W2
  have hgc : W0.heap.size ≠ gb := by omega
  have HE2 : Hid (Ex10 w ga gb (.slice (some ⟨W0.heap.size, 0, none⟩) 8 8) (.slice (some ⟨W1.heap.size, 0, none⟩) 5 5) W2) := Lib.hid (by rw [← hW2]; exact (HE1.out.sb HN2.out _).go ((Bel.refl _).alloc _))
  have HC2 : Hid (Bx W2 W0.heap.size cells10) := Lib.hid (by rw [← hW2]; exact (HC1.out.other (by omega) _).bel ((Bel.refl _).alloc _))
  clear hW2 b0 bf HE1 HC1
  generalize hg1 : W0.heap.size = g1 at *
  generalize hg2 : W1.heap.size = g2 at *
  clear hg1 hg2
  have hd : Ex10 w ga gb (.slice (some ⟨g1, 0, none⟩) 8 8) (.slice (some ⟨g2, 0, none⟩) 5 5) W2.drew ∧ Bx W2.drew g1 cells10 := ⟨HE2.out.go (Bel.refl _).drew, HC2.out.bel (Bel.refl _).drew⟩
  have hga1 : g1 ≠ ga := by omega
  have hgb2 : g1 ≠ gb := by omega
  have HNE := Lib.hid (And.intro hga1 hgb2)
  clear hga0 hgb0 hgb1 hgc hga1 hgb2
  refine wp_region_mixC (Plan.seq [0, 1, 1002, 1003] .nil) (fun q => Ex10 w ga gb (.slice (some ⟨g1, 0, none⟩) 8 8) (.slice (some ⟨g2, 0, none⟩) 5 5) q ∧ Bx q g1 cells10) (by kernel_rfl) (by kernel_rfl) (hd) (fun hcur => ?_)
  simp only [Plan.seq, Plan.fill, List.getD_cons_zero, List.getD_cons_succ, Nat.reduceLT, ↓reduceIte, Nat.reduceSub]
  apply mix_pure _ rfl
  · rintro w' ⟨hw', _⟩
    have x0 := hw'.a.c 0 _ rfl
    have x1 := hw'.b.c 0 _ rfl
    go_simp
    rfl
  intro K hK
  go_simp
  refine hK _ ?_
  clear hK K
  apply mix_pure _ rfl
  · rintro w' ⟨hw', _⟩
    have x0 := hw'.a.c 0 _ rfl
    have x1 := hw'.b.c 0 _ rfl
    go_simp
    rfl
  intro K hK
  go_simp
  refine hK _ ?_
  clear hK K
  refine mix_act rfl (fun K hK => ?_)
  have x0 := HE2.out.a.c 0 _ rfl
  have xf := HE2.out.a.f
  have xl := HE2.out.a.lt
  go_simp
  generalize hWS : World.drew _ = WS
  have hcs : Ex10 w ga gb (.slice (some ⟨g1, 0, none⟩) 8 8) (.slice (some ⟨g2, 0, none⟩) 5 5) WS ∧ Bx WS g1 cells10 := by
    rw [← hWS]
    exact ⟨(HE2.out.sa HN1.out _).go (Bel.refl _).drew, (HC2.out.other (by have := HNE.out; omega) _).bel (Bel.refl _).drew⟩
  refine hK _ _ hcs (fun hcur => ?_)
  clear hK K x0 xf xl hcs hWS HE2 HC2
  refine mix_act rfl (fun K hK => ?_)
  have HCU := Lib.hid hcur
  have x0 := hcur.1.b.c 0 _ rfl
  have xf := hcur.1.b.f
  have xl := hcur.1.b.lt
  go_simp
  generalize hWS : World.setCell _ _ _ = WS
  have hcs : Ex10 w ga gb (.slice (some ⟨g1, 0, none⟩) 8 8) (.slice (some ⟨g2, 0, none⟩) 5 5) WS ∧ Bx WS g1 cells10 := by
    rw [← hWS]
    exact ⟨HCU.out.1.sb HN2.out _, HCU.out.2.other (by have := HNE.out; omega) _⟩
  refine hK _ _ hcs (fun hcur => ?_)
  clear hK K x0 xf xl hcs hWS HCU
  refine mix_nil ?_
  have HCU := Lib.hid hcur
  have x0 := hcur.1.a.c 0 _ rfl
  have x1 := hcur.1.b.c 0 _ rfl
  have lx0 := cell_lt x0
  have lx1 := cell_lt x1
  clear hcur hd
  go_wp2
  exact bodyPost_ret (v := .tuple #[.agg #[.slice (some ⟨g1, 0, none⟩) 8 8], .agg #[.slice (some ⟨g2, 0, none⟩) 5 5]]) (by simp [results, Try.results37, go_sem, *]) rfl ⟨g1, ⟨g2, rfl⟩, HCU.out.2, HCU.out.1.bel⟩
end Go.Proofs.Ytkdcdhkhadhcfaa
