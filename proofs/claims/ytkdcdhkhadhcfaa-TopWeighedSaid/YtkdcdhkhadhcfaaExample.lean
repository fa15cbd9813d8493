/-
  law: Example.
-/
import Derived.Test.YtkdcdhkhadhcfaaTold
import Derived.Test.YtkdcdhkhadhcfaaEx0
import Derived.Test.YtkdcdhkhadhcfaaLaw1
namespace Go.Proofs.Ytkdcdhkhadhcfaa
open Go Go.RowKit
set_option maxHeartbeats 1000000
set_option maxRecDepth 100000
theorem exRows {w : World} {k1 k2 k3 : Nat} {T1 T2 T3 : TypeId} (h1 : w.heap[k1]? = some (.cells #[.int .i64 0, .int .i64 1] T1 (0, 0))) (h2 : w.heap[k2]? = some (.cells #[.int .i64 1] T2 (0, 0)))
    (h3 : w.heap[k3]? = some (.cells #[.slice (some ⟨k1, 0, none⟩) 2 2, .slice (some ⟨k2, 0, none⟩) 1 1] T3 (0, 0))) : RowsAt w (.slice (some ⟨k3, 0, none⟩) 2 2) [[0, 1], [1]] := by
  have c1 := (row_facts h1).1
  have c2 := (row_facts h2).1
  have c3 := (row_facts h3).1
  refine ⟨some ⟨k3, 0, none⟩, 2, k3, 0, fun i => if i = 0 then .slice (some ⟨k1, 0, none⟩) 2 2 else .slice (some ⟨k2, 0, none⟩) 1 1, rfl, fun _ => rfl, by simp, fun i hi => ?_⟩
  have : i = 0 ∨ i = 1 := by simp at hi; omega
  rcases this with e | e <;> subst e
  · refine ⟨(c3 0), some ⟨k1, 0, none⟩, 2, k1, 0, rfl, fun _ => rfl, by simp [atL], fun j hj => ?_⟩
    have : j = 0 ∨ j = 1 := by simp [atL] at hj; omega
    rcases this with e | e <;> subst e
    · exact c1 0
    · exact c1 1
  · refine ⟨(c3 1), some ⟨k2, 0, none⟩, 1, k2, 0, rfl, fun _ => rfl, by simp [atL], fun j hj => ?_⟩
    have : j = 0 := by simp [atL] at hj; omega
    subst this
    exact c2 0
theorem exWords {w : World} {k : Nat} {T : TypeId} (h : w.heap[k]? = some (.cells #[.int .i64 0, .int .i64 0, .int .i64 5, .int .i64 6, .int .i64 0, .int .i64 1, .int .i64 0, .int .i64 0, .int .i64 1, .int .i64 0, .int .i64 3, .int .i64 8, .int .i64 2, .int .i64 1, .int .i64 4, .int .i64 10] T (0, 0))) :
    WordsAt w (.slice (some ⟨k, 0, none⟩) 4 4) exT.ws := by
  have c := (row_facts h).1
  refine ⟨some ⟨k, 0, none⟩, 4, k, 0, rfl, fun _ => rfl, by simp [exT], fun i hi => ?_⟩
  have : i = 0 ∨ i = 1 ∨ i = 2 ∨ i = 3 := by simp [exT] at hi; omega
  rcases this with e | e | e | e <;> subst e
  · exact ⟨c 0, c 1, c 2, c 3⟩
  · exact ⟨c 4, c 5, c 6, c 7⟩
  · exact ⟨c 8, c 9, c 10, c 11⟩
  · exact ⟨c 12, c 13, c 14, c 15⟩
def set4 (w : World) (p : Nat) (a b c d : Value) : World := (((w.setCell ⟨p, 0, none⟩ a).setCell ⟨p, 1, none⟩ b).setCell ⟨p, 2, none⟩ c).setCell ⟨p, 3, none⟩ d
theorem set4_cells {w : World} {p : Nat} {a b c d a' b' c' d' : Value} (h0 : w.cell? ⟨p, 0, none⟩ = some a') (h1 : w.cell? ⟨p, 1, none⟩ = some b') (h2 : w.cell? ⟨p, 2, none⟩ = some c') (h3 : w.cell? ⟨p, 3, none⟩ = some d') :
    (set4 w p a b c d).cell? ⟨p, 0, none⟩ = some a ∧ (set4 w p a b c d).cell? ⟨p, 1, none⟩ = some b ∧ (set4 w p a b c d).cell? ⟨p, 2, none⟩ = some c ∧ (set4 w p a b c d).cell? ⟨p, 3, none⟩ = some d := by
  have e : ∀ (w : World) (p a b : Nat) (u : Value), a ≠ b → (w.setCell ⟨p, a, none⟩ u).cell? ⟨p, b, none⟩ = w.cell? ⟨p, b, none⟩ := fun w p a b u h => World.cell?_setCell_other _ _ _ _ (by intro q; injection q; omega)
  unfold set4
  refine ⟨?_, ?_, ?_, ?_⟩
  · rw [e _ _ 3 0 _ (by decide), e _ _ 2 0 _ (by decide), e _ _ 1 0 _ (by decide), World.cell?_setCell_same _ _ _ (by rw [h0])]
  · rw [e _ _ 3 1 _ (by decide), e _ _ 2 1 _ (by decide), World.cell?_setCell_same _ _ _ (by rw [e _ _ 0 1 _ (by decide), h1])]
  · rw [e _ _ 3 2 _ (by decide), World.cell?_setCell_same _ _ _ (by rw [e _ _ 1 2 _ (by decide), e _ _ 0 2 _ (by decide), h2])]
  · rw [World.cell?_setCell_same _ _ _ (by rw [e _ _ 2 3 _ (by decide), e _ _ 1 3 _ (by decide), e _ _ 0 3 _ (by decide), h3])]
theorem set4_block {w : World} {p k : Nat} {a b c d : Value} (h : k ≠ p) : (set4 w p a b c d).heap[k]? = w.heap[k]? := by
  unfold set4; exact (heap_setCell_other _ _ _ _ (by exact h)).trans ((heap_setCell_other _ _ _ _ (by exact h)).trans ((heap_setCell_other _ _ _ _ (by exact h)).trans (heap_setCell_other _ _ _ _ (by exact h))))
theorem set4_frozen {w : World} {p : Nat} {a b c d : Value} {x : Addr} : (set4 w p a b c d).frozen? x = w.frozen? x := by
  unfold set4; rw [World.frozen?_setCell, World.frozen?_setCell, World.frozen?_setCell, World.frozen?_setCell]
theorem set4_size {w : World} {p : Nat} {a b c d : Value} : (set4 w p a b c d).heap.size = w.heap.size := by unfold set4; simp
theorem set4_bel {w0 w : World} {p : Nat} {a b c d : Value} (h : Bel w0 w) (hp : w0.heap.size ≤ p) : Bel w0 (set4 w p a b c d) := by
  unfold set4; exact (((h.setCell (p := ⟨p, 0, none⟩) hp _).setCell (p := ⟨p, 1, none⟩) hp _).setCell (p := ⟨p, 2, none⟩) hp _).setCell (p := ⟨p, 3, none⟩) hp _
theorem set4_new {lo : Nat} {w : World} {v : Value} {t : CT} {p : Nat} {a b c d : Value} (h : NewTrap lo w v t) (hp : p < lo) : NewTrap lo (set4 w p a b c d) v t := by
  unfold set4; exact (((h.set (p := ⟨p, 0, none⟩) hp).set (p := ⟨p, 1, none⟩) hp).set (p := ⟨p, 2, none⟩) hp).set (p := ⟨p, 3, none⟩) hp
theorem Example_any (w : World) : Calls Try.prog 51 #[] w fun e w' => ∃ vt vq, e = .returned (.tuple #[vt, vq]) ∧ Bel w w' ∧ TrapAt w' vt exT ∧ TrapAt w' vq exQ := by
  go_enter Try.func51, Try.ntmps51
  go_wp2_with fail
  generalize hW1 : ((((w.alloc _).alloc _).alloc _).alloc _).alloc _ = W1
  have hB1 : Bel w W1 := by rw [← hW1]; exact (by repeat (first | assumption | exact Bel.refl _ | refine Bel.drew ?_ | refine Bel.drewN ?_ _ | refine Bel.alloc ?_ _ | refine Bel.setCell ?_ (by simp <;> omega) _ | refine Bel.trans ?_ (by assumption)))
  have s1 : W1.heap.size = w.heap.size + 5 := by rw [← hW1]; simp
  have m3 : W1.heap[w.heap.size + 1 + 1 + 1 + 1]? = some (.cells #[.slice (some ⟨w.heap.size + 1 + 1, 0, none⟩) 2 2, .slice (some ⟨w.heap.size + 1 + 1 + 1, 0, none⟩) 1 1] 26 (0, 0)) := by rw [← hW1]; exact new_row (by simp)
  have m2 : W1.heap[w.heap.size + 1 + 1 + 1]? = some (.cells #[.int .i64 1] 3 (0, 0)) := by rw [← hW1]; exact (heap_alloc_old _ _ (by simp <;> omega)).trans (new_row (by simp))
  have m1 : W1.heap[w.heap.size + 1 + 1]? = some (.cells #[.int .i64 0, .int .i64 1] 3 (0, 0)) := by rw [← hW1]; exact (heap_alloc_old _ _ (by simp <;> omega)).trans ((heap_alloc_old _ _ (by simp <;> omega)).trans (new_row (by simp)))
  have n1 : W1.heap[w.heap.size + 1]? = some (.cells #[.int .i64 0, .int .i64 0, .slice none 0 0, .slice none 0 0] 47 (0, 0)) := by
    rw [← hW1]; exact (heap_alloc_old _ _ (by simp <;> omega)).trans ((heap_alloc_old _ _ (by simp <;> omega)).trans ((heap_alloc_old _ _ (by simp <;> omega)).trans (new_row (by simp))))
  have n0 : W1.heap[w.heap.size]? = some (.cells #[.int .i64 0, .int .i64 0, .slice none 0 0, .slice none 0 0] 47 (0, 0)) := by
    rw [← hW1]; exact (heap_alloc_old _ _ (by simp <;> omega)).trans ((heap_alloc_old _ _ (by simp <;> omega)).trans ((heap_alloc_old _ _ (by simp <;> omega)).trans ((heap_alloc_old _ _ (by simp <;> omega)).trans (new_row rfl))))
  have HS1 := Lib.hid s1
  have M1 := Lib.hid m1
  have M2 := Lib.hid m2
  have M3 := Lib.hid m3
  have N0 := Lib.hid n0
  have N1 := Lib.hid n1
  have HB1 := Lib.hid hB1
  clear hW1 hB1 s1 m1 m2 m3 n0 n1
  refine (word2_any _ _ _ _ _).mono ?_
  rintro e wa ⟨rfl, hba⟩
  go_wp2_with fail
  refine (word2_any _ _ _ _ _).mono ?_
  rintro e wb ⟨rfl, hbb⟩
  replace hbb := hba.trans hbb
  clear hba
  go_wp2_with fail
  refine (word2_any _ _ _ _ _).mono ?_
  rintro e wc ⟨rfl, hbc⟩
  replace hbc := hbb.trans hbc
  clear hbb
  go_wp2_with fail
  refine (word2_any _ _ _ _ _).mono ?_
  rintro e wd ⟨rfl, hbd⟩
  replace hbd := hbc.trans hbd
  clear hbc
  have zd := hbd.szle
  have z1 := HS1.out
  have z0 : w.heap.size < wd.heap.size := by omega
  have c0 := (row_facts ((hbd.below.block _ (by omega)).trans N0.out)).1
  have c00 : wd.cell? ⟨w.heap.size, 0, none⟩ = some (.int .i64 0) := c0 0
  have c01 : wd.cell? ⟨w.heap.size, 1, none⟩ = some (.int .i64 0) := c0 1
  have c02 : wd.cell? ⟨w.heap.size, 2, none⟩ = some (.slice none 0 0) := c0 2
  have c03 : wd.cell? ⟨w.heap.size, 3, none⟩ = some (.slice none 0 0) := c0 3
  have cf : ∀ o, wd.frozen? ⟨w.heap.size, o, none⟩ = false := (row_facts ((hbd.below.block _ (by omega)).trans N0.out)).2
  have HBD := Lib.hid hbd
  clear hbd zd c0 z1
  go_upto_region 2 with fail
  generalize hW2 : World.alloc (World.setCell _ _ _) _ = W2
  have zd := HBD.out.szle
  have z1 := HS1.out
  have hk : ∀ k, k < wd.heap.size → k ≠ w.heap.size → W2.heap[k]? = wd.heap[k]? := fun k h1 h2 => by
    rw [← hW2]
    exact (heap_alloc_old _ _ (by simpa using h1)).trans ((heap_setCell_other _ _ _ _ (by exact h2)).trans ((heap_setCell_other _ _ _ _ (by exact h2)).trans ((heap_setCell_other _ _ _ _ (by exact h2)).trans (heap_setCell_other _ _ _ _ (by exact h2)))))
  have hs2 : W2.heap.size = wd.heap.size + 1 := by rw [← hW2]; simp
  have hw4 : W2.heap[wd.heap.size]? = some (.cells #[.int .i64 0, .int .i64 0, .int .i64 5, .int .i64 6, .int .i64 0, .int .i64 1, .int .i64 0, .int .i64 0, .int .i64 1, .int .i64 0, .int .i64 3, .int .i64 8, .int .i64 2, .int .i64 1, .int .i64 4, .int .i64 10] 53 (0, 0)) := by
    rw [← hW2]; exact new_row (by simp)
  have e : ∀ (w : World) (p a b : Nat) (u : Value), a ≠ b → (w.setCell ⟨p, a, none⟩ u).cell? ⟨p, b, none⟩ = w.cell? ⟨p, b, none⟩ := fun w p a b u h => World.cell?_setCell_other _ _ _ _ (by intro q; injection q; omega)
  have d0 : W2.cell? ⟨w.heap.size, 0, none⟩ = some (.int .i64 2) := by
    rw [← hW2, World.cell?_alloc_lt _ _ _ (by simpa using z0), e _ _ 3 0 _ (by decide), e _ _ 2 0 _ (by decide), e _ _ 1 0 _ (by decide), World.cell?_setCell_same _ _ _ (by rw [c00])]
  have d1 : W2.cell? ⟨w.heap.size, 1, none⟩ = some (.int .i64 3) := by
    rw [← hW2, World.cell?_alloc_lt _ _ _ (by simpa using z0), e _ _ 3 1 _ (by decide), e _ _ 2 1 _ (by decide), World.cell?_setCell_same _ _ _ (by rw [e _ _ 0 1 _ (by decide), c01])]
  have d2 : W2.cell? ⟨w.heap.size, 2, none⟩ = some (.slice (some ⟨w.heap.size + 1 + 1 + 1 + 1, 0, none⟩) 2 2) := by
    rw [← hW2, World.cell?_alloc_lt _ _ _ (by simpa using z0), e _ _ 3 2 _ (by decide), World.cell?_setCell_same _ _ _ (by rw [e _ _ 1 2 _ (by decide), e _ _ 0 2 _ (by decide), c02])]
  have d3 : W2.cell? ⟨w.heap.size, 3, none⟩ = some (.slice (some ⟨wd.heap.size, 0, none⟩) 4 4) := by
    rw [← hW2, World.cell?_alloc_lt _ _ _ (by simpa using z0), World.cell?_setCell_same _ _ _ (by rw [e _ _ 2 3 _ (by decide), e _ _ 1 3 _ (by decide), e _ _ 0 3 _ (by decide), c03])]
  have df : ∀ o, W2.frozen? ⟨w.heap.size, o, none⟩ = false := fun o => by
    rw [← hW2, frozen_keep (heap_alloc_old _ _ (by simpa using z0)), World.frozen?_setCell, World.frozen?_setCell, World.frozen?_setCell, World.frozen?_setCell]; exact cf o
  have hB2 : Bel w W2 := by rw [← hW2]; exact (((((HB1.out.trans HBD.out).setCell (Nat.le_refl _) _).setCell (Nat.le_refl _) _).setCell (Nat.le_refl _) _).setCell (Nat.le_refl _) _).alloc _
  have g1 := row_facts ((hk _ (by omega) (by omega)).trans ((HBD.out.below.block _ (by omega)).trans N1.out))
  have HNT : Hid (NewTrap (w.heap.size + 2) W2 (.agg #[.int .i64 exT.C, .int .i64 exT.T, .slice (some ⟨w.heap.size + 1 + 1 + 1 + 1, 0, none⟩) exT.op.length 2, .slice (some ⟨wd.heap.size, 0, none⟩) exT.ws.length 4]) exT) := Lib.hid (by
    intro w'' h1 h2
    have q : ∀ k, w.heap.size + 2 ≤ k → k < wd.heap.size → w''.heap[k]? = wd.heap[k]? := fun k k1 k2 => (h2 k k1 (by omega)).trans (hk k k2 (by omega))
    exact ⟨_, _, rfl, exRows ((q _ (by omega) (by omega)).trans ((HBD.out.below.block _ (by omega)).trans M1.out)) ((q _ (by omega) (by omega)).trans ((HBD.out.below.block _ (by omega)).trans M2.out)) ((q _ (by omega) (by omega)).trans ((HBD.out.below.block _ (by omega)).trans M3.out)),
      exWords ((h2 _ (by omega) (by omega)).trans hw4)⟩)
  have zz : w.heap.size + 1 < W2.heap.size := by omega
  have zz0 : w.heap.size < W2.heap.size := by omega
  have g10 : W2.cell? ⟨w.heap.size + 1, 0, none⟩ = some (.int .i64 0) := g1.1 0
  have g11 : W2.cell? ⟨w.heap.size + 1, 1, none⟩ = some (.int .i64 0) := g1.1 1
  have g12 : W2.cell? ⟨w.heap.size + 1, 2, none⟩ = some (.slice none 0 0) := g1.1 2
  have g13 : W2.cell? ⟨w.heap.size + 1, 3, none⟩ = some (.slice none 0 0) := g1.1 3
  have gf := g1.2
  have HZ : Hid (w.heap.size + 2 ≤ wd.heap.size) := Lib.hid (by omega)
  have hcls : ∀ w', Bel W2 w' → (w'.cell? ⟨w.heap.size, 0, none⟩ = some (.int .i64 2) ∧ w'.cell? ⟨w.heap.size, 1, none⟩ = some (.int .i64 3) ∧ w'.cell? ⟨w.heap.size, 2, none⟩ = some (.slice (some ⟨w.heap.size + 1 + 1 + 1 + 1, 0, none⟩) 2 2) ∧ w'.cell? ⟨w.heap.size, 3, none⟩ = some (.slice (some ⟨wd.heap.size, 0, none⟩) 4 4)) :=
    fun w' k => ⟨k.cell d0, k.cell d1, k.cell d2, k.cell d3⟩
  have HCLS := Lib.hid hcls
  have HB2 := Lib.hid hB2
  have G0 := Lib.hid (And.intro g10 (And.intro g11 (And.intro g12 (And.intro g13 gf))))
  have DF := Lib.hid df
  have ZZ := Lib.hid zz
  clear hW2 zd z1 hk hs2 hw4 e df hB2 g1 g10 g11 g12 g13 gf hcls c00 c01 c02 c03 cf z0 d0 d1 d2 d3
  refine wp_region_mixTC (Plan.seq [0, 1, 1002, 1003, 1004] .nil) (fun w' => w'.cell? ⟨w.heap.size, 0, none⟩ = some (.int .i64 2) ∧ w'.cell? ⟨w.heap.size, 1, none⟩ = some (.int .i64 3) ∧ w'.cell? ⟨w.heap.size, 2, none⟩ = some (.slice (some ⟨w.heap.size + 1 + 1 + 1 + 1, 0, none⟩) 2 2) ∧ w'.cell? ⟨w.heap.size, 3, none⟩ = some (.slice (some ⟨wd.heap.size, 0, none⟩) 4 4)) (by kernel_rfl) (by kernel_rfl) (HCLS.out _ (by repeat (first | assumption | exact Bel.refl _ | refine Bel.drew ?_ | refine Bel.drewN ?_ _ | refine Bel.alloc ?_ _ | refine Bel.setCell ?_ (by simp <;> omega) _ | refine Bel.trans ?_ (by assumption)))) (fun hcur => ?_)
  simp only [Plan.seq, Plan.fill, List.getD_cons_zero, List.getD_cons_succ, Nat.reduceLT, ↓reduceIte, Nat.reduceSub]
  apply mix_pure _ rfl
  · intro w' hw'
    obtain ⟨e0, e1, e2, e3⟩ := hw'
    go_simp
    rfl
  intro K hK
  go_simp
  refine hK _ ?_
  clear hK K
  apply mix_pure _ rfl
  · intro w' hw'
    obtain ⟨e0, e1, e2, e3⟩ := hw'
    go_simp
    rfl
  intro K hK
  go_simp
  refine hK _ ?_
  clear hK K
  refine mix_act rfl (fun K hK => ?_)
  go_simp
  refine (word2_any _ _ _ _ _).mono ?_
  rintro e wx ⟨rfl, hbx⟩
  have hBX : Bel W2 wx := Bel.trans (by repeat (first | assumption | exact Bel.refl _ | refine Bel.drew ?_ | refine Bel.drewN ?_ _ | refine Bel.alloc ?_ _ | refine Bel.setCell ?_ (by simp <;> omega) _ | refine Bel.trans ?_ (by assumption))) hbx
  simp only []
  refine hK _ _ (HCLS.out _ hBX) (fun hcur => ?_)
  clear hK K hbx
  refine mix_act rfl (fun K hK => ?_)
  go_simp
  refine (Told_any exT ⟨1, 1, 12, 20⟩ _ wx (HNT.out.bel hBX).now ⟨by decide, fun i hi => by simp [exT] at hi; have : i = 0 ∨ i = 1 := (by omega); rcases this with rfl | rfl <;> simp [exT, atL], by decide⟩).mono ?_
  rintro e wy ⟨vq, rfl, hby, hQ⟩
  obtain ⟨qa, qb, qc, qd, rfl⟩ := hQ.shape
  have hBY := hBX.trans hby
  have HQ := Lib.hid hQ
  simp only []
  refine hK _ _ (HCLS.out _ hBY) (fun hcur => ?_)
  have y0 := hBY.cell G0.out.1
  have y1 := hBY.cell G0.out.2.1
  have y2 := hBY.cell G0.out.2.2.1
  have y3 := hBY.cell G0.out.2.2.2.1
  have yf : ∀ o, wy.frozen? ⟨w.heap.size + 1, o, none⟩ = false := fun o => by rw [hBY.frozens _ ZZ.out]; exact G0.out.2.2.2.2 o
  have xf : ∀ o, wy.frozen? ⟨w.heap.size, o, none⟩ = false := fun o => by rw [hBY.frozens _ zz0]; exact DF.out o
  obtain ⟨x0, x1, x2, x3⟩ := hcur
  clear hK K hby hQ
  refine mix_act rfl (fun K hK => ?_)
  go_simp
  obtain ⟨W4, hW4⟩ : ∃ W4, W4 = set4 wy w.heap.size (.int .i64 2) (.int .i64 3) (.slice (some ⟨w.heap.size + 1 + 1 + 1 + 1, 0, none⟩) 2 2) (.slice (some ⟨wd.heap.size, 0, none⟩) 4 4) := ⟨_, rfl⟩
  obtain ⟨x0, x1, x2, x3⟩ : W4.cell? ⟨w.heap.size, 0, none⟩ = some (.int .i64 2) ∧ W4.cell? ⟨w.heap.size, 1, none⟩ = some (.int .i64 3) ∧ W4.cell? ⟨w.heap.size, 2, none⟩ = some (.slice (some ⟨w.heap.size + 1 + 1 + 1 + 1, 0, none⟩) 2 2) ∧ W4.cell? ⟨w.heap.size, 3, none⟩ = some (.slice (some ⟨wd.heap.size, 0, none⟩) 4 4) := by
    rw [hW4]; exact set4_cells x0 x1 x2 x3
  have kb : W4.heap[w.heap.size + 1]? = wy.heap[w.heap.size + 1]? := by rw [hW4]; exact set4_block (by omega)
  have HT1 : Hid (NewTrap (w.heap.size + 2) W4 _ exT) := Lib.hid (by rw [hW4]; exact set4_new (HNT.out.bel hBY) (by omega))
  have HT2 : Hid (NewTrap (w.heap.size + 2) W4 _ exQ) := Lib.hid (by rw [hW4]; exact set4_new (HQ.out.less (lo2 := w.heap.size + 2) (by have := hBX.szle; have := ZZ.out; omega)) (by omega))
  have HB4 : Hid (Bel w W4) := Lib.hid (by rw [hW4]; exact set4_bel (HB2.out.trans hBY) (Nat.le_refl _))
  have v0 : W4.cell? ⟨w.heap.size + 1, 0, none⟩ = some (.int .i64 0) := by rw [World.cell?_of_block kb]; exact y0
  have v1 : W4.cell? ⟨w.heap.size + 1, 1, none⟩ = some (.int .i64 0) := by rw [World.cell?_of_block kb]; exact y1
  have v2 : W4.cell? ⟨w.heap.size + 1, 2, none⟩ = some (.slice none 0 0) := by rw [World.cell?_of_block kb]; exact y2
  have v3 : W4.cell? ⟨w.heap.size + 1, 3, none⟩ = some (.slice none 0 0) := by rw [World.cell?_of_block kb]; exact y3
  have vf : ∀ o, W4.frozen? ⟨w.heap.size + 1, o, none⟩ = false := fun o => by rw [frozen_keep kb]; exact yf o
  unfold set4 at hW4
  rw [← hW4]
  refine hK _ _ ⟨x0, x1, x2, x3⟩ (fun hcur => ?_)
  clear hK K kb y0 y1 y2 y3 yf xf hcur hW4
  refine mix_tailK rfl (fun K hK => ?_)
  go_simp
  refine hK _ _ ?_
  clear hK K
  go_wp2
  refine bodyPost_ret (v := .tuple #[.agg #[.int .i64 2, .int .i64 3, .slice (some ⟨w.heap.size + 1 + 1 + 1 + 1, 0, none⟩) 2 2, .slice (some ⟨wd.heap.size, 0, none⟩) 4 4], .agg #[.int .i64 (told exT ⟨1, 1, 12, 20⟩).C, .int .i64 (told exT ⟨1, 1, 12, 20⟩).T, .slice qa (told exT ⟨1, 1, 12, 20⟩).op.length qb, .slice qc (told exT ⟨1, 1, 12, 20⟩).ws.length qd]]) (by simp [results, Try.results51, go_sem, *]) rfl ⟨_, _, rfl, ?_, ?_, ?_⟩
  · exact (((HB4.out.setCell (by simp) _).setCell (by simp) _).setCell (by simp) _).setCell (by simp) _
  · exact ((((HT1.out.set (by simp)).set (by simp)).set (by simp)).set (by simp)).now
  · exact ((((HT2.out.set (by simp)).set (by simp)).set (by simp)).set (by simp)).now
end Go.Proofs.Ytkdcdhkhadhcfaa
