/-
  the top law: dragged, isPart.
-/
import Derived.Test.YtkdcdhkhadhcfaaDoorNCopy
namespace Go.Proofs.YtkdcdhkhadhcfaaDoor
open Go Go.RowKit
set_option maxHeartbeats 4000000
set_option maxRecDepth 100000
theorem nCopyT_any (t : NTr) (v : Value) (w : World) (hv : NTrAt w v t) (hl : t.grips.length ≤ 1000) : Calls Tryd.prog 36 #[v] w fun e w' => ∃ v', e = .returned v' ∧ Bel w w' ∧ NTrAt w' v' t := by
  obtain ⟨ta, tc, rfl, ta', tc', tb, tof, te, hta, _, htc⟩ := hv.open
  injection te with te1 _ te3
  subst te1 te3
  have HS := Lib.hid (fun wx (hb : Bel w wx) => ints_from (w := wx) hta fun i hi => hb.cell (htc i hi))
  obtain ⟨i1, hi1, hz1, hs1, hb1⟩ := info_parts mkInt
  have HI1 := Lib.hid hi1
  have HZ1 := Lib.hid hz1
  clear hv hta htc hi1 hz1
  go_enter Tryd.func36, Tryd.ntmps36
  go_upto_region 1 with fail
  generalize hW0 : World.alloc _ _ = W0
  have HB0 : Hid (Bel w W0) := Lib.hid (by rw [← hW0]; exact ((Bel.refl w).alloc _).alloc _)
  have HP0 : Hid (Bx W0 w.heap.size [.int .i64 t.wind, .int .i64 t.cur, .slice ta t.grips.length tc]) := Lib.hid (by rw [← hW0]; exact (Bx.new rfl).bel ((Bel.refl _).alloc _))
  have HQ0 : Hid (Bx W0 (w.heap.size + 1) [.int .i64 0, .int .i64 0, .slice none 0 0]) := Lib.hid (by rw [← hW0]; exact Bx.new (by simp))
  clear hW0
  have x0 := HP0.out.c 0 _ rfl
  have x1 := HP0.out.c 1 _ rfl
  have x2 := HP0.out.c 2 _ rfl
  have lp := HP0.out.lt
  have lq := HQ0.out.lt
  refine wp_region_mixTB (Plan.seq [0, 1, 2, 3, 5, 6, 1004, 1007, 8] .nil) (by kernel_rfl) (by kernel_rfl) (fun hcur => ?_)
  simp only [Plan.seq, Plan.fill, List.getD_cons_zero, List.getD_cons_succ, Nat.reduceLT, ↓reduceIte, Nat.reduceSub]
  apply mix_pure _ rfl
  · intro w' hw'
    have hcr := hw'.cells
    go_simp
    rfl
  intro K hK
  go_simp
  refine hK _ ?_
  clear hK K
  apply mix_pure _ rfl
  · intro w' hw'
    have hcr := hw'.cells
    go_simp
    rfl
  intro K hK
  go_simp
  refine hK _ ?_
  clear hK K
  apply mix_pure _ rfl
  · intro w' hw'
    have hcr := hw'.cells
    go_simp
    rfl
  intro K hK
  go_simp
  refine hK _ ?_
  clear hK K
  apply mix_pure _ rfl
  · intro w' hw'
    have hcr := hw'.cells
    go_simp
    rfl
  intro K hK
  go_simp
  refine hK _ ?_
  clear hK K
  apply mix_pure _ rfl
  · intro w' hw'
    have hcr := hw'.cells
    go_simp
    rfl
  intro K hK
  go_simp
  refine hK _ ?_
  clear hK K
  apply mix_pure _ rfl
  · intro w' hw'
    have hcr := hw'.cells
    go_simp
    rfl
  intro K hK
  go_simp
  refine hK _ ?_
  clear hK K
  refine mix_act rfl (fun K hK => ?_)
  go_simp
  refine hK _ _ (by repeat (first | assumption | exact Bel.refl _ | refine Bel.drew ?_ | refine Bel.drewN ?_ _ | refine Bel.alloc ?_ _ | refine Bel.setCell ?_ (by simp <;> omega) _ | refine Bel.trans ?_ (by assumption))) (fun hcur => ?_)
  clear hK K
  refine mix_act rfl (fun K hK => ?_)
  refine wp_append_opt _ _ 33 (by rfl) 3 i1 (.int .i64 0) 1 8 Tryd.underlying33 HI1.out HZ1.out hs1 hb1 rfl (by decide) _ 0 [] (by rfl) (fresh_at (by first | exact drew_new (by simp) | exact new_drew (by simp) | exact new_row (by simp))) ta t.grips.length tc (t.grips.map (Value.int .i64)) (by rfl) (by simp) (HS.out _ (HB0.out.trans hcur)) (ints_one _) (by unfold maxLen; omega) (by omega) ?_
  intro V w1 hown hgrow hwhere
  obtain ⟨g, c, rfl, hg, lg, HK, HR⟩ := stageG hcur (by simp) hown hgrow hwhere
  refine hK _ _ HK.out (fun hcur => ?_)
  clear hown hgrow hwhere hK K
  apply mix_pure _ rfl
  · intro w' hw'
    have hcr := hw'.cells
    go_simp
    rfl
  intro K hK
  go_simp
  refine hK _ ?_
  clear hK K
  refine mix_tailK rfl (fun K hK => ?_)
  have HQ1 := Lib.hid (HQ0.out.bel HK.out)
  have q0 := HQ1.out.c 0 _ rfl
  have q1 := HQ1.out.c 1 _ rfl
  have q2 := HQ1.out.c 2 _ rfl
  have qf := HQ1.out.f
  have ql := HQ1.out.lt
  go_simp
  refine hK _ _ ?_
  clear hK K q0 q1 q2 qf
  have HQ2 := Lib.hid (((HQ1.out.set (i := 0) (by simp) (.int .i64 t.wind)).set (i := 1) (by simp) (.int .i64 t.cur)).set (i := 2) (by simp) (.slice (some ⟨g, 0, none⟩) t.grips.length c))
  have HB2 := Lib.hid ((((HB0.out.trans HK.out).setCell (p := ⟨w.heap.size + 1, 0, none⟩) (by show w.heap.size ≤ w.heap.size + 1; omega) (.int .i64 t.wind)).setCell (p := ⟨w.heap.size + 1, 1, none⟩) (by show w.heap.size ≤ w.heap.size + 1; omega) (.int .i64 t.cur)).setCell (p := ⟨w.heap.size + 1, 2, none⟩) (by show w.heap.size ≤ w.heap.size + 1; omega) (.slice (some ⟨g, 0, none⟩) t.grips.length c))
  have HR2 := Lib.hid (row_set (row_set (row_set HR.out (p := ⟨w.heap.size + 1, 0, none⟩) (u := .int .i64 t.wind) (fun k hk => by injection hk with hk; subst hk; show g ≠ w.heap.size + 1; omega)) (p := ⟨w.heap.size + 1, 1, none⟩) (u := .int .i64 t.cur) (fun k hk => by injection hk with hk; subst hk; show g ≠ w.heap.size + 1; omega)) (p := ⟨w.heap.size + 1, 2, none⟩) (u := .slice (some ⟨g, 0, none⟩) t.grips.length c) (fun k hk => by injection hk with hk; subst hk; show g ≠ w.heap.size + 1; omega))
  generalize World.setCell _ _ _ = W3 at *
  have q0 := HQ2.out.c 0 _ rfl
  have q1 := HQ2.out.c 1 _ rfl
  have q2 := HQ2.out.c 2 _ rfl
  have ql2 := HQ2.out.lt
  go_wp2
  exact bodyPost_ret (v := .agg #[.int .i64 t.wind, .int .i64 t.cur, .slice (some ⟨g, 0, none⟩) t.grips.length c]) (by simp [results, Tryd.results36, go_sem, *]) rfl ⟨_, rfl, HB2.out, _, rfl, ownInts (by omega) HR2.out⟩
/-! each wall loaded with the fish of its chamber -/
def loadW (x : NWl) (f : Int) : NWl := ⟨min 9 f, x.drag, x.lean, x.corks, x.stones⟩
def loadTo (l : List NWl) (fish : List Int) : Nat → List NWl
  | 0 => l
  | k + 1 => (loadTo l fish k).set k (loadW (atWl l k) (at0 fish k))
def loadN (n : Net) (fish : List Int) : Net := ⟨n.wind, n.cur, n.grips, n.an, loadTo n.walls fish (min n.walls.length fish.length)⟩
theorem loadTo_len (l : List NWl) (fish : List Int) : ∀ k, (loadTo l fish k).length = l.length
  | 0 => rfl
  | k + 1 => by show ((loadTo l fish k).set _ _).length = _; rw [List.length_set, loadTo_len l fish k]
theorem atWl_set {l : List NWl} {i j : Nat} (h : i < l.length) (x : NWl) : atWl (l.set i x) j = if i = j then x else atWl l j := by
  unfold atWl
  rw [List.getD_eq_getElem?_getD, List.getElem?_set]
  by_cases e : i = j
  · rw [if_pos e, if_pos e, if_pos h]; rfl
  · rw [if_neg e, if_neg e]; rfl
theorem loadTo_at (l : List NWl) (fish : List Int) {i : Nat} : ∀ k, k ≤ l.length → atWl (loadTo l fish k) i = if i < k then loadW (atWl l i) (at0 fish i) else atWl l i
  | 0, _ => by rw [if_neg (by omega)]; rfl
  | k + 1, hk => by
    show atWl ((loadTo l fish k).set _ _) i = _
    rw [atWl_set (by rw [loadTo_len]; omega), loadTo_at l fish k (by omega)]
    by_cases e : k = i
    · rw [if_pos e, if_pos (by omega), e]
    · rw [if_neg e]
      by_cases h : i < k
      · rw [if_pos h, if_pos (by omega)]
      · rw [if_neg h, if_neg (by omega)]
/-- Walls in a block that the call writes. -/
structure WlBx (w : World) (g : Nat) (l : List NWl) : Prop where
  c : ∀ i, i < l.length → ∀ k u, (wlC (atWl l i))[k]? = some u → w.cell? ⟨g, i * 5 + k, none⟩ = some u
  f : ∀ o, w.frozen? ⟨g, o, none⟩ = false
  lt : g < w.heap.size
theorem WlBx.bel {w w' : World} {g : Nat} {l : List NWl} (h : WlBx w g l) (k : Bel w w') : WlBx w' g l :=
  ⟨fun i hi j u hu => k.cell (h.c i hi j u hu), fun o => (k.frozens _ h.lt).trans (h.f o), Nat.lt_of_lt_of_le h.lt k.szle⟩
theorem WlBx.other {w : World} {g q i : Nat} {l : List NWl} (h : WlBx w g l) (hq : q ≠ g) (v : Value) : WlBx (w.setCell ⟨q, i, none⟩ v) g l :=
  ⟨fun i hi j u hu => (World.cell?_setCell_other _ _ _ _ (by intro e; injection e with e1 e2; omega)).trans (h.c i hi j u hu), fun o => (World.frozen?_setCell ..).trans (h.f o), by rw [World.size_setCell]; exact h.lt⟩
theorem WlBx.set {w : World} {g k : Nat} {l : List NWl} (h : WlBx w g l) (hk : k < l.length) (x : NWl) :
    WlBx (((((w.setCell ⟨g, k * 5, none⟩ (.int .i64 x.sail)).setCell ⟨g, k * 5 + 1, none⟩ (.int .i64 x.drag)).setCell ⟨g, k * 5 + 2, none⟩ (.int .i64 x.lean)).setCell ⟨g, k * 5 + 3, none⟩ (.int .i64 x.corks)).setCell ⟨g, k * 5 + 4, none⟩ (.int .i64 x.stones)) g (l.set k x) := by
  have hc := h.c k hk
  refine ⟨fun i hi j u hu => ?_, fun o => by simp only [World.frozen?_setCell]; exact h.f o, by simp only [World.size_setCell]; exact h.lt⟩
  rw [List.length_set] at hi
  rw [atWl_set hk] at hu
  have nx : ∀ (W : World) (a b : Nat) (v : Value), a ≠ b → (W.setCell ⟨g, a, none⟩ v).cell? ⟨g, b, none⟩ = W.cell? ⟨g, b, none⟩ := fun W a b v hab => World.cell?_setCell_other _ _ _ _ (by intro e; injection e with e1 e2; omega)
  have d : ∀ q, q < 5 → ∃ u, w.cell? ⟨g, k * 5 + q, none⟩ = some u := fun q hq => ⟨_, h.c k hk q _ (List.getElem?_eq_getElem (by show q < 5; exact hq))⟩
  by_cases e : k = i
  · subst e
    rw [if_pos rfl] at hu
    rcases get5 hu with ⟨rfl, rfl⟩ | ⟨rfl, rfl⟩ | ⟨rfl, rfl⟩ | ⟨rfl, rfl⟩ | ⟨rfl, rfl⟩
    · obtain ⟨u0, hu0⟩ := d 0 (by omega)
      simp only [Nat.add_zero] at hu0 ⊢
      rw [nx _ _ _ _ (by omega), nx _ _ _ _ (by omega), nx _ _ _ _ (by omega), nx _ _ _ _ (by omega), World.cell?_setCell_same _ _ _ (by rw [hu0])]
    · obtain ⟨u0, hu0⟩ := d 1 (by omega)
      rw [nx _ _ _ _ (by omega), nx _ _ _ _ (by omega), nx _ _ _ _ (by omega), World.cell?_setCell_same _ _ _ (by rw [nx _ _ _ _ (by omega), hu0])]
    · obtain ⟨u0, hu0⟩ := d 2 (by omega)
      rw [nx _ _ _ _ (by omega), nx _ _ _ _ (by omega), World.cell?_setCell_same _ _ _ (by rw [nx _ _ _ _ (by omega), nx _ _ _ _ (by omega), hu0])]
    · obtain ⟨u0, hu0⟩ := d 3 (by omega)
      rw [nx _ _ _ _ (by omega), World.cell?_setCell_same _ _ _ (by rw [nx _ _ _ _ (by omega), nx _ _ _ _ (by omega), nx _ _ _ _ (by omega), hu0])]
    · obtain ⟨u0, hu0⟩ := d 4 (by omega)
      rw [World.cell?_setCell_same _ _ _ (by rw [nx _ _ _ _ (by omega), nx _ _ _ _ (by omega), nx _ _ _ _ (by omega), nx _ _ _ _ (by omega), hu0])]
  · rw [if_neg e] at hu
    have hj : j < 5 := by
      rcases Nat.lt_or_ge j 5 with q | q
      · exact q
      · rw [List.getElem?_eq_none (by show 5 ≤ j; exact q)] at hu; cases hu
    have hne : i < k ∨ k < i := by omega
    rw [nx _ _ _ _ (by omega), nx _ _ _ _ (by omega), nx _ _ _ _ (by omega), nx _ _ _ _ (by omega), nx _ _ _ _ (by omega)]
    exact h.c i hi j u hu
theorem WlBx.at {w : World} {g c : Nat} {l : List NWl} (h : WlBx w g l) (hl : l.length ≤ 140737488355328) (hc : l.length ≤ c) : WallsAt w (.slice (some ⟨g, 0, none⟩) l.length c) l :=
  ⟨_, c, g, 0, rfl, fun _ => rfl, ⟨hl, hc⟩, fun i hi => by rw [Nat.zero_add]; exact ⟨h.c i hi 0 _ rfl, h.c i hi 1 _ rfl, h.c i hi 2 _ rfl, h.c i hi 3 _ rfl, h.c i hi 4 _ rfl⟩⟩
theorem row_fz {w : World} {T : TypeId} {z n g c : Nat} {xs : List Value} (h : w.ownsRow 0 T z (.slice (some ⟨g, 0, none⟩) n c) n xs) : ∀ o, w.frozen? ⟨g, o, none⟩ = false := by
  rcases h.2 with ⟨e, _⟩ | ⟨g', cap, cur, e, _, hh, hnc, _⟩
  · cases e
  · injection e with e1 e2 e3
    injection e1 with e1
    injection e1 with e1
    subst e1
    intro o
    simp [World.frozen?, hh]
theorem WlBx.only {w w' : World} {g p lo hi : Nat} {l : List NWl} (h : WlBx w g l) (k : Only p lo hi w w') (hg : g ≠ p) : WlBx w' g l :=
  ⟨fun i hi j u hu => (World.cell?_of_block (k.block _ hg)).trans (h.c i hi j u hu), fun o => (k.frozen _).trans (h.f o), by rw [k.size]; exact h.lt⟩
theorem only7 (W : World) (p : Nat) (v0 v1 v2 v3 v4 v5 v6 : Value) : Only p 0 7 W (((((((W.setCell ⟨p, 0, none⟩ v0).setCell ⟨p, 1, none⟩ v1).setCell ⟨p, 2, none⟩ v2).setCell ⟨p, 3, none⟩ v3).setCell ⟨p, 4, none⟩ v4).setCell ⟨p, 5, none⟩ v5).setCell ⟨p, 6, none⟩ v6) :=
  (((((((Only.refl p 0 7 W).setCell (by omega) (by omega) _).setCell (by omega) (by omega) _).setCell (by omega) (by omega) _).setCell (by omega) (by omega) _).setCell (by omega) (by omega) _).setCell (by omega) (by omega) _).setCell (by omega) (by omega) _
theorem wl_only {W : World} {g k X : Nat} (hk : k < X) (v0 v1 v2 v3 v4 : Value) : Only g 0 (X * 5) W (((((W.setCell ⟨g, k * 5, none⟩ v0).setCell ⟨g, k * 5 + 1, none⟩ v1).setCell ⟨g, k * 5 + 2, none⟩ v2).setCell ⟨g, k * 5 + 3, none⟩ v3).setCell ⟨g, k * 5 + 4, none⟩ v4) :=
  (((((Only.refl g 0 (X * 5) W).setCell (by omega) (by omega) _).setCell (by omega) (by omega) _).setCell (by omega) (by omega) _).setCell (by omega) (by omega) _).setCell (by omega) (by omega) _
theorem loaded_any (n : Net) (fish : List Int) (v vf : Value) (w : World) (hv : NetAt w v n) (hf : IntsAt w vf fish) (h1 : n.grips.length ≤ 1000) (h2 : n.an.length ≤ 1000) (h3 : n.walls.length ≤ 1000) :
    Calls Tryd.prog 35 #[v, vf] w fun e w' => ∃ v', e = .returned v' ∧ Bel w w' ∧ NetAt w' v' (loadN n fish) := by
  have HC := Lib.hid (fun wx (hb : Bel w wx) => nCopy_any n v wx (hv.bel hb) h1 h2 h3)
  obtain ⟨ga, gc, aa, ac, xa, xc, rfl, _, _, _⟩ := hv.open
  obtain ⟨fa, fc, fb, fo, rfl, hfa, ⟨hfl, _⟩, hfcc⟩ := hf
  have hixf := idxInts (c := fc) hfa
  have HF := Lib.hid hfcc
  have HLT := Lib.hid (fun k (hk : k < n.walls.length) => loadTo_at n.walls fish (i := k) k (by omega))
  clear hv hfa hfcc
  go_enter Tryd.func35, Tryd.ntmps35
  go_wp2_with fail
  refine (HC.out _ (by repeat (first | assumption | exact Bel.refl _ | refine Bel.drew ?_ | refine Bel.drewN ?_ _ | refine Bel.alloc ?_ _ | refine Bel.setCell ?_ (by simp <;> omega) _ | refine Bel.trans ?_ (by assumption)))).mono ?_
  rintro e w1 ⟨g0, c0, g1, c1, g2, c2, rfl, hO⟩
  have HO := Lib.hid hO
  have hz0 := hO.h0
  have hz1 := hO.h1
  have hz2 := hO.h2
  simp only [World.size_alloc] at hz0
  have lg2 := ownsRow_lt hO.ox rfl
  have HCAP := Lib.hid (row_cap hO.ox)
  have HQ1 := Lib.hid ((show Bx (((w.alloc _).alloc (.cells [.int .i64 0, .int .i64 0, .int .i64 0, .int .i64 0, .slice none 0 0, .slice none 0 0, .slice none 0 0].toArray 32))) (w.heap.size + 1) [.int .i64 0, .int .i64 0, .int .i64 0, .int .i64 0, .slice none 0 0, .slice none 0 0, .slice none 0 0] from Bx.new (by simp)).bel hO.bel)
  have hB1 : Bel w w1 := Bel.trans (by repeat (first | assumption | exact Bel.refl _ | refine Bel.drew ?_ | refine Bel.drewN ?_ _ | refine Bel.alloc ?_ _ | refine Bel.setCell ?_ (by simp <;> omega) _ | refine Bel.trans ?_ (by assumption))) hO.bel
  have HWX1 := Lib.hid (show WlBx w1 g2 n.walls from ⟨fun i hi k u hu => by have := flat_read (z := 5) default (fun _ => rfl) (by omega) hO.ox i hi k u hu; rwa [Nat.zero_add] at this, row_fz hO.ox, lg2⟩)
  unfold netAgg
  clear hO
  go_wp2
  generalize hW2 : w1.alloc _ = W2
  have HB2 := Lib.hid (show Bel w1 W2 by rw [← hW2]; exact (Bel.refl _).alloc _)
  have HP5 := Lib.hid (show Bx W2 w1.heap.size [.int .i64 n.wind.lo, .int .i64 n.wind.hi, .int .i64 n.cur.lo, .int .i64 n.cur.hi, .slice (some ⟨g0, 0, none⟩) n.grips.length c0, .slice (some ⟨g1, 0, none⟩) n.an.length c1, .slice (some ⟨g2, 0, none⟩) n.walls.length c2] by rw [← hW2]; exact Bx.new rfl)
  have HQ := Lib.hid (HQ1.out.bel HB2.out)
  have HWX := Lib.hid (HWX1.out.bel HB2.out)
  have HBW := Lib.hid (hB1.trans HB2.out)
  have HOG := Lib.hid (ownsRow_bel HO.out.og HB2.out)
  have HOA := Lib.hid (ownsRow_bel HO.out.oa HB2.out)
  have lW2 : w1.heap.size < W2.heap.size := HP5.out.lt
  clear hW2 HB2 HQ1 HWX1 hB1 HO HC
  have hixx := idxWalls (a := some ⟨g2, 0, none⟩) (n := n.walls.length) (c := c2) (b := g2) (off := 0) (fun _ => rfl)
  go_loopw [6] (fun iv wr => ∃ k : Nat, (k ≤ n.walls.length ∧ k ≤ fish.length) ∧ iv = .int .i64 k ∧ Turn g2 0 (n.walls.length * 5) W2 wr ∧ WlBx wr g2 (loadTo n.walls fish k)) (fun iv _ => n.walls.length - (intOf iv).toNat)
  case atStart => exact ⟨0, by omega, rfl, Turn.refl _ _ _ _, HWX.out⟩
  case round =>
    obtain ⟨k, hk, rfl, hT, hX⟩ := hrel
    have p6 := (HP5.out.turn hT (by omega)).c 6 _ rfl
    have l6 := cell_lt p6
    have HT := Lib.hid hT
    have HX := Lib.hid hX
    have hkx : ((k : Int) ≤ (n.walls.length : Int)) ∧ ((k : Int) ≤ (fish.length : Int)) := by omega
    by_cases hlt : k < n.walls.length
    · have hlti : (k : Int) < (n.walls.length : Int) := by omega
      by_cases hlf : k < fish.length
      · have hlfi : (k : Int) < (fish.length : Int) := by omega
        have f0 := hT.other (by
          have : fb < w.heap.size := cell_lt (HF.out k hlf)
          show fb ≠ g2
          omega) (HBW.out.cell (HF.out k hlf))
        have lf := cell_lt f0
        have hkl : k < (loadTo n.walls fish k).length := by rw [loadTo_len]; exact hlt
        have k0 := hX.c k hkl 0 _ rfl
        have k1 := hX.c k hkl 1 _ rfl
        have k2 := hX.c k hkl 2 _ rfl
        have k3 := hX.c k hkl 3 _ rfl
        have k4 := hX.c k hkl 4 _ rfl
        rw [Nat.add_zero] at k0
        have lx := hX.lt
        have xf := hX.f
        have HNX := Lib.hid (show loadTo n.walls fish (k + 1) = (loadTo n.walls fish k).set k (loadW (atWl n.walls k) (at0 fish k)) from rfl)
        have HAT := Lib.hid (HLT.out k hlt)
        rw [if_neg (Nat.lt_irrefl k)] at HAT
        rw [HAT.out] at k0 k1 k2 k3 k4
        generalize atWl n.walls k = x at *
        generalize at0 fish k = y at *
        have HSET := Lib.hid (fun z => HX.out.set hkl z)
        clear hT hX
        have HM := Lib.hid (show (if y < 9 then y else 9) = min 9 y by split <;> omega)
        have HSE := Lib.hid (HSET.out (loadW x y))
        have HON := Lib.hid (fun v0 v1 v2 v3 v4 => wl_only (W := wr) (g := g2) hlt v0 v1 v2 v3 v4)
        clear HSET
        go_wp2
        go_roundw
        case rel =>
          refine ⟨k + 1, by omega, by go_num, (HT.out.trans (HON.out _ _ _ _ _).turn).trans (Bel.turn _ _ _ ((Bel.refl _).alloc _)), ?_⟩
          rw [HNX.out, HM.out]
          exact HSE.out.bel ((Bel.refl _).alloc _)
        case measure => simp [intOf]; omega
      · have hlfi : ¬ (k : Int) < (fish.length : Int) := by omega
        have HEQ := Lib.hid (show loadN n fish = ⟨n.wind, n.cur, n.grips, n.an, loadTo n.walls fish k⟩ by unfold loadN; rw [show min n.walls.length fish.length = k by omega])
        have HPX := Lib.hid (HP5.out.turn HT.out (by omega))
        have HQX := Lib.hid (HQ.out.turn HT.out (by omega))
        have HGX := Lib.hid (row_keep HOG.out fun g hg => by injection hg with hg; subst hg; exact HT.out.block _ (ownsRow_lt HOG.out rfl) (by show g0 ≠ g2; omega))
        have HAX := Lib.hid (row_keep HOA.out fun g hg => by injection hg with hg; subst hg; exact HT.out.block _ (ownsRow_lt HOA.out rfl) (by show g1 ≠ g2; omega))
        have HBX := Lib.hid (HT.out.bel HBW.out (by omega))
        have p0 := HPX.out.c 0 _ rfl
        have p1 := HPX.out.c 1 _ rfl
        have p2 := HPX.out.c 2 _ rfl
        have p3 := HPX.out.c 3 _ rfl
        have p4 := HPX.out.c 4 _ rfl
        have p5 := HPX.out.c 5 _ rfl
        have p6 := HPX.out.c 6 _ rfl
        have q0 := HQX.out.c 0 _ rfl
        have q1 := HQX.out.c 1 _ rfl
        have q2 := HQX.out.c 2 _ rfl
        have q3 := HQX.out.c 3 _ rfl
        have q4 := HQX.out.c 4 _ rfl
        have q5 := HQX.out.c 5 _ rfl
        have q6 := HQX.out.c 6 _ rfl
        have qf := HQX.out.f
        have ql := HQX.out.lt
        clear hT hX
        go_wp2
        have HO7 := Lib.hid (only7 wr (w.heap.size + 1) (.int .i64 n.wind.lo) (.int .i64 n.wind.hi) (.int .i64 n.cur.lo) (.int .i64 n.cur.hi) (.slice (some ⟨g0, 0, none⟩) n.grips.length c0) (.slice (some ⟨g1, 0, none⟩) n.an.length c1) (.slice (some ⟨g2, 0, none⟩) n.walls.length c2))
        have HQ9 := Lib.hid (((((((HQX.out.set (i := 0) (by simp) (.int .i64 n.wind.lo)).set (i := 1) (by simp) (.int .i64 n.wind.hi)).set (i := 2) (by simp) (.int .i64 n.cur.lo)).set (i := 3) (by simp) (.int .i64 n.cur.hi)).set (i := 4) (by simp) (.slice (some ⟨g0, 0, none⟩) n.grips.length c0)).set (i := 5) (by simp) (.slice (some ⟨g1, 0, none⟩) n.an.length c1)).set (i := 6) (by simp) (.slice (some ⟨g2, 0, none⟩) n.walls.length c2))
        clear p0 q0 p1 q1 p2 q2 p3 q3 p4 q4 p5 q5 p6 q6 qf ql l6
        generalize World.setCell _ _ _ = W9 at *
        have q0 := HQ9.out.c 0 _ rfl
        have q1 := HQ9.out.c 1 _ rfl
        have q2 := HQ9.out.c 2 _ rfl
        have q3 := HQ9.out.c 3 _ rfl
        have q4 := HQ9.out.c 4 _ rfl
        have q5 := HQ9.out.c 5 _ rfl
        have q6 := HQ9.out.c 6 _ rfl
        have ql := HQ9.out.lt
        clear hixx hixf hkx hlti
        refine bodyPost_ret (v := netAgg n g0 c0 g1 c1 g2 c2) (by unfold netAgg; simp [results, Tryd.results35, go_sem, *]) rfl ⟨_, rfl, HO7.out.bel HBX.out (by omega), ?_⟩
        rw [HEQ.out]
        have hW := WlBx.at (c := c2) (HX.out.only HO7.out (by omega)) (by rw [loadTo_len]; omega) (by rw [loadTo_len]; exact HCAP.out)
        rw [loadTo_len] at hW
        exact ⟨_, _, _, rfl, GripsAt.own (by omega) (row_keep HGX.out fun g hg => by injection hg with hg; subst hg; exact HO7.out.block _ (by show g0 ≠ w.heap.size + 1; omega)), AnsAt.own (by omega) (row_keep HAX.out fun g hg => by injection hg with hg; subst hg; exact HO7.out.block _ (by show g1 ≠ w.heap.size + 1; omega)), hW⟩
    · have hlti : ¬ (k : Int) < (n.walls.length : Int) := by omega
      have HEQ := Lib.hid (show loadN n fish = ⟨n.wind, n.cur, n.grips, n.an, loadTo n.walls fish k⟩ by unfold loadN; rw [show min n.walls.length fish.length = k by omega])
      have HPX := Lib.hid (HP5.out.turn HT.out (by omega))
      have HQX := Lib.hid (HQ.out.turn HT.out (by omega))
      have HGX := Lib.hid (row_keep HOG.out fun g hg => by injection hg with hg; subst hg; exact HT.out.block _ (ownsRow_lt HOG.out rfl) (by show g0 ≠ g2; omega))
      have HAX := Lib.hid (row_keep HOA.out fun g hg => by injection hg with hg; subst hg; exact HT.out.block _ (ownsRow_lt HOA.out rfl) (by show g1 ≠ g2; omega))
      have HBX := Lib.hid (HT.out.bel HBW.out (by omega))
      have p0 := HPX.out.c 0 _ rfl
      have p1 := HPX.out.c 1 _ rfl
      have p2 := HPX.out.c 2 _ rfl
      have p3 := HPX.out.c 3 _ rfl
      have p4 := HPX.out.c 4 _ rfl
      have p5 := HPX.out.c 5 _ rfl
      have p6 := HPX.out.c 6 _ rfl
      have q0 := HQX.out.c 0 _ rfl
      have q1 := HQX.out.c 1 _ rfl
      have q2 := HQX.out.c 2 _ rfl
      have q3 := HQX.out.c 3 _ rfl
      have q4 := HQX.out.c 4 _ rfl
      have q5 := HQX.out.c 5 _ rfl
      have q6 := HQX.out.c 6 _ rfl
      have qf := HQX.out.f
      have ql := HQX.out.lt
      clear hT hX
      go_wp2
      have HO7 := Lib.hid (only7 wr (w.heap.size + 1) (.int .i64 n.wind.lo) (.int .i64 n.wind.hi) (.int .i64 n.cur.lo) (.int .i64 n.cur.hi) (.slice (some ⟨g0, 0, none⟩) n.grips.length c0) (.slice (some ⟨g1, 0, none⟩) n.an.length c1) (.slice (some ⟨g2, 0, none⟩) n.walls.length c2))
      have HQ9 := Lib.hid (((((((HQX.out.set (i := 0) (by simp) (.int .i64 n.wind.lo)).set (i := 1) (by simp) (.int .i64 n.wind.hi)).set (i := 2) (by simp) (.int .i64 n.cur.lo)).set (i := 3) (by simp) (.int .i64 n.cur.hi)).set (i := 4) (by simp) (.slice (some ⟨g0, 0, none⟩) n.grips.length c0)).set (i := 5) (by simp) (.slice (some ⟨g1, 0, none⟩) n.an.length c1)).set (i := 6) (by simp) (.slice (some ⟨g2, 0, none⟩) n.walls.length c2))
      clear p0 q0 p1 q1 p2 q2 p3 q3 p4 q4 p5 q5 p6 q6 qf ql l6
      generalize World.setCell _ _ _ = W9 at *
      have q0 := HQ9.out.c 0 _ rfl
      have q1 := HQ9.out.c 1 _ rfl
      have q2 := HQ9.out.c 2 _ rfl
      have q3 := HQ9.out.c 3 _ rfl
      have q4 := HQ9.out.c 4 _ rfl
      have q5 := HQ9.out.c 5 _ rfl
      have q6 := HQ9.out.c 6 _ rfl
      have ql := HQ9.out.lt
      clear hixx hixf hkx hlti
      refine bodyPost_ret (v := netAgg n g0 c0 g1 c1 g2 c2) (by unfold netAgg; simp [results, Tryd.results35, go_sem, *]) rfl ⟨_, rfl, HO7.out.bel HBX.out (by omega), ?_⟩
      rw [HEQ.out]
      have hW := WlBx.at (c := c2) (HX.out.only HO7.out (by omega)) (by rw [loadTo_len]; omega) (by rw [loadTo_len]; exact HCAP.out)
      rw [loadTo_len] at hW
      exact ⟨_, _, _, rfl, GripsAt.own (by omega) (row_keep HGX.out fun g hg => by injection hg with hg; subst hg; exact HO7.out.block _ (by show g0 ≠ w.heap.size + 1; omega)), AnsAt.own (by omega) (row_keep HAX.out fun g hg => by injection hg with hg; subst hg; exact HO7.out.block _ (by show g1 ≠ w.heap.size + 1; omega)), hW⟩
end Go.Proofs.YtkdcdhkhadhcfaaDoor
namespace Go.Proofs.YtkdcdhkhadhcfaaDoor
open Go Go.RowKit
set_option maxHeartbeats 4000000
set_option maxRecDepth 100000
/-! the loaded net -/
theorem load_wall {n : Net} {fish : List Int} {i : Nat} : atWl (loadN n fish).walls i = if i < min n.walls.length fish.length then loadW (atWl n.walls i) (at0 fish i) else atWl n.walls i :=
  loadTo_at n.walls fish _ (by omega)
theorem load_len {n : Net} {fish : List Int} : (loadN n fish).walls.length = n.walls.length := loadTo_len _ _ _
theorem load_ok {n : Net} (hn : NetOk n) {fish : List Int} (hf : ∀ i, i < fish.length → 0 ≤ at0 fish i) : NetOk (loadN n fish) := by
  refine ⟨hn.w, hn.c, hn.gl, hn.al, by rw [load_len]; exact hn.wl, hn.g, hn.a, fun i hi => ?_⟩
  rw [load_len] at hi
  have hx := hn.x i hi
  rw [load_wall]
  split
  · rename_i h
    have := hf i (by omega)
    exact ⟨by show 0 ≤ min 9 _ ∧ min 9 _ ≤ 9; omega, hx.2.1, hx.2.2.1, hx.2.2.2.1, hx.2.2.2.2⟩
  · exact hx
theorem load_tr {n : Net} {t : NTr} (h : TrOk n t) (fish : List Int) : TrOk (loadN n fish) t := ⟨h.w, h.c, h.l, h.g⟩
theorem load_heavier {n : Net} {a b : List Int} (hl : a.length = b.length) (h : ∀ i, i < a.length → at0 a i ≤ at0 b i) : Heavier (loadN n a) (loadN n b) := by
  refine ⟨rfl, by rw [load_len, load_len], fun i hi => ?_, fun i hi => ?_⟩
  · rw [load_wall, load_wall, hl]
    split
    · rename_i hh
      have := h i (by omega)
      show min 9 _ ≤ min 9 _
      omega
    · exact Int.le_refl _
  · rw [load_wall, load_wall, hl]
    split <;> rfl
/-! what drags, as a list -/
theorem bl_mem {D : Nat} (hD : D < 64) {p : Int} : p ∈ blOf D ↔ ∃ i : Nat, D.testBit i = true ∧ p = (i : Int) := by
  unfold blOf
  rw [mem_blTo]
  constructor
  · rintro ⟨i, _, a, b⟩; exact ⟨i, a, b⟩
  · rintro ⟨i, a, b⟩
    refine ⟨i, ?_, a, b⟩
    rcases Nat.lt_or_ge i 6 with q | q
    · exact q
    · rw [Nat.testBit_lt_two_pow (Nat.lt_of_lt_of_le hD (Nat.pow_le_pow_right (n := 2) (by omega) q))] at a; cases a
theorem bl_rising {n : Net} {t : NTr} {D : Nat} (h : Drg n t D) (hD : D < 64) : risingB (blOf D) 0 ((n.an.length : Int) - 1) = true := by
  unfold risingB
  rw [allB_iff]
  intro i hi
  unfold riseAt
  obtain ⟨j, h1, h2⟩ := (bl_mem hD).1 (getD_mem (blOf D) i 0 hi)
  have h3 := drg_in h h1
  have h4 : at0 (blOf D) i = (j : Int) := h2
  rw [Bool.and_eq_true, withinB_true, Bool.or_eq_true, decide_eq_true_eq, decide_eq_true_eq]
  refine ⟨by omega, ?_⟩
  by_cases e : i = 0
  · exact .inl e
  · right
    have := List.pairwise_iff_getElem.1 (blTo_asc D 6) (i - 1) i (by show i - 1 < (blOf D).length; omega) hi (by omega)
    unfold at0
    rw [getD_lt _ _ _ (show i - 1 < (blOf D).length by omega), getD_lt _ _ _ hi]
    exact this
def partB (a b : List Int) : Bool := allB a.length fun i => inB b (at0 a i)
theorem bl_part {D E : Nat} (hD : D < 64) (hE : E < 64) (h : NSub D E) : partB (blOf D) (blOf E) = true := by
  unfold partB
  rw [allB_iff]
  intro i hi
  obtain ⟨j, h1, h2⟩ := (bl_mem hD).1 (getD_mem (blOf D) i 0 hi)
  exact inB_true.2 ((bl_mem hE).2 ⟨j, h j h1, h2⟩)
theorem isPart_any (a b : List Int) (va vb : Value) (w : World) (ha : IntsAt w va a) (hb : IntsAt w vb b) : Calls Tryd.prog 15 #[va, vb] w fun e w' => e = .returned (.bool (partB a b)) ∧ Bel w w' := by
  have HX := Lib.hid (show partB a b = allB a.length fun i => inB b (at0 a i) from rfl)
  have HB := Lib.hid (fun wx (hx : Bel w wx) n => In_any vb b n wx (hb.bel hx))
  obtain ⟨aa, ac, ab, ao, rfl, haa, ⟨hal, _⟩, hac⟩ := ha
  obtain ⟨ba, bc, bb, bo, rfl, _, ⟨hbl, _⟩, _⟩ := hb
  have hix := idxInts (c := ac) haa
  have HA := Lib.hid hac
  clear haa hac
  go_enter Tryd.func15, Tryd.ntmps15
  go_wp2
  go_loopw [5] (fun i wr => ∃ k : Nat, k ≤ a.length ∧ i = .int .i64 k ∧ Hid (allB k (fun i => inB b (at0 a i)) = true) ∧ Bel w wr) (fun i _ => a.length - (intOf i).toNat)
  case atStart => exact ⟨0, by omega, rfl, rfl, Bel.refl _⟩
  case round =>
    obtain ⟨k, hk, rfl, hno, hw⟩ := hrel
    have HW := Lib.hid hw
    by_cases hlt : k < a.length
    · have hlti : (k : Int) < (a.length : Int) := by omega
      have k0 := hw.cell (HA.out k hlt)
      have lk := cell_lt k0
      have HIN := Lib.hid (fun wx (hx : Bel wr wx) => HB.out wx (HW.out.trans hx) (at0 a k))
      have HE := Lib.hid (fun (h : inB b (at0 a k) = false) => show (allB a.length fun i => inB b (at0 a i)) = false from allB_false k hlt h)
      have HR := Lib.hid (fun (h : inB b (at0 a k) = true) => allB_succ hno.out (f := fun i => inB b (at0 a i)) h)
      clear hw
      cases hwk : inB b (at0 a k)
      · have HI2 := Lib.hid (HE.out hwk)
        rw [hwk] at HIN
        clear HE HR hwk
        generalize at0 a k = u at *
        go_wp2_with (go_at_call 29; refine (HIN.out _ (Bel.refl _)).mono ?_; rintro e w' ⟨rfl, rfl⟩)
        go_ret
        exact ⟨rb (by rw [HX.out, HI2.out]), HW.out⟩
      · have HR2 := Lib.hid (HR.out hwk)
        rw [hwk] at HIN
        clear HE HR hwk
        generalize at0 a k = u at *
        go_wp2_with (go_at_call 29; refine (HIN.out _ (Bel.refl _)).mono ?_; rintro e w' ⟨rfl, rfl⟩)
        go_roundw
        case rel => exact ⟨k + 1, by omega, by go_num, HR2.out, HW.out⟩
        case measure => simp [intOf]; omega
    · have HI2 := Lib.hid (show (allB a.length fun i => inB b (at0 a i)) = true by rw [show a.length = k by omega]; exact hno.out)
      have hlti : ¬ (k : Int) < (a.length : Int) := by omega
      clear hw
      go_wp2
      go_ret
      exact ⟨rb (by rw [HX.out, HI2.out]), HW.out⟩
theorem dragged_any (n : Net) (t : NTr) (fish : List Int) (hn : NetOk n) (ht : TrOk n t) (hf0 : ∀ i, i < fish.length → 0 ≤ at0 fish i) (v vf vt : Value) (w : World) (hv : NetAt w v n) (hf : IntsAt w vf fish) (hvt : NTrAt w vt t) (hT : BruAt w) :
    Calls Tryd.prog 14 #[v, vf, vt] w fun e w' => ∃ (D : Nat) (l : Value), e = .returned (.tuple #[l, .bool true]) ∧ Fin (loadN n fish) t D ∧ IntsAt w' l (blOf D) ∧ Bel w w' := by
  have hwl := hn.wl
  have hal := hn.al
  have hgl := hn.gl
  have htl := ht.l
  have HL := Lib.hid (fun wx (hb : Bel w wx) => loaded_any n fish v vf wx (hv.bel hb) (hf.bel hb) (by omega) (by omega) (by omega))
  have HC := Lib.hid (fun wx (hb : Bel w wx) => nCopyT_any t vt wx (hvt.bel hb) (by omega))
  have HD := Lib.hid (fun wx v1 v2 (hb : Bel w wx) (h1 : NetAt wx v1 (loadN n fish)) (h2 : NTrAt wx v2 t) => nDrags_any (loadN n fish) t (load_ok hn hf0) (load_tr ht fish) v1 v2 wx h1 h2 (hT.bel hb))
  have HRS := Lib.hid (fun D (h : Fin (loadN n fish) t D) => bl_rising h.1 (drg_lt (load_ok hn hf0) h.1))
  obtain ⟨ga, gc, aa, ac, xa, xc, rfl, lg, la, lx⟩ := hv.openL
  obtain ⟨ta, tc, rfl, _⟩ := hvt.open
  obtain ⟨fa, fc, fb, fo, rfl, _, _, _⟩ := hf
  have HAN := Lib.hid (show (loadN n fish).an.length = n.an.length from rfl)
  rw [HAN.out] at HRS
  generalize n.an.length = A at *
  generalize n.walls.length = X at *
  generalize n.grips.length = G at *
  generalize t.grips.length = T at *
  clear hn ht hv hvt hT hf0 hwl hgl htl
  go_enter Tryd.func14, Tryd.ntmps14
  go_wp2
  generalize hW : (w.alloc _).alloc _ = W2
  have HB2 := Lib.hid (show Bel w W2 by rw [← hW]; exact ((Bel.refl w).alloc _).alloc _)
  have HP := Lib.hid (show Bx W2 w.heap.size [.int .i64 n.wind.lo, .int .i64 n.wind.hi, .int .i64 n.cur.lo, .int .i64 n.cur.hi, .slice ga G gc, .slice aa A ac, .slice xa X xc] by rw [← hW]; exact (Bx.new rfl).bel ((Bel.refl _).alloc _))
  have HQ := Lib.hid (show Bx W2 (w.heap.size + 1) [.int .i64 t.wind, .int .i64 t.cur, .slice ta T tc] by rw [← hW]; exact Bx.new (by simp))
  clear hW
  have x0 := HP.out.c 0 _ rfl
  have x1 := HP.out.c 1 _ rfl
  have x2 := HP.out.c 2 _ rfl
  have x3 := HP.out.c 3 _ rfl
  have x4 := HP.out.c 4 _ rfl
  have x5 := HP.out.c 5 _ rfl
  have x6 := HP.out.c 6 _ rfl
  have y0 := HQ.out.c 0 _ rfl
  have y1 := HQ.out.c 1 _ rfl
  have y2 := HQ.out.c 2 _ rfl
  have lp := HP.out.lt
  have lq := HQ.out.lt
  refine wp_region_mixB (Plan.seq [0, 1, 3, 1002, 1004, 1005, 6, 7, 8, 9, 10] .nil) (by kernel_rfl) (by kernel_rfl) (fun hcur => ?_)
  simp only [Plan.seq, Plan.fill, List.getD_cons_zero, List.getD_cons_succ, Nat.reduceLT, ↓reduceIte, Nat.reduceSub]
  apply mix_pure _ rfl
  · intro w' hw'
    have hcr := hw'.cells
    go_simp
    rfl
  intro K hK
  go_simp
  refine hK _ ?_
  clear hK K
  apply mix_pure _ rfl
  · intro w' hw'
    have hcr := hw'.cells
    go_simp
    rfl
  intro K hK
  go_simp
  refine hK _ ?_
  clear hK K
  apply mix_pure _ rfl
  · intro w' hw'
    have hcr := hw'.cells
    go_simp
    rfl
  intro K hK
  go_simp
  refine hK _ ?_
  clear hK K
  refine mix_act rfl (fun K hK => ?_)
  go_simp
  refine (HL.out _ (HB2.out.trans hcur)).mono ?_
  rintro e wl ⟨vl, rfl, hbl, hnl⟩
  simp only []
  refine hK _ _ (hcur.trans hbl) (fun hcur => ?_)
  clear hK K
  refine mix_act rfl (fun K hK => ?_)
  go_simp
  refine (HC.out _ (HB2.out.trans hcur)).mono ?_
  rintro e wc ⟨vc, rfl, hbc, hnc⟩
  simp only []
  refine hK _ _ (hcur.trans hbc) (fun hcur => ?_)
  clear hK K
  refine mix_act rfl (fun K hK => ?_)
  go_simp
  refine (HD.out _ vl vc (HB2.out.trans hcur) (by first | exact hnl | exact hnl.bel hbc) (by first | exact hnc | exact hnc.bel hbl)).mono ?_
  rintro e wd ⟨D, l, rfl, hFin, hl, hbd⟩
  simp only []
  refine hK _ _ (hcur.trans hbd) (fun hcur => ?_)
  clear hK K
  apply mix_pure _ rfl
  · intro w' hw'
    have hcr := hw'.cells
    go_simp
    rfl
  intro K hK
  go_simp
  refine hK _ ?_
  clear hK K
  apply mix_pure _ rfl
  · intro w' hw'
    have hcr := hw'.cells
    go_simp
    rfl
  intro K hK
  go_simp
  refine hK _ ?_
  clear hK K
  apply mix_pure _ rfl
  · intro w' hw'
    have hcr := hw'.cells
    go_simp
    rfl
  intro K hK
  go_simp
  refine hK _ ?_
  clear hK K
  apply mix_pure _ rfl
  · intro w' hw'
    have hcr := hw'.cells
    go_simp
    rfl
  intro K hK
  go_simp
  refine hK _ ?_
  clear hK K
  apply mix_pure _ rfl
  · intro w' hw'
    have hcr := hw'.cells
    go_simp
    rfl
  intro K hK
  go_simp
  refine hK _ ?_
  clear hK K
  refine mix_nil ?_
  have HF := Lib.hid hFin
  have HLL := Lib.hid hl
  have HCU := Lib.hid (HB2.out.trans hcur)
  have x5 := hcur.cell x5
  have lz := cell_lt x5
  have HRI := Lib.hid (Rising_any l (blOf D) 0 ((A : Int) - 1) _ hl)
  rw [HRS.out D HF.out] at HRI
  clear hFin hl hcur hbd hnl hnc hbl hbc x0 x1 x2 x3 x4 x6 y0 y1 y2 lp lq
  go_wp2_with (go_at_call 25; refine HRI.out.mono ?_; rintro e wz ⟨rfl, hbz⟩; have HZ := Lib.hid hbz; clear hbz)
  go_ret2
  exact ⟨D, l, rfl, HF.out, HLL.out.bel HZ.out, HCU.out.trans HZ.out⟩
end Go.Proofs.YtkdcdhkhadhcfaaDoor
