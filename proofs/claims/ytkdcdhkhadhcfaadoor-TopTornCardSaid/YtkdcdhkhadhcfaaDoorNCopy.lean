/-
  anchors: the reference's Copy and CopyTruth: a net, and a truth, in new memory.
-/
import Derived.Test.YtkdcdhkhadhcfaaDoorNLaw2
namespace Go.Proofs.YtkdcdhkhadhcfaaDoor
open Go Go.RowKit
set_option maxHeartbeats 4000000
set_option maxRecDepth 100000
theorem mkNSp : (Tryd.prog.info? 27).map (fun i => (i.zero, i.size, i.bytes)) = some (some (.agg #[.int .i64 0, .int .i64 0]), 2, 16) := by kernel_rfl
theorem mkNAn : (Tryd.prog.info? 72).map (fun i => (i.zero, i.size, i.bytes)) = some (some (.agg #[.int .i64 0, .int .i64 0]), 2, 16) := by kernel_rfl
theorem mkNWl : (Tryd.prog.info? 74).map (fun i => (i.zero, i.size, i.bytes)) = some (some (.agg #[.int .i64 0, .int .i64 0, .int .i64 0, .int .i64 0, .int .i64 0]), 5, 40) := by kernel_rfl
def spC (s : NSp) : List Value := [.int .i64 s.lo, .int .i64 s.hi]
def anC (s : NAn) : List Value := [.int .i64 s.wt, .int .i64 s.bt]
def wlC (s : NWl) : List Value := [.int .i64 s.sail, .int .i64 s.drag, .int .i64 s.lean, .int .i64 s.corks, .int .i64 s.stones]
theorem spC_one (a : NSp) (u : Value) (h : u ∈ spC a) : u.oneCell' = true := by simp [spC] at h; rcases h with rfl | rfl <;> rfl
theorem anC_one (a : NAn) (u : Value) (h : u ∈ anC a) : u.oneCell' = true := by simp [anC] at h; rcases h with rfl | rfl <;> rfl
theorem wlC_one (a : NWl) (u : Value) (h : u ∈ wlC a) : u.oneCell' = true := by simp [wlC] at h; rcases h with rfl | rfl | rfl | rfl | rfl <;> rfl
theorem get2 {a b u : Value} {k : Nat} (h : [a, b][k]? = some u) : (k = 0 ∧ u = a) ∨ (k = 1 ∧ u = b) := by
  match k, h with
  | 0, h => exact .inl ⟨rfl, by simpa using h.symm⟩
  | 1, h => exact .inr ⟨rfl, by simpa using h.symm⟩
  | k + 2, h => simp at h
theorem get5 {a b c d e u : Value} {k : Nat} (h : [a, b, c, d, e][k]? = some u) : (k = 0 ∧ u = a) ∨ (k = 1 ∧ u = b) ∨ (k = 2 ∧ u = c) ∨ (k = 3 ∧ u = d) ∨ (k = 4 ∧ u = e) := by
  match k, h with
  | 0, h => exact .inl ⟨rfl, by simpa using h.symm⟩
  | 1, h => exact .inr (.inl ⟨rfl, by simpa using h.symm⟩)
  | 2, h => exact .inr (.inr (.inl ⟨rfl, by simpa using h.symm⟩))
  | 3, h => exact .inr (.inr (.inr (.inl ⟨rfl, by simpa using h.symm⟩)))
  | 4, h => exact .inr (.inr (.inr (.inr ⟨rfl, by simpa using h.symm⟩)))
  | k + 5, h => simp at h
theorem GripsAt.src {w : World} {a : Option Addr} {c : Nat} {l : List NSp} (h : GripsAt w (.slice a l.length c) l) : 0 < l.length → ∃ ad, a = some ad ∧ ∀ j u, (flat spC l)[j]? = some u → w.cell? (ad.add j) = some u := by
  obtain ⟨a', c', b, off, e, ha, _, hc⟩ := h
  injection e with e1 _ e3
  subst e1 e3
  exact flat_src (z := 2) default (fun _ => rfl) (by omega) ha fun i hi k u hu => by
    rcases get2 hu with ⟨rfl, rfl⟩ | ⟨rfl, rfl⟩
    · exact (hc i hi).1
    · exact (hc i hi).2
theorem AnsAt.src {w : World} {a : Option Addr} {c : Nat} {l : List NAn} (h : AnsAt w (.slice a l.length c) l) : 0 < l.length → ∃ ad, a = some ad ∧ ∀ j u, (flat anC l)[j]? = some u → w.cell? (ad.add j) = some u := by
  obtain ⟨a', c', b, off, e, ha, _, hc⟩ := h
  injection e with e1 _ e3
  subst e1 e3
  exact flat_src (z := 2) default (fun _ => rfl) (by omega) ha fun i hi k u hu => by
    rcases get2 hu with ⟨rfl, rfl⟩ | ⟨rfl, rfl⟩
    · exact (hc i hi).1
    · exact (hc i hi).2
theorem WallsAt.src {w : World} {a : Option Addr} {c : Nat} {l : List NWl} (h : WallsAt w (.slice a l.length c) l) : 0 < l.length → ∃ ad, a = some ad ∧ ∀ j u, (flat wlC l)[j]? = some u → w.cell? (ad.add j) = some u := by
  obtain ⟨a', c', b, off, e, ha, _, hc⟩ := h
  injection e with e1 _ e3
  subst e1 e3
  exact flat_src (z := 5) default (fun _ => rfl) (by omega) ha fun i hi k u hu => by
    rcases get5 hu with ⟨rfl, rfl⟩ | ⟨rfl, rfl⟩ | ⟨rfl, rfl⟩ | ⟨rfl, rfl⟩ | ⟨rfl, rfl⟩
    · exact (hc i hi).1
    · exact (hc i hi).2.1
    · exact (hc i hi).2.2.1
    · exact (hc i hi).2.2.2.1
    · exact (hc i hi).2.2.2.2
theorem row_cap {w : World} {T : TypeId} {z n g c : Nat} {xs : List Value} (h : w.ownsRow 0 T z (.slice (some ⟨g, 0, none⟩) n c) n xs) : n ≤ c := by
  rcases h.2 with ⟨e, _⟩ | ⟨g', cap, cur, e, _, hh, hnc, _⟩
  · cases e
  · injection e with e1 e2 e3; omega
theorem GripsAt.own {w : World} {l : List NSp} {g c : Nat} (hl : l.length ≤ 140737488355328) (h : w.ownsRow 0 27 2 (.slice (some ⟨g, 0, none⟩) l.length c) l.length (flat spC l)) : GripsAt w (.slice (some ⟨g, 0, none⟩) l.length c) l :=
  ⟨_, c, g, 0, rfl, fun _ => rfl, ⟨hl, row_cap h⟩, fun i hi => ⟨flat_read (z := 2) default (fun _ => rfl) (by omega) h i hi 0 _ rfl, flat_read (z := 2) default (fun _ => rfl) (by omega) h i hi 1 _ rfl⟩⟩
theorem AnsAt.own {w : World} {l : List NAn} {g c : Nat} (hl : l.length ≤ 140737488355328) (h : w.ownsRow 0 72 2 (.slice (some ⟨g, 0, none⟩) l.length c) l.length (flat anC l)) : AnsAt w (.slice (some ⟨g, 0, none⟩) l.length c) l :=
  ⟨_, c, g, 0, rfl, fun _ => rfl, ⟨hl, row_cap h⟩, fun i hi => ⟨flat_read (z := 2) default (fun _ => rfl) (by omega) h i hi 0 _ rfl, flat_read (z := 2) default (fun _ => rfl) (by omega) h i hi 1 _ rfl⟩⟩
theorem WallsAt.own {w : World} {l : List NWl} {g c : Nat} (hl : l.length ≤ 140737488355328) (h : w.ownsRow 0 74 5 (.slice (some ⟨g, 0, none⟩) l.length c) l.length (flat wlC l)) : WallsAt w (.slice (some ⟨g, 0, none⟩) l.length c) l :=
  ⟨_, c, g, 0, rfl, fun _ => rfl, ⟨hl, row_cap h⟩, fun i hi => ⟨flat_read (z := 5) default (fun _ => rfl) (by omega) h i hi 0 _ rfl, flat_read (z := 5) default (fun _ => rfl) (by omega) h i hi 1 _ rfl, flat_read (z := 5) default (fun _ => rfl) (by omega) h i hi 2 _ rfl,
    flat_read (z := 5) default (fun _ => rfl) (by omega) h i hi 3 _ rfl, flat_read (z := 5) default (fun _ => rfl) (by omega) h i hi 4 _ rfl⟩⟩
/-- A net of the call's own. -/
structure OwnNet (n : Net) (w : World) (gg cg ga ca gx cx : Nat) (w' : World) : Prop where
  bel : Bel w w'
  h0 : w.heap.size ≤ gg
  h1 : gg < ga
  h2 : ga < gx
  og : w'.ownsRow 0 27 2 (.slice (some ⟨gg, 0, none⟩) n.grips.length cg) n.grips.length (flat spC n.grips)
  oa : w'.ownsRow 0 72 2 (.slice (some ⟨ga, 0, none⟩) n.an.length ca) n.an.length (flat anC n.an)
  ox : w'.ownsRow 0 74 5 (.slice (some ⟨gx, 0, none⟩) n.walls.length cx) n.walls.length (flat wlC n.walls)
def netAgg (n : Net) (gg cg ga ca gx cx : Nat) : Value := .agg #[.int .i64 n.wind.lo, .int .i64 n.wind.hi, .int .i64 n.cur.lo, .int .i64 n.cur.hi, .slice (some ⟨gg, 0, none⟩) n.grips.length cg, .slice (some ⟨ga, 0, none⟩) n.an.length ca, .slice (some ⟨gx, 0, none⟩) n.walls.length cx]
def nCopyP (n : Net) (w : World) (e : Ending) (w' : World) : Prop := ∃ gg cg ga ca gx cx, e = .returned (netAgg n gg cg ga ca gx cx) ∧ OwnNet n w gg cg ga ca gx cx w'
theorem OwnNet.at {n : Net} {w w' : World} {gg cg ga ca gx cx : Nat} (h : OwnNet n w gg cg ga ca gx cx w') (h1 : n.grips.length ≤ 1000) (h2 : n.an.length ≤ 1000) (h3 : n.walls.length ≤ 1000) : NetAt w' (netAgg n gg cg ga ca gx cx) n :=
  ⟨_, _, _, rfl, GripsAt.own (by omega) h.og, AnsAt.own (by omega) h.oa, WallsAt.own (by omega) h.ox⟩
theorem nCopy_any (n : Net) (v : Value) (w : World) (hv : NetAt w v n) (h1 : n.grips.length ≤ 1000) (h2 : n.an.length ≤ 1000) (h3 : n.walls.length ≤ 1000) : Calls Tryd.prog 58 #[v] w (nCopyP n w) := by
  obtain ⟨ga, gc, aa, ac, xa, xc, rfl, hg, ha, hx⟩ := hv.open
  have HSG := Lib.hid (fun wx (hb : Bel w wx) => (hg.bel hb).src)
  have HSA := Lib.hid (fun wx (hb : Bel w wx) => (ha.bel hb).src)
  have HSX := Lib.hid (fun wx (hb : Bel w wx) => (hx.bel hb).src)
  obtain ⟨i1, hi1, hz1, hs1, hb1⟩ := info_parts mkNSp
  obtain ⟨i2, hi2, hz2, hs2, hb2⟩ := info_parts mkNAn
  obtain ⟨i3, hi3, hz3, hs3, hb3⟩ := info_parts mkNWl
  have HI1 := Lib.hid hi1
  have HZ1 := Lib.hid hz1
  have HI2 := Lib.hid hi2
  have HZ2 := Lib.hid hz2
  have HI3 := Lib.hid hi3
  have HZ3 := Lib.hid hz3
  clear hv hg ha hx hi1 hz1 hi2 hz2 hi3 hz3
  go_enter Tryd.func58, Tryd.ntmps58
  go_upto_region 2 with fail
  generalize hW0 : World.alloc _ _ = W0
  have HB0 : Hid (Bel w W0) := Lib.hid (by rw [← hW0]; exact ((Bel.refl w).alloc _).alloc _ |>.alloc _)
  have HP0 : Hid (Bx W0 w.heap.size [.int .i64 n.wind.lo, .int .i64 n.wind.hi, .int .i64 n.cur.lo, .int .i64 n.cur.hi, .slice ga n.grips.length gc, .slice aa n.an.length ac, .slice xa n.walls.length xc]) := Lib.hid (by rw [← hW0]; exact ((Bx.new rfl).bel ((Bel.refl _).alloc _)).bel ((Bel.refl _).alloc _))
  have HQ0 : Hid (Bx W0 (w.heap.size + 1) [.int .i64 0, .int .i64 0, .int .i64 0, .int .i64 0, .slice none 0 0, .slice none 0 0, .slice none 0 0]) := Lib.hid (by rw [← hW0]; exact (Bx.new (by simp)).bel ((Bel.refl _).alloc _))
  have HO0 : Hid (Bx W0 (w.heap.size + 1 + 1) [.int .i64 n.wind.lo, .int .i64 n.wind.hi, .int .i64 n.cur.lo, .int .i64 n.cur.hi, .slice ga n.grips.length gc, .slice aa n.an.length ac, .slice xa n.walls.length xc]) := Lib.hid (by rw [← hW0]; exact Bx.new (by simp))
  clear hW0
  have HFR : Hid ((W0.alloc (.cells #[] 27)).ownsRow 0 27 2 (.slice (some ⟨W0.heap.size, 0, none⟩) 0 0) 0 []) := Lib.hid (fresh_at (new_row rfl))
  have ls0 : w.heap.size + 3 ≤ W0.heap.size := by have := HO0.out.lt; omega
  have lp := HP0.out.lt
  have lo := HO0.out.lt
  have xs := HP0.out.c 4 _ rfl
  go_upto_region 3 with (at_builtin; refine wpList_append_opt rfl _ _ 28 rfl 27 i1 (.agg #[.int .i64 0, .int .i64 0]) 2 16 Tryd.underlying28 HI1.out HZ1.out hs1 hb1 rfl (by decide) _ 0 [] rfl HFR.out ga n.grips.length gc (flat spC n.grips) rfl (flat_len (f := spC) (z := 2) (fun _ => rfl) _) (HSG.out _ (HB0.out.alloc _)) (flat_one spC_one _) (by unfold maxLen; omega) (by omega) ?_; intro V w0 hown hgrow hwhere; obtain ⟨g0, c0, rfl, hg0, lg0, HK, HR0⟩ := stage hown hgrow hwhere; have HOB := Lib.hid (HO0.out.bel HK.out); have oc := HOB.out.c 4 _ rfl; have loo := HOB.out.lt; have of := HOB.out.f; clear hown hgrow hwhere)
  generalize hW : World.setCell _ _ _ = W1
  have HO1 : Hid (Bx W1 (w.heap.size + 1 + 1) [.int .i64 n.wind.lo, .int .i64 n.wind.hi, .int .i64 n.cur.lo, .int .i64 n.cur.hi, .slice (some ⟨g0, 0, none⟩) n.grips.length c0, .slice aa n.an.length ac, .slice xa n.walls.length xc]) := Lib.hid (by rw [← hW]; exact HOB.out.set (by simp) _)
  have HP1 : Hid (Bx W1 w.heap.size [.int .i64 n.wind.lo, .int .i64 n.wind.hi, .int .i64 n.cur.lo, .int .i64 n.cur.hi, .slice ga n.grips.length gc, .slice aa n.an.length ac, .slice xa n.walls.length xc]) := Lib.hid (by rw [← hW]; exact (HP0.out.bel HK.out).other (by omega) _)
  have HQ1 : Hid (Bx W1 (w.heap.size + 1) [.int .i64 0, .int .i64 0, .int .i64 0, .int .i64 0, .slice none 0 0, .slice none 0 0, .slice none 0 0]) := Lib.hid (by rw [← hW]; exact (HQ0.out.bel HK.out).other (by omega) _)
  have HB1 : Hid (Bel w W1) := Lib.hid (by rw [← hW]; exact (HB0.out.trans HK.out).setCell (by show w.heap.size ≤ w.heap.size + 1 + 1; omega) _)
  have hz1 : w0.heap.size = W1.heap.size := by rw [← hW, World.size_setCell]
  replace HR0 : Hid (W1.ownsRow 0 27 2 (.slice (some ⟨g0, 0, none⟩) n.grips.length c0) n.grips.length (flat spC n.grips)) := Lib.hid (by rw [← hW]; exact row_set HR0.out (fun g hg => by injection hg with hg; subst hg; show g0 ≠ w.heap.size + 1 + 1; omega))
  clear hW HFR lp lo xs HK HOB oc loo of HO0 HP0 HQ0 HB0
  have HFR : Hid ((W1.alloc (.cells #[] 72)).ownsRow 0 72 2 (.slice (some ⟨W1.heap.size, 0, none⟩) 0 0) 0 []) := Lib.hid (fresh_at (new_row rfl))
  have ls1 : w.heap.size + 3 ≤ W1.heap.size := by have := HO1.out.lt; omega
  have lp := HP1.out.lt
  have lo := HO1.out.lt
  have xs := HP1.out.c 5 _ rfl
  go_upto_region 4 with (at_builtin; refine wpList_append_opt rfl _ _ 29 rfl 72 i2 (.agg #[.int .i64 0, .int .i64 0]) 2 16 Tryd.underlying29 HI2.out HZ2.out hs2 hb2 rfl (by decide) _ 0 [] rfl HFR.out aa n.an.length ac (flat anC n.an) rfl (flat_len (f := anC) (z := 2) (fun _ => rfl) _) (HSA.out _ (HB1.out.alloc _)) (flat_one anC_one _) (by unfold maxLen; omega) (by omega) ?_; intro V w1 hown hgrow hwhere; obtain ⟨g1, c1, rfl, hg1, lg1, HK, HR1⟩ := stage hown hgrow hwhere; have HOB := Lib.hid (HO1.out.bel HK.out); have oc := HOB.out.c 5 _ rfl; have loo := HOB.out.lt; have of := HOB.out.f; clear hown hgrow hwhere)
  generalize hW : World.setCell _ _ _ = W2
  have HO2 : Hid (Bx W2 (w.heap.size + 1 + 1) [.int .i64 n.wind.lo, .int .i64 n.wind.hi, .int .i64 n.cur.lo, .int .i64 n.cur.hi, .slice (some ⟨g0, 0, none⟩) n.grips.length c0, .slice (some ⟨g1, 0, none⟩) n.an.length c1, .slice xa n.walls.length xc]) := Lib.hid (by rw [← hW]; exact HOB.out.set (by simp) _)
  have HP2 : Hid (Bx W2 w.heap.size [.int .i64 n.wind.lo, .int .i64 n.wind.hi, .int .i64 n.cur.lo, .int .i64 n.cur.hi, .slice ga n.grips.length gc, .slice aa n.an.length ac, .slice xa n.walls.length xc]) := Lib.hid (by rw [← hW]; exact (HP1.out.bel HK.out).other (by omega) _)
  have HQ2 : Hid (Bx W2 (w.heap.size + 1) [.int .i64 0, .int .i64 0, .int .i64 0, .int .i64 0, .slice none 0 0, .slice none 0 0, .slice none 0 0]) := Lib.hid (by rw [← hW]; exact (HQ1.out.bel HK.out).other (by omega) _)
  have HB2 : Hid (Bel w W2) := Lib.hid (by rw [← hW]; exact (HB1.out.trans HK.out).setCell (by show w.heap.size ≤ w.heap.size + 1 + 1; omega) _)
  have hz2 : w1.heap.size = W2.heap.size := by rw [← hW, World.size_setCell]
  replace HR1 : Hid (W2.ownsRow 0 72 2 (.slice (some ⟨g1, 0, none⟩) n.an.length c1) n.an.length (flat anC n.an)) := Lib.hid (by rw [← hW]; exact row_set HR1.out (fun g hg => by injection hg with hg; subst hg; show g1 ≠ w.heap.size + 1 + 1; omega))
  replace HR0 : Hid (W2.ownsRow 0 27 2 (.slice (some ⟨g0, 0, none⟩) n.grips.length c0) n.grips.length (flat spC n.grips)) := Lib.hid (by rw [← hW]; exact row_set (ownsRow_bel HR0.out HK.out) (fun g hg => by injection hg with hg; subst hg; show g0 ≠ w.heap.size + 1 + 1; omega))
  clear hW HFR lp lo xs HK HOB oc loo of HO1 HP1 HQ1 HB1
  have HFR : Hid ((W2.alloc (.cells #[] 74)).ownsRow 0 74 5 (.slice (some ⟨W2.heap.size, 0, none⟩) 0 0) 0 []) := Lib.hid (fresh_at (new_row rfl))
  have ls2 : w.heap.size + 3 ≤ W2.heap.size := by have := HO2.out.lt; omega
  have lp := HP2.out.lt
  have lo := HO2.out.lt
  have xs := HP2.out.c 6 _ rfl
  go_upto_region 5 with (at_builtin; refine wpList_append_opt rfl _ _ 30 rfl 74 i3 (.agg #[.int .i64 0, .int .i64 0, .int .i64 0, .int .i64 0, .int .i64 0]) 5 40 Tryd.underlying30 HI3.out HZ3.out hs3 hb3 rfl (by decide) _ 0 [] rfl HFR.out xa n.walls.length xc (flat wlC n.walls) rfl (flat_len (f := wlC) (z := 5) (fun _ => rfl) _) (HSX.out _ (HB2.out.alloc _)) (flat_one wlC_one _) (by unfold maxLen; omega) (by omega) ?_; intro V w2 hown hgrow hwhere; obtain ⟨g2, c2, rfl, hg2, lg2, HK, HR2⟩ := stage hown hgrow hwhere; have HOB := Lib.hid (HO2.out.bel HK.out); have oc := HOB.out.c 6 _ rfl; have loo := HOB.out.lt; have of := HOB.out.f; clear hown hgrow hwhere)
  generalize hW : World.setCell _ _ _ = W3
  have HO3 : Hid (Bx W3 (w.heap.size + 1 + 1) [.int .i64 n.wind.lo, .int .i64 n.wind.hi, .int .i64 n.cur.lo, .int .i64 n.cur.hi, .slice (some ⟨g0, 0, none⟩) n.grips.length c0, .slice (some ⟨g1, 0, none⟩) n.an.length c1, .slice (some ⟨g2, 0, none⟩) n.walls.length c2]) := Lib.hid (by rw [← hW]; exact HOB.out.set (by simp) _)
  have HP3 : Hid (Bx W3 w.heap.size [.int .i64 n.wind.lo, .int .i64 n.wind.hi, .int .i64 n.cur.lo, .int .i64 n.cur.hi, .slice ga n.grips.length gc, .slice aa n.an.length ac, .slice xa n.walls.length xc]) := Lib.hid (by rw [← hW]; exact (HP2.out.bel HK.out).other (by omega) _)
  have HQ3 : Hid (Bx W3 (w.heap.size + 1) [.int .i64 0, .int .i64 0, .int .i64 0, .int .i64 0, .slice none 0 0, .slice none 0 0, .slice none 0 0]) := Lib.hid (by rw [← hW]; exact (HQ2.out.bel HK.out).other (by omega) _)
  have HB3 : Hid (Bel w W3) := Lib.hid (by rw [← hW]; exact (HB2.out.trans HK.out).setCell (by show w.heap.size ≤ w.heap.size + 1 + 1; omega) _)
  have hz3 : w2.heap.size = W3.heap.size := by rw [← hW, World.size_setCell]
  replace HR2 : Hid (W3.ownsRow 0 74 5 (.slice (some ⟨g2, 0, none⟩) n.walls.length c2) n.walls.length (flat wlC n.walls)) := Lib.hid (by rw [← hW]; exact row_set HR2.out (fun g hg => by injection hg with hg; subst hg; show g2 ≠ w.heap.size + 1 + 1; omega))
  replace HR0 : Hid (W3.ownsRow 0 27 2 (.slice (some ⟨g0, 0, none⟩) n.grips.length c0) n.grips.length (flat spC n.grips)) := Lib.hid (by rw [← hW]; exact row_set (ownsRow_bel HR0.out HK.out) (fun g hg => by injection hg with hg; subst hg; show g0 ≠ w.heap.size + 1 + 1; omega))
  replace HR1 : Hid (W3.ownsRow 0 72 2 (.slice (some ⟨g1, 0, none⟩) n.an.length c1) n.an.length (flat anC n.an)) := Lib.hid (by rw [← hW]; exact row_set (ownsRow_bel HR1.out HK.out) (fun g hg => by injection hg with hg; subst hg; show g1 ≠ w.heap.size + 1 + 1; omega))
  clear hW HFR lp lo xs HK HOB oc loo of HO2 HP2 HQ2 HB2
  have lo := HO3.out.lt
  have lq := HQ3.out.lt
  have o0 := HO3.out.c 0 _ rfl
  have o1 := HO3.out.c 1 _ rfl
  have o2 := HO3.out.c 2 _ rfl
  have o3 := HO3.out.c 3 _ rfl
  have o4 := HO3.out.c 4 _ rfl
  have o5 := HO3.out.c 5 _ rfl
  have o6 := HO3.out.c 6 _ rfl
  have q0 := HQ3.out.c 0 _ rfl
  have q1 := HQ3.out.c 1 _ rfl
  have q2 := HQ3.out.c 2 _ rfl
  have q3 := HQ3.out.c 3 _ rfl
  have q4 := HQ3.out.c 4 _ rfl
  have q5 := HQ3.out.c 5 _ rfl
  have q6 := HQ3.out.c 6 _ rfl
  have qf := HQ3.out.f
  go_wp2
  refine bodyPost_ret (v := netAgg n g0 c0 g1 c1 g2 c2) (by unfold netAgg; simp [results, Tryd.results58, go_sem, *]) rfl ⟨g0, c0, g1, c1, g2, c2, rfl, ?_⟩
  have hb := HB3.out
  refine ⟨(((((((hb.setCell (by show w.heap.size ≤ w.heap.size + 1; omega) _).setCell (by show w.heap.size ≤ w.heap.size + 1; omega) _).setCell (by show w.heap.size ≤ w.heap.size + 1; omega) _).setCell (by show w.heap.size ≤ w.heap.size + 1; omega) _).setCell (by show w.heap.size ≤ w.heap.size + 1; omega) _).setCell (by show w.heap.size ≤ w.heap.size + 1; omega) _).setCell (by show w.heap.size ≤ w.heap.size + 1; omega) _), by omega, by omega, by omega, (row_set (row_set (row_set (row_set (row_set (row_set (row_set HR0.out (fun g hg => by injection hg with hg; subst hg; show g0 ≠ w.heap.size + 1; omega)) (fun g hg => by injection hg with hg; subst hg; show g0 ≠ w.heap.size + 1; omega)) (fun g hg => by injection hg with hg; subst hg; show g0 ≠ w.heap.size + 1; omega)) (fun g hg => by injection hg with hg; subst hg; show g0 ≠ w.heap.size + 1; omega)) (fun g hg => by injection hg with hg; subst hg; show g0 ≠ w.heap.size + 1; omega)) (fun g hg => by injection hg with hg; subst hg; show g0 ≠ w.heap.size + 1; omega)) (fun g hg => by injection hg with hg; subst hg; show g0 ≠ w.heap.size + 1; omega)), (row_set (row_set (row_set (row_set (row_set (row_set (row_set HR1.out (fun g hg => by injection hg with hg; subst hg; show g1 ≠ w.heap.size + 1; omega)) (fun g hg => by injection hg with hg; subst hg; show g1 ≠ w.heap.size + 1; omega)) (fun g hg => by injection hg with hg; subst hg; show g1 ≠ w.heap.size + 1; omega)) (fun g hg => by injection hg with hg; subst hg; show g1 ≠ w.heap.size + 1; omega)) (fun g hg => by injection hg with hg; subst hg; show g1 ≠ w.heap.size + 1; omega)) (fun g hg => by injection hg with hg; subst hg; show g1 ≠ w.heap.size + 1; omega)) (fun g hg => by injection hg with hg; subst hg; show g1 ≠ w.heap.size + 1; omega)), (row_set (row_set (row_set (row_set (row_set (row_set (row_set HR2.out (fun g hg => by injection hg with hg; subst hg; show g2 ≠ w.heap.size + 1; omega)) (fun g hg => by injection hg with hg; subst hg; show g2 ≠ w.heap.size + 1; omega)) (fun g hg => by injection hg with hg; subst hg; show g2 ≠ w.heap.size + 1; omega)) (fun g hg => by injection hg with hg; subst hg; show g2 ≠ w.heap.size + 1; omega)) (fun g hg => by injection hg with hg; subst hg; show g2 ≠ w.heap.size + 1; omega)) (fun g hg => by injection hg with hg; subst hg; show g2 ≠ w.heap.size + 1; omega)) (fun g hg => by injection hg with hg; subst hg; show g2 ≠ w.heap.size + 1; omega))⟩
end Go.Proofs.YtkdcdhkhadhcfaaDoor
