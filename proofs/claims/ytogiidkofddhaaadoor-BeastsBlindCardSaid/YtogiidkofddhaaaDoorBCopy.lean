/-
  beasts: the reference's Copy: a trap in new memory.
-/
import Derived.Deep.DeepCutAuto
import Derived.Test.YtogiidkofddhaaaDoorBScript
import Derived.Test.YtogiidkofddhaaaDoorBLaw1
namespace Go.Proofs.YtogiidkofddhaaaDoor
set_option linter.unusedVariables false
open Go Go.RowKit Go.Shelf
set_option maxHeartbeats 4000000
set_option maxRecDepth 100000
theorem own_keep {w w' : World} {e : TypeId} {s n : Nat} {v : Value} {xs : List Value} (h : w.ownsRow 0 e s v n xs) (hk : ∀ g, v.ownBlock = some g → w'.heap[g]? = w.heap[g]?) : w'.ownsRow 0 e s v n xs := by
  obtain ⟨o1, o2⟩ := h
  refine ⟨o1, ?_⟩
  rcases o2 with o2 | ⟨g', cap', cur, hv', hg', hh, r⟩
  · exact Or.inl o2
  · exact Or.inr ⟨g', cap', cur, hv', hg', by rw [hk g' (by rw [hv']; rfl)]; exact hh, r⟩
theorem own_set {w : World} {e : TypeId} {s n : Nat} {v : Value} {xs : List Value} {p : Addr} {u : Value} (h : w.ownsRow 0 e s v n xs) (hp : ∀ g, v.ownBlock = some g → g ≠ p.block) : (w.setCell p u).ownsRow 0 e s v n xs :=
  own_keep h fun g hg => Below.heap_setCell _ _ _ _ (hp g hg)
theorem new_slice {w : World} {e : TypeId} {s n r : Nat} {v : Value} {xs : List Value} (h : w.ownsRow 0 e s v n xs) (hw : v.ownBlock = some r ∨ v.ownBlock = some (r + 1)) : ∃ g c, v = .slice (some ⟨g, 0, none⟩) n c ∧ r ≤ g ∧ g ≤ r + 1 := by
  rcases h.2 with ⟨rfl, _⟩ | ⟨g, cap, cur, rfl, _⟩
  · rcases hw with h | h <;> simp [Value.ownBlock] at h
  · refine ⟨g, cap, rfl, ?_⟩
    rcases hw with h | h <;> simp [Value.ownBlock] at h <;> omega
theorem copy_stage {W w1 : World} {T : TypeId} {sz n : Nat} {V : Value} {cs : List Value} (hown : w1.ownsRow 0 T sz V (0 + n) ([] ++ cs)) (hgrow : (W.alloc (.cells #[] T)).grownBy w1 (some W.heap.size))
    (hwhere : V.ownBlock = some W.heap.size ∨ V.ownBlock = some (W.alloc (.cells #[] T)).heap.size) : ∃ g c, V = .slice (some ⟨g, 0, none⟩) n c ∧ W.heap.size ≤ g ∧ g < w1.heap.size ∧ Hid (Bel W w1) ∧ Hid (w1.ownsRow 0 T sz (.slice (some ⟨g, 0, none⟩) n c) n cs) := by
  rw [Nat.zero_add, List.nil_append] at hown
  rw [World.size_alloc] at hwhere
  obtain ⟨g, c, rfl, h1, _⟩ := new_slice hown hwhere
  exact ⟨g, c, rfl, h1, own_lt hown rfl, Lib.hid (((Bel.refl W).alloc _).grown hgrow (fun k e => by injection e with e; omega)), Lib.hid hown⟩
/-- The boxes of Copy. -/
structure OBox (w W : World) (b : BT) (xd xs xp dv sv pv : Value) : Prop where
  bel : Bel w W
  lt : w.heap.size + 3 ≤ W.heap.size
  x1 : W.cell? ⟨w.heap.size, 1, none⟩ = some xd
  x2 : W.cell? ⟨w.heap.size, 2, none⟩ = some xs
  x5 : W.cell? ⟨w.heap.size, 5, none⟩ = some xp
  z0 : W.cell? ⟨w.heap.size + 1, 0, none⟩ = some (.int .i64 0)
  z1 : W.cell? ⟨w.heap.size + 1, 1, none⟩ = some (.slice none 0 0)
  z2 : W.cell? ⟨w.heap.size + 1, 2, none⟩ = some (.slice none 0 0)
  z3 : W.cell? ⟨w.heap.size + 1, 3, none⟩ = some (.int .i64 0)
  z4 : W.cell? ⟨w.heap.size + 1, 4, none⟩ = some (.int .i64 0)
  z5 : W.cell? ⟨w.heap.size + 1, 5, none⟩ = some (.slice none 0 0)
  o0 : W.cell? ⟨w.heap.size + 1 + 1, 0, none⟩ = some (.int .i64 b.n)
  o1 : W.cell? ⟨w.heap.size + 1 + 1, 1, none⟩ = some dv
  o2 : W.cell? ⟨w.heap.size + 1 + 1, 2, none⟩ = some sv
  o3 : W.cell? ⟨w.heap.size + 1 + 1, 3, none⟩ = some (.int .i64 b.look)
  o4 : W.cell? ⟨w.heap.size + 1 + 1, 4, none⟩ = some (.int .i64 b.eats)
  o5 : W.cell? ⟨w.heap.size + 1 + 1, 5, none⟩ = some pv
  f1 : ∀ o, W.frozen? ⟨w.heap.size + 1, o, none⟩ = false
  f2 : ∀ o, W.frozen? ⟨w.heap.size + 1 + 1, o, none⟩ = false
theorem OBox.step {w W W' : World} {b : BT} {xd xs xp dv sv pv : Value} (h : OBox w W b xd xs xp dv sv pv) (k : Bel W W') : OBox w W' b xd xs xp dv sv pv :=
  ⟨h.bel.trans k, Nat.le_trans h.lt k.szle, k.cell h.x1, k.cell h.x2, k.cell h.x5, k.cell h.z0, k.cell h.z1, k.cell h.z2, k.cell h.z3, k.cell h.z4, k.cell h.z5, k.cell h.o0, k.cell h.o1, k.cell h.o2, k.cell h.o3, k.cell h.o4, k.cell h.o5,
    fun o => (k.frozens _ (by have := h.lt; show w.heap.size + 1 < _; omega)).trans (h.f1 o), fun o => (k.frozens _ (by have := h.lt; show w.heap.size + 1 + 1 < _; omega)).trans (h.f2 o)⟩
theorem set_o {W : World} {a c i j : Nat} {v u : Value} (h : W.cell? ⟨c, j, none⟩ = some u) (hn : a ≠ c ∨ i ≠ j) : (W.setCell ⟨a, i, none⟩ v).cell? ⟨c, j, none⟩ = some u :=
  (World.cell?_setCell_other _ _ _ _ (by intro e; injection e with e1 e2; omega)).trans h
theorem OBox.set1 {w W : World} {b : BT} {xd xs xp dv sv pv : Value} (h : OBox w W b xd xs xp dv sv pv) (v : Value) : OBox w (W.setCell ⟨w.heap.size + 1 + 1, 1, none⟩ v) b xd xs xp v sv pv :=
  ⟨h.bel.setCell (by show w.heap.size ≤ w.heap.size + 1 + 1; omega) v, by rw [World.size_setCell]; exact h.lt, set_o h.x1 (by omega), set_o h.x2 (by omega), set_o h.x5 (by omega), set_o h.z0 (by omega), set_o h.z1 (by omega), set_o h.z2 (by omega), set_o h.z3 (by omega), set_o h.z4 (by omega), set_o h.z5 (by omega),
    set_o h.o0 (by omega), World.cell?_setCell_same _ _ _ h.o1, set_o h.o2 (by omega), set_o h.o3 (by omega), set_o h.o4 (by omega), set_o h.o5 (by omega), fun o => (World.frozen?_setCell ..).trans (h.f1 o), fun o => (World.frozen?_setCell ..).trans (h.f2 o)⟩
theorem OBox.set2 {w W : World} {b : BT} {xd xs xp dv sv pv : Value} (h : OBox w W b xd xs xp dv sv pv) (v : Value) : OBox w (W.setCell ⟨w.heap.size + 1 + 1, 2, none⟩ v) b xd xs xp dv v pv :=
  ⟨h.bel.setCell (by show w.heap.size ≤ w.heap.size + 1 + 1; omega) v, by rw [World.size_setCell]; exact h.lt, set_o h.x1 (by omega), set_o h.x2 (by omega), set_o h.x5 (by omega), set_o h.z0 (by omega), set_o h.z1 (by omega), set_o h.z2 (by omega), set_o h.z3 (by omega), set_o h.z4 (by omega), set_o h.z5 (by omega),
    set_o h.o0 (by omega), set_o h.o1 (by omega), World.cell?_setCell_same _ _ _ h.o2, set_o h.o3 (by omega), set_o h.o4 (by omega), set_o h.o5 (by omega), fun o => (World.frozen?_setCell ..).trans (h.f1 o), fun o => (World.frozen?_setCell ..).trans (h.f2 o)⟩
theorem OBox.set5 {w W : World} {b : BT} {xd xs xp dv sv pv : Value} (h : OBox w W b xd xs xp dv sv pv) (v : Value) : OBox w (W.setCell ⟨w.heap.size + 1 + 1, 5, none⟩ v) b xd xs xp dv sv v :=
  ⟨h.bel.setCell (by show w.heap.size ≤ w.heap.size + 1 + 1; omega) v, by rw [World.size_setCell]; exact h.lt, set_o h.x1 (by omega), set_o h.x2 (by omega), set_o h.x5 (by omega), set_o h.z0 (by omega), set_o h.z1 (by omega), set_o h.z2 (by omega), set_o h.z3 (by omega), set_o h.z4 (by omega), set_o h.z5 (by omega),
    set_o h.o0 (by omega), set_o h.o1 (by omega), set_o h.o2 (by omega), set_o h.o3 (by omega), set_o h.o4 (by omega), World.cell?_setCell_same _ _ _ h.o5, fun o => (World.frozen?_setCell ..).trans (h.f1 o), fun o => (World.frozen?_setCell ..).trans (h.f2 o)⟩
theorem OBox.make {w : World} {b : BT} {xd xs xp : Value} {T : TypeId} : OBox w (((w.alloc (.cells #[.int .i64 b.n, xd, xs, .int .i64 b.look, .int .i64 b.eats, xp] T)).alloc (.cells #[.int .i64 0, .slice none 0 0, .slice none 0 0, .int .i64 0, .int .i64 0, .slice none 0 0] T)).alloc (.cells #[.int .i64 b.n, xd, xs, .int .i64 b.look, .int .i64 b.eats, xp] T)) b xd xs xp xd xs xp := by
  have r0 : ∀ (o1 o2 o3 : Obj), (((w.alloc o1).alloc o2).alloc o3).heap[w.heap.size]? = some o1 := fun o1 o2 o3 => (old_row (by simp; omega)).trans ((old_row (by simp)).trans (new_row rfl))
  have r1 : ∀ (o1 o2 o3 : Obj), (((w.alloc o1).alloc o2).alloc o3).heap[w.heap.size + 1]? = some o2 := fun o1 o2 o3 => (old_row (by simp)).trans (new_row (by simp))
  have r2 : ∀ (o1 o2 o3 : Obj), (((w.alloc o1).alloc o2).alloc o3).heap[w.heap.size + 1 + 1]? = some o3 := fun o1 o2 o3 => new_row (by simp)
  exact ⟨(((Bel.refl w).alloc _).alloc _).alloc _, by simp, (row_facts (r0 _ _ _)).1 1, (row_facts (r0 _ _ _)).1 2, (row_facts (r0 _ _ _)).1 5,
    (row_facts (r1 _ _ _)).1 0, (row_facts (r1 _ _ _)).1 1, (row_facts (r1 _ _ _)).1 2, (row_facts (r1 _ _ _)).1 3, (row_facts (r1 _ _ _)).1 4, (row_facts (r1 _ _ _)).1 5,
    (row_facts (r2 _ _ _)).1 0, (row_facts (r2 _ _ _)).1 1, (row_facts (r2 _ _ _)).1 2, (row_facts (r2 _ _ _)).1 3, (row_facts (r2 _ _ _)).1 4, (row_facts (r2 _ _ _)).1 5, (row_facts (r1 _ _ _)).2, (row_facts (r2 _ _ _)).2⟩
/-- A trap in memory of the call's own. -/
structure OwnTrap (b : BT) (w : World) (gd cd gs cs gp cp : Nat) (w' : World) : Prop where
  bel : Bel w w'
  hgd : w.heap.size ≤ gd
  hgs : gd < gs
  hgp : gs < gp
  od : w'.ownsRow 0 43 3 (.slice (some ⟨gd, 0, none⟩) b.doors.length cd) b.doors.length (doorCells b.doors)
  os : w'.ownsRow 0 3 1 (.slice (some ⟨gs, 0, none⟩) b.seen.length cs) b.seen.length (b.seen.map (Value.int .i64))
  op : w'.ownsRow 0 3 1 (.slice (some ⟨gp, 0, none⟩) b.places.length cp) b.places.length (b.places.map (Value.int .i64))
def trapAgg (b : BT) (gd cd gs cs gp cp : Nat) : Value := .agg #[.int .i64 b.n, .slice (some ⟨gd, 0, none⟩) b.doors.length cd, .slice (some ⟨gs, 0, none⟩) b.seen.length cs, .int .i64 b.look, .int .i64 b.eats, .slice (some ⟨gp, 0, none⟩) b.places.length cp]
def bCopyP (b : BT) (w : World) (e : Ending) (w' : World) : Prop := ∃ gd cd gs cs gp cp, e = .returned (trapAgg b gd cd gs cs gp cp) ∧ OwnTrap b w gd cd gs cs gp cp w'
theorem DoorsAt.own {w : World} {l : List BD} {g c : Nat} (hl : l.length ≤ 140737488355328) (h : w.ownsRow 0 43 3 (.slice (some ⟨g, 0, none⟩) l.length c) l.length (doorCells l)) : DoorsAt w (.slice (some ⟨g, 0, none⟩) l.length c) l := by
  rcases h.2 with ⟨e, _⟩ | ⟨g', cap, cur, e, _, hh, hnc, _⟩
  · cases e
  · injection e with e1 e2 e3
    refine ⟨_, c, g, 0, rfl, fun _ => rfl, ⟨hl, by omega⟩, fun i hi => ?_⟩
    have hcl := h.cells (g := g) rfl
    have key : ∀ j, j < l.length * 3 → w.cell? ⟨g, 0 + j, none⟩ = some (dcell l j) := fun j hj => by rw [← addr_off]; exact hcl j _ (doorCells_at l j hj)
    refine ⟨?_, ?_, ?_⟩
    · rw [key (i * 3) (by omega)]; unfold dcell; rw [if_pos (by omega), show i * 3 / 3 = i by omega]
    · rw [Nat.add_assoc, key (i * 3 + 1) (by omega)]; unfold dcell; rw [if_neg (by omega), if_pos (by omega), show (i * 3 + 1) / 3 = i by omega]
    · rw [Nat.add_assoc, key (i * 3 + 2) (by omega)]; unfold dcell; rw [if_neg (by omega), if_neg (by omega), show (i * 3 + 2) / 3 = i by omega]
theorem OwnTrap.at {b : BT} {w w' : World} {gd cd gs cs gp cp : Nat} (h : OwnTrap b w gd cd gs cs gp cp w') (h1 : b.doors.length ≤ 1000) (h2 : b.seen.length ≤ 1000) (h3 : b.places.length ≤ 1000) : BTrapAt w' (trapAgg b gd cd gs cs gp cp) b :=
  ⟨_, _, _, rfl, DoorsAt.own (by omega) h.od, ownInts (by omega) h.os, ownInts (by omega) h.op⟩
theorem ints_src {w : World} {a : Option Addr} {c b off : Nat} {l : List Int} (ha : 0 < l.length → a = some ⟨b, off, none⟩) (hc : ∀ i, i < l.length → w.cell? ⟨b, off + i, none⟩ = some (.int .i64 (at0 l i))) :
    0 < l.length → ∃ b, a = some b ∧ ∀ j u, (l.map (Value.int .i64))[j]? = some u → w.cell? (b.add j) = some u := fun h0 => ⟨_, ha h0, fun j u hu => by
    obtain ⟨q, hq⟩ := List.getElem?_eq_some_iff.1 hu
    have hj : j < l.length := by simpa using q
    have e : u = .int .i64 (at0 l j) := by rw [← hq]; unfold at0; simp [List.getD, hj]
    rw [e, addr_off]
    exact hc j hj⟩
theorem bCopy_any (b : BT) (v : Value) (w : World) (hv : BTrapAt w v b) (h1 : b.doors.length ≤ 1000) (h2 : b.seen.length ≤ 1000) (h3 : b.places.length ≤ 1000) : Calls Tryd.prog 17 #[v] w (bCopyP b w) := by
  obtain ⟨da, dc, sa, sc, pa, pc, rfl, hd, hs, hp⟩ := hv.open
  obtain ⟨db, doff, hda, _, _, hdc⟩ := hd.open
  obtain ⟨sb, soff, hsa, _, _, hsc⟩ := hs.open
  obtain ⟨pb, poff, hpa, _, _, hpc⟩ := hp.open
  have HSD := Lib.hid (fun wx (hx : Bel w wx) => (show 0 < b.doors.length → ∃ ad, da = some ad ∧ ∀ j u, (doorCells b.doors)[j]? = some u → wx.cell? (ad.add j) = some u from fun h0 => ⟨_, hda h0, doors_src fun i hi => ⟨hx.cell (hdc i hi).1, hx.cell (hdc i hi).2.1, hx.cell (hdc i hi).2.2⟩⟩))
  have HSS := Lib.hid (fun wx (hx : Bel w wx) => ints_src (w := wx) (c := sc) hsa fun i hi => hx.cell (hsc i hi))
  have HSP := Lib.hid (fun wx (hx : Bel w wx) => ints_src (w := wx) (c := pc) hpa fun i hi => hx.cell (hpc i hi))
  obtain ⟨i1, hi1, hz1, hs1, hb1⟩ := info_parts mkInt
  obtain ⟨i3, hi3, hz3, hs3, hb3⟩ := info_parts mkDoor
  have HI1 := Lib.hid hi1
  have HZ1 := Lib.hid hz1
  have HI3 := Lib.hid hi3
  have HZ3 := Lib.hid hz3
  clear hv hd hs hp hda hsa hpa hdc hsc hpc hi1 hz1 hi3 hz3
  go_enter Tryd.func17, Tryd.ntmps17
  go_upto_region 2 with fail
  generalize hW0 : World.alloc _ _ = W0
  have HO : Hid (OBox w W0 b (.slice da b.doors.length dc) (.slice sa b.seen.length sc) (.slice pa b.places.length pc) (.slice da b.doors.length dc) (.slice sa b.seen.length sc) (.slice pa b.places.length pc)) := Lib.hid (by
    rw [← hW0]
    exact OBox.make)
  clear hW0
  have HO0 := HO
  clear HO
  have HFR0 : Hid ((W0.alloc (.cells #[] 43)).ownsRow 0 43 3 (.slice (some ⟨W0.heap.size, 0, none⟩) 0 0) 0 []) := Lib.hid (fresh_row (new_row rfl))
  have l0 := HO0.out.lt
  have x0 := HO0.out.x1
  have lx0 := cell_lt x0
  go_upto_region 3 with (at_builtin; refine wpList_append_opt rfl _ _ 22 rfl 43 i3 (.agg #[.int .i64 0, .int .i64 0, .int .i64 0]) 3 24 Tryd.underlying22 HI3.out HZ3.out hs3 hb3 rfl (by decide) _ 0 [] rfl HFR0.out da b.doors.length dc (doorCells b.doors) rfl (doorCells_len b.doors) (HSD.out _ (HO0.out.bel.alloc _)) (doorCells_one b.doors) (by unfold maxLen; omega) (by omega) ?_; intro V w0 hown hgrow hwhere; obtain ⟨g0, c0, rfl, hg0, lg0, HK, HW0⟩ := copy_stage hown hgrow hwhere; have HOw0 := Lib.hid (HO0.out.step HK.out); have o0 := HOw0.out.o1; have lo0 := cell_lt o0; have f0 := HOw0.out.f2; clear hown hgrow hwhere)
  generalize hW : World.setCell _ _ _ = W1
  have HO1 : Hid (OBox w W1 b (.slice da b.doors.length dc) (.slice sa b.seen.length sc) (.slice pa b.places.length pc) (.slice (some ⟨g0, 0, none⟩) b.doors.length c0) (.slice sa b.seen.length sc) (.slice pa b.places.length pc)) := Lib.hid (by rw [← hW]; exact HOw0.out.set1 _)
  have hsz1 : w0.heap.size = W1.heap.size := by rw [← hW, World.size_setCell]
  have HR0_1 : Hid (W1.ownsRow 0 43 3 (.slice (some ⟨g0, 0, none⟩) b.doors.length c0) b.doors.length (doorCells b.doors)) := Lib.hid (by rw [← hW]; exact own_set HW0.out (fun g hg => by injection hg with hg; subst hg; show g0 ≠ w.heap.size + 1 + 1; omega))
  clear hW HFR0 x0 lx0 o0 lo0 f0 HOw0 HO0 HW0 HK
  have HFR1 : Hid ((W1.alloc (.cells #[] 3)).ownsRow 0 3 1 (.slice (some ⟨W1.heap.size, 0, none⟩) 0 0) 0 []) := Lib.hid (fresh_row (new_row rfl))
  have l1 := HO1.out.lt
  have x1 := HO1.out.x2
  have lx1 := cell_lt x1
  go_upto_region 4 with (at_builtin; refine wpList_append_opt rfl _ _ 23 rfl 3 i1 (.int .i64 0) 1 8 Tryd.underlying23 HI1.out HZ1.out hs1 hb1 rfl (by decide) _ 0 [] rfl HFR1.out sa b.seen.length sc (b.seen.map (Value.int .i64)) rfl (by simp) (HSS.out _ (HO1.out.bel.alloc _)) (fun x hx => by simp at hx; obtain ⟨q, _, rfl⟩ := hx; rfl) (by unfold maxLen; omega) (by omega) ?_; intro V w1 hown hgrow hwhere; obtain ⟨g1, c1, rfl, hg1, lg1, HK, HW1⟩ := copy_stage hown hgrow hwhere; have HOw1 := Lib.hid (HO1.out.step HK.out); have o1 := HOw1.out.o2; have lo1 := cell_lt o1; have f1 := HOw1.out.f2; clear hown hgrow hwhere)
  generalize hW : World.setCell _ _ _ = W2
  have HO2 : Hid (OBox w W2 b (.slice da b.doors.length dc) (.slice sa b.seen.length sc) (.slice pa b.places.length pc) (.slice (some ⟨g0, 0, none⟩) b.doors.length c0) (.slice (some ⟨g1, 0, none⟩) b.seen.length c1) (.slice pa b.places.length pc)) := Lib.hid (by rw [← hW]; exact HOw1.out.set2 _)
  have hsz2 : w1.heap.size = W2.heap.size := by rw [← hW, World.size_setCell]
  have HR0_2 : Hid (W2.ownsRow 0 43 3 (.slice (some ⟨g0, 0, none⟩) b.doors.length c0) b.doors.length (doorCells b.doors)) := Lib.hid (by rw [← hW]; exact own_set (ownsRow_bel HR0_1.out HK.out) (fun g hg => by injection hg with hg; subst hg; show g0 ≠ w.heap.size + 1 + 1; omega))
  have HR1_2 : Hid (W2.ownsRow 0 3 1 (.slice (some ⟨g1, 0, none⟩) b.seen.length c1) b.seen.length (b.seen.map (Value.int .i64))) := Lib.hid (by rw [← hW]; exact own_set HW1.out (fun g hg => by injection hg with hg; subst hg; show g1 ≠ w.heap.size + 1 + 1; omega))
  clear hW HFR1 x1 lx1 o1 lo1 f1 HOw1 HO1 HW1 HK
  have HFR2 : Hid ((W2.alloc (.cells #[] 3)).ownsRow 0 3 1 (.slice (some ⟨W2.heap.size, 0, none⟩) 0 0) 0 []) := Lib.hid (fresh_row (new_row rfl))
  have l2 := HO2.out.lt
  have x2 := HO2.out.x5
  have lx2 := cell_lt x2
  go_upto_region 5 with (at_builtin; refine wpList_append_opt rfl _ _ 23 rfl 3 i1 (.int .i64 0) 1 8 Tryd.underlying23 HI1.out HZ1.out hs1 hb1 rfl (by decide) _ 0 [] rfl HFR2.out pa b.places.length pc (b.places.map (Value.int .i64)) rfl (by simp) (HSP.out _ (HO2.out.bel.alloc _)) (fun x hx => by simp at hx; obtain ⟨q, _, rfl⟩ := hx; rfl) (by unfold maxLen; omega) (by omega) ?_; intro V w2 hown hgrow hwhere; obtain ⟨g2, c2, rfl, hg2, lg2, HK, HW2⟩ := copy_stage hown hgrow hwhere; have HOw2 := Lib.hid (HO2.out.step HK.out); have o2 := HOw2.out.o5; have lo2 := cell_lt o2; have f2 := HOw2.out.f2; clear hown hgrow hwhere)
  generalize hW : World.setCell _ _ _ = W3
  have HO3 : Hid (OBox w W3 b (.slice da b.doors.length dc) (.slice sa b.seen.length sc) (.slice pa b.places.length pc) (.slice (some ⟨g0, 0, none⟩) b.doors.length c0) (.slice (some ⟨g1, 0, none⟩) b.seen.length c1) (.slice (some ⟨g2, 0, none⟩) b.places.length c2)) := Lib.hid (by rw [← hW]; exact HOw2.out.set5 _)
  have hsz3 : w2.heap.size = W3.heap.size := by rw [← hW, World.size_setCell]
  have HR0_3 : Hid (W3.ownsRow 0 43 3 (.slice (some ⟨g0, 0, none⟩) b.doors.length c0) b.doors.length (doorCells b.doors)) := Lib.hid (by rw [← hW]; exact own_set (ownsRow_bel HR0_2.out HK.out) (fun g hg => by injection hg with hg; subst hg; show g0 ≠ w.heap.size + 1 + 1; omega))
  have HR1_3 : Hid (W3.ownsRow 0 3 1 (.slice (some ⟨g1, 0, none⟩) b.seen.length c1) b.seen.length (b.seen.map (Value.int .i64))) := Lib.hid (by rw [← hW]; exact own_set (ownsRow_bel HR1_2.out HK.out) (fun g hg => by injection hg with hg; subst hg; show g1 ≠ w.heap.size + 1 + 1; omega))
  have HR2_3 : Hid (W3.ownsRow 0 3 1 (.slice (some ⟨g2, 0, none⟩) b.places.length c2) b.places.length (b.places.map (Value.int .i64))) := Lib.hid (by rw [← hW]; exact own_set HW2.out (fun g hg => by injection hg with hg; subst hg; show g2 ≠ w.heap.size + 1 + 1; omega))
  clear hW HFR2 x2 lx2 o2 lo2 f2 HOw2 HO2 HW2 HK
  obtain ⟨hbel, l3, _, _, _, z0, z1, z2, z3, z4, z5, o0, o1, o2, o3, o4, o5, f1, f2⟩ := HO3.out
  have lo := cell_lt o0
  have lz := cell_lt z0
  go_wp2
  refine bodyPost_ret (v := trapAgg b g0 c0 g1 c1 g2 c2) (by unfold trapAgg; simp [results, Tryd.results17, go_sem, *]) rfl ⟨g0, c0, g1, c1, g2, c2, rfl, ?_⟩
  exact ⟨((((((hbel.setCell (by show w.heap.size ≤ w.heap.size + 1; omega) _).setCell (by show w.heap.size ≤ w.heap.size + 1; omega) _).setCell (by show w.heap.size ≤ w.heap.size + 1; omega) _).setCell (by show w.heap.size ≤ w.heap.size + 1; omega) _).setCell (by show w.heap.size ≤ w.heap.size + 1; omega) _).setCell (by show w.heap.size ≤ w.heap.size + 1; omega) _), by omega, by omega, by omega, (own_set (own_set (own_set (own_set (own_set (own_set HR0_3.out (fun g hg => by injection hg with hg; subst hg; show g0 ≠ w.heap.size + 1; omega)) (fun g hg => by injection hg with hg; subst hg; show g0 ≠ w.heap.size + 1; omega)) (fun g hg => by injection hg with hg; subst hg; show g0 ≠ w.heap.size + 1; omega)) (fun g hg => by injection hg with hg; subst hg; show g0 ≠ w.heap.size + 1; omega)) (fun g hg => by injection hg with hg; subst hg; show g0 ≠ w.heap.size + 1; omega)) (fun g hg => by injection hg with hg; subst hg; show g0 ≠ w.heap.size + 1; omega)), (own_set (own_set (own_set (own_set (own_set (own_set HR1_3.out (fun g hg => by injection hg with hg; subst hg; show g1 ≠ w.heap.size + 1; omega)) (fun g hg => by injection hg with hg; subst hg; show g1 ≠ w.heap.size + 1; omega)) (fun g hg => by injection hg with hg; subst hg; show g1 ≠ w.heap.size + 1; omega)) (fun g hg => by injection hg with hg; subst hg; show g1 ≠ w.heap.size + 1; omega)) (fun g hg => by injection hg with hg; subst hg; show g1 ≠ w.heap.size + 1; omega)) (fun g hg => by injection hg with hg; subst hg; show g1 ≠ w.heap.size + 1; omega)), (own_set (own_set (own_set (own_set (own_set (own_set HR2_3.out (fun g hg => by injection hg with hg; subst hg; show g2 ≠ w.heap.size + 1; omega)) (fun g hg => by injection hg with hg; subst hg; show g2 ≠ w.heap.size + 1; omega)) (fun g hg => by injection hg with hg; subst hg; show g2 ≠ w.heap.size + 1; omega)) (fun g hg => by injection hg with hg; subst hg; show g2 ≠ w.heap.size + 1; omega)) (fun g hg => by injection hg with hg; subst hg; show g2 ≠ w.heap.size + 1; omega)) (fun g hg => by injection hg with hg; subst hg; show g2 ≠ w.heap.size + 1; omega))⟩
end Go.Proofs.YtogiidkofddhaaaDoor
