/-
  reference: Copy.
-/
import Derived.Test.YtkdcdhkhadhcfaaOwnI
import Derived.Test.YtkdcdhkhadhcfaaWords
import Derived.Deep.DeepCutAuto
namespace Go.Proofs.Ytkdcdhkhadhcfaa
open Go Go.RowKit
set_option maxHeartbeats 1000000
set_option maxRecDepth 100000
theorem fresh_own {w : World} {T sz g : Nat} (h : w.heap[g]? = some (.cells #[] T (0, 0))) : w.ownsRow 0 T sz (.slice (some ⟨g, 0, none⟩) 0 0) 0 [] :=
  ⟨by simp, .inr ⟨g, 0, #[], rfl, Nat.zero_le _, h, Nat.le_refl _, by simp, by simp, by simp⟩⟩
theorem new_blk {w : World} {o : Obj} {g : Nat} (h : g = w.heap.size) : (w.alloc o).drew.heap[g]? = some o := by
  subst h
  exact heap_alloc_new ..
theorem new_blk2 {w : World} {o o2 : Obj} {g : Nat} (h : g = w.heap.size) : ((w.alloc o).alloc o2).drew.heap[g]? = some o := by
  subst h
  show ((w.alloc o).alloc o2).heap[w.heap.size]? = _
  rw [heap_alloc_old _ _ (by simp)]
  exact heap_alloc_new ..
theorem ownsRow_set {w : World} {e : TypeId} {s n : Nat} {v u : Value} {xs : List Value} {p : Addr} (h : w.ownsRow 0 e s v n xs) (hp : ∀ g, v.ownBlock = some g → g ≠ p.block) : (w.setCell p u).ownsRow 0 e s v n xs := by
  obtain ⟨h1, h2⟩ := h
  refine ⟨h1, ?_⟩
  rcases h2 with h2 | ⟨g, cap, cur, hv, hg, hh, r⟩
  · exact Or.inl h2
  · exact Or.inr ⟨g, cap, cur, hv, hg, by rw [heap_setCell_other _ _ _ _ (hp g (by rw [hv]; rfl))]; exact hh, r⟩
/-- The box of a new trap. -/
structure CpBox (t : CT) (w0 : World) (p g cap : Nat) (ov : Value) (wx : World) : Prop where
  c0 : wx.cell? ⟨p, 0, none⟩ = some (.int .i64 t.C)
  c1 : wx.cell? ⟨p, 1, none⟩ = some (.int .i64 t.T)
  c2 : wx.cell? ⟨p, 2, none⟩ = some ov
  c3 : wx.cell? ⟨p, 3, none⟩ = some (.slice (some ⟨g, 0, none⟩) t.ws.length cap)
  fz : ∀ o, wx.frozen? ⟨p, o, none⟩ = false
  own : wx.ownsRow 0 53 4 (.slice (some ⟨g, 0, none⟩) t.ws.length cap) t.ws.length (wordCells t.ws)
  far : w0.heap.size ≤ p
  farg : w0.heap.size ≤ g
  ne : g ≠ p
  bel : Bel w0 wx
theorem CpBox.make {t : CT} {w0 wx : World} {p g cap : Nat} (hpb : wx.heap[p]? = some (Obj.cells #[.int .i64 0, .int .i64 0, .slice none 0 0, .slice none 0 0] 47 (0, 0)))
    (hown : wx.ownsRow 0 53 4 (.slice (some ⟨g, 0, none⟩) t.ws.length cap) t.ws.length (wordCells t.ws)) (far : w0.heap.size ≤ p) (farg : w0.heap.size ≤ g) (ne : g ≠ p) (bel : Bel w0 wx) :
    CpBox t w0 p g cap (.slice none 0 0) ((((wx.setCell ⟨p, 0, none⟩ (.int .i64 t.C)).setCell ⟨p, 1, none⟩ (.int .i64 t.T)).setCell ⟨p, 2, none⟩ (.slice none 0 0)).setCell ⟨p, 3, none⟩ (.slice (some ⟨g, 0, none⟩) t.ws.length cap)) := by
  have q0 : wx.cell? ⟨p, 0, none⟩ = some (.int .i64 0) := by simp [World.cell?, hpb]
  have q1 : wx.cell? ⟨p, 1, none⟩ = some (.int .i64 0) := by simp [World.cell?, hpb]
  have q2 : wx.cell? ⟨p, 2, none⟩ = some (.slice none 0 0) := by simp [World.cell?, hpb]
  have q3 : wx.cell? ⟨p, 3, none⟩ = some (.slice none 0 0) := by simp [World.cell?, hpb]
  have e : ∀ (w : World) (a b : Nat) (u : Value), a ≠ b → (w.setCell ⟨p, a, none⟩ u).cell? ⟨p, b, none⟩ = w.cell? ⟨p, b, none⟩ := fun w a b u h => World.cell?_setCell_other _ _ _ _ (by intro q; injection q; omega)
  refine ⟨?_, ?_, ?_, ?_, fun o => ?_, ?_, far, farg, ne, ?_⟩
  · rw [e _ 3 0 _ (by decide), e _ 2 0 _ (by decide), e _ 1 0 _ (by decide), World.cell?_setCell_same _ _ _ (by rw [q0])]
  · rw [e _ 3 1 _ (by decide), e _ 2 1 _ (by decide), World.cell?_setCell_same _ _ _ (by rw [e _ 0 1 _ (by decide), q1])]
  · rw [e _ 3 2 _ (by decide), World.cell?_setCell_same _ _ _ (by rw [e _ 1 2 _ (by decide), e _ 0 2 _ (by decide), q2])]
  · rw [World.cell?_setCell_same _ _ _ (by rw [e _ 2 3 _ (by decide), e _ 1 3 _ (by decide), e _ 0 3 _ (by decide), q3])]
  · rw [World.frozen?_setCell, World.frozen?_setCell, World.frozen?_setCell, World.frozen?_setCell]; simp [World.frozen?, hpb]
  · exact ownsRow_set (ownsRow_set (ownsRow_set (ownsRow_set hown (fun k h => by injection h with h; subst h; exact ne)) (fun k h => by injection h with h; subst h; exact ne)) (fun k h => by injection h with h; subst h; exact ne)) (fun k h => by injection h with h; subst h; exact ne)
  · exact (((bel.setCell far _).setCell far _).setCell far _).setCell far _
theorem CpBox.make2 {t : CT} {w0 w3 : World} {g cap : Nat}
    (hown : w3.ownsRow 0 53 4 (.slice (some ⟨g, 0, none⟩) t.ws.length cap) t.ws.length (wordCells t.ws)) (far : w0.heap.size ≤ w3.heap.size) (farg : w0.heap.size ≤ g) (ne : g ≠ w3.heap.size) (bel : Bel w0 w3) :
    CpBox t w0 w3.heap.size g cap (.slice none 0 0) (w3.alloc (.cells #[.int .i64 t.C, .int .i64 t.T, .slice none 0 0, .slice (some ⟨g, 0, none⟩) t.ws.length cap] 47)) := by
  obtain ⟨h1, h2⟩ := row_facts (heap_alloc_new w3 (.cells #[.int .i64 t.C, .int .i64 t.T, .slice none 0 0, .slice (some ⟨g, 0, none⟩) t.ws.length cap] 47))
  exact ⟨h1 0, h1 1, h1 2, h1 3, h2, ownsRow_bel hown ((Bel.refl _).alloc _), far, farg, ne, bel.alloc _⟩
/-- Between the rounds of Copy. -/
def OffP (lo : Nat) (w : World) (v : Value) (p g : Nat) (q : World → Prop) : Prop :=
  ∀ w', w.heap.size ≤ w'.heap.size → (∀ k, lo ≤ k → k < w.heap.size → some k ≠ v.ownBlock → k ≠ p → k ≠ g → w'.heap[k]? = w.heap[k]?) → q w'
theorem OffP.step {lo : Nat} {wr wa w5 : World} {V V' u : Value} {p g o : Nat} {q : World → Prop} (h : OffP lo wr V p g q) (hb : Bel wr wa) (hg : wa.grownBy w5 V.ownBlock) (hv : V'.ownBlock = V.ownBlock ∨ V'.ownBlock = some wa.heap.size) :
    OffP lo (w5.setCell ⟨p, o, none⟩ u) V' p g q := by
  intro w' hs hk
  refine h w' (by have := hb.szle; have := hg.size; simp at hs; omega) fun k hlo hkl hne hkp hkg => ?_
  have hka : k < wa.heap.size := Nat.lt_of_lt_of_le hkl hb.szle
  rw [hk k hlo (by simp; exact Nat.lt_of_lt_of_le hka hg.size) ?_ hkp hkg, heap_setCell_other _ _ _ _ hkp, hg.block k hka hne, hb.below.block k hkl]
  rcases hv with e | e
  · rw [e]; exact hne
  · rw [e]; intro r; injection r with r; omega
theorem OffP.own {lo : Nat} {w : World} {v x : Value} {p g0 : Nat} {l : List Int} (hl : l.length ≤ 140737488355328) (hx : w.ownsRow 0 3 1 x l.length (l.map (Value.int .i64))) (hlo : ∀ g, x.ownBlock = some g → lo ≤ g) (hv : ∀ g, v.ownBlock = some g → x.ownBlock ≠ some g) (hp : x.ownBlock ≠ some p) (hp0 : x.ownBlock ≠ some g0) : OffP lo w v p g0 fun w' => IntsAt w' x l := by
  intro w' hs hk
  rcases hx.2 with ⟨rfl, e⟩ | ⟨g, cap, cur, rfl, _, hh, hnc, _⟩
  · exact ⟨none, 0, 0, 0, by rw [e], fun q => by omega, ⟨hl, by omega⟩, fun j hj => by omega⟩
  · refine ⟨some ⟨g, 0, none⟩, cap, g, 0, rfl, fun _ => rfl, ⟨hl, hnc⟩, fun j hj => ?_⟩
    have h1 := hx.cells (g := g) rfl j (.int .i64 (at0 l j)) (by unfold at0; simp [List.getD, hj])
    rw [add_off] at h1
    rw [← h1]
    exact World.cell?_of_block (hk g (hlo g rfl) (lt_of_block hh) (fun q => hv g q.symm rfl) (fun q => hp (by rw [← q]; rfl)) (fun q => hp0 (by rw [← q]; rfl)))
theorem ownsRow_keep {w w' : World} {e : TypeId} {s n : Nat} {v : Value} {xs : List Value} (h : w.ownsRow 0 e s v n xs) (hk : ∀ g, v.ownBlock = some g → w'.heap[g]? = w.heap[g]?) : w'.ownsRow 0 e s v n xs := by
  obtain ⟨o1, o2⟩ := h
  refine ⟨o1, ?_⟩
  rcases o2 with o2 | ⟨g', cap', cur, hv', hg', hh, r⟩
  · exact Or.inl o2
  · exact Or.inr ⟨g', cap', cur, hv', hg', by rw [hk g' (by rw [hv']; rfl)]; exact hh, r⟩
structure CpSt (t : CT) (w0 : World) (p g cap n : Nat) (V : Value) (wr : World) : Prop where
  box : CpBox t w0 p g cap V wr
  own : ∃ vs, wr.ownsRow 0 26 1 V n vs ∧ ∀ j, j < n → OffP w0.heap.size wr V p g fun w' => IntsAt w' (vs.getD j undef) (atL t.op j)
  farV : ∀ k, V.ownBlock = some k → w0.heap.size ≤ k ∧ k ≠ p ∧ k ≠ g
theorem CpSt.start {t : CT} {w0 wr : World} {p g cap : Nat} (h : CpBox t w0 p g cap (.slice none 0 0) wr) : CpSt t w0 p g cap 0 (.slice none 0 0) wr :=
  ⟨h, ⟨[], World.ownsRow_nil wr 0 _ 1, fun j hj => by omega⟩, fun k q => by simp [Value.ownBlock] at q⟩
theorem CpSt.next {t : CT} {w0 wr wa w5 : World} {p g cap n : Nat} {V V' x : Value} {vs : List Value} {row : List Int} (hrow : atL t.op n = row) (h : CpSt t w0 p g cap n V wr) (hb : Bel wr wa)
    (hvs : wr.ownsRow 0 26 1 V n vs) (hoff : ∀ j, j < n → OffP w0.heap.size wr V p g fun w' => IntsAt w' (vs.getD j undef) (atL t.op j))
    (hl : row.length ≤ 140737488355328)
    (hx : wa.ownsRow 0 3 1 x row.length (row.map (Value.int .i64))) (hxf : ∀ k, x.ownBlock = some k → wr.heap.size ≤ k)
    (ho : w5.ownsRow 0 26 1 V' (n + 1) (vs ++ [x])) (hg : wa.grownBy w5 V.ownBlock) (hv : V'.ownBlock = V.ownBlock ∨ V'.ownBlock = some wa.heap.size) :
    CpSt t w0 p g cap (n + 1) V' (w5.setCell ⟨p, 2, none⟩ V') := by
  subst hrow
  have lp : p < wr.heap.size := cell_lt h.box.c0
  have lg : g < wr.heap.size := ownsRow_lt h.box.own rfl
  have hbp : Bel w0 wa := h.box.bel.trans hb
  have hVp : V.ownBlock ≠ some p := fun q => (h.farV p q).2.1 rfl
  have hVg : V.ownBlock ≠ some g := fun q => (h.farV g q).2.2 rfl
  have kp : ∀ o, w5.cell? ⟨p, o, none⟩ = wr.cell? ⟨p, o, none⟩ := fun o =>
    World.cell?_of_block ((hg.block p (Nat.lt_of_lt_of_le lp hb.szle) (fun q => hVp q.symm)).trans (hb.below.block p lp))
  have sz := hb.szle
  have szg := hg.size
  have farV' : ∀ k, V'.ownBlock = some k → w0.heap.size ≤ k ∧ k ≠ p ∧ k ≠ g := by
    intro k q
    rcases hv with e | e
    · exact h.farV k (by rw [← e]; exact q)
    · rw [e] at q; injection q with q; have := h.box.bel.szle; omega
  have e2 : ∀ o, o ≠ 2 → (w5.setCell ⟨p, 2, none⟩ V').cell? ⟨p, o, none⟩ = wr.cell? ⟨p, o, none⟩ := fun o ho => by
    rw [World.cell?_setCell_other _ _ _ _ (by intro q; injection q with _ q; exact ho q.symm), kp]
  refine ⟨⟨by rw [e2 0 (by omega)]; exact h.box.c0, by rw [e2 1 (by omega)]; exact h.box.c1, World.cell?_setCell_same _ _ _ (by rw [kp, h.box.c2]), by rw [e2 3 (by omega)]; exact h.box.c3, fun o => ?_, ?_, h.box.far, h.box.farg, h.box.ne, ?_⟩, ⟨vs ++ [x], ?_, fun j hj => ?_⟩, farV'⟩
  · rw [World.frozen?_setCell]
    have hh : w5.heap[p]? = wr.heap[p]? := (hg.block p (Nat.lt_of_lt_of_le lp hb.szle) (fun q => hVp q.symm)).trans (hb.below.block p lp)
    have := h.box.fz o
    unfold World.frozen? at this ⊢
    rw [hh]; exact this
  · refine ownsRow_set (ownsRow_keep h.box.own (fun k q => ?_)) (fun k q => by injection q with q; subst q; exact h.box.ne)
    injection q with q; subst q
    rw [hg.block g (Nat.lt_of_lt_of_le lg hb.szle) (fun q => hVg q.symm), hb.below.block g lg]
  · exact (hbp.grown hg (fun k q => (h.farV k q).1)).setCell h.box.far _
  · exact ownsRow_set ho (fun k q => (farV' k q).2.1)
  · have hlv : vs.length = n := by have := hvs.1; omega
    by_cases e : j < n
    · have : (vs ++ [x]).getD j undef = vs.getD j undef := by simp [List.getD, List.getElem?_append_left (show j < vs.length by omega)]
      rw [this]
      exact (hoff j e).step hb hg hv
    · have ej : j = n := by omega
      have : (vs ++ [x]).getD j undef = x := by rw [ej, ← hlv]; simp [List.getD]
      rw [this, ej]
      exact (OffP.own hl hx (fun k r => by have := hxf k r; have := h.box.bel.szle; omega) (fun k q r => by have := hxf k r; have := ownsRow_lt hvs q; omega) (fun r => by have := hxf p r; omega) (fun r => by have := hxf g r; omega)).step (Bel.refl wa) hg hv
theorem CpSt.rows {t : CT} {w0 wr w' : World} {p g cap : Nat} {V : Value} (h40 : t.op.length ≤ 140737488355328) (h : CpSt t w0 p g cap t.op.length V wr)
    (hs : wr.heap.size ≤ w'.heap.size) (hk : ∀ k, w0.heap.size ≤ k → k < wr.heap.size → k ≠ g → w'.heap[k]? = wr.heap[k]?) : RowsAt w' V t.op := by
  obtain ⟨vs, h1', h2⟩ := h.own
  have h1 := ownsRow_keep (w' := w') h1' (fun k q => hk _ (h.farV k q).1 (ownsRow_lt h1' q) (h.farV k q).2.2)
  rcases h1.2 with ⟨rfl, h0⟩ | ⟨gg, capp, cur, rfl, _, hg, hnc, hcm, hcs, htake⟩
  · have : t.op = [] := List.eq_nil_of_length_eq_zero h0
    rw [this]
    exact ⟨none, 0, 0, 0, fun _ => undef, rfl, fun h => absurd h (by simp), by simp, fun i hi => absurd hi (by simp)⟩
  · refine ⟨some ⟨gg, 0, none⟩, capp, gg, 0, fun j => vs.getD j undef, rfl, fun _ => rfl, h40, fun j hj => ⟨?_, h2 j hj w' hs (fun k hlo hl _ _ hg' => hk k hlo hl hg')⟩⟩
    have := World.ownsRow.cellAt (h := h1) j (by omega)
    rw [Nat.zero_add, this]
    have hlen : j < vs.length := by have := h1.1; omega
    simp [List.getD, hlen]
/-- The trap is not greater than memory. -/
structure Room (t : CT) : Prop where
  op : t.op.length * 24 ≤ 140737488351232
  row : ∀ i, i < t.op.length → (atL t.op i).length * 8 ≤ 140737488351232
  ws : t.ws.length * 32 ≤ 140737488351232
def CopyPost (t : CT) (w : World) (e : Ending) (w' : World) : Prop :=
  ∃ oa oc g cap, e = .returned (.agg #[.int .i64 t.C, .int .i64 t.T, .slice oa t.op.length oc, .slice (some ⟨g, 0, none⟩) t.ws.length cap]) ∧ Bel w w' ∧ w.heap.size ≤ g ∧
    w'.ownsRow 0 53 4 (.slice (some ⟨g, 0, none⟩) t.ws.length cap) t.ws.length (wordCells t.ws) ∧
    ∀ w'' : World, w'.heap.size ≤ w''.heap.size → (∀ k, w.heap.size ≤ k → k < w'.heap.size → k ≠ g → w''.heap[k]? = w'.heap[k]?) → RowsAt w'' (.slice oa t.op.length oc) t.op
theorem CopyPost.trap {t : CT} {w w' : World} {e : Ending} (hl : t.ws.length ≤ 140737488355328) (h : CopyPost t w e w') : ∃ v, e = .returned v ∧ Bel w w' ∧ TrapAt w' v t := by
  obtain ⟨oa, oc, g, cap, rfl, hb, _, ho, hr⟩ := h
  exact ⟨_, rfl, hb, _, _, rfl, hr w' (Nat.le_refl _) (fun _ _ _ _ => rfl), WordsAt.own hl ho⟩
theorem CpSt.cls {t : CT} {w0 wr wa w5 : World} {p g cap n : Nat} {V : Value} (h : CpSt t w0 p g cap n V wr) (hb : Bel wr wa) (hg : wa.grownBy w5 V.ownBlock) : (Bel w0 w5 ∧ w5.cell? ⟨p, 2, none⟩ = some V) ∧ ∀ o, w5.frozen? ⟨p, o, none⟩ = false := by
  have lp : p < wr.heap.size := cell_lt h.box.c0
  have hVp : V.ownBlock ≠ some p := fun q => (h.farV p q).2.1 rfl
  have hh : w5.heap[p]? = wr.heap[p]? := (hg.block p (Nat.lt_of_lt_of_le lp hb.szle) (fun q => hVp q.symm)).trans (hb.below.block p lp)
  refine ⟨⟨(h.box.bel.trans hb).grown hg (fun k q => (h.farV k q).1), by rw [World.cell?_of_block hh]; exact h.box.c2⟩, fun o => ?_⟩
  have := h.box.fz o
  unfold World.frozen? at this ⊢
  rw [hh]; exact this
theorem Copy_any (t : CT) (v : Value) (w : World) (hv : TrapAt w v t) (hroom : Room t) : Calls Try.prog 60 #[v] w (CopyPost t w) := by
  obtain ⟨h40, hr40, hw40⟩ := hroom
  obtain ⟨ov, wv, rfl, hr, hw⟩ := hv
  obtain ⟨a, c, b, off, rv, rfl, ha, hlen, hc⟩ := hr
  obtain ⟨wa, wc, wb, woff, rfl, hwa, hwlen, hwc⟩ := hw
  obtain ⟨i1, hi1, hz1, hs1, hb1⟩ := info_parts mkInt
  obtain ⟨i2, hi2, hz2, hs2, hb2⟩ := info_parts mkInts
  obtain ⟨i3, hi3, hz3, hs3, hb3⟩ := info_parts mkWord
  have HI3 := Lib.hid hi3
  have HZ3 := Lib.hid hz3
  have hix := idxRows (c := c) ha
  have HC := Lib.hid hc
  have HWA := Lib.hid hwa
  have HSRC := Lib.hid (fun wx (hbx : Bel w wx) (h0 : 0 < t.ws.length) => (show ∃ ad, wa = some ad ∧ ∀ j u, (wordCells t.ws)[j]? = some u → wx.cell? (ad.add j) = some u from
    ⟨_, hwa h0, fun j u hu => WordsAt.src (fun i hi => ⟨hbx.cell (hwc i hi).1, hbx.cell (hwc i hi).2.1, hbx.cell (hwc i hi).2.2.1, hbx.cell (hwc i hi).2.2.2⟩) j u hu⟩))
  have HR40 := Lib.hid hr40
  clear ha hc hwc hr40 hwa hi3 hz3
  go_enter Try.func60, Try.ntmps60
  go_upto_region 1 with fail
  generalize hW0 : (w.alloc _).alloc _ = W0
  have z0 : w.heap.size + 2 ≤ W0.heap.size := by rw [← hW0]; simp
  have zb0 : w.heap.size < W0.heap.size := by omega
  have zb1 : w.heap.size + 1 < W0.heap.size := by omega
  have hB0 : Bel w W0 := by rw [← hW0]; exact (by repeat (first | assumption | exact Bel.refl _ | refine Bel.drew ?_ | refine Bel.drewN ?_ _ | refine Bel.alloc ?_ _ | refine Bel.setCell ?_ (by simp <;> omega) _ | refine Bel.trans ?_ (by assumption)))
  have p0 : W0.cell? ⟨w.heap.size, 0, none⟩ = some (.int .i64 t.C) := by rw [← hW0]; simp [World.cell?_alloc_lt]
  have p1 : W0.cell? ⟨w.heap.size, 1, none⟩ = some (.int .i64 t.T) := by rw [← hW0]; simp [World.cell?_alloc_lt]
  have p2 : W0.cell? ⟨w.heap.size, 2, none⟩ = some (.slice a t.op.length c) := by rw [← hW0]; simp [World.cell?_alloc_lt]
  have p3 : W0.cell? ⟨w.heap.size, 3, none⟩ = some (.slice wa t.ws.length wc) := by rw [← hW0]; simp [World.cell?_alloc_lt]
  have r0 : W0.cell? ⟨w.heap.size + 1, 0, none⟩ = some (.int .i64 0) := by rw [← hW0]; simp
  have r1 : W0.cell? ⟨w.heap.size + 1, 1, none⟩ = some (.int .i64 0) := by rw [← hW0]; simp
  have r2 : W0.cell? ⟨w.heap.size + 1, 2, none⟩ = some (.slice none 0 0) := by rw [← hW0]; simp
  have r3 : W0.cell? ⟨w.heap.size + 1, 3, none⟩ = some (.slice none 0 0) := by rw [← hW0]; simp
  have rf : ∀ o, W0.frozen? ⟨w.heap.size + 1, o, none⟩ = false := by intro o; rw [← hW0]; simp
  clear hW0
  go_cut [3] (fun s3 wx => ∃ p g cap : Nat, s3 = .pointer (some ⟨p, 0, none⟩) ∧ CpBox t W0 p g cap (.slice none 0 0) wx)
  case first =>
    refine wp_region_mixTB (Plan.seq [0, 1, 2, 3, 5, 6] (.both 4 (.both 7 (Plan.seq [8, 1009] .nil) 9 (Plan.seq [1007, 8] .nil)) 9 (Plan.seq [1004, 1007, 8] .nil))) (by kernel_rfl) (by kernel_rfl) (fun hcur => ?_)
    simp only [Plan.seq, Plan.fill, List.getD_cons_zero, List.getD_cons_succ, Nat.reduceLT, ↓reduceIte, Nat.reduceSub]
    apply mix_pure _ rfl
    · intro w' hw'
      have hcr := hw'.cells
      go_simp
      rfl
    intro K hK
    go_simp
    refine hK _ ?_
    clear hK K
    apply mix_pure _ rfl
    · intro w' hw'
      have hcr := hw'.cells
      go_simp
      rfl
    intro K hK
    go_simp
    refine hK _ ?_
    clear hK K
    apply mix_pure _ rfl
    · intro w' hw'
      have hcr := hw'.cells
      go_simp
      rfl
    intro K hK
    go_simp
    refine hK _ ?_
    clear hK K
    apply mix_pure _ rfl
    · intro w' hw'
      have hcr := hw'.cells
      go_simp
      rfl
    intro K hK
    go_simp
    refine hK _ ?_
    clear hK K
    apply mix_pure _ rfl
    · intro w' hw'
      have hcr := hw'.cells
      go_simp
      rfl
    intro K hK
    go_simp
    refine hK _ ?_
    clear hK K
    apply mix_pure _ rfl
    · intro w' hw'
      have hcr := hw'.cells
      go_simp
      rfl
    intro K hK
    go_simp
    refine hK _ ?_
    clear hK K
    refine mix_both ?_ ?_
    · refine mix_act rfl (fun K hK => ?_)
      go_simp
      refine hK _ _ (by repeat (first | assumption | exact Bel.refl _ | refine Bel.drew ?_ | refine Bel.drewN ?_ _ | refine Bel.alloc ?_ _ | refine Bel.setCell ?_ (by simp <;> omega) _ | refine Bel.trans ?_ (by assumption))) (fun hcur => ?_)
      clear hK K
      refine mix_both ?_ ?_
      · refine mix_act rfl (fun K hK => ?_)
        refine wp_append_opt _ _ 45 (by rfl) 53 i3 _ 4 32 Try.underlying45 HI3.out HZ3.out hs3 hb3 rfl (by decide) _ 0 [] (by rfl) (fresh_own ?_) wa t.ws.length wc (wordCells t.ws) (by rfl) (wordCells_len _) (HSRC.out _ (hB0.trans (by repeat (first | assumption | exact Bel.refl _ | refine Bel.drew ?_ | refine Bel.drewN ?_ _ | refine Bel.alloc ?_ _ | refine Bel.setCell ?_ (by simp <;> omega) _ | refine Bel.trans ?_ (by assumption))))) (wordCells_one _) (by unfold maxLen; omega) (by omega) ?_
        · first | exact new_blk (by simp) | exact new_blk2 (by simp)
        intro wv' w3 hown hgrow hwhere
        obtain ⟨g, cap, rfl⟩ : ∃ g cap, wv' = .slice (some ⟨g, 0, none⟩) t.ws.length cap := by
          rcases hown.2 with ⟨rfl, _⟩ | ⟨g, cap, cur, rfl, _⟩
          · rcases hwhere with h | h <;> simp [Value.ownBlock] at h
          · exact ⟨g, cap, by simp⟩
        refine hK _ _ (Bel.grown (w := World.drew _) (by repeat (first | assumption | exact Bel.refl _ | refine Bel.drew ?_ | refine Bel.drewN ?_ _ | refine Bel.alloc ?_ _ | refine Bel.setCell ?_ (by simp <;> omega) _ | refine Bel.trans ?_ (by assumption))) hgrow (fun k h => by simp [Value.ownBlock] at h ⊢; omega)) (fun hcur => ?_)
        have hown' : w3.ownsRow 0 53 4 (.slice (some ⟨g, 0, none⟩) t.ws.length cap) t.ws.length (wordCells t.ws) := by simpa using hown
        have hgl : g < w3.heap.size := ownsRow_lt hown' rfl
        have hgs := hgrow.size
        simp only [World.size_alloc, World.size_drew] at hgs
        have hwh := hwhere
        simp only [Value.ownBlock, Option.some.injEq, World.size_alloc, World.size_drew] at hwh
        clear hK K
        apply mix_pure _ rfl
        · intro w' hw'
          have hcr := hw'.cells
          go_simp
          rfl
        intro K hK
        go_simp
        refine hK _ ?_
        clear hK K
        refine mix_act rfl (fun K hK => ?_)
        go_simp
        refine hK _ _ (by repeat (first | assumption | exact Bel.refl _ | refine Bel.drew ?_ | refine Bel.drewN ?_ _ | refine Bel.alloc ?_ _ | refine Bel.setCell ?_ (by simp <;> omega) _ | refine Bel.trans ?_ (by assumption))) (fun hcur => ?_)
        clear hK K
        refine mix_tailK rfl (fun K hK => ?_)
        first
          | (have hpb : (World.heap w3)[(W0.heap.size + 1)]? = some (Obj.cells #[.int .i64 0, .int .i64 0, .slice none 0 0, .slice none 0 0] 47 (0, 0)) := (hgrow.block (W0.heap.size + 1) (by simp) (by simp [Value.ownBlock])).trans (new_blk (by simp))
             have HMK := Lib.hid (CpBox.make (w0 := W0) (p := (W0.heap.size + 1)) (g := g) (cap := cap) hpb hown' (by omega) (by omega) (by omega) (by repeat (first | assumption | exact Bel.refl _ | refine Bel.drew ?_ | refine Bel.drewN ?_ _ | refine Bel.alloc ?_ _ | refine Bel.setCell ?_ (by simp <;> omega) _ | refine Bel.trans ?_ (by assumption))))
             have q0 : World.cell? w3 ⟨(W0.heap.size + 1), 0, none⟩ = some (.int .i64 0) := (row_facts hpb).1 _
             have q1 : World.cell? w3 ⟨(W0.heap.size + 1), 1, none⟩ = some (.int .i64 0) := (row_facts hpb).1 _
             have q2 : World.cell? w3 ⟨(W0.heap.size + 1), 2, none⟩ = some (.slice none 0 0) := (row_facts hpb).1 _
             have q3 : World.cell? w3 ⟨(W0.heap.size + 1), 3, none⟩ = some (.slice none 0 0) := (row_facts hpb).1 _
             have qf : ∀ o, World.frozen? w3 ⟨(W0.heap.size + 1), o, none⟩ = false := (row_facts hpb).2
             clear hpb
             go_simp
             refine hK _ _ ?_
             clear hK K q0 q1 q2 q3 qf)
          | (have hpb : (World.heap w3)[W0.heap.size]? = some (Obj.cells #[.int .i64 0, .int .i64 0, .slice none 0 0, .slice none 0 0] 47 (0, 0)) := (hgrow.block W0.heap.size (by simp; omega) (by simp [Value.ownBlock])).trans (new_blk2 rfl)
             have HMK := Lib.hid (CpBox.make (w0 := W0) (p := W0.heap.size) (g := g) (cap := cap) hpb hown' (by omega) (by omega) (by omega) (by repeat (first | assumption | exact Bel.refl _ | refine Bel.drew ?_ | refine Bel.drewN ?_ _ | refine Bel.alloc ?_ _ | refine Bel.setCell ?_ (by simp <;> omega) _ | refine Bel.trans ?_ (by assumption))))
             have q0 : World.cell? w3 ⟨W0.heap.size, 0, none⟩ = some (.int .i64 0) := (row_facts hpb).1 _
             have q1 : World.cell? w3 ⟨W0.heap.size, 1, none⟩ = some (.int .i64 0) := (row_facts hpb).1 _
             have q2 : World.cell? w3 ⟨W0.heap.size, 2, none⟩ = some (.slice none 0 0) := (row_facts hpb).1 _
             have q3 : World.cell? w3 ⟨W0.heap.size, 3, none⟩ = some (.slice none 0 0) := (row_facts hpb).1 _
             have qf : ∀ o, World.frozen? w3 ⟨W0.heap.size, o, none⟩ = false := (row_facts hpb).2
             clear hpb
             go_simp
             refine hK _ _ ?_
             clear hK K q0 q1 q2 q3 qf)
          | (have hpb : (World.heap (w3.alloc (Obj.cells #[.int .i64 0, .int .i64 0, .slice none 0 0, .slice none 0 0] 47)))[w3.heap.size]? = some (Obj.cells #[.int .i64 0, .int .i64 0, .slice none 0 0, .slice none 0 0] 47 (0, 0)) := heap_alloc_new ..
             have HMK := Lib.hid (CpBox.make2 (t := t) (w0 := W0) (g := g) (cap := cap) hown' (by omega) (by omega) (by omega) (by repeat (first | assumption | exact Bel.refl _ | refine Bel.drew ?_ | refine Bel.drewN ?_ _ | refine Bel.alloc ?_ _ | refine Bel.setCell ?_ (by simp <;> omega) _ | refine Bel.trans ?_ (by assumption))))
             have q0 : World.cell? (w3.alloc (Obj.cells #[.int .i64 0, .int .i64 0, .slice none 0 0, .slice none 0 0] 47)) ⟨w3.heap.size, 0, none⟩ = some (.int .i64 0) := (row_facts hpb).1 _
             have q1 : World.cell? (w3.alloc (Obj.cells #[.int .i64 0, .int .i64 0, .slice none 0 0, .slice none 0 0] 47)) ⟨w3.heap.size, 1, none⟩ = some (.int .i64 0) := (row_facts hpb).1 _
             have q2 : World.cell? (w3.alloc (Obj.cells #[.int .i64 0, .int .i64 0, .slice none 0 0, .slice none 0 0] 47)) ⟨w3.heap.size, 2, none⟩ = some (.slice none 0 0) := (row_facts hpb).1 _
             have q3 : World.cell? (w3.alloc (Obj.cells #[.int .i64 0, .int .i64 0, .slice none 0 0, .slice none 0 0] 47)) ⟨w3.heap.size, 3, none⟩ = some (.slice none 0 0) := (row_facts hpb).1 _
             have qf : ∀ o, World.frozen? (w3.alloc (Obj.cells #[.int .i64 0, .int .i64 0, .slice none 0 0, .slice none 0 0] 47)) ⟨w3.heap.size, o, none⟩ = false := (row_facts hpb).2
             clear hpb
             go_simp
             refine hK _ _ ?_
             clear hK K q0 q1 q2 q3 qf)
        go_wp2_with fail
        go_meet
        exact ⟨_, g, cap, rfl, HMK.out⟩
      · refine mix_act rfl (fun K hK => ?_)
        go_simp
        refine hK _ _ (by repeat (first | assumption | exact Bel.refl _ | refine Bel.drew ?_ | refine Bel.drewN ?_ _ | refine Bel.alloc ?_ _ | refine Bel.setCell ?_ (by simp <;> omega) _ | refine Bel.trans ?_ (by assumption))) (fun hcur => ?_)
        clear hK K
        refine mix_act rfl (fun K hK => ?_)
        refine wp_append_opt _ _ 45 (by rfl) 53 i3 _ 4 32 Try.underlying45 HI3.out HZ3.out hs3 hb3 rfl (by decide) _ 0 [] (by rfl) (fresh_own ?_) wa t.ws.length wc (wordCells t.ws) (by rfl) (wordCells_len _) (HSRC.out _ (hB0.trans (by repeat (first | assumption | exact Bel.refl _ | refine Bel.drew ?_ | refine Bel.drewN ?_ _ | refine Bel.alloc ?_ _ | refine Bel.setCell ?_ (by simp <;> omega) _ | refine Bel.trans ?_ (by assumption))))) (wordCells_one _) (by unfold maxLen; omega) (by omega) ?_
        · first | exact new_blk (by simp) | exact new_blk2 (by simp)
        intro wv' w3 hown hgrow hwhere
        obtain ⟨g, cap, rfl⟩ : ∃ g cap, wv' = .slice (some ⟨g, 0, none⟩) t.ws.length cap := by
          rcases hown.2 with ⟨rfl, _⟩ | ⟨g, cap, cur, rfl, _⟩
          · rcases hwhere with h | h <;> simp [Value.ownBlock] at h
          · exact ⟨g, cap, by simp⟩
        refine hK _ _ (Bel.grown (w := World.drew _) (by repeat (first | assumption | exact Bel.refl _ | refine Bel.drew ?_ | refine Bel.drewN ?_ _ | refine Bel.alloc ?_ _ | refine Bel.setCell ?_ (by simp <;> omega) _ | refine Bel.trans ?_ (by assumption))) hgrow (fun k h => by simp [Value.ownBlock] at h ⊢; omega)) (fun hcur => ?_)
        have hown' : w3.ownsRow 0 53 4 (.slice (some ⟨g, 0, none⟩) t.ws.length cap) t.ws.length (wordCells t.ws) := by simpa using hown
        have hgl : g < w3.heap.size := ownsRow_lt hown' rfl
        have hgs := hgrow.size
        simp only [World.size_alloc, World.size_drew] at hgs
        have hwh := hwhere
        simp only [Value.ownBlock, Option.some.injEq, World.size_alloc, World.size_drew] at hwh
        clear hK K
        apply mix_pure _ rfl
        · intro w' hw'
          have hcr := hw'.cells
          go_simp
          rfl
        intro K hK
        go_simp
        refine hK _ ?_
        clear hK K
        refine mix_tailK rfl (fun K hK => ?_)
        first
          | (have hpb : (World.heap w3)[(W0.heap.size + 1)]? = some (Obj.cells #[.int .i64 0, .int .i64 0, .slice none 0 0, .slice none 0 0] 47 (0, 0)) := (hgrow.block (W0.heap.size + 1) (by simp) (by simp [Value.ownBlock])).trans (new_blk (by simp))
             have HMK := Lib.hid (CpBox.make (w0 := W0) (p := (W0.heap.size + 1)) (g := g) (cap := cap) hpb hown' (by omega) (by omega) (by omega) (by repeat (first | assumption | exact Bel.refl _ | refine Bel.drew ?_ | refine Bel.drewN ?_ _ | refine Bel.alloc ?_ _ | refine Bel.setCell ?_ (by simp <;> omega) _ | refine Bel.trans ?_ (by assumption))))
             have q0 : World.cell? w3 ⟨(W0.heap.size + 1), 0, none⟩ = some (.int .i64 0) := (row_facts hpb).1 _
             have q1 : World.cell? w3 ⟨(W0.heap.size + 1), 1, none⟩ = some (.int .i64 0) := (row_facts hpb).1 _
             have q2 : World.cell? w3 ⟨(W0.heap.size + 1), 2, none⟩ = some (.slice none 0 0) := (row_facts hpb).1 _
             have q3 : World.cell? w3 ⟨(W0.heap.size + 1), 3, none⟩ = some (.slice none 0 0) := (row_facts hpb).1 _
             have qf : ∀ o, World.frozen? w3 ⟨(W0.heap.size + 1), o, none⟩ = false := (row_facts hpb).2
             clear hpb
             go_simp
             refine hK _ _ ?_
             clear hK K q0 q1 q2 q3 qf)
          | (have hpb : (World.heap w3)[W0.heap.size]? = some (Obj.cells #[.int .i64 0, .int .i64 0, .slice none 0 0, .slice none 0 0] 47 (0, 0)) := (hgrow.block W0.heap.size (by simp; omega) (by simp [Value.ownBlock])).trans (new_blk2 rfl)
             have HMK := Lib.hid (CpBox.make (w0 := W0) (p := W0.heap.size) (g := g) (cap := cap) hpb hown' (by omega) (by omega) (by omega) (by repeat (first | assumption | exact Bel.refl _ | refine Bel.drew ?_ | refine Bel.drewN ?_ _ | refine Bel.alloc ?_ _ | refine Bel.setCell ?_ (by simp <;> omega) _ | refine Bel.trans ?_ (by assumption))))
             have q0 : World.cell? w3 ⟨W0.heap.size, 0, none⟩ = some (.int .i64 0) := (row_facts hpb).1 _
             have q1 : World.cell? w3 ⟨W0.heap.size, 1, none⟩ = some (.int .i64 0) := (row_facts hpb).1 _
             have q2 : World.cell? w3 ⟨W0.heap.size, 2, none⟩ = some (.slice none 0 0) := (row_facts hpb).1 _
             have q3 : World.cell? w3 ⟨W0.heap.size, 3, none⟩ = some (.slice none 0 0) := (row_facts hpb).1 _
             have qf : ∀ o, World.frozen? w3 ⟨W0.heap.size, o, none⟩ = false := (row_facts hpb).2
             clear hpb
             go_simp
             refine hK _ _ ?_
             clear hK K q0 q1 q2 q3 qf)
          | (have hpb : (World.heap (w3.alloc (Obj.cells #[.int .i64 0, .int .i64 0, .slice none 0 0, .slice none 0 0] 47)))[w3.heap.size]? = some (Obj.cells #[.int .i64 0, .int .i64 0, .slice none 0 0, .slice none 0 0] 47 (0, 0)) := heap_alloc_new ..
             have HMK := Lib.hid (CpBox.make2 (t := t) (w0 := W0) (g := g) (cap := cap) hown' (by omega) (by omega) (by omega) (by repeat (first | assumption | exact Bel.refl _ | refine Bel.drew ?_ | refine Bel.drewN ?_ _ | refine Bel.alloc ?_ _ | refine Bel.setCell ?_ (by simp <;> omega) _ | refine Bel.trans ?_ (by assumption))))
             have q0 : World.cell? (w3.alloc (Obj.cells #[.int .i64 0, .int .i64 0, .slice none 0 0, .slice none 0 0] 47)) ⟨w3.heap.size, 0, none⟩ = some (.int .i64 0) := (row_facts hpb).1 _
             have q1 : World.cell? (w3.alloc (Obj.cells #[.int .i64 0, .int .i64 0, .slice none 0 0, .slice none 0 0] 47)) ⟨w3.heap.size, 1, none⟩ = some (.int .i64 0) := (row_facts hpb).1 _
             have q2 : World.cell? (w3.alloc (Obj.cells #[.int .i64 0, .int .i64 0, .slice none 0 0, .slice none 0 0] 47)) ⟨w3.heap.size, 2, none⟩ = some (.slice none 0 0) := (row_facts hpb).1 _
             have q3 : World.cell? (w3.alloc (Obj.cells #[.int .i64 0, .int .i64 0, .slice none 0 0, .slice none 0 0] 47)) ⟨w3.heap.size, 3, none⟩ = some (.slice none 0 0) := (row_facts hpb).1 _
             have qf : ∀ o, World.frozen? (w3.alloc (Obj.cells #[.int .i64 0, .int .i64 0, .slice none 0 0, .slice none 0 0] 47)) ⟨w3.heap.size, o, none⟩ = false := (row_facts hpb).2
             clear hpb
             go_simp
             refine hK _ _ ?_
             clear hK K q0 q1 q2 q3 qf)
        go_wp2_with fail
        go_meet
        exact ⟨_, g, cap, rfl, HMK.out⟩
    · refine mix_act rfl (fun K hK => ?_)
      go_simp
      refine hK _ _ (by repeat (first | assumption | exact Bel.refl _ | refine Bel.drew ?_ | refine Bel.drewN ?_ _ | refine Bel.alloc ?_ _ | refine Bel.setCell ?_ (by simp <;> omega) _ | refine Bel.trans ?_ (by assumption))) (fun hcur => ?_)
      clear hK K
      refine mix_act rfl (fun K hK => ?_)
      go_simp
      refine hK _ _ (by repeat (first | assumption | exact Bel.refl _ | refine Bel.drew ?_ | refine Bel.drewN ?_ _ | refine Bel.alloc ?_ _ | refine Bel.setCell ?_ (by simp <;> omega) _ | refine Bel.trans ?_ (by assumption))) (fun hcur => ?_)
      clear hK K
      refine mix_act rfl (fun K hK => ?_)
      refine wp_append_opt _ _ 45 (by rfl) 53 i3 _ 4 32 Try.underlying45 HI3.out HZ3.out hs3 hb3 rfl (by decide) _ 0 [] (by rfl) (fresh_own ?_) wa t.ws.length wc (wordCells t.ws) (by rfl) (wordCells_len _) (HSRC.out _ (hB0.trans (by repeat (first | assumption | exact Bel.refl _ | refine Bel.drew ?_ | refine Bel.drewN ?_ _ | refine Bel.alloc ?_ _ | refine Bel.setCell ?_ (by simp <;> omega) _ | refine Bel.trans ?_ (by assumption))))) (wordCells_one _) (by unfold maxLen; omega) (by omega) ?_
      · first | exact new_blk (by simp) | exact new_blk2 (by simp)
      intro wv' w3 hown hgrow hwhere
      obtain ⟨g, cap, rfl⟩ : ∃ g cap, wv' = .slice (some ⟨g, 0, none⟩) t.ws.length cap := by
        rcases hown.2 with ⟨rfl, _⟩ | ⟨g, cap, cur, rfl, _⟩
        · rcases hwhere with h | h <;> simp [Value.ownBlock] at h
        · exact ⟨g, cap, by simp⟩
      refine hK _ _ (Bel.grown (w := World.drew _) (by repeat (first | assumption | exact Bel.refl _ | refine Bel.drew ?_ | refine Bel.drewN ?_ _ | refine Bel.alloc ?_ _ | refine Bel.setCell ?_ (by simp <;> omega) _ | refine Bel.trans ?_ (by assumption))) hgrow (fun k h => by simp [Value.ownBlock] at h ⊢; omega)) (fun hcur => ?_)
      have hown' : w3.ownsRow 0 53 4 (.slice (some ⟨g, 0, none⟩) t.ws.length cap) t.ws.length (wordCells t.ws) := by simpa using hown
      have hgl : g < w3.heap.size := ownsRow_lt hown' rfl
      have hgs := hgrow.size
      simp only [World.size_alloc, World.size_drew] at hgs
      have hwh := hwhere
      simp only [Value.ownBlock, Option.some.injEq, World.size_alloc, World.size_drew] at hwh
      clear hK K
      apply mix_pure _ rfl
      · intro w' hw'
        have hcr := hw'.cells
        go_simp
        rfl
      intro K hK
      go_simp
      refine hK _ ?_
      clear hK K
      refine mix_tailK rfl (fun K hK => ?_)
      first
        | (have hpb : (World.heap w3)[(W0.heap.size + 1)]? = some (Obj.cells #[.int .i64 0, .int .i64 0, .slice none 0 0, .slice none 0 0] 47 (0, 0)) := (hgrow.block (W0.heap.size + 1) (by simp) (by simp [Value.ownBlock])).trans (new_blk (by simp))
           have HMK := Lib.hid (CpBox.make (w0 := W0) (p := (W0.heap.size + 1)) (g := g) (cap := cap) hpb hown' (by omega) (by omega) (by omega) (by repeat (first | assumption | exact Bel.refl _ | refine Bel.drew ?_ | refine Bel.drewN ?_ _ | refine Bel.alloc ?_ _ | refine Bel.setCell ?_ (by simp <;> omega) _ | refine Bel.trans ?_ (by assumption))))
           have q0 : World.cell? w3 ⟨(W0.heap.size + 1), 0, none⟩ = some (.int .i64 0) := (row_facts hpb).1 _
           have q1 : World.cell? w3 ⟨(W0.heap.size + 1), 1, none⟩ = some (.int .i64 0) := (row_facts hpb).1 _
           have q2 : World.cell? w3 ⟨(W0.heap.size + 1), 2, none⟩ = some (.slice none 0 0) := (row_facts hpb).1 _
           have q3 : World.cell? w3 ⟨(W0.heap.size + 1), 3, none⟩ = some (.slice none 0 0) := (row_facts hpb).1 _
           have qf : ∀ o, World.frozen? w3 ⟨(W0.heap.size + 1), o, none⟩ = false := (row_facts hpb).2
           clear hpb
           go_simp
           refine hK _ _ ?_
           clear hK K q0 q1 q2 q3 qf)
        | (have hpb : (World.heap w3)[W0.heap.size]? = some (Obj.cells #[.int .i64 0, .int .i64 0, .slice none 0 0, .slice none 0 0] 47 (0, 0)) := (hgrow.block W0.heap.size (by simp; omega) (by simp [Value.ownBlock])).trans (new_blk2 rfl)
           have HMK := Lib.hid (CpBox.make (w0 := W0) (p := W0.heap.size) (g := g) (cap := cap) hpb hown' (by omega) (by omega) (by omega) (by repeat (first | assumption | exact Bel.refl _ | refine Bel.drew ?_ | refine Bel.drewN ?_ _ | refine Bel.alloc ?_ _ | refine Bel.setCell ?_ (by simp <;> omega) _ | refine Bel.trans ?_ (by assumption))))
           have q0 : World.cell? w3 ⟨W0.heap.size, 0, none⟩ = some (.int .i64 0) := (row_facts hpb).1 _
           have q1 : World.cell? w3 ⟨W0.heap.size, 1, none⟩ = some (.int .i64 0) := (row_facts hpb).1 _
           have q2 : World.cell? w3 ⟨W0.heap.size, 2, none⟩ = some (.slice none 0 0) := (row_facts hpb).1 _
           have q3 : World.cell? w3 ⟨W0.heap.size, 3, none⟩ = some (.slice none 0 0) := (row_facts hpb).1 _
           have qf : ∀ o, World.frozen? w3 ⟨W0.heap.size, o, none⟩ = false := (row_facts hpb).2
           clear hpb
           go_simp
           refine hK _ _ ?_
           clear hK K q0 q1 q2 q3 qf)
        | (have hpb : (World.heap (w3.alloc (Obj.cells #[.int .i64 0, .int .i64 0, .slice none 0 0, .slice none 0 0] 47)))[w3.heap.size]? = some (Obj.cells #[.int .i64 0, .int .i64 0, .slice none 0 0, .slice none 0 0] 47 (0, 0)) := heap_alloc_new ..
           have HMK := Lib.hid (CpBox.make2 (t := t) (w0 := W0) (g := g) (cap := cap) hown' (by omega) (by omega) (by omega) (by repeat (first | assumption | exact Bel.refl _ | refine Bel.drew ?_ | refine Bel.drewN ?_ _ | refine Bel.alloc ?_ _ | refine Bel.setCell ?_ (by simp <;> omega) _ | refine Bel.trans ?_ (by assumption))))
           have q0 : World.cell? (w3.alloc (Obj.cells #[.int .i64 0, .int .i64 0, .slice none 0 0, .slice none 0 0] 47)) ⟨w3.heap.size, 0, none⟩ = some (.int .i64 0) := (row_facts hpb).1 _
           have q1 : World.cell? (w3.alloc (Obj.cells #[.int .i64 0, .int .i64 0, .slice none 0 0, .slice none 0 0] 47)) ⟨w3.heap.size, 1, none⟩ = some (.int .i64 0) := (row_facts hpb).1 _
           have q2 : World.cell? (w3.alloc (Obj.cells #[.int .i64 0, .int .i64 0, .slice none 0 0, .slice none 0 0] 47)) ⟨w3.heap.size, 2, none⟩ = some (.slice none 0 0) := (row_facts hpb).1 _
           have q3 : World.cell? (w3.alloc (Obj.cells #[.int .i64 0, .int .i64 0, .slice none 0 0, .slice none 0 0] 47)) ⟨w3.heap.size, 3, none⟩ = some (.slice none 0 0) := (row_facts hpb).1 _
           have qf : ∀ o, World.frozen? (w3.alloc (Obj.cells #[.int .i64 0, .int .i64 0, .slice none 0 0, .slice none 0 0] 47)) ⟨w3.heap.size, o, none⟩ = false := (row_facts hpb).2
           clear hpb
           go_simp
           refine hK _ _ ?_
           clear hK K q0 q1 q2 q3 qf)
      go_wp2_with fail
      go_meet
      exact ⟨_, g, cap, rfl, HMK.out⟩
  case rest =>
    obtain ⟨p, g, cap, rfl, hbox⟩ := hcut
    have HST := Lib.hid (CpSt.start hbox)
    clear hbox
    go_wp2
    go_loopw [4] (fun i wr => ∃ (n : Nat) (V : Value), n ≤ t.op.length ∧ i = .int .i64 n ∧ CpSt t W0 p g cap n V wr) (fun i _ => t.op.length - (intOf i).toNat)
    case atStart => exact ⟨0, _, by omega, rfl, HST.out⟩
    case round =>
      obtain ⟨n, V, hn, rfl, hS⟩ := hrel
      have e2 := hS.box.bel.cell p2
      by_cases hlt : n < t.op.length
      · have hni : (n : Int) < (t.op.length : Int) := by omega
        obtain ⟨hci, hri⟩ := HC.out n hlt
        have hr := HR40.out n hlt
        obtain ⟨ai, ci, bi, offi, hrv, hai, hleni, hcells⟩ := hri
        rw [hrv] at hci
        clear hrv
        obtain ⟨vs, hown, hoff⟩ := hS.own
        have HLI := Lib.hid hleni.1
        have HCI := Lib.hid hci
        have HP2 := Lib.hid p2
        have HCLS := Lib.hid (fun (w' : World) (k : Bel wr w') => (show Bel W0 w' ∧ w'.cell? ⟨p, 2, none⟩ = some V from ⟨hS.box.bel.trans k, k.cell hS.box.c2⟩))
        have HBW := Lib.hid (hB0.trans hS.box.bel)
        have HS := Lib.hid hS
        have HOWN := Lib.hid hown
        have HOFF := Lib.hid hoff
        have HSR := Lib.hid (fun (wx : World) (hbx : Bel w wx) (h0 : 0 < (atL t.op n).length) => (show ∃ ad, ai = some ad ∧ ∀ j u, ((atL t.op n).map (Value.int .i64))[j]? = some u → wx.cell? (ad.add j) = some u from
          ⟨_, hai h0, fun j u hu => by
            have hj : j < (atL t.op n).length := by
              rcases Nat.lt_or_ge j (atL t.op n).length with q | q
              · exact q
              · rw [List.getElem?_eq_none (by simpa using q)] at hu; cases hu
            have hu2 : u = .int .i64 (at0 (atL t.op n) j) := by
              rw [List.getElem?_map, List.getElem?_eq_getElem hj] at hu
              simp at hu
              rw [← hu]; unfold at0; simp [List.getD, hj]
            rw [add_off, hu2]
            exact hbx.cell (hcells j hj)⟩))
        clear hS hown hoff hci hai hcells hleni
        generalize hrow : atL t.op n = row at *
        go_wp2
        refine wp_region_mixTC (Plan.seq [0, 1, 3, 4, 5, 6, 7, 1002, 1008, 1009, 1010, 11] .nil) (fun w' => Bel W0 w' ∧ w'.cell? ⟨p, 2, none⟩ = some V) (by kernel_rfl) (by kernel_rfl) (HCLS.out _ (by repeat (first | assumption | exact Bel.refl _ | refine Bel.drew ?_ | refine Bel.drewN ?_ _ | refine Bel.alloc ?_ _ | refine Bel.setCell ?_ (by simp <;> omega) _ | refine Bel.trans ?_ (by assumption)))) (fun hcur => ?_)
        simp only [Plan.seq, Plan.fill, List.getD_cons_zero, List.getD_cons_succ, Nat.reduceLT, ↓reduceIte, Nat.reduceSub]
        apply mix_pure _ rfl
        · intro w' hw'
          obtain ⟨hwb, hwp⟩ := hw'
          have k1 := hwb.cell HP2.out
          have k2 := (hB0.trans hwb).cell HCI.out
          go_simp
          rfl
        intro K hK
        go_simp
        refine hK _ ?_
        clear hK K
        apply mix_pure _ rfl
        · intro w' hw'
          obtain ⟨hwb, hwp⟩ := hw'
          have k1 := hwb.cell HP2.out
          have k2 := (hB0.trans hwb).cell HCI.out
          go_simp
          rfl
        intro K hK
        go_simp
        refine hK _ ?_
        clear hK K
        apply mix_pure _ rfl
        · intro w' hw'
          obtain ⟨hwb, hwp⟩ := hw'
          have k1 := hwb.cell HP2.out
          have k2 := (hB0.trans hwb).cell HCI.out
          go_simp
          rfl
        intro K hK
        go_simp
        refine hK _ ?_
        clear hK K
        apply mix_pure _ rfl
        · intro w' hw'
          obtain ⟨hwb, hwp⟩ := hw'
          have k1 := hwb.cell HP2.out
          have k2 := (hB0.trans hwb).cell HCI.out
          go_simp
          rfl
        intro K hK
        go_simp
        refine hK _ ?_
        clear hK K
        apply mix_pure _ rfl
        · intro w' hw'
          obtain ⟨hwb, hwp⟩ := hw'
          have k1 := hwb.cell HP2.out
          have k2 := (hB0.trans hwb).cell HCI.out
          go_simp
          rfl
        intro K hK
        go_simp
        refine hK _ ?_
        clear hK K
        apply mix_pure _ rfl
        · intro w' hw'
          obtain ⟨hwb, hwp⟩ := hw'
          have k1 := hwb.cell HP2.out
          have k2 := (hB0.trans hwb).cell HCI.out
          go_simp
          rfl
        intro K hK
        go_simp
        refine hK _ ?_
        clear hK K
        apply mix_pure _ rfl
        · intro w' hw'
          obtain ⟨hwb, hwp⟩ := hw'
          have k1 := hwb.cell HP2.out
          have k2 := (hB0.trans hwb).cell HCI.out
          go_simp
          rfl
        intro K hK
        go_simp
        refine hK _ ?_
        clear hK K
        refine mix_act rfl (fun K hK => ?_)
        go_simp
        refine hK _ _ (HCLS.out _ (by repeat (first | assumption | exact Bel.refl _ | refine Bel.drew ?_ | refine Bel.drewN ?_ _ | refine Bel.alloc ?_ _ | refine Bel.setCell ?_ (by simp <;> omega) _ | refine Bel.trans ?_ (by assumption)))) (fun hcur => ?_)
        clear hK K
        refine mix_act rfl (fun K hK => ?_)
        refine wp_append_opt _ _ 26 (by rfl) 3 i1 (.int .i64 0) 1 8 Try.underlying26 hi1 hz1 hs1 hb1 rfl (by decide) _ 0 [] (by rfl) (fresh_own (new_blk (by simp))) ai row.length ci (row.map (Value.int .i64)) (by rfl) (by simp) (HSR.out _ (HBW.out.trans (by repeat (first | assumption | exact Bel.refl _ | refine Bel.drew ?_ | refine Bel.drewN ?_ _ | refine Bel.alloc ?_ _ | refine Bel.setCell ?_ (by simp <;> omega) _ | refine Bel.trans ?_ (by assumption))))) (fun x hx => by simp at hx; obtain ⟨q, _, rfl⟩ := hx; rfl) (by unfold maxLen; omega) (by omega) ?_
        intro x w3 hown3 hgrow3 hwhere3
        have hB3 : Bel wr w3 := Bel.grown (w := World.drew _) (by repeat (first | assumption | exact Bel.refl _ | refine Bel.drew ?_ | refine Bel.drewN ?_ _ | refine Bel.alloc ?_ _ | refine Bel.setCell ?_ (by simp <;> omega) _ | refine Bel.trans ?_ (by assumption))) hgrow3 (fun k h => by simp [Value.ownBlock] at h; omega)
        obtain ⟨gx, capx, rfl⟩ : ∃ g cap, x = .slice (some ⟨g, 0, none⟩) row.length cap := by
          rcases hown3.2 with ⟨rfl, _⟩ | ⟨g, cap, cur, rfl, _⟩
          · rcases hwhere3 with h | h <;> simp [Value.ownBlock] at h
          · exact ⟨g, cap, by simp⟩
        have HX3 : Hid (w3.ownsRow 0 3 1 (.slice (some ⟨gx, 0, none⟩) row.length capx) row.length (row.map (Value.int .i64))) := Lib.hid (by simpa using hown3)
        have HW3 := Lib.hid (show wr.heap.size ≤ gx by
          rcases hwhere3 with h | h
          · simp [Value.ownBlock] at h; omega
          · simp [Value.ownBlock] at h; omega)
        refine hK _ _ (HCLS.out _ hB3) (fun hcur => ?_)
        clear hown3 hgrow3 hwhere3 hK K
        refine mix_act rfl (fun K hK => ?_)
        go_simp
        refine hK _ _ (HCLS.out _ (hB3.alloc _)) (fun hcur => ?_)
        clear hK K
        refine mix_act rfl (fun K hK => ?_)
        refine wp_append_where _ _ 44 (by rfl) 26 i2 (.slice none 0 0) 1 24 Try.underlying44 hi2 hz2 hs2 hb2 rfl (by decide) _ n vs (by rfl) (ownsRow_bel HOWN.out (hB3.alloc _)) ⟨w3.heap.size, 0, none⟩ 1 1 [.slice (some ⟨gx, 0, none⟩) row.length capx] (by rfl) (by rfl) (cell_one_new _ _ _) (fun y hy => by simp at hy; subst hy; rfl) (by unfold maxLen; omega) (by omega) ?_
        intro V' w5 hown5 hgrow5 hwhere5
        obtain ⟨hcls, hfz5⟩ := HS.out.cls (hB3.alloc _) hgrow5
        obtain ⟨g5, cap5, rfl⟩ : ∃ g cap, V' = .slice (some ⟨g, 0, none⟩) (n + 1) cap := by
          rcases hown5.2 with ⟨_, h0⟩ | ⟨g, cap, cur, rfl, _⟩
          · omega
          · exact ⟨g, cap, rfl⟩
        have hx3 := ownsRow_bel HX3.out (Bel.alloc (Bel.refl w3) (.cells #[.slice (some ⟨gx, 0, none⟩) row.length capx] 26))
        have HN := Lib.hid (CpSt.next hrow HS.out (hB3.alloc _) HOWN.out HOFF.out HLI.out hx3 (fun k q => by simp [Value.ownBlock] at q; have := HW3.out; omega) hown5 hgrow5 hwhere5)
        refine hK _ _ hcls (fun hcur => ?_)
        clear hown5 hgrow5 hwhere5 hx3 hcls hK K
        apply mix_pure _ rfl
        · intro w' hw'
          obtain ⟨hwb, hwp⟩ := hw'
          have k1 := hwb.cell HP2.out
          have k2 := (hB0.trans hwb).cell HCI.out
          go_simp
          rfl
        intro K hK
        go_simp
        refine hK _ ?_
        clear hK K
        refine mix_tailK rfl (fun K hK => ?_)
        have c2 := hcur.2
        have f2 := hfz5 2
        go_simp
        refine hK _ _ ?_
        clear hK K c2 f2
        clear hcur hfz5
        go_wp2
        go_roundw
        case rel => exact ⟨n + 1, _, by omega, by go_num, HN.out⟩
        case measure => simp [intOf]; omega
      · have hnT : n = t.op.length := by omega
        subst hnT
        have c0 := hS.box.c0
        have c1 := hS.box.c1
        have c2 := hS.box.c2
        have c3 := hS.box.c3
        have k0 := hS.box.bel.cell r0
        have k1 := hS.box.bel.cell r1
        have k2 := hS.box.bel.cell r2
        have k3 := hS.box.bel.cell r3
        have kf : ∀ o, wr.frozen? ⟨w.heap.size + 1, o, none⟩ = false := fun o => by rw [hS.box.bel.frozens _ (by show w.heap.size + 1 < _; omega)]; exact rf o
        have hVf : V = .slice none 0 0 ∨ ∃ gg cc, V = .slice (some ⟨gg, 0, none⟩) t.op.length cc := by
          obtain ⟨vs, h1, _⟩ := hS.own
          rcases h1.2 with ⟨h, _⟩ | ⟨gg, capp, cur, h, _⟩
          · exact .inl h
          · exact .inr ⟨gg, capp, h⟩
        have hBB := hB0.trans hS.box.bel
        have HTR := Lib.hid (fun (w' : World) => hS.rows (w' := w') hlen)
        have HOW := Lib.hid hS.box.own
        have HFG := Lib.hid (show w.heap.size ≤ g by have := hS.box.farg; omega)
        have HNE := Lib.hid (fun k (q : Value.ownBlock (.slice (some ⟨g, 0, none⟩) t.ws.length cap) = some k) => (show k ≠ w.heap.size + 1 by simp [Value.ownBlock] at q; have := hS.box.farg; omega))
        have HZZ := Lib.hid (show w.heap.size + 1 < W0.heap.size from zb1)
        clear hS p0 p1 p2 p3 r0 r1 r2 r3 rf
        rcases hVf with rfl | ⟨gg, cc, rfl⟩
        · have h0l : t.op.length = 0 := by
            obtain ⟨_, _, _, _, _, q, _⟩ := HTR.out wr (Nat.le_refl _) (fun _ _ _ _ => rfl)
            injection q with _ q; exact q.symm
          go_wp2
          refine bodyPost_ret (v := .agg #[.int .i64 t.C, .int .i64 t.T, .slice none 0 0, .slice (some ⟨g, 0, none⟩) t.ws.length cap]) (by simp [results, Try.results60, go_sem, *]) rfl ⟨none, 0, g, cap, by rw [h0l], (by repeat (first | assumption | exact Bel.refl _ | refine Bel.drew ?_ | refine Bel.drewN ?_ _ | refine Bel.alloc ?_ _ | refine Bel.setCell ?_ (by simp <;> omega) _ | refine Bel.trans ?_ (by assumption))), HFG.out, ?_, fun w'' hs hk => ?_⟩
          · exact ownsRow_set (ownsRow_set (ownsRow_set (ownsRow_set HOW.out (by exact HNE.out)) (by exact HNE.out)) (by exact HNE.out)) (by exact HNE.out)
          · rw [h0l]
            refine HTR.out _ (by simpa using hs) (fun k hk1 hk2 hk3 => ?_)
            have := HZZ.out
            have hne : k ≠ w.heap.size + 1 := by omega
            rw [hk k (by omega) (by simpa using hk2) hk3]
            exact (heap_setCell_other _ _ _ _ (by exact hne)).trans ((heap_setCell_other _ _ _ _ (by exact hne)).trans ((heap_setCell_other _ _ _ _ (by exact hne)).trans (heap_setCell_other _ _ _ _ (by exact hne))))
        · go_wp2
          refine bodyPost_ret (v := .agg #[.int .i64 t.C, .int .i64 t.T, .slice (some ⟨gg, 0, none⟩) t.op.length cc, .slice (some ⟨g, 0, none⟩) t.ws.length cap]) (by simp [results, Try.results60, go_sem, *]) rfl ⟨some ⟨gg, 0, none⟩, cc, g, cap, rfl, (by repeat (first | assumption | exact Bel.refl _ | refine Bel.drew ?_ | refine Bel.drewN ?_ _ | refine Bel.alloc ?_ _ | refine Bel.setCell ?_ (by simp <;> omega) _ | refine Bel.trans ?_ (by assumption))), HFG.out, ?_, fun w'' hs hk => ?_⟩
          · exact ownsRow_set (ownsRow_set (ownsRow_set (ownsRow_set HOW.out (by exact HNE.out)) (by exact HNE.out)) (by exact HNE.out)) (by exact HNE.out)
          · refine HTR.out _ (by simpa using hs) (fun k hk1 hk2 hk3 => ?_)
            have := HZZ.out
            have hne : k ≠ w.heap.size + 1 := by omega
            rw [hk k (by omega) (by simpa using hk2) hk3]
            exact (heap_setCell_other _ _ _ _ (by exact hne)).trans ((heap_setCell_other _ _ _ _ (by exact hne)).trans ((heap_setCell_other _ _ _ _ (by exact hne)).trans (heap_setCell_other _ _ _ _ (by exact hne))))
end Go.Proofs.Ytkdcdhkhadhcfaa
