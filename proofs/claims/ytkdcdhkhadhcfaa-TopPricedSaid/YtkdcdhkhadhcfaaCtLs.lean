/-
  cuts: least.
-/
import Derived.Test.YtkdcdhkhadhcfaaCtLs1
import Derived.Test.YtkdcdhkhadhcfaaRound
namespace Go.Proofs.Ytkdcdhkhadhcfaa
open Go Go.RowKit Go.Shelf
attribute [local go_sem] Oper.semAt_some
attribute [local go_sem ↓] hide_ld hide_st
set_option maxHeartbeats 8000000
set_option maxRecDepth 100000
/-- The pieces, as they are made. -/
structure LpSt (w : World) (gt gf gr gb gp n : Nat) (tv fv : Value) (k : Nat) (q : World) : Prop where
  bel : Bel w q
  t : q.cell? ⟨gt, 0, none⟩ = some tv
  f : q.cell? ⟨gf, 0, none⟩ = some fv
  b : q.cell? ⟨gb, 0, none⟩ = some (.slice (some ⟨gp, 0, none⟩) n n)
  r : Bx q gr [.int .i64 0]
  p : PcAt q gp n (fun _ => noC) k
theorem LpSt.go {w : World} {gt gf gr gb gp n : Nat} {tv fv : Value} {k : Nat} {q q' : World} (h : LpSt w gt gf gr gb gp n tv fv k q) (b : Bel q q') : LpSt w gt gf gr gb gp n tv fv k q' :=
  ⟨h.bel.trans b, b.cell h.t, b.cell h.f, b.cell h.b, h.r.bel b, h.p.bel b⟩
theorem updL_const (c : List Int) (i : Nat) : updL (fun _ => c) i c = fun _ => c := by funext j; unfold updL; by_cases e : j = i <;> simp [e]
theorem cell_setCells {w : World} {p : Addr} {v : Value} {g o : Nat} {vs : List Value} (h : w.cell? p = some v) (hp : p.block ≠ g) : (w.setCells g o vs).cell? p = some v :=
  (World.cell?_setCells_out g vs o w p (fun e _ => absurd e hp)).trans h
theorem Bx.others {w : World} {p g o : Nat} {cs vs : List Value} (h : Bx w p cs) (hp : p ≠ g) : Bx (w.setCells g o vs) p cs :=
  ⟨fun j u hu => cell_setCells (h.c j u hu) hp, fun o => (World.frozen?_setCells ..).trans (h.f o), by rw [sz_setCells]; exact h.lt⟩
theorem LpSt.put {w : World} {gt gf gr gb gp n : Nat} {tv fv : Value} {k : Nat} {q : World} (h : LpSt w gt gf gr gb gp n tv fv k q) (hg : w.heap.size ≤ gp ∧ gt ≠ gp ∧ gf ≠ gp ∧ gr ≠ gp ∧ gb ≠ gp) (hk : k < n) :
    LpSt w gt gf gr gb gp n tv fv (k + 1) (q.setCells gp (k * 31) (icells noC)) :=
  ⟨Bel.setCells hg.1 _ _ _ h.bel, cell_setCells h.t hg.2.1, cell_setCells h.f hg.2.2.1, cell_setCells h.b hg.2.2.2.2, h.r.others hg.2.2.2.1, by
    have := h.p.put hk noC_len (m' := k + 1) (by omega) (fun j hj => by omega)
    rw [updL_const] at this
    exact this⟩
theorem Bx.quiet {D : Nat → Prop} {A B : World} {p : Nat} {v : Value} {cs : List Value} (h : Bx A p (v :: cs)) (k : KeepC D A B) (hd : ¬ D p) : Bx B p (v :: cs) :=
  ⟨fun j u hu => k.cell hd (h.c j u hu), fun o => by
    obtain ⟨ob, ho, hk⟩ := cells_of_cell (h.c 0 v rfl)
    have := h.f o
    unfold World.frozen? at this ⊢
    rw [k.block _ ob hd ho hk, ← ho]
    exact this, Nat.lt_of_lt_of_le h.lt k.size⟩
theorem KeepsOthers.setCells (g : Nat) : ∀ (vs : List Value) (o : Nat) (w : World), KeepsOthers w (w.setCells g o vs)
  | [], _, w => (Bel.refl w).keeps
  | v :: vs, o, w => (KeepsOthers.setCell w ⟨g, o, none⟩ v).trans (KeepsOthers.setCells g vs (o + 1) _)
theorem KeepC.rows {D : Nat → Prop} {g : Nat} (hd : D g) : ∀ (vs : List Value) (o : Nat) (w : World), KeepC D w (w.setCells g o vs)
  | [], _, w => KeepC.r _ w
  | v :: vs, o, w => (KeepC.set w ⟨g, o, none⟩ v hd).t (KeepC.rows hd vs (o + 1) _)
theorem CostFn.two {w : World} {f n : Nat} {a b : Value} {cost : Nat → Nat → Int} (h : CostFn w f #[a, b] n cost) {i : Nat} (hi : i < n) (u : Nat) (hu : u < 31) (wx : World) (hb : Bel w wx) : Calls Try.prog f #[.int .i64 i, .int .i64 u, a, b] wx fun e w' => e = .returned (.int .i64 (cost i u)) ∧ Bel wx w' := h i hi u hu wx hb
/-- The variables of least. -/
structure LsSt (w Wr : World) (gt gf gr gb gp ga n : Nat) (tv fv : Value) (P : Nat → List Int) (al : Int) (W : World) : Prop where
  bel : Bel w W
  sz : Wr.heap.size ≤ W.heap.size
  t : W.cell? ⟨gt, 0, none⟩ = some tv
  f : W.cell? ⟨gf, 0, none⟩ = some fv
  b : W.cell? ⟨gb, 0, none⟩ = some (.slice (some ⟨gp, 0, none⟩) n n)
  r : Bx W gr [.int .i64 0]
  p : PcAt W gp n P n
  a : Bx W ga [.int .i64 al]
theorem LsSt.go {w Wr : World} {gt gf gr gb gp ga n : Nat} {tv fv : Value} {P : Nat → List Int} {al : Int} {W W' : World} (h : LsSt w Wr gt gf gr gb gp ga n tv fv P al W) (k : Bel W W') : LsSt w Wr gt gf gr gb gp ga n tv fv P al W' :=
  ⟨h.bel.trans k, Nat.le_trans h.sz k.szle, k.cell h.t, k.cell h.f, k.cell h.b, h.r.bel k, h.p.bel k, h.a.bel k⟩
theorem LsSt.quiet {w Wr : World} {gt gf gr gb gp ga n : Nat} {tv fv : Value} {P : Nat → List Int} {al : Int} {W W' : World} (h : LsSt w Wr gt gf gr gb gp ga n tv fv P al W) (q : Quiet Wr.heap.size W W') (hw : w.heap.size ≤ Wr.heap.size) : LsSt w Wr gt gf gr gb gp ga n tv fv P al W' :=
  ⟨Below.trans h.bel (q.below.mono hw), Nat.le_trans h.sz q.below.size, q.keep.cell (fun h => h) h.t, q.keep.cell (fun h => h) h.f, q.keep.cell (fun h => h) h.b, h.r.quiet q.keep (fun h => h), h.p.keep q.keep (fun h => h), h.a.quiet q.keep (fun h => h)⟩
theorem LsSt.piece {w Wr : World} {gt gf gr gb gp ga n : Nat} {tv fv : Value} {P : Nat → List Int} {al : Int} {W : World} (h : LsSt w Wr gt gf gr gb gp ga n tv fv P al W) (hg : w.heap.size ≤ gp ∧ gt ≠ gp ∧ gf ≠ gp ∧ gr ≠ gp ∧ gb ≠ gp ∧ ga ≠ gp) {i : Nat} (hi : i < n) {c : List Int} (hc : c.length = 31) :
    LsSt w Wr gt gf gr gb gp ga n tv fv (updL P i c) al (W.setCells gp (i * 31) (icells c)) :=
  ⟨Bel.setCells hg.1 _ _ _ h.bel, by rw [sz_setCells]; exact h.sz, cell_setCells h.t hg.2.1, cell_setCells h.f hg.2.2.1, cell_setCells h.b hg.2.2.2.2.1, h.r.others hg.2.2.2.1, h.p.put hi hc (Nat.le_refl _) (fun j hj => .inl hj), h.a.others hg.2.2.2.2.2⟩
theorem LsSt.all {w Wr : World} {gt gf gr gb gp ga n : Nat} {tv fv : Value} {P : Nat → List Int} {al : Int} {W : World} (h : LsSt w Wr gt gf gr gb gp ga n tv fv P al W) (hg : w.heap.size ≤ ga ∧ ga ≠ gt ∧ ga ≠ gf ∧ ga ≠ gr ∧ ga ≠ gb ∧ ga ≠ gp) (y : Int) :
    LsSt w Wr gt gf gr gb gp ga n tv fv P y (W.setCell ⟨ga, 0, none⟩ (.int .i64 y)) :=
  ⟨h.bel.setCell (p := ⟨ga, 0, none⟩) hg.1 _, by rw [World.size_setCell]; exact h.sz, (World.cell?_setCell_other _ _ _ _ (by intro e; injection e with e1 e2; omega)).trans h.t, (World.cell?_setCell_other _ _ _ _ (by intro e; injection e with e1 e2; omega)).trans h.f,
    (World.cell?_setCell_other _ _ _ _ (by intro e; injection e with e1 e2; omega)).trans h.b, h.r.other hg.2.2.2.1 _, h.p.other hg.2.2.2.2.2 _, h.a.set (i := 0) (by simp) _⟩
/-- While own costs are made. -/
structure OwSt (W3 : World) (gl go : Nat) (L : List Int) (q : World) : Prop where
  bel : Bel W3 q
  l : q.rangeAt gl 0 (icells L)
  o : ∃ cs : List Value, cs.length = 31 ∧ Bx q go cs
theorem range_bel {w w' : World} {g o : Nat} {cs : List Value} (h : w.rangeAt g o cs) (k : Bel w w') : w'.rangeAt g o cs := fun j v hv => k.cell (h j v hv)
theorem OwSt.go {W3 : World} {gl go : Nat} {L : List Int} {q q' : World} (h : OwSt W3 gl go L q) (k : Bel q q') : OwSt W3 gl go L q' :=
  ⟨h.bel.trans k, range_bel h.l k, by obtain ⟨cs, h1, h2⟩ := h.o; exact ⟨cs, h1, h2.bel k⟩⟩
theorem OwSt.put {W3 : World} {gl go : Nat} {L : List Int} {q : World} (h : OwSt W3 gl go L q) (hg : W3.heap.size ≤ go ∧ gl ≠ go) {c : List Int} (hc : c.length = 31) : OwSt W3 gl go L (q.setCells go 0 (icells c)) ∧ Bx (q.setCells go 0 (icells c)) go (icells c) := by
  obtain ⟨cs, h1, h2⟩ := h.o
  have hb := h2.row (ds := icells c) (by rw [icells_len, hc, h1])
  exact ⟨⟨Bel.setCells hg.1 _ _ _ h.bel, World.rangeAt_setCells_apart h.l _ _ _ (.inl hg.2), ⟨_, by rw [icells_len, hc], hb⟩⟩, hb⟩
theorem OwSt.there {W3 : World} {gl go : Nat} {L : List Int} {q : World} (h : OwSt W3 gl go L q) : q.there go 0 31 := by
  obtain ⟨cs, h1, h2⟩ := h.o
  have := bx_there h2
  rw [h1] at this
  exact this
/-- While a piece is put to its part. -/
structure PuSt (gb gx go gp o n : Nat) (of : Int) (O : List Int) (q : World) : Prop where
  b : q.cell? ⟨gb, 0, none⟩ = some (.slice (some ⟨gp, 0, none⟩) n n)
  x : q.cell? ⟨gx, 0, none⟩ = some (.int .i64 of)
  ow : q.rangeAt go 0 (icells O)
  t : q.there gp (o * 31) 31
  lt : gp < q.heap.size
theorem PuSt.go {gb gx go gp o n : Nat} {of : Int} {O : List Int} {q q' : World} (h : PuSt gb gx go gp o n of O q) (k : Bel q q') : PuSt gb gx go gp o n of O q' :=
  ⟨k.cell h.b, k.cell h.x, range_bel h.ow k, fun j hj => by
    obtain ⟨h1, h2⟩ := h.t j hj
    obtain ⟨v, hv⟩ := Option.isSome_iff_exists.1 h1
    exact ⟨by rw [k.cell hv]; rfl, (k.frozens _ h.lt).trans h2⟩, Nat.lt_of_lt_of_le h.lt k.szle⟩
theorem PuSt.put {gb gx go gp o n : Nat} {of : Int} {O : List Int} {q : World} (h : PuSt gb gx go gp o n of O q) (hg : gb ≠ gp ∧ gx ≠ gp ∧ go ≠ gp) {c : List Int} (hc : c.length = 31) : PuSt gb gx go gp o n of O (q.setCells gp (o * 31) (icells c)) :=
  ⟨cell_setCells h.b hg.1, cell_setCells h.x hg.2.1, World.rangeAt_setCells_apart h.ow _ _ _ (.inl hg.2.2), there_set h.t (by rw [icells_len, hc]; exact h.t), by rw [sz_setCells]; exact h.lt⟩
theorem CB.of_sm {l L : Int} {c : List Int} (h : Sm l L c) (h1 : l ≤ (1099511627776 : Int)) (h2 : L ≤ (1099511627776 : Int)) : CB c := ⟨h.len, fun u hu => by have := h.at_ u hu; omega⟩
theorem ls_cb {t : List CP} {cost : Nat → Nat → Int} {m : Int} (ht : CtOk t) (hc : CoOk m cost) {k : Nat} (hk : k < t.length) (i : Nat) :
    (∀ j, CB ((lsTo t cost k).1 j)) ∧ (-(1099511627776 : Int) ≤ (lsTo t cost k).2 ∧ (lsTo t cost k).2 ≤ (1099511627776 : Int) * 8) ∧ (CB (baseV t i (lsTo t cost k).1) ∧ ∀ u, u < 31 → at0 (baseV t i (lsTo t cost k).1) u < (1099511627776 : Int) → at0 (baseV t i (lsTo t cost k).1) u ≤ 2000000) ∧
      CB (ownV t cost i (lsTo t cost k).1) ∧ (-(1099511627776 : Int) ≤ minC (ownV t cost i (lsTo t cost k).1) ∧ minC (ownV t cost i (lsTo t cost k).1) ≤ (1099511627776 : Int)) := by
  have h8 := ht.l8
  obtain ⟨h1, h2, h3⟩ := ls_sm hc h8 k (by omega)
  have n1 := Lk_nn hc.nn.1 k
  have n2 := Lk_nn (show (0 : Int) ≤ 2970 by omega) k
  have hm := hc.nn
  have htop := Lk_top k (by omega)
  have hle := Lk_le hc.nn.2 k
  have hb := base_sm (t := t) (h1 i) n1 n2
  have ho := own_sm (t := t) (i := i) hc (h1 i) n1 n2
  have hmn := minTo_sm ho 30 (Nat.le_refl _)
  refine ⟨fun j => CB.of_sm (h1 j) (by omega) (by omega), ⟨by omega, by omega⟩, ⟨CB.of_sm hb (by omega) (by omega), fun u hu hlt => ?_⟩, CB.of_sm ho (by omega) (by omega), ?_⟩
  · have := hb.at_ u hu; omega
  · unfold minC; omega
theorem lost_cb (p : CP) : CB (lostC p 31) := CB.of_sm (lost_sm p) (by omega) (by omega)
theorem least_any (t : List CP) (cost : Nat → Nat → Int) (m : Int) (v : Value) (p1 p2 : Nat) (w : World) (ht : CtOk t) (hc : CoOk m cost) (hok : LsOk t cost) (hv : CtAt w v t)
    (hf : CostFn w 118 #[.pointer (some ⟨p1, 0, none⟩), .pointer (some ⟨p2, 0, none⟩)] t.length cost) :
    Calls Try.prog 93 #[v, .func (.func 118) #[] #[.pointer (some ⟨p1, 0, none⟩), .pointer (some ⟨p2, 0, none⟩)]] w fun e w' => e = .returned (.int .i64 (leastV t cost)) ∧ Bel w w' := by
  have HV := Lib.hid hv
  have HF := Lib.hid hf
  have HCO := Lib.hid hc
  have HT := Lib.hid ht
  have HOK := Lib.hid hok
  have h8 := ht.l8
  obtain ⟨a, c, tb, toff, rfl, hta, ⟨hl, _⟩, htc⟩ := hv
  obtain ⟨cs, hcs, hmk⟩ := run_make_pcs t.length h8
  have HLV := Lib.hid (show leastV t cost = (lsTo t cost t.length).2 from rfl)
  have HL0 := Lib.hid (show lsTo t cost 0 = (fun _ => noC, 0) from rfl)
  have HTA := Lib.hid hta
  clear hf hc ht hok hta
  refine (callsIn_wide (n := 4)).1 ?_
  refine callsIn_of_wp_marks Try.func93 rfl trivial ?_ rfl
  simp only [Try.ntmps93, List.size_toArray, List.length_cons, List.length_nil, Nat.reduceAdd, Nat.reduceSub, Array.replicate_succ, Array.replicate_zero, List.push_toArray, List.append_toArray, List.nil_append, List.cons_append]
  gi_wp2_with fail
  generalize hW : World.alloc _ _ = W0
  obtain ⟨gt, hgt⟩ : ∃ gt, gt = w.heap.size := ⟨_, rfl⟩
  obtain ⟨gf, hgf⟩ : ∃ gf, gf = w.heap.size + 1 := ⟨_, rfl⟩
  obtain ⟨gr, hgr⟩ : ∃ gr, gr = w.heap.size + 1 + 1 := ⟨_, rfl⟩
  obtain ⟨gp, hgp⟩ : ∃ gp, gp = w.heap.size + 1 + 1 + 1 := ⟨_, rfl⟩
  obtain ⟨gb, hgb⟩ : ∃ gb, gb = w.heap.size + 1 + 1 + 1 + 1 := ⟨_, rfl⟩
  rw [← hgb, ← hgp, ← hgr, ← hgf, ← hgt]
  have z0 : W0.heap.size = w.heap.size + 1 + 1 + 1 + 1 + 1 := by rw [← hW]; simp only [World.size_alloc]
  have HS0 : Hid (LpSt w gt gf gr gb gp t.length (.slice a t.length c) (.func (.func 118) #[] #[.pointer (some ⟨p1, 0, none⟩), .pointer (some ⟨p2, 0, none⟩)]) 0 W0) := Lib.hid (by
    rw [← hW]
    refine ⟨(((((Bel.refl w).alloc _).alloc _).alloc _).alloc _).alloc _, ?_, ?_, ?_, ?_, ?_⟩
    · exact (Bx.bel (Bx.new hgt) (((((Bel.refl _).alloc _).alloc _).alloc _).alloc _)).c 0 _ rfl
    · exact (Bx.bel (Bx.new (by rw [hgf]; simp)) ((((Bel.refl _).alloc _).alloc _).alloc _)).c 0 _ rfl
    · rw [hgp]; exact (Bx.new (by rw [hgb]; simp)).c 0 _ rfl
    · exact Bx.bel (Bx.new (by rw [hgr]; simp)) (((Bel.refl _).alloc _).alloc _)
    · exact PcAt.bel (PcAt.new hcs _ (fun _ => noC_len) (by rw [hgp]; simp)) ((Bel.refl _).alloc _))
  have hgs : w.heap.size ≤ gp ∧ gt ≠ gp ∧ gf ≠ gp ∧ gr ≠ gp ∧ gb ≠ gp := by omega
  have hgs2 : gt < W0.heap.size ∧ gf < W0.heap.size ∧ gr < W0.heap.size ∧ gp < W0.heap.size ∧ gb < W0.heap.size ∧ gt ≠ gr ∧ gf ≠ gr ∧ gb ≠ gr ∧ w.heap.size ≤ gr ∧ w.heap.size ≤ gt := by omega
  have hzz : w.heap.size ≤ W0.heap.size := by omega
  have HTB := Lib.hid (fun (h0 : 0 < t.length) => show tb < w.heap.size from cell_lt (htc 0 h0).1)
  have HGR := Lib.hid (show w.heap.size ≤ gr by omega)
  clear hW hgt hgf hgr hgp hgb z0 hmk htc
  have HGS := Lib.hid hgs
  have HGS2 := Lib.hid hgs2
  clear hgs hgs2
  have hixp := idxPc (n := t.length) (c := t.length) (b := gp) (off := 0) (a := some ⟨gp, 0, none⟩) (fun _ => rfl)
  simp only [Nat.zero_add] at hixp
  gi_loopw [21] (fun i wr => ∃ k : Nat, k ≤ t.length ∧ i = .int .i64 k ∧ Hid (LpSt w gt gf gr gb gp t.length (.slice a t.length c) (.func (.func 118) #[] #[.pointer (some ⟨p1, 0, none⟩), .pointer (some ⟨p2, 0, none⟩)]) k wr) ∧ W0.heap.size ≤ wr.heap.size) (fun i _ => t.length - (intOf i).toNat)
  case atStart => exact ⟨0, by omega, rfl, HS0, Nat.le_refl _⟩
  case round =>
    clear HS0
    obtain ⟨k, hk, rfl, HS, hwz⟩ := hrel
    by_cases hlt : k < t.length
    · have hlti : (k : Int) < (t.length : Int) := by omega
      gi_wp2_with fail
      refine wpIn_wide.2 ?_
      refine wp_region_mixTC (Plan.seq [0, 1, 1002, 3] .nil) (fun q => LpSt w gt gf gr gb gp t.length (.slice a t.length c) (.func (.func 118) #[] #[.pointer (some ⟨p1, 0, none⟩), .pointer (some ⟨p2, 0, none⟩)]) k q) (by kernel_rfl) (by kernel_rfl) (HS.out.go (Bel.refl _).drew) (fun hcur => ?_)
      simp only [Plan.seq, Plan.fill, List.getD_cons_zero, List.getD_cons_succ, Nat.reduceLT, ↓reduceIte, Nat.reduceSub]
      apply mix_pure _ rfl
      · intro w' hw'
        have q0 := hw'.b
        go_simp
        rfl
      intro K hK
      go_simp
      refine hK _ ?_
      clear hK K
      apply mix_pure _ rfl
      · intro w' hw'
        have q0 := hw'.b
        go_simp
        rfl
      intro K hK
      go_simp
      refine hK _ ?_
      clear hK K
      refine mix_act rfl (fun K hK => ?_)
      go_simp
      refine (nothing_any _).mono ?_
      rintro e w5 ⟨rfl, hb⟩
      have hz5 := hb.szle
      simp only [World.size_drew] at hz5
      simp only []
      refine hK _ _ (hcur.go hb) (fun hcur => ?_)
      clear hK K hb
      apply mix_pure _ rfl
      · intro w' hw'
        have q0 := hw'.b
        go_simp
        rfl
      intro K hK
      go_simp
      refine hK _ ?_
      clear hK K
      refine mix_tailK rfl (fun K hK => ?_)
      have hst := storeV_co (hcur.p.place hlt) noC_len
      go_simp
      have HF := Lib.hid (hcur.put HGS.out hlt)
      have hz7 : W0.heap.size ≤ (w5.setCells gp (k * 31) (icells noC)).heap.size := by rw [sz_setCells]; omega
      refine hK _ _ ?_
      clear hK K hst hcur
      gi_wp2
      exact ⟨⟨k + 1, by omega, by go_num, HF, hz7⟩, by simp [intOf]; omega⟩
    · obtain rfl : k = t.length := by omega
      have hlti : ¬ (t.length : Int) < (t.length : Int) := by omega
      have q0 := HS.out.t
      have lq := cell_lt q0
      gi_wp2_with (refine ⟨trivial, ?_⟩; gi_at_call 115; refine (callsIn_wide.2 (ctBack_any _ _ _ _)).mono ?_; rintro e w' ⟨rfl, rfl⟩)
      generalize hWr : World.alloc _ _ = Wr
      obtain ⟨ga, hga⟩ : ∃ ga, ga = wr.heap.size := ⟨_, rfl⟩
      obtain ⟨gi, hgi⟩ : ∃ gi, gi = wr.heap.size + 1 := ⟨_, rfl⟩
      rw [← hgi, ← hga]
      have hbr : Bel wr Wr := by rw [← hWr]; exact ((Bel.refl wr).alloc _).alloc _
      have ba : Bx Wr ga [.int .i64 0] := by rw [← hWr]; exact (Bx.new hga).bel ((Bel.refl _).alloc _)
      have bi : Bx Wr gi [.slice a t.length c] := by rw [← hWr]; exact Bx.new (by rw [hgi]; simp)
      have zr : Wr.heap.size = wr.heap.size + 1 + 1 := by rw [← hWr]; simp only [World.size_alloc]
      clear hWr
      obtain ⟨hgs1, hgs2, hgs3, hgs4, hgs5⟩ := HGS.out
      obtain ⟨hq1, hq2, hq3, hq4, hq5, hq6, hq7, hq8, hq9, hq10⟩ := HGS2.out
      have HG1 := Lib.hid (show w.heap.size ≤ gp ∧ gt ≠ gp ∧ gf ≠ gp ∧ gr ≠ gp ∧ gb ≠ gp ∧ ga ≠ gp by omega)
      have HG2 := Lib.hid (show w.heap.size ≤ ga ∧ ga ≠ gt ∧ ga ≠ gf ∧ ga ≠ gr ∧ ga ≠ gb ∧ ga ≠ gp by omega)
      have HG3 := Lib.hid (show gt < Wr.heap.size ∧ gf < Wr.heap.size ∧ gr < Wr.heap.size ∧ gp < Wr.heap.size ∧ gb < Wr.heap.size ∧ ga < Wr.heap.size by omega)
      have hwr : w.heap.size ≤ Wr.heap.size := by omega
      have hgv : GivesTo Fence.wide (4 - 1) Try.prog 127 #[.pointer (some ⟨gi, 0, none⟩)] (PtAt t) (fun i => i = gp ∨ i = ga) (dn t.length t.length) Wr :=
        ctBack_gives (4 - 1) (by omega) t h8 a c gi (fun i => i = gp ∨ i = ga) Wr (bi.c 0 _ rfl) (HV.out.bel (HS.out.bel.trans hbr)) (by rintro (q | q) <;> omega) (fun b hb h0 => by
          have hb2 := HTA.out h0
          rw [hb] at hb2
          injection hb2 with hb2
          subst hb2
          have := HTB.out h0
          rintro (q | q) <;> simp only at q <;> omega)
      have hst : LsSt w Wr gt gf gr gb gp ga t.length (.slice a t.length c) (.func (.func 118) #[] #[.pointer (some ⟨p1, 0, none⟩), .pointer (some ⟨p2, 0, none⟩)]) (fun _ => noC) 0 Wr := ⟨HS.out.bel.trans hbr, Nat.le_refl _, hbr.cell HS.out.t, hbr.cell HS.out.f, hbr.cell HS.out.b, HS.out.r.bel hbr, HS.out.p.bel hbr, ba⟩
      clear ba bi zr hbr hga hgi hgs1 hgs2 hgs3 hgs4 hgs5 hq1 hq2 hq3 hq4 hq5 hq6 hq7 hq8 hq9 hq10 HGS HGS2 HS q0 lq hwz
      refine range_clo rfl (by omega) (gf := 127) (lb := #[.pointer (some ⟨gi, 0, none⟩)]) rfl trivial (enters_of Try.func127 (by kernel_rfl) rfl) hgv
        (fun x vs W h => by obtain ⟨_, rfl⟩ := h; rfl)
        (fun pre W => LsSt w Wr gt gf gr gb gp ga t.length (.slice a t.length c) (.func (.func 118) #[] #[.pointer (some ⟨p1, 0, none⟩), .pointer (some ⟨p2, 0, none⟩)]) (lsTo t cost pre.length).1 (lsTo t cost pre.length).2 W) (fun _ _ => False) (fun pre A B h q => h.quiet q hwr) (fun _ _ _ h _ => h) (by rw [List.length_nil, HL0.out]; exact hst)
        (fun x a' W => ∃ gx, Wr.heap.size ≤ gx ∧ a' = { tmps := #[.slice a t.length c, .func (.func 118) #[] #[.pointer (some ⟨p1, 0, none⟩), .pointer (some ⟨p2, 0, none⟩)], .pointer (some ⟨gt, 0, none⟩), .pointer (some ⟨gf, 0, none⟩), .pointer (some ⟨gr, 0, none⟩), .pointer (some ⟨gb, 0, none⟩), u6, .pointer (some ⟨ga, 0, none⟩), .int .i64 x, .pointer (some ⟨gx, 0, none⟩), undef, undef, undef, undef, undef, undef, .slice a t.length c, .int .i64 t.length, .slice (some ⟨gp, 0, none⟩) t.length t.length, .slice (some ⟨gp, 0, none⟩) t.length t.length, .int .i64 t.length, .int .i64 t.length, .bool false, u23, u24, u25, u26, u27, u28, .slice a t.length c, .func (.func 127) #[] #[.pointer (some ⟨gi, 0, none⟩)], .int .i64 x, .agg #[.int .i64 (atC t x).of, .int .i64 (atC t x).wlo, .int .i64 (atC t x).whi, .int .i64 (atC t x).slo, .int .i64 (atC t x).shi, .int .i64 (atC t x).pe], undef, undef, undef, undef, undef, undef, undef, undef, undef, undef, undef, undef, undef, undef, undef, undef, undef, undef, undef, undef, undef, undef, undef, undef, undef, undef, undef, undef, undef, undef, undef, undef, undef, undef, undef, undef, undef, undef, undef, undef, undef, undef, undef, undef, undef, undef, undef, undef, undef, undef, undef, undef, undef, undef, undef, undef, undef, undef, undef, undef, undef, undef, undef, undef, undef, undef, undef, undef, undef, undef, undef], defers := [] } ∧ Bx W gx (cpCells (atC t x)))
        (fun x a' A B h q => by obtain ⟨gx, h1, h2, h3⟩ := h; exact ⟨gx, h1, h2, h3.quiet q.keep (fun h => h)⟩) ?assign ?body ?done ?stop
      case assign =>
        intro l pre x vs W3 K hat hI hK
        obtain ⟨hxn, rfl⟩ := hat
        have HK := Lib.hid hK
        have HI := Lib.hid hI
        clear hK hI hgv hst
        gi_wp2
        have hb1 := (Bel.refl W3).alloc (.cells #[.int .i64 (atC t x).of, .int .i64 (atC t x).wlo, .int .i64 (atC t x).whi, .int .i64 (atC t x).slo, .int .i64 (atC t x).shi, .int .i64 (atC t x).pe] 70)
        exact HK.out _ _ (hb1.keeps.from _) (KeepC.of_bel hb1) (HI.out.go hb1) ⟨W3.heap.size, HI.out.sz, rfl, Bx.new rfl⟩
      case body =>
        rintro l pre x a' W3 ⟨post, hpost⟩ hI ⟨gx, hgx, rfl, hX⟩
        obtain ⟨hk, _, hxx⟩ := dn_of hpost
        have hxn : x < t.length := by omega
        have hxi : (x : Int) < (t.length : Int) := by omega
        have HLN := Lib.hid (show lsTo t cost (pre ++ [x]).length = lsStep t cost x (lsTo t cost pre.length) by rw [List.length_append, List.length_singleton, hxx]; rfl)
        have HOX := Lib.hid (fun h => by have := HOK.out pre.length hk; rw [← hxx] at this; exact this h)
        have HFX := Lib.hid (ls_cb HT.out HCO.out hk x)
        have HOF := Lib.hid (HT.out.of x hxn)
        have HSL := Lib.hid (HT.out.s x hxn)
        have HCB := Lib.hid (fun u (hu : u < 31) => HCO.out.at_ x u hu)
        have hcm := HCO.out.nn
        have HBV := Lib.hid (show baseV t x (lsTo t cost pre.length).1 = if cutB t (x : Int) then plusC ((lsTo t cost pre.length).1 x) (lostC (atC t x) 31) else zeroC from rfl)
        have HOV := Lib.hid (show ownV t cost x (lsTo t cost pre.length).1 = addC (cost x) (baseV t x (lsTo t cost pre.length).1) 31 from rfl)
        have HCC := Lib.hid (fun wx (hb : Bel w wx) => canCut_any t (x : Nat) _ wx (HV.out.bel hb))
        have HCF := Lib.hid (fun u hu wx hb => HF.out.two hxn u hu wx hb)
        clear hpost hxx hk hgv hst HV HF HTA HTB HT HOK HCO HL0 HLV
        rw [HLN.out]
        clear HLN
        generalize lsTo t cost pre.length = s at *
        obtain ⟨P, al⟩ := s
        simp only at hI HOX HFX HBV HOV
        have HI := Lib.hid hI
        have HX := Lib.hid hX
        clear hI hX
        have HADD := Lib.hid (fun u => show addC (cost x) (baseV t x P) (u + 1) = (addC (cost x) (baseV t x P) u).set u (if cost x u < (1099511627776 : Int) ∧ at0 (addC (cost x) (baseV t x P) u) u < (1099511627776 : Int) then at0 (addC (cost x) (baseV t x P) u) u + cost x u else (1099511627776 : Int)) from rfl)
        have HADL := Lib.hid (fun u => (addC_len (cost x) (baseV t x P) u).trans HFX.out.2.2.1.1.len)
        have HADA := Lib.hid (fun u (hu : u < 31) => (addC_at (f := cost x) HFX.out.2.2.1.1.len (u := u) u (by omega)).trans (if_neg (by omega)))
        have HA0 := Lib.hid (show addC (cost x) (baseV t x P) 0 = baseV t x P from rfl)
        have HLS := Lib.hid (show lsStep t cost x (P, al) = if (atC t x).of = -1 then (P, al + minC (ownV t cost x P)) else (updL P (atC t x).of.toNat (plusC (P (atC t x).of.toNat) (ownV t cost x P)), al) from rfl)
        generalize hp : atC t x = p at *
        clear hp
        have t0 := HI.out.t
        have lt0 := cell_lt t0
        gi_wp2_with fail
        generalize hW : World.alloc _ _ = W4
        obtain ⟨go, hgo⟩ : ∃ go, go = W3.heap.size := ⟨_, rfl⟩
        rw [← hgo]
        have HO4 : Hid (Bx W4 go (icells zeroC)) := Lib.hid (by rw [← hW]; exact Bx.new hgo)
        have HB4 : Hid (Bel W3 W4) := Lib.hid (by rw [← hW]; exact (Bel.refl W3).alloc _)
        have hz4 : W4.heap.size = W3.heap.size + 1 := by rw [← hW]; simp only [World.size_alloc]
        have hz4g : go < W4.heap.size := by omega
        have hw3 := HI.out.sz
        obtain ⟨hb1, hb2, hb3, hb4, hb5, hb6⟩ := HG3.out
        have HGO := Lib.hid (show W3.heap.size ≤ go ∧ gp ≠ go ∧ gx ≠ gp ∧ go ≠ gp ∧ gx ≠ go by have := HX.out.lt; omega)
        clear hW t0 lt0 hb1 hb2 hb3 hb4 hb5 hb6 hz4 hw3
        clear hgo
        refine ⟨trivial, ?_⟩
        refine (CallsIn.inRound l (callsIn_wide.2 (HCC.out _ (HI.out.bel.trans HB4.out)))).mono ?_
        rintro e w5 ⟨rfl, hb⟩
        have HO5 := Lib.hid (HO4.out.bel hb)
        have HB5 := Lib.hid (HB4.out.trans hb)
        have hz5 : go < w5.heap.size := by have := hb.szle; omega
        clear hb HO4 HB4 hz4g HCC
        cases hcut : cutB t (x : Int)
        · rw [hcut, if_neg (by decide)] at HBV
          rw [← HBV.out] at HO5
          clear hcut hz5
          have HX5 := Lib.hid (HB5.out.cell (HX.out.c 0 _ rfl))
          generalize hBB : baseV t x P = BV at *
          clear hBB
          gi_wp2_with fail
          gi_loopw [58] (fun i wr => ∃ u : Nat, u ≤ 31 ∧ i = .int .i64 u ∧ Hid (Bx wr go (icells (addC (cost x) BV u))) ∧ Hid (Bel W3 wr)) (fun i _ => 31 - (intOf i).toNat)
          case atStart => exact ⟨0, by omega, rfl, by rw [HA0.out]; exact HO5, HB5⟩
          case round =>
            clear HO5 HB5
            obtain ⟨u, hu, rfl, HOU, HBU⟩ := hrel
            by_cases hlt : u < 31
            · have hlti : (u : Int) < 31 := by omega
              have f0 := HBU.out.cell HI.out.f
              have lf := cell_lt f0
              have HCU := Lib.hid (HCF.out u hlt wr (HI.out.bel.trans HBU.out))
              have HAN := Lib.hid (HADD.out u)
              have HAL := Lib.hid (HADL.out u)
              have hAA := HADA.out u hlt
              have hc1 := HCB.out u hlt
              have hbv1 := HFX.out.2.2.1.1.at_ u hlt
              have hbv2 := HFX.out.2.2.1.2 u hlt
              rw [← hAA] at hbv1 hbv2
              clear hAA HADD HADL HADA HCB HFX HOX HLS HCF HA0 HOV HBV HSL HOF
              generalize addC (cost x) BV u = A at *
              generalize cost x u = C at *
              gi_wp2_with fail
              refine ⟨trivial, ?_⟩
              refine (CallsIn.inRound l (callsIn_wide.2 HCU.out)).mono ?_
              rintro e w8 ⟨rfl, hb⟩
              replace HOU := Lib.hid (HOU.out.bel hb)
              replace HBU := Lib.hid (HBU.out.trans hb)
              have z0 := co_at0 HOU.out u (by rw [HAL.out]; exact hlt)
              have zf := HOU.out.f
              have lz := HOU.out.lt
              have HS := Lib.hid (fun y => And.intro (co_set HOU.out (i := u) (by rw [HAL.out]; exact hlt) y) (HBU.out.setCell (p := ⟨go, u, none⟩) HGO.out.1 (.int .i64 y)))
              clear hb f0 lf HCU
              by_cases h1 : C < (1099511627776 : Int)
              · have g1 : decide (C < (1099511627776 : Int)) = true := decide_eq_true h1
                by_cases h2 : at0 A u < (1099511627776 : Int)
                · have g2 : decide (at0 A u < (1099511627776 : Int)) = true := decide_eq_true h2
                  have HR := Lib.hid (HAN.out.trans (by rw [if_pos ⟨h1, h2⟩]))
                  have hsm := hbv2 h2
                  clear HAN
                  generalize at0 A u = y at *
                  gi_wp2
                  exact ⟨⟨u + 1, by omega, by go_num, by rw [HR.out]; exact Lib.hid (HS.out _).1, Lib.hid (HS.out _).2⟩, by simp [intOf]; omega⟩
                · have g2 : decide (at0 A u < (1099511627776 : Int)) = false := decide_eq_false h2
                  have HR := Lib.hid (HAN.out.trans (by rw [if_neg (fun q => h2 q.2)]))
                  clear HAN
                  generalize at0 A u = y at *
                  gi_wp2
                  exact ⟨⟨u + 1, by omega, by go_num, by rw [HR.out]; exact Lib.hid (HS.out _).1, Lib.hid (HS.out _).2⟩, by simp [intOf]; omega⟩
              · have g1 : decide (C < (1099511627776 : Int)) = false := decide_eq_false h1
                have HR := Lib.hid (HAN.out.trans (by rw [if_neg (fun q => h1 q.1)]))
                clear HAN
                generalize at0 A u = y at *
                gi_wp2
                exact ⟨⟨u + 1, by omega, by go_num, by rw [HR.out]; exact Lib.hid (HS.out _).1, Lib.hid (HS.out _).2⟩, by simp [intOf]; omega⟩
            · have hlti : ¬ (u : Int) < 31 := by omega
              obtain rfl : u = 31 := by omega
              rw [← HOV.out] at HOU
              obtain ⟨hcb1, hal, _, hcbo, hmn⟩ := HFX.out
              have HCB1 := Lib.hid hcb1
              have HCBO := Lib.hid hcbo
              have n0 := HBU.out.cell (HX.out.c 0 _ rfl)
              have ln := cell_lt n0
              have HIG := Lib.hid (HI.out.go HBU.out)
              clear HADD HADL HADA HCB HFX HCF HA0 HOV HBV HSL HX5 hcb1 hcbo
              generalize ownV t cost x P = OV at *
              by_cases hof : p.of = -1
              · have b1 : (p.of != -1) = false := by simpa using hof
                have hlt9 := HOX.out hof
                have g9 : decide ((1099511627776 : Int) ≤ minC OV) = false := decide_eq_false (by omega)
                have HR := Lib.hid (HLS.out.trans (if_pos hof))
                have hsa := fun wx => slice_all go wx
                have HMN := Lib.hid (min_any OV go wr HCBO.out.len HOU.out)
                have a0 := HIG.out.a.c 0 _ rfl
                have af := HIG.out.a.f
                have la := HIG.out.a.lt
                clear HLS HOX hof
                generalize minC OV = mn at *
                generalize p.of = of at *
                gi_wp2_with (refine ⟨trivial, ?_⟩; gi_at_call 117; refine (CallsIn.inRound l (callsIn_wide.2 HMN.out)).mono ?_; rintro e w' ⟨rfl, rfl⟩)
                exact ⟨(HBU.out.keeps.trans (KeepsOthers.setCell _ _ _)).from _, (KeepC.of_bel HBU.out).t (KeepC.set (D := fun i => i = gp ∨ i = ga) _ ⟨ga, 0, none⟩ _ (.inr rfl)), by rw [HR.out]; exact HIG.out.all HG2.out _⟩
              · have b1 : (p.of != -1) = true := by simpa using hof
                obtain ⟨o, ho⟩ : ∃ o : Nat, p.of = (o : Int) := ⟨p.of.toNat, by have := HOF.out; omega⟩
                have HR := Lib.hid (HLS.out.trans (if_neg hof))
                have hon : o < t.length := by have := HOF.out; omega
                rw [ho] at HR n0 b1
                rw [Int.toNat_natCast] at HR
                have HPU : Hid (PuSt gb gx go gp o t.length (o : Int) OV wr) := Lib.hid ⟨HIG.out.b, n0, bx_range HOU.out, HIG.out.p.place hon, HIG.out.p.lt⟩
                have HPO := Lib.hid (HIG.out.p.at_ o hon)
                have hoi : (o : Int) < (t.length : Int) := by omega
                clear HLS HOX hof ho HOF
                gi_wp2_with fail
                refine wpIn_round_mixC (Plan.seq [0, 1, 2, 3, 4, 5, 6, 8, 1007, 1009, 10, 1011] .nil) (fun q => PuSt gb gx go gp o t.length (o : Int) OV q) (by kernel_rfl) (by kernel_rfl) (by kernel_rfl) (HPU.out.go (Bel.refl _).drew) (fun hcur => ?_)
                simp only [Plan.seq, Plan.fill, List.getD_cons_zero, List.getD_cons_succ, Nat.reduceLT, ↓reduceIte, Nat.reduceSub]
                apply mix_pure _ rfl
                · intro w' hw'
                  have q0 := hw'.b
                  have qx := hw'.x
                  have l2 := loadV_co hw'.ow HCBO.out.len
                  go_simp
                  rfl
                intro K hK
                go_simp
                refine hK _ ?_
                clear hK K
                apply mix_pure _ rfl
                · intro w' hw'
                  have q0 := hw'.b
                  have qx := hw'.x
                  have l2 := loadV_co hw'.ow HCBO.out.len
                  go_simp
                  rfl
                intro K hK
                go_simp
                refine hK _ ?_
                clear hK K
                apply mix_pure _ rfl
                · intro w' hw'
                  have q0 := hw'.b
                  have qx := hw'.x
                  have l2 := loadV_co hw'.ow HCBO.out.len
                  go_simp
                  rfl
                intro K hK
                go_simp
                refine hK _ ?_
                clear hK K
                apply mix_pure _ rfl
                · intro w' hw'
                  have q0 := hw'.b
                  have qx := hw'.x
                  have l2 := loadV_co hw'.ow HCBO.out.len
                  go_simp
                  rfl
                intro K hK
                go_simp
                refine hK _ ?_
                clear hK K
                apply mix_pure _ rfl
                · intro w' hw'
                  have q0 := hw'.b
                  have qx := hw'.x
                  have l2 := loadV_co hw'.ow HCBO.out.len
                  go_simp
                  rfl
                intro K hK
                go_simp
                refine hK _ ?_
                clear hK K
                apply mix_pure _ rfl
                · intro w' hw'
                  have q0 := hw'.b
                  have qx := hw'.x
                  have l2 := loadV_co hw'.ow HCBO.out.len
                  go_simp
                  rfl
                intro K hK
                go_simp
                refine hK _ ?_
                clear hK K
                apply mix_pure _ rfl
                · intro w' hw'
                  have q0 := hw'.b
                  have qx := hw'.x
                  have l2 := loadV_co hw'.ow HCBO.out.len
                  go_simp
                  rfl
                intro K hK
                go_simp
                refine hK _ ?_
                clear hK K
                apply mix_pure _ rfl
                · intro w' hw'
                  have q0 := hw'.b
                  have qx := hw'.x
                  have l2 := loadV_co hw'.ow HCBO.out.len
                  go_simp
                  rfl
                intro K hK
                go_simp
                refine hK _ ?_
                clear hK K
                refine mix_act rfl (fun K hK => ?_)
                have l7 := loadV_co (w := wr.drew) (range_bel HPO.out (Bel.refl wr).drew) (HCB1.out o).len
                go_simp
                refine hK _ _ hcur (fun hcur => ?_)
                clear hK K l7
                refine mix_act rfl (fun K hK => ?_)
                go_simp
                refine (plus_any (P o) OV _ (HCB1.out o) HCBO.out).mono ?_
                rintro e w9 ⟨rfl, hb⟩
                have HB9 := Lib.hid (show Bel wr w9 from (Bel.refl wr).drew.trans hb)
                simp only []
                refine hK _ _ (hcur.go hb) (fun hcur => ?_)
                clear hK K hb
                apply mix_pure _ rfl
                · intro w' hw'
                  have q0 := hw'.b
                  have qx := hw'.x
                  have l2 := loadV_co hw'.ow HCBO.out.len
                  go_simp
                  rfl
                intro K hK
                go_simp
                refine hK _ ?_
                clear hK K
                refine mix_act rfl (fun K hK => ?_)
                have hst := storeV_co hcur.t (plusC_len (P o) OV)
                go_simp
                have HP7 := Lib.hid (hcur.put ⟨HG1.out.2.2.2.2.1, HGO.out.2.2.1, HGO.out.2.2.2.1⟩ (plusC_len (P o) OV))
                refine hK _ _ HP7.out (fun hcur => ?_)
                clear hK K hst HP7
                refine mix_nilR ?_
                clear hcur
                have HBE := Lib.hid (HBU.out.trans HB9.out)
                gi_wp2
                exact ⟨(HBE.out.keeps.trans (KeepsOthers.setCells _ _ _ _)).from _, (KeepC.of_bel HBE.out).t (KeepC.rows (D := fun i => i = gp ∨ i = ga) (.inl rfl) _ _ _), by rw [HR.out]; exact (HIG.out.go HB9.out).piece HG1.out hon (plusC_len _ _)⟩
        · rw [hcut, if_pos rfl] at HBV
          clear hcut
          gi_wp2_with fail
          generalize hW : World.alloc _ _ = W6
          obtain ⟨gl, hgl⟩ : ∃ gl, gl = w5.heap.size := ⟨_, rfl⟩
          rw [← hgl]
          have HL6 : Hid (Bx W6 gl (icells (lostC p 0))) := Lib.hid (by rw [← hW]; exact Bx.new hgl)
          have HB6 : Hid (Bel w5 W6) := Lib.hid (by rw [← hW]; exact (Bel.refl w5).alloc _)
          have hgl5 : w5.heap.size ≤ gl := by omega
          have hglo : gl ≠ go := by omega
          have hglx : gx ≠ gl := by have := HX.out.lt; have := HB5.out.szle; omega
          have HLL := Lib.hid (fun u => lostC_len p u)
          have HLD := Lib.hid (fun u => show lostC p (u + 1) = if withinB (u : Int) p.slo p.shi then ((lostC p u).set u (1099511627776 : Int)).set u 0 else (lostC p u).set u (1099511627776 : Int) from rfl)
          clear hW hgl
          gi_loopw [36] (fun i wr => ∃ u : Nat, u ≤ 31 ∧ i = .int .i64 u ∧ Hid (Bx wr gl (icells (lostC p u))) ∧ Hid (Bel w5 wr)) (fun i _ => 31 - (intOf i).toNat)
          case atStart => exact ⟨0, by omega, rfl, HL6, HB6⟩
          case round =>
            clear HL6 HB6
            obtain ⟨u, hu, rfl, HLU, HBU⟩ := hrel
            by_cases hlt : u < 31
            · have hlti : (u : Int) < 31 := by omega
              have HLN := Lib.hid (HLL.out u)
              have HDN := Lib.hid (HLD.out u)
              have z0 := co_at0 HLU.out u (by rw [HLN.out]; exact hlt)
              have zf := HLU.out.f
              have lz := HLU.out.lt
              have n3 := HBU.out.cell (HB5.out.cell (HX.out.c 3 _ rfl))
              have n4 := HBU.out.cell (HB5.out.cell (HX.out.c 4 _ rfl))
              have ln := cell_lt n3
              have HW := Lib.hid (fun wx => Cwithin_any (u : Int) p.slo p.shi wx)
              have HS1 := Lib.hid (co_set HLU.out (i := u) (by rw [HLN.out]; exact hlt) (1099511627776 : Int))
              have HS2 := Lib.hid (co_set HS1.out (i := u) (by rw [List.length_set, HLN.out]; exact hlt) 0)
              have HT1 := Lib.hid (HBU.out.setCell (p := ⟨gl, u, none⟩) hgl5 (.int .i64 (1099511627776 : Int)))
              have HT2 := Lib.hid (HT1.out.setCell (p := ⟨gl, u, none⟩) hgl5 (.int .i64 0))
              have n3' : (wr.setCell ⟨gl, u, none⟩ (.int .i64 (1099511627776 : Int))).cell? ⟨gx, 3, none⟩ = some (.int .i64 p.slo) := (World.cell?_setCell_other _ _ _ _ (by intro e; injection e with e1 e2; omega)).trans n3
              have n4' : (wr.setCell ⟨gl, u, none⟩ (.int .i64 (1099511627776 : Int))).cell? ⟨gx, 4, none⟩ = some (.int .i64 p.shi) := (World.cell?_setCell_other _ _ _ _ (by intro e; injection e with e1 e2; omega)).trans n4
              clear HLL HLD HLU HBU HFX HADD HADL HADA HCB HOX HLS
              cases hw : withinB (u : Int) p.slo p.shi
              · rw [hw] at HW
                rw [hw, if_neg (by decide)] at HDN
                clear hw
                generalize lostC p u = L at *
                generalize p.slo = slo at *
                generalize p.shi = shi at *
                gi_wp2_with (refine ⟨trivial, ?_⟩; gi_at_call 91; refine (CallsIn.inRound l (callsIn_wide.2 (HW.out _))).mono ?_; rintro e w' ⟨rfl, rfl⟩)
                exact ⟨⟨u + 1, by omega, by go_num, by rw [HDN.out]; exact HS1, HT1⟩, by simp [intOf]; omega⟩
              · rw [hw] at HW
                rw [hw, if_pos rfl] at HDN
                clear hw
                generalize lostC p u = L at *
                generalize p.slo = slo at *
                generalize p.shi = shi at *
                gi_wp2_with fail
                refine ⟨trivial, ?_⟩
                refine (CallsIn.inRound l (callsIn_wide.2 (HW.out _))).mono ?_
                rintro e w' ⟨rfl, rfl⟩
                have HC9 := Lib.hid (And.intro n3' n4')
                generalize hW9 : World.setCell _ _ _ = W9 at *
                have y0 := co_at0 HS1.out u (by rw [List.length_set, HLN.out]; exact hlt)
                have yf := HS1.out.f
                have yl := HS1.out.lt
                clear hW9 z0 zf lz n3 n4 ln n3' n4'
                gi_wp2
                exact ⟨⟨u + 1, by omega, by go_num, by rw [HDN.out]; exact HS2, HT2⟩, by simp [intOf]; omega⟩
            · have hlti : ¬ (u : Int) < 31 := by omega
              obtain rfl : u = 31 := by omega
              have HOW : Hid (OwSt W3 gl go (lostC p 31) wr) := Lib.hid ⟨HB5.out.trans HBU.out, bx_range HLU.out, ⟨_, by rw [icells_len]; rfl, HO5.out.bel HBU.out⟩⟩
              have HCP := Lib.hid (And.intro (HFX.out.1 x) (lost_cb p))
              have HIB := Lib.hid HI.out.b
              have HIR := Lib.hid (HI.out.p.at_ x hxn)
              clear HLL HLD HLU HBU HO5 HB5
              generalize lostC p 31 = L at *
              gi_wp2_with fail
              refine wpIn_round_mixC (Plan.seq [0, 1, 2, 3, 4, 1005, 1006] .nil) (fun q => OwSt W3 gl go L q) (by kernel_rfl) (by kernel_rfl) (by kernel_rfl) (HOW.out.go (Bel.refl _).drew) (fun hcur => ?_)
              simp only [Plan.seq, Plan.fill, List.getD_cons_zero, List.getD_cons_succ, Nat.reduceLT, ↓reduceIte, Nat.reduceSub]
              apply mix_pure _ rfl
              · intro w' hw'
                have q0 := hw'.bel.cell HIB.out
                have l1 := loadV_co (range_bel HIR.out hw'.bel) HCP.out.1.len
                have l2 := loadV_co hw'.l HCP.out.2.len
                go_simp
                rfl
              intro K hK
              go_simp
              refine hK _ ?_
              clear hK K
              apply mix_pure _ rfl
              · intro w' hw'
                have q0 := hw'.bel.cell HIB.out
                have l1 := loadV_co (range_bel HIR.out hw'.bel) HCP.out.1.len
                have l2 := loadV_co hw'.l HCP.out.2.len
                go_simp
                rfl
              intro K hK
              go_simp
              refine hK _ ?_
              clear hK K
              apply mix_pure _ rfl
              · intro w' hw'
                have q0 := hw'.bel.cell HIB.out
                have l1 := loadV_co (range_bel HIR.out hw'.bel) HCP.out.1.len
                have l2 := loadV_co hw'.l HCP.out.2.len
                go_simp
                rfl
              intro K hK
              go_simp
              refine hK _ ?_
              clear hK K
              apply mix_pure _ rfl
              · intro w' hw'
                have q0 := hw'.bel.cell HIB.out
                have l1 := loadV_co (range_bel HIR.out hw'.bel) HCP.out.1.len
                have l2 := loadV_co hw'.l HCP.out.2.len
                go_simp
                rfl
              intro K hK
              go_simp
              refine hK _ ?_
              clear hK K
              apply mix_pure _ rfl
              · intro w' hw'
                have q0 := hw'.bel.cell HIB.out
                have l1 := loadV_co (range_bel HIR.out hw'.bel) HCP.out.1.len
                have l2 := loadV_co hw'.l HCP.out.2.len
                go_simp
                rfl
              intro K hK
              go_simp
              refine hK _ ?_
              clear hK K
              refine mix_act rfl (fun K hK => ?_)
              go_simp
              refine (plus_any (P x) L _ HCP.out.1 HCP.out.2).mono ?_
              rintro e w7 ⟨rfl, hb⟩
              simp only []
              refine hK _ _ (hcur.go hb) (fun hcur => ?_)
              clear hK K hb
              refine mix_act rfl (fun K hK => ?_)
              have hst := storeV_co hcur.there (plusC_len (P x) L)
              go_simp
              have HP7 := Lib.hid (hcur.put ⟨HGO.out.1, hglo⟩ (plusC_len (P x) L))
              refine hK _ _ HP7.out.1 (fun hcur => ?_)
              clear hK K hst
              refine mix_nilR ?_
              have HO5 := Lib.hid HP7.out.2
              have HB5 := Lib.hid hcur.bel
              obtain ⟨w5b, hw5b⟩ : ∃ q, q = w7.setCells go 0 (icells (plusC (P x) L)) := ⟨_, rfl⟩
              rw [← hw5b] at HO5 HB5 ⊢
              clear hw5b
              rw [← HBV.out] at HO5
              clear hcur HP7 HOW HCP HIB HIR hglo hglx hgl5 hz5
              have HX5 := Lib.hid (HB5.out.cell (HX.out.c 0 _ rfl))
              generalize hBB : baseV t x P = BV at *
              clear hBB
              gi_wp2_with fail
              gi_loopw [58] (fun i wr => ∃ u : Nat, u ≤ 31 ∧ i = .int .i64 u ∧ Hid (Bx wr go (icells (addC (cost x) BV u))) ∧ Hid (Bel W3 wr)) (fun i _ => 31 - (intOf i).toNat)
              case atStart => exact ⟨0, by omega, rfl, by rw [HA0.out]; exact HO5, HB5⟩
              case round =>
                clear HO5 HB5
                obtain ⟨u, hu, rfl, HOU, HBU⟩ := hrel
                by_cases hlt : u < 31
                · have hlti : (u : Int) < 31 := by omega
                  have f0 := HBU.out.cell HI.out.f
                  have lf := cell_lt f0
                  have HCU := Lib.hid (HCF.out u hlt wr (HI.out.bel.trans HBU.out))
                  have HAN := Lib.hid (HADD.out u)
                  have HAL := Lib.hid (HADL.out u)
                  have hAA := HADA.out u hlt
                  have hc1 := HCB.out u hlt
                  have hbv1 := HFX.out.2.2.1.1.at_ u hlt
                  have hbv2 := HFX.out.2.2.1.2 u hlt
                  rw [← hAA] at hbv1 hbv2
                  clear hAA HADD HADL HADA HCB HFX HOX HLS HCF HA0 HOV HBV HSL HOF
                  generalize addC (cost x) BV u = A at *
                  generalize cost x u = C at *
                  gi_wp2_with fail
                  refine ⟨trivial, ?_⟩
                  refine (CallsIn.inRound l (callsIn_wide.2 HCU.out)).mono ?_
                  rintro e w8 ⟨rfl, hb⟩
                  replace HOU := Lib.hid (HOU.out.bel hb)
                  replace HBU := Lib.hid (HBU.out.trans hb)
                  have z0 := co_at0 HOU.out u (by rw [HAL.out]; exact hlt)
                  have zf := HOU.out.f
                  have lz := HOU.out.lt
                  have HS := Lib.hid (fun y => And.intro (co_set HOU.out (i := u) (by rw [HAL.out]; exact hlt) y) (HBU.out.setCell (p := ⟨go, u, none⟩) HGO.out.1 (.int .i64 y)))
                  clear hb f0 lf HCU
                  by_cases h1 : C < (1099511627776 : Int)
                  · have g1 : decide (C < (1099511627776 : Int)) = true := decide_eq_true h1
                    by_cases h2 : at0 A u < (1099511627776 : Int)
                    · have g2 : decide (at0 A u < (1099511627776 : Int)) = true := decide_eq_true h2
                      have HR := Lib.hid (HAN.out.trans (by rw [if_pos ⟨h1, h2⟩]))
                      have hsm := hbv2 h2
                      clear HAN
                      generalize at0 A u = y at *
                      gi_wp2
                      exact ⟨⟨u + 1, by omega, by go_num, by rw [HR.out]; exact Lib.hid (HS.out _).1, Lib.hid (HS.out _).2⟩, by simp [intOf]; omega⟩
                    · have g2 : decide (at0 A u < (1099511627776 : Int)) = false := decide_eq_false h2
                      have HR := Lib.hid (HAN.out.trans (by rw [if_neg (fun q => h2 q.2)]))
                      clear HAN
                      generalize at0 A u = y at *
                      gi_wp2
                      exact ⟨⟨u + 1, by omega, by go_num, by rw [HR.out]; exact Lib.hid (HS.out _).1, Lib.hid (HS.out _).2⟩, by simp [intOf]; omega⟩
                  · have g1 : decide (C < (1099511627776 : Int)) = false := decide_eq_false h1
                    have HR := Lib.hid (HAN.out.trans (by rw [if_neg (fun q => h1 q.1)]))
                    clear HAN
                    generalize at0 A u = y at *
                    gi_wp2
                    exact ⟨⟨u + 1, by omega, by go_num, by rw [HR.out]; exact Lib.hid (HS.out _).1, Lib.hid (HS.out _).2⟩, by simp [intOf]; omega⟩
                · have hlti : ¬ (u : Int) < 31 := by omega
                  obtain rfl : u = 31 := by omega
                  rw [← HOV.out] at HOU
                  obtain ⟨hcb1, hal, _, hcbo, hmn⟩ := HFX.out
                  have HCB1 := Lib.hid hcb1
                  have HCBO := Lib.hid hcbo
                  have n0 := HBU.out.cell (HX.out.c 0 _ rfl)
                  have ln := cell_lt n0
                  have HIG := Lib.hid (HI.out.go HBU.out)
                  clear HADD HADL HADA HCB HFX HCF HA0 HOV HBV HSL HX5 hcb1 hcbo
                  generalize ownV t cost x P = OV at *
                  by_cases hof : p.of = -1
                  · have b1 : (p.of != -1) = false := by simpa using hof
                    have hlt9 := HOX.out hof
                    have g9 : decide ((1099511627776 : Int) ≤ minC OV) = false := decide_eq_false (by omega)
                    have HR := Lib.hid (HLS.out.trans (if_pos hof))
                    have hsa := fun wx => slice_all go wx
                    have HMN := Lib.hid (min_any OV go wr HCBO.out.len HOU.out)
                    have a0 := HIG.out.a.c 0 _ rfl
                    have af := HIG.out.a.f
                    have la := HIG.out.a.lt
                    clear HLS HOX hof
                    generalize minC OV = mn at *
                    generalize p.of = of at *
                    gi_wp2_with (refine ⟨trivial, ?_⟩; gi_at_call 117; refine (CallsIn.inRound l (callsIn_wide.2 HMN.out)).mono ?_; rintro e w' ⟨rfl, rfl⟩)
                    exact ⟨(HBU.out.keeps.trans (KeepsOthers.setCell _ _ _)).from _, (KeepC.of_bel HBU.out).t (KeepC.set (D := fun i => i = gp ∨ i = ga) _ ⟨ga, 0, none⟩ _ (.inr rfl)), by rw [HR.out]; exact HIG.out.all HG2.out _⟩
                  · have b1 : (p.of != -1) = true := by simpa using hof
                    obtain ⟨o, ho⟩ : ∃ o : Nat, p.of = (o : Int) := ⟨p.of.toNat, by have := HOF.out; omega⟩
                    have HR := Lib.hid (HLS.out.trans (if_neg hof))
                    have hon : o < t.length := by have := HOF.out; omega
                    rw [ho] at HR n0 b1
                    rw [Int.toNat_natCast] at HR
                    have HPU : Hid (PuSt gb gx go gp o t.length (o : Int) OV wr) := Lib.hid ⟨HIG.out.b, n0, bx_range HOU.out, HIG.out.p.place hon, HIG.out.p.lt⟩
                    have HPO := Lib.hid (HIG.out.p.at_ o hon)
                    have hoi : (o : Int) < (t.length : Int) := by omega
                    clear HLS HOX hof ho HOF
                    gi_wp2_with fail
                    refine wpIn_round_mixC (Plan.seq [0, 1, 2, 3, 4, 5, 6, 8, 1007, 1009, 10, 1011] .nil) (fun q => PuSt gb gx go gp o t.length (o : Int) OV q) (by kernel_rfl) (by kernel_rfl) (by kernel_rfl) (HPU.out.go (Bel.refl _).drew) (fun hcur => ?_)
                    simp only [Plan.seq, Plan.fill, List.getD_cons_zero, List.getD_cons_succ, Nat.reduceLT, ↓reduceIte, Nat.reduceSub]
                    apply mix_pure _ rfl
                    · intro w' hw'
                      have q0 := hw'.b
                      have qx := hw'.x
                      have l2 := loadV_co hw'.ow HCBO.out.len
                      go_simp
                      rfl
                    intro K hK
                    go_simp
                    refine hK _ ?_
                    clear hK K
                    apply mix_pure _ rfl
                    · intro w' hw'
                      have q0 := hw'.b
                      have qx := hw'.x
                      have l2 := loadV_co hw'.ow HCBO.out.len
                      go_simp
                      rfl
                    intro K hK
                    go_simp
                    refine hK _ ?_
                    clear hK K
                    apply mix_pure _ rfl
                    · intro w' hw'
                      have q0 := hw'.b
                      have qx := hw'.x
                      have l2 := loadV_co hw'.ow HCBO.out.len
                      go_simp
                      rfl
                    intro K hK
                    go_simp
                    refine hK _ ?_
                    clear hK K
                    apply mix_pure _ rfl
                    · intro w' hw'
                      have q0 := hw'.b
                      have qx := hw'.x
                      have l2 := loadV_co hw'.ow HCBO.out.len
                      go_simp
                      rfl
                    intro K hK
                    go_simp
                    refine hK _ ?_
                    clear hK K
                    apply mix_pure _ rfl
                    · intro w' hw'
                      have q0 := hw'.b
                      have qx := hw'.x
                      have l2 := loadV_co hw'.ow HCBO.out.len
                      go_simp
                      rfl
                    intro K hK
                    go_simp
                    refine hK _ ?_
                    clear hK K
                    apply mix_pure _ rfl
                    · intro w' hw'
                      have q0 := hw'.b
                      have qx := hw'.x
                      have l2 := loadV_co hw'.ow HCBO.out.len
                      go_simp
                      rfl
                    intro K hK
                    go_simp
                    refine hK _ ?_
                    clear hK K
                    apply mix_pure _ rfl
                    · intro w' hw'
                      have q0 := hw'.b
                      have qx := hw'.x
                      have l2 := loadV_co hw'.ow HCBO.out.len
                      go_simp
                      rfl
                    intro K hK
                    go_simp
                    refine hK _ ?_
                    clear hK K
                    apply mix_pure _ rfl
                    · intro w' hw'
                      have q0 := hw'.b
                      have qx := hw'.x
                      have l2 := loadV_co hw'.ow HCBO.out.len
                      go_simp
                      rfl
                    intro K hK
                    go_simp
                    refine hK _ ?_
                    clear hK K
                    refine mix_act rfl (fun K hK => ?_)
                    have l7 := loadV_co (w := wr.drew) (range_bel HPO.out (Bel.refl wr).drew) (HCB1.out o).len
                    go_simp
                    refine hK _ _ hcur (fun hcur => ?_)
                    clear hK K l7
                    refine mix_act rfl (fun K hK => ?_)
                    go_simp
                    refine (plus_any (P o) OV _ (HCB1.out o) HCBO.out).mono ?_
                    rintro e w9 ⟨rfl, hb⟩
                    have HB9 := Lib.hid (show Bel wr w9 from (Bel.refl wr).drew.trans hb)
                    simp only []
                    refine hK _ _ (hcur.go hb) (fun hcur => ?_)
                    clear hK K hb
                    apply mix_pure _ rfl
                    · intro w' hw'
                      have q0 := hw'.b
                      have qx := hw'.x
                      have l2 := loadV_co hw'.ow HCBO.out.len
                      go_simp
                      rfl
                    intro K hK
                    go_simp
                    refine hK _ ?_
                    clear hK K
                    refine mix_act rfl (fun K hK => ?_)
                    have hst := storeV_co hcur.t (plusC_len (P o) OV)
                    go_simp
                    have HP7 := Lib.hid (hcur.put ⟨HG1.out.2.2.2.2.1, HGO.out.2.2.1, HGO.out.2.2.2.1⟩ (plusC_len (P o) OV))
                    refine hK _ _ HP7.out (fun hcur => ?_)
                    clear hK K hst HP7
                    refine mix_nilR ?_
                    clear hcur
                    have HBE := Lib.hid (HBU.out.trans HB9.out)
                    gi_wp2
                    exact ⟨(HBE.out.keeps.trans (KeepsOthers.setCells _ _ _ _)).from _, (KeepC.of_bel HBE.out).t (KeepC.rows (D := fun i => i = gp ∨ i = ga) (.inl rfl) _ _ _), by rw [HR.out]; exact (HIG.out.go HB9.out).piece HG1.out hon (plusC_len _ _)⟩
      case done =>
        rintro Bq W4 hB hI hBd
        rw [dn_len, ← HLV.out] at hI
        have hBl := (Array.getElem?_eq_some_iff.1 hBd).1
        have HMK := Lib.hid (show Marks w.heap.size W4 [{ target := .collected Bq, args := #[] }] W4.heap.size from ⟨Bq, rfl, by omega, hBl, hBd, trivial⟩)
        have HI := Lib.hid hI
        have a0 := hI.a.c 0 _ rfl
        have la := cell_lt a0
        have r0 := hI.r.c 0 _ rfl
        have rf := hI.r.f
        have lr := cell_lt r0
        clear hI hBd hgv hst
        generalize hX : leastV t cost = X at *
        have HX := Lib.hid hX
        clear hX
        gi_wp2
        refine leaves_marks (Marks.keep HMK.out (fun k _ _ hk => (KeepsOthers.setCell _ _ _).same k _ hk rfl)) (fun w' hk hbl hm => ?_)
        have y0 := hk.cell (fun h => h) (World.cell?_setCell_same W4 ⟨gr, 0, none⟩ (.int .i64 X) r0)
        refine ⟨.int .i64 X, ?_, by rw [HX.out], Below.trans (HI.out.bel.setCell (p := ⟨gr, 0, none⟩) (by show w.heap.size ≤ gr; exact HGR.out) _) hbl⟩
        simp [results, Try.f93, go_sem, *]
      case stop => exact fun B pre W _ h _ => h.elim
end Go.Proofs.Ytkdcdhkhadhcfaa
