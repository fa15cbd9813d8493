/-
  beasts: start: the search for plans, until nothing becomes cheaper.
-/
import Derived.Test.YtogiidkofddhaaaDoorBSteps
import Derived.Carry
import Derived.Test.YtogiidkofddhaaaDoorRound
namespace Go.Proofs.YtogiidkofddhaaaDoor
open Go Go.RowKit Go.Shelf
attribute [local go_sem] Oper.semAt_some run_makeMap
set_option maxHeartbeats 8000000
set_option maxRecDepth 100000
theorem keyV_priceV_inj : ∀ {l m : List (Nat × (Int × Int))}, l.map (fun x => (keyV x.1, priceV x.2)) = m.map (fun x => (keyV x.1, priceV x.2)) → l = m
  | [], [], _ => rfl
  | [], _ :: _, h => by simp at h
  | _ :: _, [], h => by simp at h
  | x :: l, y :: m, h => by
    simp only [List.map_cons, List.cons.injEq, Prod.mk.injEq] at h
    obtain ⟨⟨h1, h2⟩, h3⟩ := h
    rw [keyV_priceV_inj h3]
    have e1 := keyV_inj h1
    unfold priceV at h2
    simp at h2
    have e2 : x = y := Prod.ext e1 (Prod.ext h2.1 h2.2)
    rw [e2]
theorem MapP.uniq {w : World} {b : Nat} {p q : PrT} (h : MapP w b p) (k : MapP w b q) : p = q := by
  obtain ⟨es, c, l, h1, h2, h3⟩ := h
  obtain ⟨es', c', l', k1, k2, k3⟩ := k
  rw [h1] at k1
  injection k1 with k1
  injection k1 with k1 _
  subst k1
  rw [h2] at k2
  have := keyV_priceV_inj k2
  subst this
  exact funext fun s => (h3 s).trans (k3 s).symm
open Classical in
noncomputable def measOf (w : World) (b : Nat) : Nat := if h : ∃ pr, MapP w b pr then meas (Classical.choose h) else 0
theorem MapP.measOf {w : World} {b : Nat} {pr : PrT} (h : MapP w b pr) : Proofs.YtogiidkofddhaaaDoor.measOf w b = meas pr := by
  have hx : ∃ pr, MapP w b pr := ⟨pr, h⟩
  unfold Proofs.YtogiidkofddhaaaDoor.measOf
  rw [dif_pos hx, (Classical.choose_spec hx).uniq h]
def pr0 : PrT := fun s => if s = 1 then some (0, 0) else none
theorem pr0_some {s : Nat} {p : Int × Int} (h : pr0 s = some p) : s = 1 ∧ p = (0, 0) := by
  unfold pr0 at h
  by_cases e : s = 1
  · rw [if_pos e] at h; injection h with h; exact ⟨e, h.symm⟩
  · rw [if_neg e] at h; cases h
theorem inv0 {b : BT} {looks : Bool} : InvP b looks pr0 :=
  ⟨rfl, fun s p h => by rw [(pr0_some h).1]; exact Dom.one, fun s p h => by rw [(pr0_some h).1, (pr0_some h).2]; exact .sea (by unfold enc; simp), fun s p h => by
    rw [(pr0_some h).2]
    simp only []
    omega⟩
theorem upd0 : updP (fun _ => none) 1 (0, 0) = pr0 := funext fun s => by unfold updP pr0; rfl
theorem MapP.made {w : World} {b : Nat} (h : b = w.heap.size) : MapP (w.alloc (.map #[] 0)) b (fun _ => none) := ⟨#[], 0, [], new_row h, rfl, fun _ => rfl⟩
theorem wpListIn_insert_pr {F : Fence} {nF : Nat} {w : World} {ops : Array Oper} {rest : List Oper} {o : Oper} {a : Act} {Q : Exit → Act → World → Prop} (hg : o.guard = none) (m x v : Operand) (hop : o.op = Op.insert 118 m x v)
    {b : Nat} {pr : PrT} (hm : a.eval m = .map (some b)) (hown : MapP w b pr) (s : Nat) (hx : a.eval x = .int .u8 (s : Int)) (p : Int × Int) (hv : a.eval v = priceV p)
    (hK : ∀ w', MapP w' b (updP pr s p) → KeepC (fun _ => False) w w' → w.grownBy w' (some b) → wpListIn F nF Tryd.prog ops Q rest (a.put o.dst undef) w') : wpListIn F nF Tryd.prog ops Q (o :: rest) a w := by
  refine wpListIn_plain hg fun K' hK' => ?_
  obtain ⟨w', hrun, r1, r2, r3⟩ := hown.store mapT mapK s p
  have hx' : a.eval x = keyV s := hx
  unfold Oper.wpIn
  refine ⟨by simp [Oper.about, hop], ?_⟩
  rw [Oper.semAt_plain F _ _ (by rw [hop]; intro c hc'; cases hc')]
  simp [execOp, hop, hm, hx', hv, hrun, Result.andThen]
  exact hK' _ _ (hK w' r1 r2 r3)
theorem wp_mapUpdate_pr {w : World} {o : Oper} {a : Act} {K : Act → World → Prop} {Q : Exit → Act → World → Prop} (m x v : Operand) (hop : o.op = Op.mapUpdate 118 m x v)
    {b : Nat} {pr : PrT} (hm : a.eval m = .map (some b)) (hown : MapP w b pr) (s : Nat) (hx : a.eval x = .int .u8 (s : Int)) (p : Int × Int) (hv : a.eval v = priceV p)
    (hK : ∀ w', MapP w' b (updP pr s p) → KeepC (fun _ => False) w w' → w.grownBy w' (some b) → K (a.put o.dst undef) w') : o.wp Tryd.prog a w K Q := by
  obtain ⟨w', hrun, r1, r2, r3⟩ := hown.store mapT mapK s p
  have hx' : a.eval x = keyV s := hx
  unfold Oper.wp
  simp [execOp, hop, hm, hx', hv, hrun, Result.andThen]
  exact hK w' r1 r2 r3
/-- The search's own blocks: the trap, the hunt, its pointer. -/
structure StB (b : BT) (dv sv pv : Value) (looks : Bool) (w : World) (hb : Nat) (W : World) : Prop where
  trap : BoxB W w.heap.size b dv sv pv
  hunt : HuntAt W (hb) (w.heap.size + 1) b dv sv pv looks
  ge : w.heap.size + 2 ≤ hb
  c5 : W.cell? ⟨hb + 1, 0, none⟩ = some (.pointer (some ⟨hb, 0, none⟩))
  bel : Bel w W
theorem StB.same {b : BT} {dv sv pv : Value} {looks : Bool} {w W W' : World} {hb : Nat} (h : StB b dv sv pv looks w hb W) (k : Bel w W') (hs : ∀ r, r < hb + 2 → r ≠ w.heap.size + 1 → ∀ o v, W.cell? ⟨r, o, none⟩ = some v → W'.cell? ⟨r, o, none⟩ = some v) : StB b dv sv pv looks w hb W' := by
  obtain ⟨⟨a0, a1, a2, a3, a4, a5⟩, ⟨⟨d0, d1, d2, d3, d4, d5⟩, d6, d7⟩, h2, h5, _⟩ := h
  have e1 := hs w.heap.size (by omega) (by omega)
  have e2 := hs hb (by omega) (by omega)
  exact ⟨⟨e1 _ _ a0, e1 _ _ a1, e1 _ _ a2, e1 _ _ a3, e1 _ _ a4, e1 _ _ a5⟩, ⟨⟨e2 _ _ d0, e2 _ _ d1, e2 _ _ d2, e2 _ _ d3, e2 _ _ d4, e2 _ _ d5⟩, e2 _ _ d6, e2 _ _ d7⟩, h2, hs _ (by omega) (by omega) _ _ h5, k⟩
theorem StB.keep {b : BT} {dv sv pv : Value} {looks : Bool} {w W W' : World} {hb : Nat} {D : Nat → Prop} (h : StB b dv sv pv looks w hb W) (k : KeepC D W W') (hD : ∀ r, D r → hb + 2 ≤ r) (hbel : Bel w W') : StB b dv sv pv looks w hb W' :=
  h.same hbel fun r hr _ o v hc => k.cell (p := ⟨r, o, none⟩) (fun q => by have := hD r q; omega) hc
/-- A round of the range over the steps. -/
structure RSt (b : BT) (dv sv pv : Value) (looks : Bool) (w : World) (hb bb sb m0 s : Nat) (ds : List Deferred) (pr : PrT) (bt : Bool) (top : Nat) (pre : List (BS × List Nat)) (W : World) : Prop where
  st : StB b dv sv pv looks w hb W
  cs : W.cell? ⟨sb, 0, none⟩ = some (.int .u8 (s : Int))
  fs : W.frozen? ⟨sb, 0, none⟩ = false
  marks : Marks w.heap.size W ds top
  map : MapP W (w.heap.size + 1) pr
  pass : PassP b looks m0 bt pr s pre
  cb : W.cell? ⟨bb, 0, none⟩ = some (.bool bt)
  fb : W.frozen? ⟨bb, 0, none⟩ = false
theorem RSt.blocks {b : BT} {dv sv pv : Value} {looks : Bool} {w : World} {hb bb sb m0 s : Nat} {ds : List Deferred} {pr : PrT} {bt : Bool} {top : Nat} {pre : List (BS × List Nat)} {W W' : World} (h : RSt b dv sv pv looks w hb bb sb m0 s ds pr bt top pre W) (k : Bel w W')
    (hs : ∀ r, r < top → W'.heap[r]? = W.heap[r]?) (h1 : hb + 2 ≤ top) (h2 : bb < top) (h3 : sb < top) : RSt b dv sv pv looks w hb bb sb m0 s ds pr bt top pre W' := by
  have ce : ∀ r, r < top → ∀ o, W'.cell? ⟨r, o, none⟩ = W.cell? ⟨r, o, none⟩ := fun r hr o => by exact World.cell?_of_block (by exact hs r hr)
  have fe : ∀ r, r < top → ∀ o, W'.frozen? ⟨r, o, none⟩ = W.frozen? ⟨r, o, none⟩ := fun r hr o => by unfold World.frozen?; rw [hs r hr]
  obtain ⟨a1, a2, a3, a4, p1, p2, p3, p4⟩ := h
  have hge := a1.ge
  exact ⟨a1.same k fun r hr _ o v hc => (ce r (by omega) o).trans hc, (ce _ h3 _).trans a2, (fe _ h3 _).trans a3, a4.keep fun r _ hr hc => (hs r hr).trans hc, p1.same (hs _ (by omega)), p2, (ce _ h2 _).trans p3, (fe _ h2 _).trans p4⟩
theorem RSt.quiet {b : BT} {dv sv pv : Value} {looks : Bool} {w : World} {hb bb sb m0 s : Nat} {ds : List Deferred} {pr : PrT} {bt : Bool} {top B : Nat} {pre : List (BS × List Nat)} {W W' : World} (h : RSt b dv sv pv looks w hb bb sb m0 s ds pr bt top pre W) (q : Quiet B W W') (hB : top ≤ B)
    (h1 : hb + 2 ≤ top) (h2 : bb < top) (h3 : sb < top) : RSt b dv sv pv looks w hb bb sb m0 s ds pr bt top pre W' :=
  h.blocks (Below.trans h.st.bel (q.below.mono (by have := h.st.ge; omega))) (fun r hr => q.below.block r (by omega)) h1 h2 h3
theorem RSt.step {b : BT} {dv sv pv : Value} {looks : Bool} {w : World} {hb bb sb m0 s : Nat} {ds : List Deferred} {pr : PrT} {bt : Bool} {top : Nat} {pre : List (BS × List Nat)} {W W' : World} (h : RSt b dv sv pv looks w hb bb sb m0 s ds pr bt top pre W) (q : Bel W W') (ht : top ≤ W.heap.size)
    (h1 : hb + 2 ≤ top) (h2 : bb < top) (h3 : sb < top) : RSt b dv sv pv looks w hb bb sb m0 s ds pr bt top pre W' :=
  h.blocks (h.st.bel.trans q) (fun r hr => q.below.block r (by omega)) h1 h2 h3
theorem RSt.up {b : BT} {dv sv pv : Value} {looks : Bool} {w : World} {hb bb sb m0 s : Nat} {ds : List Deferred} {pr : PrT} {bt : Bool} {top top' : Nat} {pre : List (BS × List Nat)} {W : World} (h : RSt b dv sv pv looks w hb bb sb m0 s ds pr bt top pre W) (ht : top ≤ top') : RSt b dv sv pv looks w hb bb sb m0 s ds pr bt top' pre W :=
  ⟨h.st, h.cs, h.fs, h.marks.top ht, h.map, h.pass, h.cb, h.fb⟩
theorem Marks.others {base : Nat} {w w' : World} {ds : List Deferred} {top : Nat} (h : Marks base w ds top) (k : KeepsOthers w w') : Marks base w' ds top := h.keep fun r _ _ hr => k.same r _ hr rfl
theorem BoxB.keepC {D : Nat → Prop} {w w' : World} {tb : Nat} {b : BT} {dv sv pv : Value} (h : BoxB w tb b dv sv pv) (k : KeepC D w w') (hD : ¬ D tb) : BoxB w' tb b dv sv pv :=
  ⟨k.cell hD h.c0, k.cell hD h.c1, k.cell hD h.c2, k.cell hD h.c3, k.cell hD h.c4, k.cell hD h.c5⟩
def boolAt (v : Value) (W : World) : Bool := match v with
  | .pointer (some p) => match W.cell? p with
    | some (.bool t) => t
    | _ => false
  | _ => false
def intAt (v : Value) (W : World) : Nat := match v with
  | .pointer (some p) => match W.cell? p with
    | some (.int _ i) => i.toNat
    | _ => 0
  | _ => 0
theorem boolAt_eq {W : World} {p : Addr} {t : Bool} (h : W.cell? p = some (.bool t)) : boolAt (.pointer (some p)) W = t := by unfold boolAt; simp only [h]
theorem intAt_eq {W : World} {p : Addr} {k : IntKind} {i : Nat} (h : W.cell? p = some (.int k (i : Int))) : intAt (.pointer (some p)) W = i := by unfold intAt; simp only [h]; omega
noncomputable def muO (w : World) (a : Act) (W : World) : Nat := if boolAt (a.tmps.getD 6 undef) W then measOf W (w.heap.size + 1) + 1 else 0
theorem muO_eq {w : World} {a : Act} {W : World} {bb : Nat} {bt : Bool} {pr : PrT} (h6 : a.tmps.getD 6 undef = .pointer (some ⟨bb, 0, none⟩)) (hc : W.cell? ⟨bb, 0, none⟩ = some (.bool bt)) (hm : MapP W (w.heap.size + 1) pr) : muO w a W = if bt then meas pr + 1 else 0 := by
  unfold muO
  rw [h6, boolAt_eq hc, hm.measOf]
def muI (a : Act) (W : World) : Nat := 64 - intAt (a.tmps.getD 7 undef) W
theorem muI_eq {a : Act} {W : World} {sb s : Nat} {k : IntKind} (h7 : a.tmps.getD 7 undef = .pointer (some ⟨sb, 0, none⟩)) (hc : W.cell? ⟨sb, 0, none⟩ = some (.int k (s : Int))) : muI a W = 64 - s := by
  unfold muI
  rw [h7, intAt_eq hc]
/-- The range over the steps. -/
def RangeI (b : BT) (dv sv pv : Value) (looks : Bool) (w : World) (hb bb sb m0 s : Nat) (ds : List Deferred) (z : Nat) (pre : List (BS × List Nat)) (W : World) : Prop := z ≤ W.heap.size ∧ ∃ pq bq, RSt b dv sv pv looks w hb bb sb m0 s ds pq bq z pre W
/-- The loop over the passes. -/
def OuterI (b : BT) (dv sv pv : Value) (looks : Bool) (w : World) (hb : Nat) (a : Act) (W : World) : Prop := ∃ (x7 x8 x9 x10 x11 x12 x13 x14 x15 x16 x17 x18 x19 x20 x21 x22 x23 x24 x25 x26 x27 x28 x29 x30 x31 x32 x33 x34 x35 x36 x37 x38 x39 x40 x41 x42 x43 x44 x45 x46 x47 x48 x49 : Value) (ds : List Deferred) (bb : Nat) (bt : Bool) (pr : PrT),
  a = { tmps := #[.agg #[.int .i64 b.n, dv, sv, .int .i64 b.look, .int .i64 b.eats, pv], .bool looks, .pointer (some ⟨w.heap.size, 0, none⟩), undef, .pointer none, .pointer (some ⟨hb + 1, 0, none⟩), .pointer (some ⟨bb, 0, none⟩), x7, x8, x9, x10, x11, x12, x13, x14, x15, x16, x17, x18, x19, x20, x21, x22, x23, x24, x25, x26, x27, x28, x29, x30, x31, x32, x33, x34, x35, x36, x37, x38, x39, x40, x41, x42, x43, x44, x45, x46, x47, x48, x49], defers := ds } ∧ StB b dv sv pv looks w hb W ∧ hb + 2 ≤ bb ∧ bb < W.heap.size ∧
  W.cell? ⟨bb, 0, none⟩ = some (.bool bt) ∧ W.frozen? ⟨bb, 0, none⟩ = false ∧ Marks w.heap.size W ds W.heap.size ∧ MapP W (w.heap.size + 1) pr ∧ InvP b looks pr ∧ (bt = false → Fix b looks 1048576 1 (encV pr))
/-- The loop over the beliefs. -/
def InnerI (b : BT) (dv sv pv : Value) (looks : Bool) (w : World) (hb : Nat) (bb m0 : Nat) (a : Act) (W : World) : Prop := ∃ (x8 x9 x10 x11 x12 x13 x14 x15 x16 x17 x18 x19 x20 x21 x22 x23 x24 x25 x26 x27 x28 x29 x30 x31 x32 x33 x34 x35 x36 x37 x38 x39 x40 x41 x42 x43 x44 x45 x46 x47 x48 x49 : Value) (ds : List Deferred) (sb s : Nat) (pr : PrT) (bt : Bool),
  a = { tmps := #[.agg #[.int .i64 b.n, dv, sv, .int .i64 b.look, .int .i64 b.eats, pv], .bool looks, .pointer (some ⟨w.heap.size, 0, none⟩), undef, .pointer none, .pointer (some ⟨hb + 1, 0, none⟩), .pointer (some ⟨bb, 0, none⟩), .pointer (some ⟨sb, 0, none⟩), x8, x9, x10, x11, x12, x13, x14, x15, x16, x17, x18, x19, x20, x21, x22, x23, x24, x25, x26, x27, x28, x29, x30, x31, x32, x33, x34, x35, x36, x37, x38, x39, x40, x41, x42, x43, x44, x45, x46, x47, x48, x49], defers := ds } ∧ RSt b dv sv pv looks w hb bb sb m0 s ds pr bt W.heap.size [] W ∧
  hb + 2 ≤ sb ∧ sb < W.heap.size ∧ bb < W.heap.size ∧ hb + 2 ≤ bb ∧ sb ≠ bb ∧ 1 ≤ s ∧ s ≤ 2 ^ (b.n.toNat + 1)
theorem start_any (b : BT) (hval : validT b = true) (dv sv pv : Value) (looks : Bool) (w : World) (hf : FarAt w) (hv : BTrapAt w (.agg #[.int .i64 b.n, dv, sv, .int .i64 b.look, .int .i64 b.eats, pv]) b) :
    Calls Tryd.prog 88 #[.agg #[.int .i64 b.n, dv, sv, .int .i64 b.look, .int .i64 b.eats, pv], .bool looks] w fun e w' => ∃ hb mb pr, e = .returned (.pointer (some ⟨hb, 0, none⟩)) ∧ w.heap.size ≤ hb ∧ w.heap.size ≤ mb ∧ HuntAt w' hb mb b dv sv pv looks ∧ MapP w' mb pr ∧
      InvP b looks pr ∧ Fix b looks 1048576 1 (encV pr) ∧ Bel w w' := by
  have hok := okb_iff.1 hval
  have HV := Lib.hid hv
  have HF := Lib.hid hf
  clear hv hf
  refine (callsIn_wide (n := 4)).1 ?_
  refine callsIn_of_wp_marks Tryd.func88 rfl trivial ?_ rfl
  simp only [Tryd.ntmps88, List.size_toArray, List.length_cons, List.length_nil, Nat.reduceAdd, Nat.reduceSub, Array.replicate_succ, Array.replicate_zero, List.push_toArray, List.append_toArray, List.nil_append, List.cons_append]
  gi_wp2_with (refine wpListIn_insert_pr rfl _ _ _ rfl rfl (MapP.made (by simp)) 1 rfl (0, 0) rfl ?_; rintro W1 hM1 hK1 hG1)
  have hz1 := hK1.size
  simp only [World.size_alloc] at hz1
  rw [upd0] at hM1
  have hB1 : Bel w W1 := Bel.grown (((Bel.refl w).alloc _).alloc _) hG1 (fun k e => by injection e with e; omega)
  have hX1 : BoxB W1 w.heap.size b dv sv pv := (BoxB.new.bel ((Bel.refl _).alloc _)).keepC hK1 (fun h => h)
  clear hK1 hG1
  generalize hW0 : World.alloc _ _ = W0
  have hB10 : Bel W1 W0 := by rw [← hW0]; exact (((Bel.refl W1).alloc _).alloc _).alloc _
  have z0 : W0.heap.size = W1.heap.size + 1 + 1 + 1 := by rw [← hW0]; simp only [World.size_alloc]
  have hH0 : W0.heap[W1.heap.size]? = some (.cells #[.int .i64 b.n, dv, sv, .int .i64 b.look, .int .i64 b.eats, pv, .bool looks, .map (some (w.heap.size + 1))] 120 (0, 0)) := by
    rw [← hW0]; exact (old_row (by first | (simp; done) | (simp; omega) | omega)).trans ((old_row (by first | (simp; done) | (simp; omega) | omega)).trans (new_row (by first | rfl | (simp; done))))
  have hH1 : W0.heap[W1.heap.size + 1]? = some (.cells #[.pointer (some ⟨W1.heap.size, 0, none⟩)] 78 (0, 0)) := by
    rw [← hW0]; exact (old_row (by first | (simp; done) | (simp; omega) | omega)).trans (new_row (by first | rfl | (simp; done)))
  have hH2 : W0.heap[W1.heap.size + 1 + 1]? = some (.cells #[.bool true] 4 (0, 0)) := by
    rw [← hW0]; exact new_row (by first | rfl | (simp; done))
  have hst0 : StB b dv sv pv looks w W1.heap.size W0 := ⟨hX1.bel hB10, ⟨⟨(row_facts hH0).1 0, (row_facts hH0).1 1, (row_facts hH0).1 2, (row_facts hH0).1 3, (row_facts hH0).1 4, (row_facts hH0).1 5⟩, (row_facts hH0).1 6, (row_facts hH0).1 7⟩, by omega, (row_facts hH1).1 0, hB1.trans hB10⟩
  have hc0 : W0.cell? ⟨W1.heap.size + 1 + 1, 0, none⟩ = some (.bool true) := (row_facts hH2).1 0
  have hc1 := (row_facts hH2).2 0
  have hM0 := hM1.bel hB10
  clear hW0 hB10 hH0 hH1 hH2 hX1 hM1 hB1
  generalize W1.heap.size = hb at *
  refine wpIn_loop (OuterI b dv sv pv looks w hb) (muO w) ?_ (fun a W hI => ?_)
  · exact ⟨_, _, _, _, _, _, _, _, _, _, _, _, _, _, _, _, _, _, _, _, _, _, _, _, _, _, _, _, _, _, _, _, _, _, _, _, _, _, _, _, _, _, _, [], hb + 2, true, pr0, rfl, hst0, Nat.le_refl _, by omega, hc0, hc1, trivial, hM0, inv0, by simp⟩
  clear hst0 hc0 hc1 hM0 z0 hz1
  obtain ⟨x7, x8, x9, x10, x11, x12, x13, x14, x15, x16, x17, x18, x19, x20, x21, x22, x23, x24, x25, x26, x27, x28, x29, x30, x31, x32, x33, x34, x35, x36, x37, x38, x39, x40, x41, x42, x43, x44, x45, x46, x47, x48, x49, ds, bb, bt, pr, rfl, hst, g1, g2, cb, fb, hmk, hmp, hinv, hfix⟩ := hI
  have HST := Lib.hid hst
  have HMK := Lib.hid hmk
  have HMP := Lib.hid hmp
  have HINV := Lib.hid hinv
  have k5 := hst.c5
  cases bt
  · have HFIX := Lib.hid (hfix rfl)
    clear hst hmk hmp hinv hfix
    gi_wp2
    refine leaves_marks HMK.out (fun w' hk hbl hm => ?_)
    have hbw := HST.out.bel.szle
    obtain ⟨es, cl, l, m1, m2, m3⟩ := HMP.out
    refine ⟨.pointer (some ⟨hb, 0, none⟩), ?_, hb, w.heap.size + 1, pr, rfl, by have := HST.out.ge; omega, by omega, (HST.out.keep hk (fun _ h => h.elim) (Below.trans HST.out.bel hbl)).hunt, ⟨es, cl, l, hm _ _ _ m1, m2, m3⟩, HINV.out, HFIX.out, Below.trans HST.out.bel hbl⟩
    simp [results, Tryd.f88, go_sem]
  · have HMU := Lib.hid (And.intro cb hmp)
    clear hst hmk hmp hinv hfix
    gi_wp2
    have hsz := HST.out.bel.szle
    have hge := HST.out.ge
    have hMge : w.heap.size + 1 ≠ bb := by omega
    obtain ⟨V1, hV1⟩ : ∃ V1, V1 = W.setCell ⟨bb, 0, none⟩ (.bool false) := ⟨_, rfl⟩
    rw [← hV1]
    have hv1c : V1.cell? ⟨bb, 0, none⟩ = some (.bool false) := by rw [hV1]; exact World.cell?_setCell_same _ _ _ (by rw [cb])
    have hv1f : V1.frozen? ⟨bb, 0, none⟩ = false := by rw [hV1, World.frozen?_setCell]; exact fb
    have hv1k : KeepC (fun k => k = bb) W V1 := by rw [hV1]; exact KeepC.set _ _ _ rfl
    have hv1o : KeepsOthers W V1 := by rw [hV1]; exact KeepsOthers.setCell _ _ _
    have hv1b : Bel w V1 := by rw [hV1]; exact HST.out.bel.setCell (p := ⟨bb, 0, none⟩) (by show _ ≤ bb; omega) _
    have hv1z : V1.heap.size = W.heap.size := by rw [hV1]; simp
    clear hV1
    generalize hW2 : World.alloc V1 _ = W2
    have hb2 : Bel V1 W2 := by rw [← hW2]; exact (Bel.refl _).alloc _
    have z2 : W2.heap.size = W.heap.size + 1 := by rw [← hW2, World.size_alloc, hv1z]
    have hs2 : W2.heap[W.heap.size]? = some (.cells #[.int .u8 1] 83 (0, 0)) := by rw [← hW2]; exact new_row hv1z.symm
    have hr2 : RSt b dv sv pv looks w hb bb W.heap.size (meas pr) 1 ds pr false W2.heap.size [] W2 :=
      ⟨(HST.out.keep hv1k (fun r h => by omega) hv1b).keep (KeepC.of_bel (D := fun _ => False) hb2) (fun _ h => h.elim) (hv1b.trans hb2), (row_facts hs2).1 0, (row_facts hs2).2 0,
        ((HMK.out.others hv1o).others hb2.keeps).top (by omega), (HMP.out.others hv1o).bel hb2, PassP.begin HINV.out, hb2.cell hv1c, (hb2.frozens ⟨bb, 0, none⟩ (by show bb < _; omega)).trans hv1f⟩
    clear hW2 hb2 hs2 hv1c hv1f hv1k hv1o hv1b hv1z cb fb k5 HST HMK HMP HINV
    refine wpIn_loop (InnerI b dv sv pv looks w hb bb (meas pr)) muI ?_ (fun a Wi hI => ?_)
    · exact ⟨_, _, _, _, _, _, _, _, _, _, _, _, _, _, _, _, _, _, _, _, _, _, _, _, _, _, _, _, _, _, _, _, _, _, _, _, _, _, _, _, _, _, ds, W.heap.size, 1, pr, false, rfl, hr2, by omega, by omega, by omega, g1, by omega, Nat.le_refl _, Nat.one_le_two_pow⟩
    clear hr2 z2
    obtain ⟨x8, x9, x10, x11, x12, x13, x14, x15, x16, x17, x18, x19, x20, x21, x22, x23, x24, x25, x26, x27, x28, x29, x30, x31, x32, x33, x34, x35, x36, x37, x38, x39, x40, x41, x42, x43, x44, x45, x46, x47, x48, x49, ds, sb, s, pr1, bt1, rfl, hr, q1, q2, q3, q4, q5, q6, q7⟩ := hI
    have k7 := hr.cs
    have k0 := hr.st.trap.c0
    have k5 := hr.st.c5
    have l7 : sb < Wi.heap.size := q2
    have l0 : w.heap.size < Wi.heap.size := cell_lt k0
    have HR := Lib.hid hr
    have hn1 := hok.n1
    have hn2 := hok.n2
    have hp64 := hok.pow
    clear hr
    gi_wp2
    refine wpIn_wide.2 ?_
    refine wp_region_mixB (Plan.seq [0, 1, 2, 3, 4, 5] .nil) (by kernel_rfl) (by kernel_rfl) (fun hcur => ?_)
    simp only [Plan.seq, Plan.fill, List.getD_cons_zero, List.getD_cons_succ, Nat.reduceLT, ↓reduceIte]
    apply mix_pure _ rfl
    · intro w' hw'
      have hcr := hw'.cells
      go_simp
      rfl
    intro K hK
    go_simp
    refine hK _ ?_
    clear hK K
    apply mix_pure _ rfl
    · intro w' hw'
      have hcr := hw'.cells
      go_simp
      rfl
    intro K hK
    go_simp
    refine hK _ ?_
    clear hK K
    apply mix_pure _ rfl
    · intro w' hw'
      have hcr := hw'.cells
      go_simp
      rfl
    intro K hK
    go_simp
    refine hK _ ?_
    clear hK K
    apply mix_pure _ rfl
    · intro w' hw'
      have hcr := hw'.cells
      go_simp
      first | (rw [IntWalk.i64_in]; all_goals first | omega | rfl) | rfl
    intro K hK
    go_simp
    refine hK _ ?_
    clear hK K
    apply mix_pure _ rfl
    · intro w' hw'
      have hcr := hw'.cells
      go_simp
      rfl
    intro K hK
    go_simp
    refine hK _ ?_
    clear hK K
    apply mix_pure _ rfl
    · intro w' hw'
      have hcr := hw'.cells
      go_simp
      rfl
    intro K hK
    go_simp
    refine hK _ ?_
    clear hK K
    refine mix_nil ?_
    have hsh : IntKind.u8.wrap ((2 : Int) ^ (b.n + 1).toNat) = ((2 ^ (b.n.toNat + 1) : Nat) : Int) := by
      rw [show (b.n + 1).toNat = b.n.toNat + 1 by omega, show ((2 : Int) ^ (b.n.toNat + 1)) = ((2 ^ (b.n.toNat + 1) : Nat) : Int) by push_cast; rfl]
      show ((2 ^ (b.n.toNat + 1) : Nat) : Int) % 256 = _
      omega
    rw [hsh]
    generalize hWd : Wi.drew = Wd at *
    have HR2 := Lib.hid ((HR.out.step hcur (Nat.le_refl _) (by omega) q3 q2).up hcur.szle)
    have q2' : sb < Wd.heap.size := by have := hcur.szle; omega
    have q3' : bb < Wd.heap.size := by have := hcur.szle; omega
    have HMI := Lib.hid k7
    replace k7 := hcur.cell k7
    replace k5 := hcur.cell k5
    clear hcur hWd k0 l0 l7 HR hsh q2 q3
    by_cases hs : s < 2 ^ (b.n.toNat + 1)
    · rw [show decide ((s : Int) < ((2 ^ (b.n.toNat + 1) : Nat) : Int)) = true from decide_eq_true (by omega)]
      gi_wp2_with (refine ⟨trivial, ?_⟩; gi_at_call 104; refine (hsteps_in Fence.wide _ trivial rfl hb s _).mono ?_; rintro e w2 ⟨rfl, rfl⟩)
      generalize hWr : World.alloc (World.alloc Wd _) _ = Wr
      have hbr : Bel Wd Wr := by rw [← hWr]; exact ((Bel.refl _).alloc _).alloc _
      have zr : Wr.heap.size = Wd.heap.size + 1 + 1 := by rw [← hWr]; simp only [World.size_alloc]
      have c1 : Wr.cell? ⟨Wd.heap.size, 0, none⟩ = some (.pointer (some ⟨hb, 0, none⟩)) := by rw [← hWr]; exact (row_facts ((old_row (by first | (simp; done) | (simp; omega) | omega)).trans (new_row (by first | rfl | (simp; done))))).1 0
      have c2 : Wr.cell? ⟨Wd.heap.size + 1, 0, none⟩ = some (.int .u8 (s : Int)) := by rw [← hWr]; exact (row_facts (new_row (by first | rfl | (simp; done)))).1 0
      have hr3 := (HR2.out.step hbr (Nat.le_refl _) (by omega) q3' q2').up hbr.szle
      have hgv : GivesTo Fence.wide (4 - 1) Tryd.prog 113 #[.pointer (some ⟨Wd.heap.size, 0, none⟩), .pointer (some ⟨Wd.heap.size + 1, 0, none⟩)] (StepAt w.heap.size) (fun k => k = bb) (stepsOf b looks s) Wr := by
        obtain ⟨dv', sv', pv', e, hd, hs', _⟩ := HV.out
        simp at e
        obtain ⟨rfl, rfl, rfl⟩ := e
        exact hsteps1_gives (4 - 1) (by omega) hb (w.heap.size + 1) Wd.heap.size (Wd.heap.size + 1) s b hval hs dv sv pv looks _ w Wr (fun g h => by omega) (fun g h => by omega) (by omega) (by omega) (by omega) hr3.st.bel hr3.st.hunt c1 c2 hd hs'
      have q2r : sb < Wr.heap.size := by omega
      have q3r : bb < Wr.heap.size := by omega
      have q4r : hb + 2 ≤ Wr.heap.size := by omega
      clear hWr c1 c2 hbr HR2 k5 k7 zr
      refine range_clo rfl (by omega) (gf := 113) (lb := #[.pointer (some ⟨Wd.heap.size, 0, none⟩), .pointer (some ⟨Wd.heap.size + 1, 0, none⟩)]) rfl trivial (enters_of Tryd.func113 (by kernel_rfl) rfl) hgv
        (fun x vs W h => by obtain ⟨nv, rfl, _, _⟩ := h; rfl)
        (RangeI b dv sv pv looks w hb bb sb (meas pr) s ds Wr.heap.size) (fun _ _ => False)
        (fun pre A B h q => by obtain ⟨hz, pq, bq, h⟩ := h; exact ⟨Nat.le_trans hz q.below.size, pq, bq, h.quiet q (Nat.le_refl _) q4r q3r q2r⟩) (fun _ _ _ h _ => h) ⟨Nat.le_refl _, pr1, bt1, hr3⟩
        (fun x a' W => ∃ (xb : Nat) (nv y10 y11 y12 y13 y14 y15 y16 y17 y18 y19 y20 y21 y22 y23 y24 y25 y26 y27 y28 y29 y30 y31 y32 y33 y34 y35 y36 y37 y38 y39 y40 y41 y42 y43 y44 y45 y46 y47 y48 y49 : Value), a' = { tmps := #[.agg #[.int .i64 b.n, dv, sv, .int .i64 b.look, .int .i64 b.eats, pv], .bool looks, .pointer (some ⟨w.heap.size, 0, none⟩), undef, .pointer none, .pointer (some ⟨hb + 1, 0, none⟩), .pointer (some ⟨bb, 0, none⟩), .pointer (some ⟨sb, 0, none⟩), .pointer (some ⟨xb, 0, none⟩), nv, y10, y11, y12, y13, y14, y15, y16, y17, y18, y19, y20, y21, y22, y23, y24, y25, y26, y27, y28, y29, y30, y31, y32, y33, y34, y35, y36, y37, y38, y39, y40, y41, y42, y43, y44, y45, y46, y47, y48, y49], defers := [] } ∧
          W.cell? ⟨xb, 0, none⟩ = some (.int .i64 x.1.k) ∧ W.cell? ⟨xb, 1, none⟩ = some (.int .i64 x.1.x) ∧ BelsAt W nv x.2)
        (fun x a' A B h q => by obtain ⟨xb, nv, y10, y11, y12, y13, y14, y15, y16, y17, y18, y19, y20, y21, y22, y23, y24, y25, y26, y27, y28, y29, y30, y31, y32, y33, y34, y35, y36, y37, y38, y39, y40, y41, y42, y43, y44, y45, y46, y47, y48, y49, h1, h2, h3, ⟨ba, bc, bg, bo, k1, k2, k3, k4⟩⟩ := h; exact ⟨xb, nv, y10, y11, y12, y13, y14, y15, y16, y17, y18, y19, y20, y21, y22, y23, y24, y25, y26, y27, y28, y29, y30, y31, y32, y33, y34, y35, y36, y37, y38, y39, y40, y41, y42, y43, y44, y45, y46, y47, y48, y49, h1, q.keep.cell (fun h => h) h2, q.keep.cell (fun h => h) h3, ⟨ba, bc, bg, bo, k1, k2, k3, fun i hi => q.keep.cell (fun h => h) (k4 i hi)⟩⟩) ?assign ?body ?done ?stop
      case assign =>
        intro l pre x vs W3 K hat hI hK
        obtain ⟨nv, rfl, hbl, _⟩ := hat
        obtain ⟨hz3, pr2, bt2, hI⟩ := hI
        have HK := Lib.hid hK
        have HI := Lib.hid hI
        clear hK hI
        gi_wp2
        exact HK.out _ _ (((Bel.refl W3).alloc _).keeps.from _) (KeepC.of_bel ((Bel.refl W3).alloc _)) ⟨Nat.le_trans hz3 ((Bel.refl W3).alloc _).szle, pr2, bt2, HI.out.step ((Bel.refl W3).alloc _) hz3 q4r q3r q2r⟩ ⟨W3.heap.size, nv, _, _, _, _, _, _, _, _, _, _, _, _, _, _, _, _, _, _, _, _, _, _, _, _, _, _, _, _, _, _, _, _, _, _, _, _, _, _, _, _, rfl, (row_facts (new_row rfl)).1 0, (row_facts (new_row rfl)).1 1, hbl.bel ((Bel.refl W3).alloc _)⟩
      case body =>
        rintro l pre ⟨xs, xn⟩ a' W3 ⟨post, hpost⟩ ⟨hz3, pr2, bt2, hI⟩ ⟨xb, nv, y10, y11, y12, y13, y14, y15, y16, y17, y18, y19, y20, y21, y22, y23, y24, y25, y26, y27, y28, y29, y30, y31, y32, y33, y34, y35, y36, y37, y38, y39, y40, y41, y42, y43, y44, y45, y46, y47, y48, y49, rfl, b0, b1, hbl⟩
        simp only [] at b0 b1 hbl
        have hmem : (xs, xn) ∈ stepsOf b looks s := by rw [hpost]; simp
        have HI := Lib.hid hI
        have k5 := hI.st.c5
        have HWITH := Lib.hid (hwith_any hb (w.heap.size + 1) b hval dv sv pv looks pr2 (fun t => hI.pass.inv.ofP_in t) xs (steps_stp hmem) nv xn W3 (HF.out.bel hI.st.bel) hI.st.hunt hI.map hbl (HV.out.bel hI.st.bel))
        have HOF := Lib.hid (fun wx (hx : Bel W3 wx) => hof_any hb (w.heap.size + 1) s b dv sv pv looks pr2 wx (HF.out.bel (hI.st.bel.trans hx)) (hI.st.hunt.bel hx) (hI.map.bel hx))
        have HLS := Lib.hid (fun wx => less_any (withP b pr2 (xs, xn)) (ofP pr2 s) wx)
        have HSKIP := Lib.hid (fun h => hI.pass.skip (x := (xs, xn)) h)
        have HTAKE := Lib.hid (fun h => hI.pass.take hok ⟨by omega, hs⟩ hmem h)
        clear hI hmem hpost hbl hgv hr3
        generalize withP b pr2 (xs, xn) = wp at *
        generalize ofP pr2 s = op at *
        gi_wp2_with (refine ⟨trivial, ?_⟩; gi_at_call 105; refine (CallsIn.inRound l (callsIn_wide.2 HWITH.out)).mono ?_; rintro e w2 ⟨rfl, hb2⟩)
        generalize hW4 : World.alloc w2 _ = W4
        have hb4 : Bel W3 W4 := by rw [← hW4]; exact hb2.alloc _
        have p0 : W4.cell? ⟨w2.heap.size, 0, none⟩ = some (.int .i64 wp.1) := by rw [← hW4]; exact (row_facts (new_row rfl)).1 0
        have p1 : W4.cell? ⟨w2.heap.size, 1, none⟩ = some (.int .i64 wp.2) := by rw [← hW4]; exact (row_facts (new_row rfl)).1 1
        have HI4 := Lib.hid (HI.out.step hb4 hz3 q4r q3r q2r)
        replace k5 := hb4.cell k5
        have k7 := HI4.out.cs
        have l5 : hb + 1 < W4.heap.size := cell_lt k5
        have l7 : sb < W4.heap.size := cell_lt k7
        have lp : w2.heap.size < W4.heap.size := cell_lt p0
        have HB4 := Lib.hid hb4
        clear hW4 hb4 hb2 HWITH b0 b1
        refine wpIn_round_mixB (Plan.seq [0, 1, 2, 1003, 1004] .nil) (by kernel_rfl) (by kernel_rfl) (by kernel_rfl) (fun hcur => ?_)
        simp only [Plan.seq, Plan.fill, List.getD_cons_zero, List.getD_cons_succ, Nat.reduceLT, ↓reduceIte, Nat.reduceSub]
        apply mix_pure _ rfl
        · intro w' hw'
          have hcr := hw'.cells
          go_simp
          rfl
        intro K hK
        go_simp
        refine hK _ ?_
        clear hK K
        apply mix_pure _ rfl
        · intro w' hw'
          have hcr := hw'.cells
          go_simp
          rfl
        intro K hK
        go_simp
        refine hK _ ?_
        clear hK K
        apply mix_pure _ rfl
        · intro w' hw'
          have hcr := hw'.cells
          go_simp
          rfl
        intro K hK
        go_simp
        refine hK _ ?_
        clear hK K
        refine mix_act rfl (fun K hK => ?_)
        go_simp
        refine (HOF.out _ (HB4.out.trans hcur)).mono ?_
        rintro e w5 ⟨rfl, hb⟩
        simp only []
        refine hK _ _ (hcur.trans hb) (fun hcur => ?_)
        clear hK K hb
        refine mix_act rfl (fun K hK => ?_)
        go_simp
        refine (HLS.out _).mono ?_
        rintro e w6 ⟨rfl, hb⟩
        simp only []
        refine hK _ _ (hcur.trans hb) (fun hcur => ?_)
        clear hK K hb
        refine mix_nilR ?_
        have hz4 : Wr.heap.size ≤ W4.heap.size := Nat.le_trans hz3 HB4.out.szle
        have HI6 := Lib.hid (HI4.out.step hcur hz4 q4r q3r q2r)
        have HB6 := Lib.hid (HB4.out.trans hcur)
        replace k5 := hcur.cell k5
        replace k7 := hcur.cell k7
        replace p0 := hcur.cell p0
        replace p1 := hcur.cell p1
        have hz6 : Wr.heap.size ≤ w6.heap.size := Nat.le_trans hz4 hcur.szle
        clear hcur l5 l7 lp HOF HLS HI4 HB4
        cases hle : lessP wp op
        · have HE := Lib.hid (HSKIP.out hle)
          clear hle
          gi_wp2
          exact ⟨HB6.out.keeps.from _, KeepC.of_bel HB6.out, hz6, pr2, bt2, HI6.out.st, HI6.out.cs, HI6.out.fs, HI6.out.marks, HI6.out.map, HE.out, HI6.out.cb, HI6.out.fb⟩
        · have HE := Lib.hid (HTAKE.out hle)
          have HCLS : Hid (∀ wx, Bel w6 wx → wx.cell? ⟨hb + 1, 0, none⟩ = some (.pointer (some ⟨hb, 0, none⟩)) ∧ wx.cell? ⟨hb, 7, none⟩ = some (.map (some (w.heap.size + 1))) ∧ wx.cell? ⟨sb, 0, none⟩ = some (.int .u8 (s : Int)) ∧ wx.cell? ⟨w2.heap.size, 0, none⟩ = some (.int .i64 wp.1) ∧ wx.cell? ⟨w2.heap.size, 1, none⟩ = some (.int .i64 wp.2)) :=
            Lib.hid (fun wx hx => ⟨hx.cell k5, hx.cell HI6.out.st.hunt.map, hx.cell k7, hx.cell p0, hx.cell p1⟩)
          clear hle
          gi_wp2
          refine wpIn_round_mixC (Plan.seq [0, 1, 2, 3, 4, 5, 1006] .nil) (fun q => q.cell? ⟨hb + 1, 0, none⟩ = some (.pointer (some ⟨hb, 0, none⟩)) ∧ q.cell? ⟨hb, 7, none⟩ = some (.map (some (w.heap.size + 1))) ∧ q.cell? ⟨sb, 0, none⟩ = some (.int .u8 (s : Int)) ∧ q.cell? ⟨w2.heap.size, 0, none⟩ = some (.int .i64 wp.1) ∧ q.cell? ⟨w2.heap.size, 1, none⟩ = some (.int .i64 wp.2)) (by kernel_rfl) (by kernel_rfl) (by kernel_rfl) (HCLS.out _ ((Bel.refl _).drew)) (fun hcur => ?_)
          simp only [Plan.seq, Plan.fill, List.getD_cons_zero, List.getD_cons_succ, Nat.reduceLT, ↓reduceIte, Nat.reduceSub]
          apply mix_pure _ rfl
          · intro w' hw'
            obtain ⟨e0, e1, e2, e3, e4⟩ := hw'
            go_simp
            rfl
          intro K hK
          go_simp
          refine hK _ ?_
          clear hK K
          apply mix_pure _ rfl
          · intro w' hw'
            obtain ⟨e0, e1, e2, e3, e4⟩ := hw'
            go_simp
            rfl
          intro K hK
          go_simp
          refine hK _ ?_
          clear hK K
          apply mix_pure _ rfl
          · intro w' hw'
            obtain ⟨e0, e1, e2, e3, e4⟩ := hw'
            go_simp
            rfl
          intro K hK
          go_simp
          refine hK _ ?_
          clear hK K
          apply mix_pure _ rfl
          · intro w' hw'
            obtain ⟨e0, e1, e2, e3, e4⟩ := hw'
            go_simp
            rfl
          intro K hK
          go_simp
          refine hK _ ?_
          clear hK K
          apply mix_pure _ rfl
          · intro w' hw'
            obtain ⟨e0, e1, e2, e3, e4⟩ := hw'
            go_simp
            rfl
          intro K hK
          go_simp
          refine hK _ ?_
          clear hK K
          apply mix_pure _ rfl
          · intro w' hw'
            obtain ⟨e0, e1, e2, e3, e4⟩ := hw'
            go_simp
            rfl
          intro K hK
          go_simp
          refine hK _ ?_
          clear hK K
          refine mix_act rfl (fun K hK => ?_)
          refine wp_mapUpdate_pr _ _ _ rfl rfl (HI6.out.map.bel ((Bel.refl _).drew)) s rfl wp rfl ?_
          rintro w7 hM7 hK7 hG7
          obtain ⟨e0, e1, e2, e3, e4⟩ := hcur
          refine hK _ _ ⟨hK7.cell (fun h => h) e0, hK7.cell (fun h => h) e1, hK7.cell (fun h => h) e2, hK7.cell (fun h => h) e3, hK7.cell (fun h => h) e4⟩ (fun hcur => ?_)
          clear hK K e0 e1 e2 e3 e4
          refine mix_nilR ?_
          have hd6 : Bel w6 w6.drew := (Bel.refl _).drew
          have hcb := hd6.cell HI6.out.cb
          have hcf := (hd6.frozens ⟨bb, 0, none⟩ (cell_lt HI6.out.cb)).trans HI6.out.fb
          have hcs := hd6.cell HI6.out.cs
          have hcg := (hd6.frozens ⟨sb, 0, none⟩ (cell_lt HI6.out.cs)).trans HI6.out.fs
          have k6 := hK7.cell (fun h => h) hcb
          have k6f := (hK7.frozen (fun h => h) hcb).trans hcf
          have HD6 := Lib.hid hd6
          have HK7 := Lib.hid hK7
          have HG7 := Lib.hid hG7
          have HM7 := Lib.hid hM7
          have HCS := Lib.hid (And.intro (hK7.cell (fun h => h) hcs) ((hK7.frozen (fun h => h) hcs).trans hcg))
          clear hcur hK7 hG7 hM7 hd6 hcb hcf hcs hcg
          gi_wp2
          have hKC : KeepC (fun k => k = bb) w6 (w7.setCell ⟨bb, 0, none⟩ (.bool true)) := (KeepC.of_bel HD6.out).t ((HK7.out.more (fun _ h => h.elim)).t (KeepC.set _ ⟨bb, 0, none⟩ _ rfl))
          have hBW : Bel w (w7.setCell ⟨bb, 0, none⟩ (.bool true)) := ((HI6.out.st.bel.trans HD6.out).grown HG7.out (fun k e => by injection e with e; omega)).setCell (p := ⟨bb, 0, none⟩) (by show _ ≤ bb; omega) _
          have hz7 : Wr.heap.size ≤ (w7.setCell ⟨bb, 0, none⟩ (.bool true)).heap.size := Nat.le_trans hz6 hKC.size
          have hdef : ∀ k : Nat, w6.heap[k]? = some (Obj.deferred (some [])) → (w7.setCell ⟨bb, 0, none⟩ (.bool true)).heap[k]? = some (Obj.deferred (some [])) := fun k hk => by
            have h6 : w6.drew.heap[k]? = some (Obj.deferred (some [])) := hk
            obtain ⟨es, cl, l', hm, _⟩ := HI6.out.map
            refine (KeepsOthers.setCell w7 ⟨bb, 0, none⟩ (.bool true)).same k _ ((HG7.out.block k (Array.getElem?_eq_some_iff.1 h6).1 (fun e => ?_)).trans h6) rfl
            injection e with e
            rw [e, hm] at hk
            cases hk
          exact ⟨(HB6.out.keeps.from _).trans (((HD6.out.keeps.from _).trans (KeepsFrom.of_grownBy HG7.out (fun j e => by injection e with e; omega))).trans ((KeepsOthers.setCell _ _ _).from _)), (KeepC.of_bel HB6.out).t hKC, hz7, updP pr2 s wp, true,
            HI6.out.st.keep hKC (fun r h => by omega) hBW, hKC.cell q5 k7, (hKC.frozen q5 k7).trans HI6.out.fs, HI6.out.marks.keep (fun k _ _ hk => hdef k hk), HM7.out.others (KeepsOthers.setCell _ _ _), HE.out,
            World.cell?_setCell_same _ _ _ (by rw [k6]), by rw [World.frozen?_setCell]; exact k6f⟩
      case stop => exact fun B pre W _ h _ => h.elim
      case done =>
        rintro B W4 hB ⟨hz4, pr2, bt2, hI⟩ hBd
        have HI := Lib.hid hI
        have k7 := hI.cs
        have hBl := (Array.getElem?_eq_some_iff.1 hBd).1
        have HMK4 : Hid (Marks w.heap.size W4 ({ target := .collected B, args := #[] } :: ds) W4.heap.size) := Lib.hid ⟨B, rfl, by omega, hBl, hBd, hI.marks.top hB⟩
        have hws : IntKind.u8.wrap ((s : Int) + 1) = (s : Int) + 1 := by show ((s : Int) + 1) % 256 = _; omega
        clear hI hBd hgv hr3
        gi_wp2
        generalize hW9 : World.alloc W4 _ = W9
        have hb9 : Bel W4 W9 := by rw [← hW9]; exact (Bel.refl _).alloc _
        have z9 : W9.heap.size = W4.heap.size + 1 := by rw [← hW9]; simp only [World.size_alloc]
        have hs9 : W9.heap[W4.heap.size]? = some (.cells #[.int .u8 ((s : Int) + 1)] 83 (0, 0)) := by rw [← hW9]; exact new_row rfl
        have hcs9 : W9.cell? ⟨W4.heap.size, 0, none⟩ = some (.int .u8 ((s + 1 : Nat) : Int)) := (row_facts hs9).1 0
        have hI9 := HI.out.step hb9 hz4 q4r q3r q2r
        refine ⟨⟨_, _, _, _, _, _, _, _, _, _, _, _, _, _, _, _, _, _, _, _, _, _, _, _, _, _, _, _, _, _, _, _, _, _, _, _, _, _, _, _, _, _, _, W4.heap.size, s + 1, pr2, bt2, rfl, ⟨hI9.st, hcs9, (row_facts hs9).2 0, (HMK4.out.others hb9.keeps).top (by omega), hI9.map, hI9.pass.next, hI9.cb, hI9.fb⟩, by omega, by omega, by omega, q4, by omega, by omega, by omega⟩, ?_⟩
        refine Nat.lt_of_le_of_lt (Nat.le_of_eq (muI_eq rfl hcs9)) (Nat.lt_of_lt_of_le ?_ (Nat.le_of_eq (muI_eq rfl HMI.out).symm))
        omega
    · have k6 := HR2.out.cb
      have es : s = 2 ^ (b.n.toNat + 1) := by omega
      rw [show decide ((s : Int) < ((2 ^ (b.n.toNat + 1) : Nat) : Int)) = false from decide_eq_false (by omega)]
      gi_wp2
      generalize hW9 : World.alloc Wd _ = W9
      have hb9 : Bel Wd W9 := by rw [← hW9]; exact (Bel.refl _).alloc _
      have z9 : W9.heap.size = Wd.heap.size + 1 := by rw [← hW9]; simp only [World.size_alloc]
      have hs9 : W9.heap[Wd.heap.size]? = some (.cells #[.bool bt1] 4 (0, 0)) := by rw [← hW9]; exact new_row rfl
      have hcs9 : W9.cell? ⟨Wd.heap.size, 0, none⟩ = some (.bool bt1) := (row_facts hs9).1 0
      have hI9 := HR2.out.step hb9 (Nat.le_refl _) (by omega) q3' q2'
      refine ⟨⟨_, _, _, _, _, _, _, _, _, _, _, _, _, _, _, _, _, _, _, _, _, _, _, _, _, _, _, _, _, _, _, _, _, _, _, _, _, _, _, _, _, _, _, ds, Wd.heap.size, bt1, pr1, rfl, hI9.st, by omega, by omega, hcs9, (row_facts hs9).2 0, hI9.marks.top (by omega), hI9.map, hI9.pass.inv, fun e => ?_⟩, ?_⟩
      · have hp := hI9.pass
        rw [e, es] at hp
        exact hp.fix hok
      · refine Nat.lt_of_le_of_lt (Nat.le_of_eq (muO_eq rfl hcs9 hI9.map)) (Nat.lt_of_lt_of_le ?_ (Nat.le_of_eq (muO_eq rfl HMU.out.1 HMU.out.2).symm))
        cases bt1
        · simp
        · have := hI9.pass.yes rfl
          simp
          exact this
end Go.Proofs.YtogiidkofddhaaaDoor
