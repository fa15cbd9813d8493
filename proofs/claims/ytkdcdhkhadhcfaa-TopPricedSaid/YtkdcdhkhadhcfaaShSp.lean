/-
  shares: the program: split.
-/
import Derived.Test.YtkdcdhkhadhcfaaShWt
import Derived.Test.YtkdcdhkhadhcfaaShS
import Derived.Test.YtkdcdhkhadhcfaaCtNo
import Derived.Lib.MinMax
namespace Go.Proofs.Ytkdcdhkhadhcfaa
set_option linter.unusedVariables false
open Go Go.RowKit Go.Shelf
attribute [local go_sem] Oper.semAt_some run_makeMap
set_option maxHeartbeats 8000000
set_option maxRecDepth 100000
theorem MapN.made {w : World} {b : Nat} (h : b = w.heap.size) : MapN (w.alloc (.map #[] 0)) b (fun _ => none) := ⟨#[], 0, [], new_row h, rfl, fun _ => rfl⟩
theorem mapTN : Try.prog.underlying 159 = some (.map 3 3) := Try.underlying159
theorem mapKN : Try.prog.underlying 3 = some (.int .i64) := Try.underlying3
theorem mapZN : ∀ w : World, (zeroValue 3).run Try.prog w = .ok (penV 0) w := by
  intro w
  obtain ⟨i1, hi1, hz1, _, _⟩ := info_parts mkInt
  simp [zeroValue, typeInfo, hi1, hz1, penV]
/-- The variables of split. -/
structure SpSt (w : World) (B gc gy gm gv gr : Nat) (cv fv : Value) (pr : GtT) (r : Int) (ds : List Deferred) (W : World) : Prop where
  bel : Bel w W
  sz : B ≤ W.heap.size
  ml : gm < B
  c : W.cell? ⟨gc, 0, none⟩ = some cv
  y : W.cell? ⟨gy, 0, none⟩ = some fv
  v : W.cell? ⟨gv, 0, none⟩ = some (.map (some gm))
  m : MapN W gm pr
  r : Bx W gr [.int .i64 r]
  marks : Marks w.heap.size W ds B
theorem keep_obj {A B : World} (hb : Bel A B) {k : Nat} {o : Obj} (h : A.heap[k]? = some o) : B.heap[k]? = some o := (hb.below.block k (Array.getElem?_eq_some_iff.1 h).1).trans h
theorem SpSt.go {w : World} {B gc gy gm gv gr : Nat} {cv fv : Value} {pr : GtT} {r : Int} {ds : List Deferred} {W W' : World} (h : SpSt w B gc gy gm gv gr cv fv pr r ds W) (k : Bel W W') : SpSt w B gc gy gm gv gr cv fv pr r ds W' :=
  ⟨h.bel.trans k, Nat.le_trans h.sz k.szle, h.ml, k.cell h.c, k.cell h.y, k.cell h.v, h.m.bel k, h.r.bel k, h.marks.keep fun _ _ _ hr => keep_obj k hr⟩
theorem SpSt.quiet {w : World} {B gc gy gm gv gr : Nat} {cv fv : Value} {pr : GtT} {r : Int} {ds : List Deferred} {W W' : World} (h : SpSt w B gc gy gm gv gr cv fv pr r ds W) (q : Quiet B W W') (hw : w.heap.size ≤ B) : SpSt w B gc gy gm gv gr cv fv pr r ds W' :=
  ⟨Below.trans h.bel (q.below.mono hw), Nat.le_trans h.sz q.below.size, h.ml, q.keep.cell (fun h => h) h.c, q.keep.cell (fun h => h) h.y, q.keep.cell (fun h => h) h.v, h.m.same (q.below.block _ h.ml), h.r.quietS q.keep (fun h => h), h.marks.keep fun k _ hk hr => (q.below.block k hk).trans hr⟩
theorem SpSt.up {w : World} {B B' gc gy gm gv gr : Nat} {cv fv : Value} {pr : GtT} {r : Int} {ds : List Deferred} {W : World} (h : SpSt w B gc gy gm gv gr cv fv pr r ds W) (h1 : B ≤ B') (h2 : B' ≤ W.heap.size) : SpSt w B' gc gy gm gv gr cv fv pr r ds W :=
  ⟨h.bel, h2, Nat.lt_of_lt_of_le h.ml h1, h.c, h.y, h.v, h.m, h.r, h.marks.top h1⟩
theorem SpSt.mark {w : World} {B B' D gc gy gm gv gr : Nat} {cv fv : Value} {pr : GtT} {r : Int} {ds : List Deferred} {W : World} (h : SpSt w B gc gy gm gv gr cv fv pr r ds W) (hD : B ≤ D) (hw : w.heap.size ≤ B) (hd : W.heap[D]? = some (.deferred (some []))) (h1 : D < B') (h2 : B' ≤ W.heap.size) :
    SpSt w B' gc gy gm gv gr cv fv pr r ({ target := .collected D, args := #[] } :: ds) W :=
  ⟨h.bel, h2, by have := h.ml; omega, h.c, h.y, h.v, h.m, h.r, ⟨D, rfl, by omega, h1, hd, h.marks.top hD⟩⟩
theorem SpSt.put {w : World} {B gc gy gm gv gr : Nat} {cv fv : Value} {pr pr' : GtT} {r : Int} {ds : List Deferred} {W W' : World} (h : SpSt w B gc gy gm gv gr cv fv pr r ds W) (hM : MapN W' gm pr') (hK : KeepC (fun _ => False) W W') (hG : W.grownBy W' (some gm)) (hw : w.heap.size ≤ gm) :
    SpSt w B gc gy gm gv gr cv fv pr' r ds W' :=
  ⟨h.bel.grown hG (fun k e => by injection e with e; omega), Nat.le_trans h.sz hK.size, h.ml, hK.cell (fun h => h) h.c, hK.cell (fun h => h) h.y, hK.cell (fun h => h) h.v, hM, h.r.quietS hK (fun h => h), h.marks.keep fun k _ hk hr => by
    obtain ⟨es, cl, l', hm, _⟩ := h.m
    refine (hG.block k (Array.getElem?_eq_some_iff.1 hr).1 (fun e => ?_)).trans hr
    injection e with e
    rw [e, hm] at hr
    cases hr⟩
theorem SpSt.other {w : World} {B gc gy gm gv gr p : Nat} {cv fv : Value} {pr : GtT} {r : Int} {ds : List Deferred} {W : World} (h : SpSt w B gc gy gm gv gr cv fv pr r ds W) (hp : w.heap.size ≤ p ∧ p ≠ gc ∧ p ≠ gy ∧ p ≠ gv ∧ p ≠ gr) (u : Value) :
    SpSt w B gc gy gm gv gr cv fv pr r ds (W.setCell ⟨p, 0, none⟩ u) :=
  ⟨h.bel.setCell (p := ⟨p, 0, none⟩) hp.1 _, by rw [World.size_setCell]; exact h.sz, h.ml, (World.cell?_setCell_other _ _ _ _ (by intro e; injection e with e1 e2; omega)).trans h.c, (World.cell?_setCell_other _ _ _ _ (by intro e; injection e with e1 e2; omega)).trans h.y,
    (World.cell?_setCell_other _ _ _ _ (by intro e; injection e with e1 e2; omega)).trans h.v, h.m.others (KeepsOthers.setCell _ _ _), h.r.other hp.2.2.2.2 _, h.marks.keep fun k _ _ hr => (KeepsOthers.setCell _ _ _).same k _ hr rfl⟩
theorem SpSt.rest {w : World} {B gc gy gm gv gr : Nat} {cv fv : Value} {pr : GtT} {r : Int} {ds : List Deferred} {W : World} (h : SpSt w B gc gy gm gv gr cv fv pr r ds W) (hp : w.heap.size ≤ gr ∧ gr ≠ gc ∧ gr ≠ gy ∧ gr ≠ gv) (y : Int) :
    SpSt w B gc gy gm gv gr cv fv pr y ds (W.setCell ⟨gr, 0, none⟩ (.int .i64 y)) :=
  ⟨h.bel.setCell (p := ⟨gr, 0, none⟩) hp.1 _, by rw [World.size_setCell]; exact h.sz, h.ml, (World.cell?_setCell_other _ _ _ _ (by intro e; injection e with e1 e2; omega)).trans h.c, (World.cell?_setCell_other _ _ _ _ (by intro e; injection e with e1 e2; omega)).trans h.y,
    (World.cell?_setCell_other _ _ _ _ (by intro e; injection e with e1 e2; omega)).trans h.v, h.m.others (KeepsOthers.setCell _ _ _), h.r.set (i := 0) (by simp) _, h.marks.keep fun k _ _ hr => (KeepsOthers.setCell _ _ _).same k _ hr rfl⟩
theorem Turn.below {b lo hi : Nat} {w W W' : World} (h : Turn b lo hi w W) (k : Below w.heap.size W W') (hb : b < w.heap.size) : Turn b lo hi w W' :=
  ⟨k.os.trans h.os, k.tape.trans h.tape, k.output.trans h.output, Nat.le_trans h.size k.size, fun i hi hb => (k.block i hi).trans (h.block i hi hb), fun o hb ho => (World.cell?_of_block (k.block b hb)).trans (h.cell o hb ho),
    fun a ha => by
      have := h.frozen a ha
      unfold World.frozen? at this ⊢
      rw [k.block _ ha]; exact this, fun hb cs t fr q => by
      obtain ⟨c1, h1, h2⟩ := h.shape hb cs t fr q
      exact ⟨c1, (k.block b hb).trans h1, h2⟩⟩
theorem Bx.quietN {D : Nat → Prop} {A B : World} {p : Nat} {cs : List Value} (h : Bx A p cs) (k : KeepC D A B) (hd : ¬ D p) (h0 : 0 < cs.length) : Bx B p cs := by
  cases cs with
  | nil => exact absurd h0 (by simp)
  | cons v cs => exact h.quietS k hd
/-- While the nodes below are given. -/
structure SpE (w : World) (B g L gy gm gv gr : Nat) (fv : Value) (pr : GtT) (r : Int) (ds : List Deferred) (Gx : List Int) (W : World) : Prop where
  tu : Turn g 0 L w W
  sz : B ≤ W.heap.size
  ml : gm < B
  y : W.cell? ⟨gy, 0, none⟩ = some fv
  v : W.cell? ⟨gv, 0, none⟩ = some (.map (some gm))
  m : MapN W gm pr
  r : Bx W gr [.int .i64 r]
  marks : Marks w.heap.size W ds B
  g : Bx W g (icells Gx)
  gl : Gx.length = L
theorem SpE.of {w : World} {B g gc gy gm gv gr : Nat} {cv fv : Value} {pr : GtT} {r : Int} {ds : List Deferred} {W : World} {G : List Int} (h : SpSt w B gc gy gm gv gr cv fv pr r ds W) (hg : Bx w g (icells G)) : SpE w B g G.length gy gm gv gr fv pr r ds G W :=
  ⟨h.bel.turn _ _ _, h.sz, h.ml, h.y, h.v, h.m, h.r, h.marks, hg.bel h.bel, rfl⟩
theorem SpE.quiet {w : World} {B g L gy gm gv gr : Nat} {fv : Value} {pr : GtT} {r : Int} {ds : List Deferred} {Gx : List Int} {W W' : World} (h : SpE w B g L gy gm gv gr fv pr r ds Gx W) (q : Quiet B W W') (hw : w.heap.size ≤ B) (hg : g < w.heap.size) (hL : 0 < L) : SpE w B g L gy gm gv gr fv pr r ds Gx W' :=
  ⟨h.tu.below (q.below.mono hw) hg, Nat.le_trans h.sz q.below.size, h.ml, q.keep.cell (fun h => h) h.y, q.keep.cell (fun h => h) h.v, h.m.same (q.below.block _ h.ml), h.r.quietS q.keep (fun h => h), h.marks.keep fun k _ hk hr => (q.below.block k hk).trans hr,
    h.g.quietN q.keep (fun h => h) (by rw [icells_len, h.gl]; exact hL), h.gl⟩
theorem SpE.set {w : World} {B g L gy gm gv gr : Nat} {fv : Value} {pr : GtT} {r : Int} {ds : List Deferred} {Gx : List Int} {W : World} (h : SpE w B g L gy gm gv gr fv pr r ds Gx W) (hn : g ≠ gy ∧ g ≠ gv ∧ g ≠ gr) {k : Nat} (hk : k < L) (y : Int) :
    SpE w B g L gy gm gv gr fv pr r ds (Gx.set k y) (W.setCell ⟨g, k, none⟩ (.int .i64 y)) :=
  ⟨h.tu.trans ((Only.refl g 0 L W).setCell (Nat.zero_le _) hk _).turn, by rw [World.size_setCell]; exact h.sz, h.ml, (World.cell?_setCell_other _ _ _ _ (by intro e; injection e with e1 e2; omega)).trans h.y, (World.cell?_setCell_other _ _ _ _ (by intro e; injection e with e1 e2; omega)).trans h.v,
    h.m.others (KeepsOthers.setCell _ _ _), h.r.other hn.2.2 _, h.marks.keep fun k _ _ hr => (KeepsOthers.setCell _ _ _).same k _ hr rfl, by
      have := h.g.set (i := k) (by rw [icells_len, h.gl]; exact hk) (.int .i64 y)
      unfold icells at this ⊢
      rw [List.map_set]
      exact this, by rw [List.length_set]; exact h.gl⟩
theorem share1_any (L n gb g : Nat) (k : Int) (w : World) (hn : n < L) (hb : w.cell? ⟨gb, 0, none⟩ = some (.slice (some ⟨g, 0, none⟩) L L)) (hg : ∃ u, w.cell? ⟨g, n, none⟩ = some u) (hf : w.frozen? ⟨g, n, none⟩ = false) :
    Calls Try.prog 90 #[.int .i64 n, .int .i64 k, .pointer (some ⟨gb, 0, none⟩)] w fun e w' => (∃ v, e = .returned v) ∧ w' = w.setCell ⟨g, n, none⟩ (.int .i64 k) := by
  obtain ⟨u, hu⟩ := hg
  have lb := cell_lt hb
  have lg := cell_lt hu
  have hni : (n : Int) < (L : Int) := by omega
  have hix := idxInts (n := L) (c := L) (b := g) (off := 0) (a := some ⟨g, 0, none⟩) (fun _ => rfl)
  simp only [Nat.zero_add] at hix
  go_enter Try.func90, Try.ntmps90
  go_wp2
  go_end0
  exact ⟨⟨_, rfl⟩, rfl⟩
/-- The variables of split, with the sum of the weights and what is left. -/
structure SpL (w : World) (B gc gy gm gv gr gs gl : Nat) (cv fv : Value) (pr : GtT) (r : Int) (ds : List Deferred) (sm lf : Int) (W : World) : Prop where
  st : SpSt w B gc gy gm gv gr cv fv pr r ds W
  s : Bx W gs [.int .i64 sm]
  l : Bx W gl [.int .i64 lf]
theorem SpL.go {w : World} {B gc gy gm gv gr gs gl : Nat} {cv fv : Value} {pr : GtT} {r : Int} {ds : List Deferred} {sm lf : Int} {W W' : World} (h : SpL w B gc gy gm gv gr gs gl cv fv pr r ds sm lf W) (k : Bel W W') : SpL w B gc gy gm gv gr gs gl cv fv pr r ds sm lf W' :=
  ⟨h.st.go k, h.s.bel k, h.l.bel k⟩
theorem SpL.quiet {w : World} {B gc gy gm gv gr gs gl : Nat} {cv fv : Value} {pr : GtT} {r : Int} {ds : List Deferred} {sm lf : Int} {W W' : World} (h : SpL w B gc gy gm gv gr gs gl cv fv pr r ds sm lf W) (q : Quiet B W W') (hw : w.heap.size ≤ B) : SpL w B gc gy gm gv gr gs gl cv fv pr r ds sm lf W' :=
  ⟨h.st.quiet q hw, h.s.quietS q.keep (fun h => h), h.l.quietS q.keep (fun h => h)⟩
theorem SpL.put {w : World} {B gc gy gm gv gr gs gl : Nat} {cv fv : Value} {pr pr' : GtT} {r : Int} {ds : List Deferred} {sm lf : Int} {W W' : World} (h : SpL w B gc gy gm gv gr gs gl cv fv pr r ds sm lf W) (hM : MapN W' gm pr') (hK : KeepC (fun _ => False) W W') (hG : W.grownBy W' (some gm)) (hw : w.heap.size ≤ gm) :
    SpL w B gc gy gm gv gr gs gl cv fv pr' r ds sm lf W' := ⟨h.st.put hM hK hG hw, h.s.quietS hK (fun h => h), h.l.quietS hK (fun h => h)⟩
theorem SpL.left {w : World} {B gc gy gm gv gr gs gl : Nat} {cv fv : Value} {pr : GtT} {r : Int} {ds : List Deferred} {sm lf : Int} {W : World} (h : SpL w B gc gy gm gv gr gs gl cv fv pr r ds sm lf W) (hp : w.heap.size ≤ gl ∧ gl ≠ gc ∧ gl ≠ gy ∧ gl ≠ gv ∧ gl ≠ gr) (hs : gl ≠ gs) (y : Int) :
    SpL w B gc gy gm gv gr gs gl cv fv pr r ds sm y (W.setCell ⟨gl, 0, none⟩ (.int .i64 y)) := ⟨h.st.other hp _, h.s.other hs _, h.l.set (i := 0) (by simp) _⟩
theorem SpL.rest {w : World} {B gc gy gm gv gr gs gl : Nat} {cv fv : Value} {pr : GtT} {r : Int} {ds : List Deferred} {sm lf : Int} {W : World} (h : SpL w B gc gy gm gv gr gs gl cv fv pr r ds sm lf W) (hp : w.heap.size ≤ gr ∧ gr ≠ gc ∧ gr ≠ gy ∧ gr ≠ gv) (hs : gr ≠ gs ∧ gr ≠ gl) (y : Int) :
    SpL w B gc gy gm gv gr gs gl cv fv pr y ds sm lf (W.setCell ⟨gr, 0, none⟩ (.int .i64 y)) := ⟨h.st.rest hp _, h.s.other hs.1 _, h.l.other hs.2 _⟩
theorem SpL.up {w : World} {B B' gc gy gm gv gr gs gl : Nat} {cv fv : Value} {pr : GtT} {r : Int} {ds : List Deferred} {sm lf : Int} {W : World} (h : SpL w B gc gy gm gv gr gs gl cv fv pr r ds sm lf W) (h1 : B ≤ B') (h2 : B' ≤ W.heap.size) : SpL w B' gc gy gm gv gr gs gl cv fv pr r ds sm lf W := ⟨h.st.up h1 h2, h.s, h.l⟩
theorem SpL.mark {w : World} {B B' D gc gy gm gv gr gs gl : Nat} {cv fv : Value} {pr : GtT} {r : Int} {ds : List Deferred} {sm lf : Int} {W : World} (h : SpL w B gc gy gm gv gr gs gl cv fv pr r ds sm lf W) (hD : B ≤ D) (hw : w.heap.size ≤ B) (hd : W.heap[D]? = some (.deferred (some []))) (h1 : D < B') (h2 : B' ≤ W.heap.size) :
    SpL w B' gc gy gm gv gr gs gl cv fv pr r ({ target := .collected D, args := #[] } :: ds) sm lf W := ⟨h.st.mark hD hw hd h1 h2, h.s, h.l⟩
theorem split_any (l : List SNd) (n : Nat) (q : Int) (G : List Int) (a : Option Addr) (c gb g : Nat) (w : World) (ht : CusOk l) (hn : n < l.length) (hq : 0 ≤ q ∧ q ≤ 1000) (hv : NdsAt w (.slice a l.length c) l)
    (hb : w.cell? ⟨gb, 0, none⟩ = some (.slice (some ⟨g, 0, none⟩) l.length l.length)) (hG : Bx w g (icells G)) (hl : G.length = l.length) (hne : gb ≠ g) (hd : ∀ b, a = some b → 0 < l.length → b.block ≠ g) :
    Calls Try.prog 89 #[.agg #[.slice a l.length c], .int .i64 n, .int .i64 q, .func (.func 90) #[] #[.pointer (some ⟨gb, 0, none⟩)]] w fun e w' => e = .returned (.int .i64 (keepV l n q)) ∧ Turn g 0 l.length w w' ∧ Bx w' g (icells (giveTo l n q G)) := by
  have HT := Lib.hid ht
  have HV := Lib.hid hv
  have HBB := Lib.hid hb
  have HGG := Lib.hid hG
  have HD := Lib.hid hd
  have HAB : Hid (∀ b, a = some b → 0 < l.length → b.block < w.heap.size) := Lib.hid (by
    intro b hb h0
    obtain ⟨a', c', b', off, he, ha, _, hc⟩ := hv
    injection he with he1
    subst he1
    have := ha h0
    rw [hb] at this
    injection this with this
    subst this
    exact cell_lt (hc 0 h0).1)
  have hgl := hG.lt
  have hbl := cell_lt hb
  obtain ⟨hq0, hq1⟩ := hq
  clear ht hv hb hG hd
  refine (callsIn_wide (n := 4)).1 ?_
  refine callsIn_of_wp_marks Try.func89 rfl trivial ?_ rfl
  simp only [Try.ntmps89, List.size_toArray, List.length_cons, List.length_nil, Nat.reduceAdd, Nat.reduceSub, Array.replicate_succ, Array.replicate_zero, List.push_toArray, List.append_toArray, List.nil_append, List.cons_append]
  gi_wp2_with fail
  generalize hW : World.alloc _ _ = W0
  obtain ⟨gc, hgc⟩ : ∃ k, k = w.heap.size := ⟨_, rfl⟩
  obtain ⟨gy, hgy⟩ : ∃ k, k = w.heap.size + 1 := ⟨_, rfl⟩
  obtain ⟨gm, hgm⟩ : ∃ k, k = w.heap.size + 1 + 1 := ⟨_, rfl⟩
  obtain ⟨gv, hgv0⟩ : ∃ k, k = w.heap.size + 1 + 1 + 1 := ⟨_, rfl⟩
  obtain ⟨gr, hgr⟩ : ∃ k, k = w.heap.size + 1 + 1 + 1 + 1 := ⟨_, rfl⟩
  rw [← hgr, ← hgv0, ← hgm, ← hgy, ← hgc]
  have z0 : W0.heap.size = w.heap.size + 1 + 1 + 1 + 1 + 1 := by rw [← hW]; simp only [World.size_alloc]
  have HS0 : Hid (SpSt w W0.heap.size gc gy gm gv gr (.slice a l.length c) (.func (.func 90) #[] #[.pointer (some ⟨gb, 0, none⟩)]) (fun _ => none) q [] W0) := Lib.hid (by
    refine ⟨?_, Nat.le_refl _, by omega, ?_, ?_, ?_, ?_, ?_, trivial⟩
    · rw [← hW]; exact (((((Bel.refl w).alloc _).alloc _).alloc _).alloc _).alloc _
    · rw [← hW]; exact (Bx.bel (Bx.new hgc) (((((Bel.refl _).alloc _).alloc _).alloc _).alloc _)).c 0 _ rfl
    · rw [← hW]; exact (Bx.bel (Bx.new (by rw [hgy]; simp)) ((((Bel.refl _).alloc _).alloc _).alloc _)).c 0 _ rfl
    · rw [← hW]; rw [← hgm]; exact (Bx.bel (Bx.new (by rw [hgv0]; simp)) ((Bel.refl _).alloc _)).c 0 _ rfl
    · rw [← hW]; exact (MapN.made (by rw [hgm]; simp)).bel (((Bel.refl _).alloc _).alloc _)
    · rw [← hW]; exact Bx.new (by rw [hgr]; simp))
  have hgmw : w.heap.size ≤ gm := by omega
  have HGN := Lib.hid (show w.heap.size ≤ gr ∧ gr ≠ gc ∧ gr ≠ gy ∧ gr ≠ gv by omega)
  have HGA := Lib.hid (show w.heap.size ≤ gc ∧ w.heap.size ≤ gy ∧ w.heap.size ≤ gv ∧ w.heap.size ≤ gr ∧ gc < W0.heap.size ∧ gy < W0.heap.size ∧ gm < W0.heap.size ∧ gv < W0.heap.size ∧ gr < W0.heap.size by omega)
  have HGX := Lib.hid (show g ≠ gy ∧ g ≠ gv ∧ g ≠ gr by omega)
  have HNV := Lib.hid (fun wx (hb : Bel w wx) => HV.out.bel hb)
  have hgrw : w.heap.size ≤ gr ∧ gr < W0.heap.size ∧ gm < W0.heap.size := by omega
  obtain ⟨hgr1, hgr2, hgm2⟩ := hgrw
  have hw0 : w.heap.size ≤ W0.heap.size := by omega
  clear hW hgc hgy hgm hgv0 hgr z0
  have c0 := HS0.out.c
  have lc0 := cell_lt c0
  gi_wp2_with (refine ⟨trivial, ?_⟩; gi_at_call 112; refine (callsIn_wide.2 (below_any _ _ _ ⟨_, _, _, rfl⟩)).mono ?_; rintro e w2 ⟨rfl, hx2, hm2, hb2, hz2⟩)
  clear c0 lc0
  have hst : SpSt w w2.heap.size gc gy gm gv gr (.slice a l.length c) (.func (.func 90) #[] #[.pointer (some ⟨gb, 0, none⟩)]) ((st1 l (n : Int) q 0).1) ((st1 l (n : Int) q 0).2) ([]) w2 := ⟨HS0.out.bel.trans hb2, Nat.le_refl _, by omega, hb2.cell HS0.out.c, hb2.cell HS0.out.y, hb2.cell HS0.out.v, HS0.out.m.bel hb2, HS0.out.r.bel hb2, trivial⟩
  have HKV := Lib.hid (HS0.out.bel)
  have hgv : GivesTo Fence.wide (4 - 1) Try.prog 126 #[.pointer (some ⟨W0.heap.size, 0, none⟩), .pointer (some ⟨W0.heap.size + 1, 0, none⟩)] (NdV l) (fun i => i = gr) (kidsL l (n : Int)) w2 :=
    below1_gives (4 - 1) (by omega) l (n : Int) a c W0.heap.size (W0.heap.size + 1) (fun i => i = gr) w2 (hx2.c 0 _ rfl) (hm2.c 0 _ rfl) (HNV.out _ (HKV.out.trans hb2)) (by show ¬ W0.heap.size = gr; omega) (by show ¬ W0.heap.size + 1 = gr; omega) (fun b hb h0 => by show ¬ b.block = gr; have := HAB.out b hb h0; omega)
  have hw2 : w.heap.size ≤ w2.heap.size := by omega
  have hw02 : W0.heap.size ≤ w2.heap.size := by omega
  clear hx2 hm2 hb2 HS0 HKV hz2
  refine range_clo rfl (by omega) (gf := 126) (lb := #[.pointer (some ⟨W0.heap.size, 0, none⟩), .pointer (some ⟨W0.heap.size + 1, 0, none⟩)]) rfl trivial (enters_of Try.func126 (by kernel_rfl) rfl) hgv
    (fun x vs W h => by obtain ⟨_, rfl⟩ := h; rfl)
    (fun pre W => SpSt w w2.heap.size gc gy gm gv gr (.slice a l.length c) (.func (.func 90) #[] #[.pointer (some ⟨gb, 0, none⟩)]) ((pre.foldl (spF1 l) (st1 l (n : Int) q 0)).1) ((pre.foldl (spF1 l) (st1 l (n : Int) q 0)).2) ([]) W) (fun _ _ => False) (fun pre A B h q => h.quiet q hw2) (fun _ _ _ h _ => h) hst
    (fun x a' W => ∃ gx, w2.heap.size ≤ gx ∧ a' = { tmps := #[.agg #[.slice a l.length c], .int .i64 n, .int .i64 q, .func (.func 90) #[] #[.pointer (some ⟨gb, 0, none⟩)], .pointer (some ⟨gc, 0, none⟩), undef, undef, .pointer (some ⟨gy, 0, none⟩), .int .i64 0, .pointer (some ⟨gv, 0, none⟩), .pointer (some ⟨gr, 0, none⟩), .int .i64 x, .pointer (some ⟨gx, 0, none⟩), undef, undef, undef, undef, undef, undef, undef, undef, .map (some gm), .int .i64 q, .agg #[.slice a l.length c], .int .i64 n, .func (.func 126) #[] #[.pointer (some ⟨W0.heap.size, 0, none⟩), .pointer (some ⟨W0.heap.size + 1, 0, none⟩)], .int .i64 x, .agg #[.int .i64 (atS l x).up, .int .i64 (atS l x).wt, .int .i64 (atS l x).fx], undef, undef, undef, undef, undef, undef, undef, undef, undef, undef, undef, undef, undef, undef, undef, undef, undef, undef, undef, undef, undef, undef, undef, undef, undef, undef, undef, undef, undef, undef, undef, undef, undef, undef, undef, undef, undef, undef, undef, undef, undef, undef, undef, undef, undef, undef, undef, undef, undef, undef, undef, undef, undef, undef, undef, undef, undef, undef, undef, undef, undef, undef, undef, undef, undef, undef], defers := [] } ∧ Bx W gx (ndCells (atS l x)))
    (fun x a' A B h q => by obtain ⟨gx, h1, h2, h3⟩ := h; exact ⟨gx, h1, h2, h3.quietS q.keep (fun h => h)⟩) ?assign ?body ?done ?stop
  case assign =>
    intro lp pre x vs W3 K hat hI hK
    obtain ⟨hxn, rfl⟩ := hat
    have HK := Lib.hid hK
    have HI := Lib.hid hI
    clear hK hI hgv hst
    gi_wp2
    have hb1 := (Bel.refl W3).alloc (.cells #[.int .i64 (atS l x).up, .int .i64 (atS l x).wt, .int .i64 (atS l x).fx] 77)
    exact HK.out _ _ (hb1.keeps.from _) (KeepC.of_bel hb1) (HI.out.go hb1) ⟨W3.heap.size, HI.out.sz, rfl, Bx.new rfl⟩
  case body =>
    rintro lp pre x a' W3 ⟨post, hpost⟩ hI ⟨gx, hgx, rfl, hX⟩
    obtain ⟨hpre, hxn, hkid⟩ := kids_split hpost
    have hF : pre.foldl (spF1 l) (st1 l (n : Int) q 0) = st1 l (n : Int) q x := by rw [hpre]; exact fold_kids (spF1 l) (st1 l (n : Int) q) (fun _ => rfl) x
    have hNX : (pre ++ [x]).foldl (spF1 l) (st1 l (n : Int) q 0) = spF1 l (st1 l (n : Int) q x) x := by rw [List.foldl_append, hF]; rfl
    have hr2 := (st1_eq l (n : Int) q x).1
    have hrin := rest_in HT.out (m := (n : Int)) hq0 (k := x) (by omega)
    rw [← hr2] at hrin
    have hfx := HT.out.fx x hxn
    rw [hF] at hI
    rw [hNX, show spF1 l (st1 l (n : Int) q x) x = (updG (st1 l (n : Int) q x).1 x (min (atS l x).fx (st1 l (n : Int) q x).2), (st1 l (n : Int) q x).2 - min (atS l x).fx (st1 l (n : Int) q x).2) from rfl]
    clear hF hNX hr2 hpre hpost hkid hgv hst
    generalize st1 l (n : Int) q x = s at *
    obtain ⟨pr, r⟩ := s
    simp only at hI hrin ⊢
    have n2 := hX.c 2 _ rfl
    have ln := cell_lt n2
    have r0 := hI.r.c 0 _ rfl
    have rf := hI.r.f
    have lr := cell_lt r0
    have v0 := hI.v
    have lv := cell_lt v0
    generalize (atS l x).fx = fx at *
    generalize hy : min fx r = y at *
    obtain ⟨w5, hrun, hM, hK, hG5⟩ := hI.m.store mapTN mapKN x y
    simp only [keyN, penV] at hrun
    have hlk : (Instr.lookup 159 (.map (some gm)) (.int .i64 (x : Int)) false).run Try.prog w5 = .ok (.int .i64 y) w5 := by
      have := hM.look mapTN mapKN mapZN x
      simpa [updG, keyN, penV] using this
    have r1 := hK.cell (fun h => h) r0
    have rf1 := (hK.frozen (fun h => h) r0).trans (rf 0)
    have lr1 := cell_lt r1
    have v1 := hK.cell (fun h => h) v0
    have lv1 := cell_lt v1
    have HI5 := Lib.hid (hI.put hM hK hG5 hgmw)
    have HK5 := Lib.hid hK
    have HG5 := Lib.hid hG5
    have hml := hI.ml
    have hyb : 0 ≤ y ∧ y ≤ r := by omega
    rw [← hy] at hrun
    clear hI hM hK hG5 hX hy
    obtain ⟨hy0, hy1⟩ := hyb
    obtain ⟨hr0, hr1⟩ := hrin
    gi_wp2
    exact ⟨(KeepsFrom.of_grownBy HG5.out (fun j e => by injection e with e; omega)).trans ((KeepsOthers.setCell _ _ _).from _), (HK5.out.more (fun _ h => h.elim)).t (KeepC.set (D := fun i => i = gr) _ ⟨gr, 0, none⟩ _ rfl), HI5.out.rest HGN.out _⟩
  case stop => exact fun B pre W _ h _ => h.elim
  case done =>
    rintro Bq W4 hB hI hBd
    have hF : (kidsL l (n : Int)).foldl (spF1 l) (st1 l (n : Int) q 0) = st1 l (n : Int) q l.length := fold_kids (spF1 l) (st1 l (n : Int) q) (fun _ => rfl) l.length
    rw [hF] at hI
    have hBl := (Array.getElem?_eq_some_iff.1 hBd).1
    have HS4 := Lib.hid (hI.mark hB hw2 hBd hBl (Nat.le_refl _))
    have HR4 := Lib.hid (st1_eq l (n : Int) q l.length)
    have hz4 : w2.heap.size ≤ W4.heap.size := hI.sz
    clear hI hBd hgv hst hF
    have c4 := HS4.out.c
    have lc4 := cell_lt c4
    have HWT := Lib.hid (fun wx (hb : Bel W4 wx) => weights_any l (n : Int) _ wx HT.out ⟨_, rfl, HNV.out wx (HS4.out.bel.trans hb)⟩)
    gi_wp2_with fail
    refine ⟨trivial, ?_⟩
    refine (callsIn_wide.2 (HWT.out _ (Bel.refl _))).mono ?_
    rintro e w6 ⟨rfl, hb6⟩
    have HS6 := Lib.hid (HS4.out.go hb6)
    have hz6 := hb6.szle
    clear HWT HS4 c4 lc4 hb6
    have hwin := (ws_nn HT.out (m := (n : Int)) l.length (Nat.le_refl _))
    have h8 := HT.out.l8
    have HKP := Lib.hid (show keepV l (n : Int) q = if 0 < wsTo l (n : Int) l.length then 0 else restTo l (n : Int) q l.length from rfl)
    have HEND := Lib.hid (show endG l (n : Int) q = if 0 < wsTo l (n : Int) l.length then (st3 l (n : Int) q l.length).1 else (st1 l (n : Int) q l.length).1 from rfl)
    obtain ⟨WW, hWW⟩ : ∃ WW, WW = wsTo l (n : Int) l.length := ⟨_, rfl⟩
    obtain ⟨R, hRR⟩ : ∃ R, R = restTo l (n : Int) q l.length := ⟨_, rfl⟩
    have hrr := rest_in HT.out (m := (n : Int)) hq0 (k := l.length) (Nat.le_refl _)
    rw [HR4.out.1, ← hRR] at HS6
    rw [← hRR] at HKP hrr
    rw [← hWW] at HKP HEND hwin ⊢
    obtain ⟨hw0n, hw9, _, _, _, _⟩ := hwin
    obtain ⟨hr0n, hr1n⟩ := hrr
    have HWW := Lib.hid hWW
    have HRR := Lib.hid hRR
    clear hWW hRR
    have c6 := HS6.out.c
    have lc6 := cell_lt c6
    have r6 := HS6.out.r.c 0 _ rfl
    have lr6 := cell_lt r6
    obtain ⟨ga1, ga2, ga3, ga4, ga5, ga6, ga7, ga8, ga9⟩ := HGA.out
    by_cases hWP : 0 < WW
    · have g1 : decide (0 < WW) = true := decide_eq_true hWP
      rw [if_pos hWP] at HKP HEND
      have HEQ := Lib.hid (HEND.out.symm)
      gi_wp2_with fail
      generalize hW7 : World.alloc _ _ = W7
      obtain ⟨gs, hgs⟩ : ∃ k, k = w6.heap.size := ⟨_, rfl⟩
      obtain ⟨gl, hgl0⟩ : ∃ k, k = w6.heap.size + 1 := ⟨_, rfl⟩
      rw [← hgl0, ← hgs]
      have hb7 : Bel w6 W7 := by rw [← hW7]; exact ((Bel.refl w6).alloc _).alloc _
      have hs7 : Bx W7 gs [.int .i64 WW] := by rw [← hW7]; exact (Bx.new hgs).bel ((Bel.refl _).alloc _)
      have hl7 : Bx W7 gl [.int .i64 R] := by rw [← hW7]; exact Bx.new (by rw [hgl0]; simp)
      have HS7 : Hid (SpL w W4.heap.size gc gy gm gv gr gs gl (.slice a l.length c) (.func (.func 90) #[] #[.pointer (some ⟨gb, 0, none⟩)]) ((st2 l (n : Int) q 0).1) (R) ([{ target := .collected Bq, args := #[] }]) WW ((st2 l (n : Int) q 0).2) W7) := Lib.hid (by
        rw [show (st2 l (n : Int) q 0).2 = R from HRR.out.symm]
        exact ⟨HS6.out.go hb7, hs7, hl7⟩)
      have hz7 : W7.heap.size = w6.heap.size + 2 := by rw [← hW7]; simp only [World.size_alloc]
      have HGL := Lib.hid (show w.heap.size ≤ gl ∧ gl ≠ gc ∧ gl ≠ gy ∧ gl ≠ gv ∧ gl ≠ gr by omega)
      have HGS := Lib.hid (show gl ≠ gs ∧ gr ≠ gs ∧ gr ≠ gl by omega)
      have hgl7 : w.heap.size ≤ gl ∧ gl < W7.heap.size := by omega
      obtain ⟨hgl8, hgl9⟩ := hgl7
      have hz67 : w6.heap.size ≤ W7.heap.size := by omega
      have HSTE := Lib.hid (fun k => show st2 l (n : Int) q (k + 1) = if kidB l (n : Int) k then spF2 l R WW (st2 l (n : Int) q k) k else st2 l (n : Int) q k by rw [HRR.out, HWW.out]; rfl)
      clear hW7 hgs hgl0 hb7 hs7 hl7 HS6 c6 lc6 r6 lr6 hz7
      gi_wp2_with (refine ⟨trivial, ?_⟩; gi_at_call 112; refine (callsIn_wide.2 (below_any _ _ _ ⟨_, _, _, rfl⟩)).mono ?_; rintro e w8 ⟨rfl, hx2, hm2, hb2, hz2⟩)
      have hst : SpL w w8.heap.size gc gy gm gv gr gs gl (.slice a l.length c) (.func (.func 90) #[] #[.pointer (some ⟨gb, 0, none⟩)]) ((st2 l (n : Int) q 0).1) (R) ([{ target := .collected Bq, args := #[] }]) WW ((st2 l (n : Int) q 0).2) w8 := (HS7.out.go hb2).up (by omega) (Nat.le_refl _)
      have HKV := Lib.hid (HS7.out.st.bel)
      have hgv : GivesTo Fence.wide (4 - 1) Try.prog 126 #[.pointer (some ⟨W7.heap.size, 0, none⟩), .pointer (some ⟨W7.heap.size + 1, 0, none⟩)] (NdV l) (fun i => i = gl) (kidsL l (n : Int)) w8 :=
        below1_gives (4 - 1) (by omega) l (n : Int) a c W7.heap.size (W7.heap.size + 1) (fun i => i = gl) w8 (hx2.c 0 _ rfl) (hm2.c 0 _ rfl) (HNV.out _ (HKV.out.trans hb2)) (by show ¬ W7.heap.size = gl; omega) (by show ¬ W7.heap.size + 1 = gl; omega) (fun b hb h0 => by show ¬ b.block = gl; have := HAB.out b hb h0; omega)
      have hw8 : w.heap.size ≤ w8.heap.size := by omega
      have hwz2 : W7.heap.size ≤ w8.heap.size := by omega
      clear hx2 hm2 hb2 HS7 HKV hz2
      refine range_clo rfl (by omega) (gf := 126) (lb := #[.pointer (some ⟨W7.heap.size, 0, none⟩), .pointer (some ⟨W7.heap.size + 1, 0, none⟩)]) rfl trivial (enters_of Try.func126 (by kernel_rfl) rfl) hgv
        (fun x vs W h => by obtain ⟨_, rfl⟩ := h; rfl)
        (fun pre W => SpL w w8.heap.size gc gy gm gv gr gs gl (.slice a l.length c) (.func (.func 90) #[] #[.pointer (some ⟨gb, 0, none⟩)]) ((pre.foldl (spF2 l R WW) (st2 l (n : Int) q 0)).1) (R) ([{ target := .collected Bq, args := #[] }]) WW ((pre.foldl (spF2 l R WW) (st2 l (n : Int) q 0)).2) W) (fun _ _ => False) (fun pre A B h q => h.quiet q hw8) (fun _ _ _ h _ => h) hst
        (fun x a' W => ∃ gx, w8.heap.size ≤ gx ∧ a' = { tmps := #[.agg #[.slice a l.length c], .int .i64 n, .int .i64 q, .func (.func 90) #[] #[.pointer (some ⟨gb, 0, none⟩)], .pointer (some ⟨gc, 0, none⟩), undef, undef, .pointer (some ⟨gy, 0, none⟩), .int .i64 0, .pointer (some ⟨gv, 0, none⟩), .pointer (some ⟨gr, 0, none⟩), undef, undef, .pointer (some ⟨gs, 0, none⟩), .pointer (some ⟨gl, 0, none⟩), .int .i64 x, .pointer (some ⟨gx, 0, none⟩), undef, undef, undef, undef, .map (some gm), .int .i64 q, .agg #[.slice a l.length c], .int .i64 n, .func (.func 126) #[] #[.pointer (some ⟨W0.heap.size, 0, none⟩), .pointer (some ⟨W0.heap.size + 1, 0, none⟩)], undef, undef, undef, undef, undef, undef, undef, undef, undef, undef, undef, undef, undef, .agg #[.slice a l.length c], .int .i64 n, .int .i64 WW, .int .i64 WW, .bool true, .int .i64 R, .agg #[.slice a l.length c], .int .i64 n, .func (.func 126) #[] #[.pointer (some ⟨W7.heap.size, 0, none⟩), .pointer (some ⟨W7.heap.size + 1, 0, none⟩)], .int .i64 x, .agg #[.int .i64 (atS l x).up, .int .i64 (atS l x).wt, .int .i64 (atS l x).fx], undef, undef, undef, undef, undef, undef, undef, undef, undef, undef, undef, undef, undef, undef, undef, undef, undef, undef, undef, undef, undef, undef, undef, undef, undef, undef, undef, undef, undef, undef, undef, undef, undef, undef, undef, undef, undef, undef, undef, undef, undef, undef, undef, undef], defers := [] } ∧ Bx W gx (ndCells (atS l x)))
        (fun x a' A B h q => by obtain ⟨gx, h1, h2, h3⟩ := h; exact ⟨gx, h1, h2, h3.quietS q.keep (fun h => h)⟩) ?assign ?body ?done ?stop
      case assign =>
        intro lp pre x vs W3 K hat hI hK
        obtain ⟨hxn, rfl⟩ := hat
        have HK := Lib.hid hK
        have HI := Lib.hid hI
        clear hK hI hgv hst
        gi_wp2
        have hb1 := (Bel.refl W3).alloc (.cells #[.int .i64 (atS l x).up, .int .i64 (atS l x).wt, .int .i64 (atS l x).fx] 77)
        exact HK.out _ _ (hb1.keeps.from _) (KeepC.of_bel hb1) (HI.out.go hb1) ⟨W3.heap.size, HI.out.st.sz, rfl, Bx.new rfl⟩
      case stop => exact fun B pre W _ h _ => h.elim
      case body =>
        rintro lp pre x a' W3 ⟨post, hpost⟩ hI ⟨gx, hgx, rfl, hX⟩
        obtain ⟨hpre, hxn, hkid⟩ := kids_split hpost
        have hF : pre.foldl (spF2 l R WW) (st2 l (n : Int) q 0) = st2 l (n : Int) q x := by rw [hpre]; exact fold_kids (spF2 l R WW) (st2 l (n : Int) q) HSTE.out x
        have hNX : (pre ++ [x]).foldl (spF2 l R WW) (st2 l (n : Int) q 0) = (spF2 l R WW) (st2 l (n : Int) q x) x := by rw [List.foldl_append, hF]; rfl
        rw [hF] at hI
        rw [hNX]
        clear hF hNX hpre hpost hgv hst
        have hs2 := st2_eq l (n : Int) q x (by omega)
        rw [← HWW.out, ← HRR.out] at hs2
        have hpx : ((st2 l (n : Int) q x).1 x).getD 0 = fixS l (n : Int) q x := by rw [hs2.2 x, if_pos ⟨hxn, hkid⟩, if_neg (by omega), Int.add_zero]; rfl
        have hax := fix_in HT.out (m := (n : Int)) hq0 hxn
        rw [← hpx] at hax
        have hlf := left_in HT.out (m := (n : Int)) (R := R) hr0n (by rw [← HWW.out]; exact hWP) x (by omega)
        rw [← HWW.out, ← hs2.1] at hlf
        have hRx : R * (x : Int) ≤ 1000 * 8 := Int.mul_le_mul (by omega) (by omega) (by omega) (by omega)
        have hzf := flo_in HT.out (m := (n : Int)) (R := R) hr0n (by rw [← HWW.out]; exact hWP) hxn hkid
        rw [← HWW.out] at hzf
        have hwt := HT.out.wt x hxn
        have hm9 : R * (atS l x).wt ≤ 1000 * 9 := Int.mul_le_mul (by omega) hwt.2 hwt.1 (by omega)
        have hm0 : 0 ≤ R * (atS l x).wt := Int.mul_nonneg hr0n hwt.1
        have hdiv : Int.tdiv (R * (atS l x).wt) WW = floS l R WW x := by rw [Int.tdiv_eq_ediv_of_nonneg hm0]; rfl
        rw [show spF2 l R WW (st2 l (n : Int) q x) x = (updG (st2 l (n : Int) q x).1 x (((st2 l (n : Int) q x).1 x).getD 0 + floS l R WW x), (st2 l (n : Int) q x).2 - floS l R WW x) from rfl]
        have hlk0 := hI.st.m.look mapTN mapKN mapZN x
        clear hpx hs2 hkid
        generalize st2 l (n : Int) q x = s at *
        obtain ⟨pr, lf⟩ := s
        simp only at hI hlf hax hlk0 ⊢
        have hlfb : -8000 ≤ lf ∧ lf ≤ 1000 := by omega
        clear hlf hRx
        generalize floS l R WW x = z at *
        generalize hA : (pr x).getD 0 = A at *
        clear hA
        simp only [keyN, penV] at hlk0
        obtain ⟨w5, hrun, hM, hK, hG5⟩ := hI.st.m.store mapTN mapKN x (A + z)
        simp only [keyN, penV] at hrun
        have n1 := hX.c 1 _ rfl
        have ln := cell_lt n1
        have s0 := hI.s.c 0 _ rfl
        have ls := cell_lt s0
        have r0 := hI.st.r.c 0 _ rfl
        have lr := cell_lt r0
        have l0 := hI.l.c 0 _ rfl
        have l1 := hK.cell (fun h => h) l0
        have lf1 := (hK.frozen (fun h => h) l0).trans (hI.l.f 0)
        have ll1 := cell_lt l1
        have v0 := hI.st.v
        have lv := cell_lt v0
        generalize (atS l x).wt = wt at *
        have HI5 := Lib.hid (hI.put hM hK hG5 hgmw)
        have HK5 := Lib.hid hK
        have HG5 := Lib.hid hG5
        have hml := hI.st.ml
        clear hI hM hK hG5 hX l0
        generalize hmm : R * wt = m at *
        obtain ⟨hax0, hax1⟩ := hax
        obtain ⟨hz0, hz1⟩ := hzf
        obtain ⟨hlf0, hlf1⟩ := hlfb
        gi_wp2
        exact ⟨(KeepsFrom.of_grownBy HG5.out (fun j e => by injection e with e; omega)).trans ((KeepsOthers.setCell _ _ _).from _), (HK5.out.more (fun _ h => h.elim)).t (KeepC.set (D := fun i => i = gl) _ ⟨gl, 0, none⟩ _ rfl), HI5.out.left HGL.out HGS.out.1 _⟩
      case done =>
        rintro Bq2 W9 hB hI hBd
        have hF : (kidsL l (n : Int)).foldl (spF2 l R WW) (st2 l (n : Int) q 0) = st2 l (n : Int) q l.length := fold_kids (spF2 l R WW) (st2 l (n : Int) q) HSTE.out l.length
        rw [hF] at hI
        have hBl := (Array.getElem?_eq_some_iff.1 hBd).1
        have HS9 := Lib.hid (hI.mark hB hw8 hBd hBl (Nat.le_refl _))
        have hz9 := hI.st.sz
        clear hI hBd hgv hst hF
        have c9 := HS9.out.st.c
        have lc9 := cell_lt c9
        have r9 := HS9.out.st.r.c 0 _ rfl
        have rf9 := HS9.out.st.r.f
        have lr9 := cell_lt r9
        have c9x : (W9.setCell ⟨gr, 0, none⟩ (.int .i64 0)).cell? ⟨gc, 0, none⟩ = some (.slice a l.length c) := (HS9.out.st.rest HGN.out 0).c
        gi_wp2_with fail
        generalize hW10 : World.setCell _ _ _ = W10
        have HS10 : Hid (SpL w W9.heap.size gc gy gm gv gr gs gl (.slice a l.length c) (.func (.func 90) #[] #[.pointer (some ⟨gb, 0, none⟩)]) ((st3 l (n : Int) q 0).1) (0) ({ target := .collected Bq2, args := #[] } :: [{ target := .collected Bq, args := #[] }]) WW ((st3 l (n : Int) q 0).2) W10) := Lib.hid (by
          have := HS9.out.rest HGN.out HGS.out.2 0
          rw [hW10, (st2_eq l (n : Int) q l.length (Nat.le_refl _)).1] at this
          exact this)
        have hz10 : W10.heap.size = W9.heap.size := by rw [← hW10, World.size_setCell]
        have hz910 : W9.heap.size ≤ W10.heap.size := by omega
        have HSTE := Lib.hid (fun k => show st3 l (n : Int) q (k + 1) = if kidB l (n : Int) k then spF3 l (st3 l (n : Int) q k) k else st3 l (n : Int) q k from rfl)
        clear hW10 HS9 c9 lc9 r9 rf9 lr9 c9x hz10
        gi_wp2_with (refine ⟨trivial, ?_⟩; gi_at_call 112; refine (callsIn_wide.2 (below_any _ _ _ ⟨_, _, _, rfl⟩)).mono ?_; rintro e w11 ⟨rfl, hx2, hm2, hb2, hz2⟩)
        have hst : SpL w w11.heap.size gc gy gm gv gr gs gl (.slice a l.length c) (.func (.func 90) #[] #[.pointer (some ⟨gb, 0, none⟩)]) ((st3 l (n : Int) q 0).1) (0) ({ target := .collected Bq2, args := #[] } :: [{ target := .collected Bq, args := #[] }]) WW ((st3 l (n : Int) q 0).2) w11 := (HS10.out.go hb2).up (by omega) (Nat.le_refl _)
        have HKV := Lib.hid (HS10.out.st.bel)
        have hgv : GivesTo Fence.wide (4 - 1) Try.prog 126 #[.pointer (some ⟨W10.heap.size, 0, none⟩), .pointer (some ⟨W10.heap.size + 1, 0, none⟩)] (NdV l) (fun i => i = gl) (kidsL l (n : Int)) w11 :=
          below1_gives (4 - 1) (by omega) l (n : Int) a c W10.heap.size (W10.heap.size + 1) (fun i => i = gl) w11 (hx2.c 0 _ rfl) (hm2.c 0 _ rfl) (HNV.out _ (HKV.out.trans hb2)) (by show ¬ W10.heap.size = gl; omega) (by show ¬ W10.heap.size + 1 = gl; omega) (fun b hb h0 => by show ¬ b.block = gl; have := HAB.out b hb h0; omega)
        have hw8 : w.heap.size ≤ w11.heap.size := by omega
        have hwz3 : W10.heap.size ≤ w11.heap.size := by omega
        clear hx2 hm2 hb2 HS10 HKV hz2
        refine range_clo rfl (by omega) (gf := 126) (lb := #[.pointer (some ⟨W10.heap.size, 0, none⟩), .pointer (some ⟨W10.heap.size + 1, 0, none⟩)]) rfl trivial (enters_of Try.func126 (by kernel_rfl) rfl) hgv
          (fun x vs W h => by obtain ⟨_, rfl⟩ := h; rfl)
          (fun pre W => SpL w w11.heap.size gc gy gm gv gr gs gl (.slice a l.length c) (.func (.func 90) #[] #[.pointer (some ⟨gb, 0, none⟩)]) ((pre.foldl (spF3 l) (st3 l (n : Int) q 0)).1) (0) ({ target := .collected Bq2, args := #[] } :: [{ target := .collected Bq, args := #[] }]) WW ((pre.foldl (spF3 l) (st3 l (n : Int) q 0)).2) W) (fun _ _ => False) (fun pre A B h q => h.quiet q hw8) (fun _ _ _ h _ => h) hst
          (fun x a' W => ∃ gx, w11.heap.size ≤ gx ∧ a' = { tmps := #[.agg #[.slice a l.length c], .int .i64 n, .int .i64 q, .func (.func 90) #[] #[.pointer (some ⟨gb, 0, none⟩)], .pointer (some ⟨gc, 0, none⟩), undef, undef, .pointer (some ⟨gy, 0, none⟩), .int .i64 0, .pointer (some ⟨gv, 0, none⟩), .pointer (some ⟨gr, 0, none⟩), undef, undef, .pointer (some ⟨gs, 0, none⟩), .pointer (some ⟨gl, 0, none⟩), undef, undef, undef, .int .i64 x, .pointer (some ⟨gx, 0, none⟩), undef, .map (some gm), .int .i64 q, .agg #[.slice a l.length c], .int .i64 n, .func (.func 126) #[] #[.pointer (some ⟨W0.heap.size, 0, none⟩), .pointer (some ⟨W0.heap.size + 1, 0, none⟩)], undef, undef, undef, undef, undef, undef, undef, undef, undef, undef, undef, undef, undef, .agg #[.slice a l.length c], .int .i64 n, .int .i64 WW, .int .i64 WW, .bool true, .int .i64 R, .agg #[.slice a l.length c], .int .i64 n, .func (.func 126) #[] #[.pointer (some ⟨W7.heap.size, 0, none⟩), .pointer (some ⟨W7.heap.size + 1, 0, none⟩)], undef, undef, undef, undef, undef, undef, undef, undef, undef, undef, undef, undef, undef, undef, undef, undef, .agg #[.slice a l.length c], .int .i64 n, .func (.func 126) #[] #[.pointer (some ⟨W10.heap.size, 0, none⟩), .pointer (some ⟨W10.heap.size + 1, 0, none⟩)], .int .i64 x, .agg #[.int .i64 (atS l x).up, .int .i64 (atS l x).wt, .int .i64 (atS l x).fx], undef, undef, undef, undef, undef, undef, undef, undef, undef, undef, undef, undef, undef, undef, undef, undef, undef, undef, undef, undef, undef, undef, undef, undef, undef], defers := [] } ∧ Bx W gx (ndCells (atS l x)))
          (fun x a' A B h q => by obtain ⟨gx, h1, h2, h3⟩ := h; exact ⟨gx, h1, h2, h3.quietS q.keep (fun h => h)⟩) ?assign ?body ?done ?stop
        case assign =>
          intro lp pre x vs W3 K hat hI hK
          obtain ⟨hxn, rfl⟩ := hat
          have HK := Lib.hid hK
          have HI := Lib.hid hI
          clear hK hI hgv hst
          gi_wp2
          have hb1 := (Bel.refl W3).alloc (.cells #[.int .i64 (atS l x).up, .int .i64 (atS l x).wt, .int .i64 (atS l x).fx] 77)
          exact HK.out _ _ (hb1.keeps.from _) (KeepC.of_bel hb1) (HI.out.go hb1) ⟨W3.heap.size, HI.out.st.sz, rfl, Bx.new rfl⟩
        case stop => exact fun B pre W _ h _ => h.elim
        case body =>
          rintro lp pre x a' W3 ⟨post, hpost⟩ hI ⟨gx, hgx, rfl, hX⟩
          obtain ⟨hpre, hxn, hkid⟩ := kids_split hpost
          have hF : pre.foldl (spF3 l) (st3 l (n : Int) q 0) = st3 l (n : Int) q x := by rw [hpre]; exact fold_kids (spF3 l) (st3 l (n : Int) q) HSTE.out x
          have hNX : (pre ++ [x]).foldl (spF3 l) (st3 l (n : Int) q 0) = (spF3 l) (st3 l (n : Int) q x) x := by rw [List.foldl_append, hF]; rfl
          rw [hF] at hI
          rw [hNX]
          clear hF hNX hpre hpost hgv hst
          have hs3 := st3_eq l (n : Int) q x (by omega)
          rw [← HWW.out, ← HRR.out] at hs3
          have hln := left_nn HT.out (m := (n : Int)) (R := R) hr0n (by rw [← HWW.out]; exact hWP)
          rw [← HWW.out] at hln
          have hod := odd_eq (l := l) (m := (n : Int)) (x := leftTo l (n : Int) R WW l.length) hln.1 x
          have hrk := rank_nn l (n : Int) x
          rw [← hs3.1] at hod
          have hfi := fix_in HT.out (m := (n : Int)) hq0 hxn
          have hzf := flo_in HT.out (m := (n : Int)) (R := R) hr0n (by rw [← HWW.out]; exact hWP) hxn hkid
          rw [← HWW.out] at hzf
          have hpx : ((st3 l (n : Int) q x).1 x).getD 0 = fixS l (n : Int) q x + floS l R WW x := by rw [hs3.2 x, if_pos ⟨hxn, hkid⟩, if_neg (by omega), Int.add_zero]; rfl
          have hax : 0 ≤ ((st3 l (n : Int) q x).1 x).getD 0 ∧ ((st3 l (n : Int) q x).1 x).getD 0 ≤ 1020 := by rw [hpx]; omega
          rw [show spF3 l (st3 l (n : Int) q x) x = if decide (0 < (atS l x).wt) && decide (0 < (st3 l (n : Int) q x).2) then (updG (st3 l (n : Int) q x).1 x (((st3 l (n : Int) q x).1 x).getD 0 + 1), (st3 l (n : Int) q x).2 - 1) else st3 l (n : Int) q x from rfl]
          have hlk0 := hI.st.m.look mapTN mapKN mapZN x
          clear hpx hs3 hkid hfi hzf
          generalize st3 l (n : Int) q x = s at *
          obtain ⟨pr, lf⟩ := s
          simp only at hI hod hax hlk0 ⊢
          have hlfb : 0 ≤ lf ∧ lf ≤ 1000 := by omega
          clear hod hrk hln
          generalize hA : (pr x).getD 0 = A at *
          clear hA
          simp only [keyN, penV] at hlk0
          obtain ⟨w5, hrun, hM, hK, hG5⟩ := hI.st.m.store mapTN mapKN x (A + 1)
          simp only [keyN, penV] at hrun
          have n1 := hX.c 1 _ rfl
          have ln := cell_lt n1
          have l0 := hI.l.c 0 _ rfl
          have ll0 := cell_lt l0
          have l1 := hK.cell (fun h => h) l0
          have lf1 := (hK.frozen (fun h => h) l0).trans (hI.l.f 0)
          have ll1 := cell_lt l1
          have v0 := hI.st.v
          have lv := cell_lt v0
          generalize (atS l x).wt = wt at *
          have HI5 := Lib.hid (hI.put hM hK hG5 hgmw)
          have HK5 := Lib.hid hK
          have HG5 := Lib.hid hG5
          have hml := hI.st.ml
          have HI := Lib.hid hI
          clear hI hM hK hG5 hX
          obtain ⟨hax0, hax1⟩ := hax
          obtain ⟨hlf0, hlf1⟩ := hlfb
          cases g2 : decide (0 < wt)
          · rw [Bool.false_and, if_neg (by decide)]
            clear HI5 HK5 HG5 hrun l1 lf1 ll1
            gi_wp2
            exact ⟨(KeepsOthers.refl _).from _, KeepC.r _ _, HI.out⟩
          · cases g3 : decide (0 < lf)
            · rw [Bool.and_false, if_neg (by decide)]
              clear HI5 HK5 HG5 hrun l1 lf1 ll1
              gi_wp2
              exact ⟨(KeepsOthers.refl _).from _, KeepC.r _ _, HI.out⟩
            · rw [Bool.and_self, if_pos rfl]
              clear HI
              gi_wp2
              exact ⟨(KeepsFrom.of_grownBy HG5.out (fun j e => by injection e with e; omega)).trans ((KeepsOthers.setCell _ _ _).from _), (HK5.out.more (fun _ h => h.elim)).t (KeepC.set (D := fun i => i = gl) _ ⟨gl, 0, none⟩ _ rfl), HI5.out.left HGL.out HGS.out.1 _⟩
        case done =>
          rintro Bq3 W10b hB hI hBd
          have hF : (kidsL l (n : Int)).foldl (spF3 l) (st3 l (n : Int) q 0) = st3 l (n : Int) q l.length := fold_kids (spF3 l) (st3 l (n : Int) q) HSTE.out l.length
          rw [hF] at hI
          have hBl := (Array.getElem?_eq_some_iff.1 hBd).1
          have HS10b := Lib.hid (hI.mark hB hw8 hBd hBl (Nat.le_refl _))
          have hz10b := hI.st.sz
          clear hI hBd hgv hst hF
          have HS12 := Lib.hid HS10b.out.st
          have c12 := HS12.out.c
          have lc12 := cell_lt c12
          gi_wp2_with (refine ⟨trivial, ?_⟩; gi_at_call 112; refine (callsIn_wide.2 (below_any _ _ _ ⟨_, _, _, rfl⟩)).mono ?_; rintro e w15 ⟨rfl, hx2, hm2, hb2, hz2⟩)
          have hst : SpE w w15.heap.size g l.length gy gm gv gr (.func (.func 90) #[] #[.pointer (some ⟨gb, 0, none⟩)]) ((st3 l (n : Int) q l.length).1) (0) ({ target := .collected Bq3, args := #[] } :: { target := .collected Bq2, args := #[] } :: [{ target := .collected Bq, args := #[] }]) (gvTo l (n : Int) q G 0) w15 := by
            have := SpE.of ((HS12.out.go hb2).up (by omega) (Nat.le_refl _)) HGG.out
            rw [hl] at this
            exact this
          have HKV := Lib.hid (HS12.out.bel)
          have hgv : GivesTo Fence.wide (4 - 1) Try.prog 126 #[.pointer (some ⟨W10b.heap.size, 0, none⟩), .pointer (some ⟨W10b.heap.size + 1, 0, none⟩)] (NdV l) (fun i => i = g) (kidsL l (n : Int)) w15 :=
            below1_gives (4 - 1) (by omega) l (n : Int) a c W10b.heap.size (W10b.heap.size + 1) (fun i => i = g) w15 (hx2.c 0 _ rfl) (hm2.c 0 _ rfl) (HNV.out _ (HKV.out.trans hb2)) (by show ¬ W10b.heap.size = g; omega) (by show ¬ W10b.heap.size + 1 = g; omega) (fun b hb h0 => by show ¬ b.block = g; exact HD.out b hb h0)
          have hw8 : w.heap.size ≤ w15.heap.size := by omega
          clear hx2 hm2 hb2 HS12 HKV hz2
          refine range_clo rfl (by omega) (gf := 126) (lb := #[.pointer (some ⟨W10b.heap.size, 0, none⟩), .pointer (some ⟨W10b.heap.size + 1, 0, none⟩)]) rfl trivial (enters_of Try.func126 (by kernel_rfl) rfl) hgv
            (fun x vs W h => by obtain ⟨_, rfl⟩ := h; rfl)
            (fun pre W => SpE w w15.heap.size g l.length gy gm gv gr (.func (.func 90) #[] #[.pointer (some ⟨gb, 0, none⟩)]) ((st3 l (n : Int) q l.length).1) (0) ({ target := .collected Bq3, args := #[] } :: { target := .collected Bq2, args := #[] } :: [{ target := .collected Bq, args := #[] }]) (pre.foldl (gvF l (n : Int) q) (gvTo l (n : Int) q G 0)) W) (fun _ _ => False) (fun pre A B h q => h.quiet q hw8 hgl (by omega)) (fun _ _ _ h _ => h) hst
            (fun x a' W => a' = { tmps := #[.agg #[.slice a l.length c], .int .i64 n, .int .i64 q, .func (.func 90) #[] #[.pointer (some ⟨gb, 0, none⟩)], .pointer (some ⟨gc, 0, none⟩), undef, undef, .pointer (some ⟨gy, 0, none⟩), .int .i64 0, .pointer (some ⟨gv, 0, none⟩), .pointer (some ⟨gr, 0, none⟩), undef, undef, .pointer (some ⟨gs, 0, none⟩), .pointer (some ⟨gl, 0, none⟩), undef, undef, undef, undef, undef, .int .i64 x, .map (some gm), .int .i64 q, .agg #[.slice a l.length c], .int .i64 n, .func (.func 126) #[] #[.pointer (some ⟨W0.heap.size, 0, none⟩), .pointer (some ⟨W0.heap.size + 1, 0, none⟩)], undef, undef, undef, undef, undef, undef, undef, undef, undef, undef, undef, undef, undef, .agg #[.slice a l.length c], .int .i64 n, .int .i64 WW, .int .i64 WW, .bool true, .int .i64 R, .agg #[.slice a l.length c], .int .i64 n, .func (.func 126) #[] #[.pointer (some ⟨W7.heap.size, 0, none⟩), .pointer (some ⟨W7.heap.size + 1, 0, none⟩)], undef, undef, undef, undef, undef, undef, undef, undef, undef, undef, undef, undef, undef, undef, undef, undef, .agg #[.slice a l.length c], .int .i64 n, .func (.func 126) #[] #[.pointer (some ⟨W10.heap.size, 0, none⟩), .pointer (some ⟨W10.heap.size + 1, 0, none⟩)], undef, undef, undef, undef, undef, undef, undef, undef, undef, undef, undef, undef, undef, undef, undef, .agg #[.slice a l.length c], .int .i64 n, .func (.func 126) #[] #[.pointer (some ⟨W10b.heap.size, 0, none⟩), .pointer (some ⟨W10b.heap.size + 1, 0, none⟩)], .int .i64 x, .agg #[.int .i64 (atS l x).up, .int .i64 (atS l x).wt, .int .i64 (atS l x).fx], undef, undef, undef, undef, undef, undef, undef], defers := [] })
            (fun x a' A B h q => h) ?assign ?body ?done ?stop
          case assign =>
            intro lp pre x vs W3 K hat hI hK
            obtain ⟨hxn, rfl⟩ := hat
            have HK := Lib.hid hK
            have HI := Lib.hid hI
            clear hK hI hgv hst
            gi_wp2
            exact HK.out _ _ ((KeepsOthers.refl _).from _) (KeepC.r _ _) HI.out rfl
          case stop => exact fun B pre W _ h _ => h.elim
          case body =>
            rintro lp pre x a' W3 ⟨post, hpost⟩ hI rfl
            obtain ⟨hpre, hxn, hkid⟩ := kids_split hpost
            have hF : pre.foldl (gvF l (n : Int) q) (gvTo l (n : Int) q G 0) = gvTo l (n : Int) q G x := by rw [hpre]; exact fold_kids (gvF l (n : Int) q) (gvTo l (n : Int) q G) (fun _ => rfl) x
            have hNX : (pre ++ [x]).foldl (gvF l (n : Int) q) (gvTo l (n : Int) q G 0) = (gvTo l (n : Int) q G x).set x (kidV l (n : Int) q x) := by rw [List.foldl_append, hF]; rfl
            have hkv := end_kid (q := q) hxn hkid
            have hlk := hI.m.look mapTN mapKN mapZN x
            rw [show ((st3 l (n : Int) q l.length).1) x = endG l (n : Int) q x from congrFun HEQ.out x, hkv] at hlk
            simp only [keyN, penV] at hlk
            rw [hF] at hI
            rw [hNX]
            have HI := Lib.hid hI
            have y3 := hI.y
            have ly3 := cell_lt y3
            have v3 := hI.v
            have lv3 := cell_lt v3
            have g3 := hI.g.c x (.int .i64 (at0 (gvTo l (n : Int) q G x) x)) (by unfold icells; rw [List.getElem?_map, List.getElem?_eq_getElem (by rw [hI.gl]; exact hxn)]; unfold at0; rw [getD_lt _ x 0 (by rw [hI.gl]; exact hxn)]; rfl)
            have gf3 := hI.g.f x
            have b3 := hI.tu.other (p := ⟨gb, 0, none⟩) hne HBB.out
            have HSH := Lib.hid (fun k => share1_any l.length x gb g k W3 hxn b3 ⟨_, g3⟩ gf3)
            clear hI hF hNX hkv hpre hpost hkid hgv hst g3 gf3 b3
            generalize kidV l (n : Int) q x = kv at *
            generalize gvTo l (n : Int) q G x = GX at *
            gi_wp2_with fail
            refine ⟨trivial, ?_⟩
            refine (CallsIn.inRound lp (callsIn_wide.2 (HSH.out _))).mono ?_
            rintro e w5 ⟨⟨vv, rfl⟩, rfl⟩
            clear HSH y3 ly3 v3 lv3 hlk
            gi_wp2
            exact ⟨(KeepsOthers.setCell _ _ _).from _, KeepC.set (D := fun i => i = g) _ ⟨g, x, none⟩ _ rfl, HI.out.set HGX.out hxn _⟩
          case done =>
            rintro Bq4 W14 hB hI hBd
            have hF : (kidsL l (n : Int)).foldl (gvF l (n : Int) q) (gvTo l (n : Int) q G 0) = giveTo l (n : Int) q G := fold_kids (gvF l (n : Int) q) (gvTo l (n : Int) q G) (fun _ => rfl) l.length
            rw [hF] at hI
            have hBl := (Array.getElem?_eq_some_iff.1 hBd).1
            have HMK := Lib.hid (show Marks w.heap.size W14 ({ target := .collected Bq4, args := #[] } :: { target := .collected Bq3, args := #[] } :: { target := .collected Bq2, args := #[] } :: [{ target := .collected Bq, args := #[] }]) W14.heap.size from ⟨Bq4, rfl, by omega, hBl, hBd, hI.marks.top hB⟩)
            have HI := Lib.hid hI
            have r9 := hI.r.c 0 _ rfl
            have lr9 := cell_lt r9
            clear hI hBd hgv hst hF
            gi_wp2
            refine leaves_marks HMK.out (fun w' hk hbl hm => ?_)
            refine ⟨.int .i64 (0), ?_, by rw [HKP.out], HI.out.tu.below hbl hgl, HI.out.g.quietN hk (fun h => h) (by rw [icells_len, HI.out.gl]; omega)⟩
            simp [results, Try.f89, go_sem, *]
    · have g1 : decide (0 < WW) = false := decide_eq_false hWP
      rw [if_neg hWP] at HKP HEND
      have HEQ := Lib.hid (HEND.out.symm)
      gi_wp2_with fail
      generalize hW7 : World.alloc _ _ = W7
      obtain ⟨gs, hgs⟩ : ∃ k, k = w6.heap.size := ⟨_, rfl⟩
      rw [← hgs]
      have hb7 : Bel w6 W7 := by rw [← hW7]; exact (Bel.refl w6).alloc _
      have HS7 := Lib.hid (HS6.out.go hb7)
      have hz67 : w6.heap.size ≤ W7.heap.size := hb7.szle
      clear hW7 hgs hb7 HS6 c6 lc6 r6 lr6
      gi_wp2_with (refine ⟨trivial, ?_⟩; gi_at_call 112; refine (callsIn_wide.2 (below_any _ _ _ ⟨_, _, _, rfl⟩)).mono ?_; rintro e w15 ⟨rfl, hx2, hm2, hb2, hz2⟩)
      have hst : SpE w w15.heap.size g l.length gy gm gv gr (.func (.func 90) #[] #[.pointer (some ⟨gb, 0, none⟩)]) ((st1 l (n : Int) q l.length).1) (R) ([{ target := .collected Bq, args := #[] }]) (gvTo l (n : Int) q G 0) w15 := by
        have := SpE.of ((HS7.out.go hb2).up (by omega) (Nat.le_refl _)) HGG.out
        rw [hl] at this
        exact this
      have HKV := Lib.hid (HS7.out.bel)
      have hgv : GivesTo Fence.wide (4 - 1) Try.prog 126 #[.pointer (some ⟨W7.heap.size, 0, none⟩), .pointer (some ⟨W7.heap.size + 1, 0, none⟩)] (NdV l) (fun i => i = g) (kidsL l (n : Int)) w15 :=
        below1_gives (4 - 1) (by omega) l (n : Int) a c W7.heap.size (W7.heap.size + 1) (fun i => i = g) w15 (hx2.c 0 _ rfl) (hm2.c 0 _ rfl) (HNV.out _ (HKV.out.trans hb2)) (by show ¬ W7.heap.size = g; omega) (by show ¬ W7.heap.size + 1 = g; omega) (fun b hb h0 => by show ¬ b.block = g; exact HD.out b hb h0)
      have hw8 : w.heap.size ≤ w15.heap.size := by omega
      clear hx2 hm2 hb2 HS7 HKV hz2
      refine range_clo rfl (by omega) (gf := 126) (lb := #[.pointer (some ⟨W7.heap.size, 0, none⟩), .pointer (some ⟨W7.heap.size + 1, 0, none⟩)]) rfl trivial (enters_of Try.func126 (by kernel_rfl) rfl) hgv
        (fun x vs W h => by obtain ⟨_, rfl⟩ := h; rfl)
        (fun pre W => SpE w w15.heap.size g l.length gy gm gv gr (.func (.func 90) #[] #[.pointer (some ⟨gb, 0, none⟩)]) ((st1 l (n : Int) q l.length).1) (R) ([{ target := .collected Bq, args := #[] }]) (pre.foldl (gvF l (n : Int) q) (gvTo l (n : Int) q G 0)) W) (fun _ _ => False) (fun pre A B h q => h.quiet q hw8 hgl (by omega)) (fun _ _ _ h _ => h) hst
        (fun x a' W => a' = { tmps := #[.agg #[.slice a l.length c], .int .i64 n, .int .i64 q, .func (.func 90) #[] #[.pointer (some ⟨gb, 0, none⟩)], .pointer (some ⟨gc, 0, none⟩), undef, undef, .pointer (some ⟨gy, 0, none⟩), .int .i64 0, .pointer (some ⟨gv, 0, none⟩), .pointer (some ⟨gr, 0, none⟩), undef, undef, .pointer (some ⟨gs, 0, none⟩), undef, undef, undef, undef, undef, undef, .int .i64 x, .map (some gm), .int .i64 q, .agg #[.slice a l.length c], .int .i64 n, .func (.func 126) #[] #[.pointer (some ⟨W0.heap.size, 0, none⟩), .pointer (some ⟨W0.heap.size + 1, 0, none⟩)], undef, undef, undef, undef, undef, undef, undef, undef, undef, undef, undef, undef, undef, .agg #[.slice a l.length c], .int .i64 n, .int .i64 WW, .int .i64 WW, .bool false, undef, undef, undef, undef, undef, undef, undef, undef, undef, undef, undef, undef, undef, undef, undef, undef, undef, undef, undef, undef, undef, undef, undef, undef, undef, undef, undef, undef, undef, undef, undef, undef, undef, undef, undef, undef, undef, undef, .agg #[.slice a l.length c], .int .i64 n, .func (.func 126) #[] #[.pointer (some ⟨W7.heap.size, 0, none⟩), .pointer (some ⟨W7.heap.size + 1, 0, none⟩)], .int .i64 x, .agg #[.int .i64 (atS l x).up, .int .i64 (atS l x).wt, .int .i64 (atS l x).fx], undef, undef, undef, undef, undef, undef, undef], defers := [] })
        (fun x a' A B h q => h) ?assign ?body ?done ?stop
      case assign =>
        intro lp pre x vs W3 K hat hI hK
        obtain ⟨hxn, rfl⟩ := hat
        have HK := Lib.hid hK
        have HI := Lib.hid hI
        clear hK hI hgv hst
        gi_wp2
        exact HK.out _ _ ((KeepsOthers.refl _).from _) (KeepC.r _ _) HI.out rfl
      case stop => exact fun B pre W _ h _ => h.elim
      case body =>
        rintro lp pre x a' W3 ⟨post, hpost⟩ hI rfl
        obtain ⟨hpre, hxn, hkid⟩ := kids_split hpost
        have hF : pre.foldl (gvF l (n : Int) q) (gvTo l (n : Int) q G 0) = gvTo l (n : Int) q G x := by rw [hpre]; exact fold_kids (gvF l (n : Int) q) (gvTo l (n : Int) q G) (fun _ => rfl) x
        have hNX : (pre ++ [x]).foldl (gvF l (n : Int) q) (gvTo l (n : Int) q G 0) = (gvTo l (n : Int) q G x).set x (kidV l (n : Int) q x) := by rw [List.foldl_append, hF]; rfl
        have hkv := end_kid (q := q) hxn hkid
        have hlk := hI.m.look mapTN mapKN mapZN x
        rw [show ((st1 l (n : Int) q l.length).1) x = endG l (n : Int) q x from congrFun HEQ.out x, hkv] at hlk
        simp only [keyN, penV] at hlk
        rw [hF] at hI
        rw [hNX]
        have HI := Lib.hid hI
        have y3 := hI.y
        have ly3 := cell_lt y3
        have v3 := hI.v
        have lv3 := cell_lt v3
        have g3 := hI.g.c x (.int .i64 (at0 (gvTo l (n : Int) q G x) x)) (by unfold icells; rw [List.getElem?_map, List.getElem?_eq_getElem (by rw [hI.gl]; exact hxn)]; unfold at0; rw [getD_lt _ x 0 (by rw [hI.gl]; exact hxn)]; rfl)
        have gf3 := hI.g.f x
        have b3 := hI.tu.other (p := ⟨gb, 0, none⟩) hne HBB.out
        have HSH := Lib.hid (fun k => share1_any l.length x gb g k W3 hxn b3 ⟨_, g3⟩ gf3)
        clear hI hF hNX hkv hpre hpost hkid hgv hst g3 gf3 b3
        generalize kidV l (n : Int) q x = kv at *
        generalize gvTo l (n : Int) q G x = GX at *
        gi_wp2_with fail
        refine ⟨trivial, ?_⟩
        refine (CallsIn.inRound lp (callsIn_wide.2 (HSH.out _))).mono ?_
        rintro e w5 ⟨⟨vv, rfl⟩, rfl⟩
        clear HSH y3 ly3 v3 lv3 hlk
        gi_wp2
        exact ⟨(KeepsOthers.setCell _ _ _).from _, KeepC.set (D := fun i => i = g) _ ⟨g, x, none⟩ _ rfl, HI.out.set HGX.out hxn _⟩
      case done =>
        rintro Bq4 W14 hB hI hBd
        have hF : (kidsL l (n : Int)).foldl (gvF l (n : Int) q) (gvTo l (n : Int) q G 0) = giveTo l (n : Int) q G := fold_kids (gvF l (n : Int) q) (gvTo l (n : Int) q G) (fun _ => rfl) l.length
        rw [hF] at hI
        have hBl := (Array.getElem?_eq_some_iff.1 hBd).1
        have HMK := Lib.hid (show Marks w.heap.size W14 ({ target := .collected Bq4, args := #[] } :: [{ target := .collected Bq, args := #[] }]) W14.heap.size from ⟨Bq4, rfl, by omega, hBl, hBd, hI.marks.top hB⟩)
        have HI := Lib.hid hI
        have r9 := hI.r.c 0 _ rfl
        have lr9 := cell_lt r9
        clear hI hBd hgv hst hF
        gi_wp2
        refine leaves_marks HMK.out (fun w' hk hbl hm => ?_)
        refine ⟨.int .i64 (R), ?_, by rw [HKP.out], HI.out.tu.below hbl hgl, HI.out.g.quietN hk (fun h => h) (by rw [icells_len, HI.out.gl]; omega)⟩
        simp [results, Try.f89, go_sem, *]
end Go.Proofs.Ytkdcdhkhadhcfaa
