/-
  shares: the program: weights.
-/
import Derived.Test.YtkdcdhkhadhcfaaShPrg
namespace Go.Proofs.Ytkdcdhkhadhcfaa
open Go Go.RowKit Go.Shelf
attribute [local go_sem] Oper.semAt_some
set_option maxHeartbeats 8000000
set_option maxRecDepth 100000
theorem Bx.quietS {D : Nat → Prop} {A B : World} {p : Nat} {v : Value} {cs : List Value} (h : Bx A p (v :: cs)) (k : KeepC D A B) (hd : ¬ D p) : Bx B p (v :: cs) :=
  ⟨fun j u hu => k.cell hd (h.c j u hu), fun o => by
    obtain ⟨ob, ho, hk⟩ := cells_of_cell (h.c 0 v rfl)
    have := h.f o
    unfold World.frozen? at this ⊢
    rw [k.block _ ob hd ho hk, ← ho]
    exact this, Nat.lt_of_lt_of_le h.lt k.size⟩
/-- The sum so far. -/
structure WtSt (w Wr : World) (gs : Nat) (s : Int) (W : World) : Prop where
  bel : Bel w W
  sz : Wr.heap.size ≤ W.heap.size
  s : Bx W gs [.int .i64 s]
theorem WtSt.go {w Wr : World} {gs : Nat} {s : Int} {W W' : World} (h : WtSt w Wr gs s W) (k : Bel W W') : WtSt w Wr gs s W' := ⟨h.bel.trans k, Nat.le_trans h.sz k.szle, h.s.bel k⟩
theorem WtSt.quiet {w Wr : World} {gs : Nat} {s : Int} {W W' : World} (h : WtSt w Wr gs s W) (q : Quiet Wr.heap.size W W') (hw : w.heap.size ≤ Wr.heap.size) : WtSt w Wr gs s W' :=
  ⟨Below.trans h.bel (q.below.mono hw), Nat.le_trans h.sz q.below.size, h.s.quietS q.keep (fun h => h)⟩
def wtF (l : List SNd) (s : Int) (k : Nat) : Int := s + (atS l k).wt
theorem weights_any (l : List SNd) (m : Int) (v : Value) (w : World) (ht : CusOk l) (hv : CusAt w v l) :
    Calls Try.prog 113 #[v, .int .i64 m] w fun e w' => e = .returned (.int .i64 (wsTo l m l.length)) ∧ Bel w w' := by
  have HT := Lib.hid ht
  obtain ⟨s, rfl, hs⟩ := hv
  have HS := Lib.hid hs
  obtain ⟨a, c, b, off, rfl, ha, _, hc⟩ := hs
  have HA := Lib.hid ha
  have HB := Lib.hid (fun (h : 0 < l.length) => show b < w.heap.size from cell_lt (hc 0 h).1)
  clear ht ha hc
  refine (callsIn_wide (n := 4)).1 ?_
  refine callsIn_of_wp_marks Try.func113 rfl trivial ?_ rfl
  simp only [Try.ntmps113, List.size_toArray, List.length_cons, List.length_nil, Nat.reduceAdd, Nat.reduceSub, Array.replicate_succ, Array.replicate_zero, List.push_toArray, List.append_toArray, List.nil_append, List.cons_append]
  gi_wp2_with fail
  generalize hW : World.alloc _ _ = W0
  have HX0 : Hid (Bx W0 w.heap.size [.slice a l.length c]) := Lib.hid (by rw [← hW]; exact (Bx.new rfl).bel ((Bel.refl _).alloc _))
  have HS0 : Hid (Bx W0 (w.heap.size + 1) [.int .i64 0]) := Lib.hid (by rw [← hW]; exact Bx.new (by simp))
  have HB0 : Hid (Bel w W0) := Lib.hid (by rw [← hW]; exact ((Bel.refl w).alloc _).alloc _)
  have hz0 : W0.heap.size = w.heap.size + 2 := by rw [← hW]; simp only [World.size_alloc]
  clear hW
  have c0 := HX0.out.c 0 _ rfl
  have lc0 := cell_lt c0
  gi_wp2_with (refine ⟨trivial, ?_⟩; gi_at_call 112; refine (callsIn_wide.2 (below_any _ _ _ ⟨_, _, _, rfl⟩)).mono ?_; rintro e w2 ⟨rfl, hx2, hm2, hb2, hz2⟩)
  clear c0 lc0
  have hbr := HB0.out.trans hb2
  have hgv : GivesTo Fence.wide (4 - 1) Try.prog 126 #[.pointer (some ⟨w.heap.size + 2, 0, none⟩), .pointer (some ⟨w.heap.size + 2 + 1, 0, none⟩)] (NdV l) (fun i => i = w.heap.size + 1) (kidsL l m) w2 := by
    rw [hz0] at hx2 hm2
    exact below1_gives (4 - 1) (by omega) l m a c (w.heap.size + 2) (w.heap.size + 2 + 1) (fun i => i = w.heap.size + 1) w2 (hx2.c 0 _ rfl) (hm2.c 0 _ rfl) (HS.out.bel hbr) (by omega) (by omega) (fun b' hb h0 => by
      have h1 := HA.out h0
      rw [hb] at h1
      injection h1 with h1
      subst h1
      have := HB.out h0
      simp only
      omega)
  have hst : WtSt w w2 (w.heap.size + 1) 0 w2 := ⟨hbr, Nat.le_refl _, HS0.out.bel hb2⟩
  have hwr : w.heap.size ≤ w2.heap.size := hbr.szle
  have hz2' : w2.heap.size = w.heap.size + 4 := by omega
  clear hx2 hm2 hb2 hbr HX0 HS0 HB0 hz2 HA HB HS
  refine range_clo rfl (by omega) (gf := 126) (lb := #[.pointer (some ⟨w.heap.size + 2, 0, none⟩), .pointer (some ⟨w.heap.size + 2 + 1, 0, none⟩)]) rfl trivial (enters_of Try.func126 (by kernel_rfl) rfl) hgv
    (fun x vs W h => by obtain ⟨_, rfl⟩ := h; rfl)
    (fun pre W => WtSt w w2 (w.heap.size + 1) (pre.foldl (wtF l) 0) W) (fun _ _ => False) (fun pre A B h q => h.quiet q hwr) (fun _ _ _ h _ => h) hst
    (fun x a' W => ∃ gx, w2.heap.size ≤ gx ∧ a' = { tmps := #[.agg #[.slice a l.length c], .int .i64 m, .pointer (some ⟨w.heap.size, 0, none⟩), undef, .int .i64 0, .pointer (some ⟨w.heap.size + 1, 0, none⟩), undef, .pointer (some ⟨gx, 0, none⟩), .agg #[.slice a l.length c], .int .i64 m, .func (.func 126) #[] #[.pointer (some ⟨w.heap.size + 2, 0, none⟩), .pointer (some ⟨w.heap.size + 2 + 1, 0, none⟩)], .int .i64 x, .agg #[.int .i64 (atS l x).up, .int .i64 (atS l x).wt, .int .i64 (atS l x).fx], undef, undef, undef, undef, undef], defers := [] } ∧ Bx W gx (ndCells (atS l x)))
    (fun x a' A B h q => by obtain ⟨gx, h1, h2, h3⟩ := h; exact ⟨gx, h1, h2, h3.quietS q.keep (fun h => h)⟩) ?assign ?body ?done ?stop
  case assign =>
    intro lp pre x vs W3 K hat hI hK
    obtain ⟨hxn, rfl⟩ := hat
    have HK := Lib.hid hK
    have HI := Lib.hid hI
    clear hK hI hgv hst
    gi_wp2
    have hb1 := (Bel.refl W3).alloc (.cells #[.int .i64 (atS l x).up, .int .i64 (atS l x).wt, .int .i64 (atS l x).fx] 77)
    exact HK.out _ _ (hb1.keeps.from _) (KeepC.of_bel hb1) (HI.out.go hb1) ⟨W3.heap.size, HI.out.sz, rfl, Bx.new rfl⟩
  case body =>
    rintro lp pre x a' W3 ⟨post, hpost⟩ hI ⟨gx, hgx, rfl, hX⟩
    obtain ⟨hpre, hxn, hkid⟩ := kids_split hpost
    have hF : pre.foldl (wtF l) 0 = wsTo l m x := by rw [hpre]; exact fold_kids (wtF l) (wsTo l m) (fun _ => rfl) x
    have hN := (ws_nn HT.out (m := m) x (by omega))
    have hW := HT.out.wt x hxn
    have h8 := HT.out.l8
    have HNX := Lib.hid (show (pre ++ [x]).foldl (wtF l) 0 = wsTo l m x + (atS l x).wt by rw [List.foldl_append, hF]; rfl)
    rw [hF] at hI
    have HI := Lib.hid hI
    have HX := Lib.hid hX
    have s0 := hI.s.c 0 _ rfl
    have sf := hI.s.f
    have ls := cell_lt s0
    have n1 := hX.c 1 _ rfl
    have ln := cell_lt n1
    clear hI hX hpre hpost hkid hgv hst hF
    rw [HNX.out]
    clear HNX
    generalize wsTo l m x = S at *
    generalize (atS l x).wt = wt at *
    obtain ⟨n1a, n1b, _⟩ := hN
    gi_wp2
    exact ⟨(KeepsOthers.setCell _ _ _).from _, KeepC.set (D := fun i => i = w.heap.size + 1) _ ⟨w.heap.size + 1, 0, none⟩ _ rfl, ⟨HI.out.bel.setCell (p := ⟨w.heap.size + 1, 0, none⟩) (by show w.heap.size ≤ w.heap.size + 1; omega) _, by rw [World.size_setCell]; exact HI.out.sz, HI.out.s.set (i := 0) (by simp) _⟩⟩
  case done =>
    rintro Bq W4 hB hI hBd
    have hF : (kidsL l m).foldl (wtF l) 0 = wsTo l m l.length := fold_kids (wtF l) (wsTo l m) (fun _ => rfl) l.length
    rw [hF] at hI
    have hBl := (Array.getElem?_eq_some_iff.1 hBd).1
    have HMK := Lib.hid (show Marks w.heap.size W4 [{ target := .collected Bq, args := #[] }] W4.heap.size from ⟨Bq, rfl, by omega, hBl, hBd, trivial⟩)
    have HI := Lib.hid hI
    have s0 := hI.s.c 0 _ rfl
    have ls := cell_lt s0
    clear hI hBd hgv hst hF
    generalize hX : wsTo l m l.length = X at *
    have HX := Lib.hid hX
    clear hX
    gi_wp2
    refine leaves_marks HMK.out (fun w' hk hbl hm => ?_)
    refine ⟨.int .i64 X, ?_, by rw [HX.out], Below.trans HI.out.bel hbl⟩
    simp [results, Try.f113, go_sem, *]
  case stop => exact fun B pre W _ h _ => h.elim
end Go.Proofs.Ytkdcdhkhadhcfaa
