/-
  anchors: the worst truth, the least wind in which some anchor may drag.
-/
import Derived.Test.YtkdcdhkhadhcfaaDoorNRow
import Derived.Test.YtkdcdhkhadhcfaaDoorBox
import Derived.Deep.DeepCutAuto
namespace Go.Proofs.YtkdcdhkhadhcfaaDoor
open Go Go.RowKit
set_option maxHeartbeats 4000000
set_option maxRecDepth 100000
def lowsG (l : List NSp) (k : Nat) : List Int := (l.take k).map NSp.lo
theorem lowsG_succ {l : List NSp} {k : Nat} (h : k < l.length) : lowsG l (k + 1) = lowsG l k ++ [(atG l k).lo] := by
  unfold lowsG atG
  rw [List.take_add_one, List.map_append]
  simp [List.getD, h]
theorem lowsG_len {l : List NSp} {k : Nat} (h : k ≤ l.length) : (lowsG l k).length = k := by unfold lowsG; simp; omega
theorem lowsG_at {l : List NSp} {k i : Nat} (h : i < k) (hk : k ≤ l.length) : at0 (lowsG l k) i = (atG l i).lo := by
  unfold lowsG at0 atG
  have h1 : i < l.length := by omega
  simp [List.getD, h, h1]
def worstT (n : Net) : NTr := ⟨n.wind.hi, n.cur.hi, lowsG n.grips n.grips.length⟩
def withW (n : Net) (k : Int) : Net := { n with wind := ⟨k, k⟩ }
theorem withW_ok {n : Net} (h : NetOk n) {k : Int} (hk : 0 ≤ k ∧ k ≤ 20) : NetOk (withW n k) := ⟨⟨hk.1, Int.le_refl _, hk.2⟩, h.c, h.gl, h.al, h.wl, h.g, h.a, h.x⟩
theorem worst_ok {n : Net} (h : NetOk n) : TrOk n (worstT n) := by
  refine ⟨⟨h.w.2.1, Int.le_refl _⟩, ⟨h.c.2.1, Int.le_refl _⟩, lowsG_len (Nat.le_refl _), fun i hi => ?_⟩
  have hi2 : i < n.grips.length := by have : (worstT n).grips.length = n.grips.length := lowsG_len (Nat.le_refl _); omega
  have e : at0 (worstT n).grips i = (atG n.grips i).lo := lowsG_at hi2 (Nat.le_refl _)
  rw [e]
  exact ⟨Int.le_refl _, (h.g i hi2).2.1⟩
/-- The truth as it is made. -/
structure WoSt (n : Net) (w : World) (k : Nat) (gv av wv : Value) (V : Value) (wr : World) : Prop where
  own : wr.ownsRow 0 3 1 V (lowsG n.grips k).length ((lowsG n.grips k).map (Value.int .i64))
  far : ∀ g, V.ownBlock = some g → w.heap.size + 3 ≤ g
  b0 : Bx wr w.heap.size [.int .i64 n.wind.lo, .int .i64 n.wind.hi, .int .i64 n.cur.lo, .int .i64 n.cur.hi, gv, av, wv]
  b1 : Bx wr (w.heap.size + 1) [.int .i64 0, .int .i64 0, .int .i64 0, .int .i64 0, .slice none 0 0, .slice none 0 0, .slice none 0 0, .int .i64 0, .int .i64 0, .slice none 0 0]
  b2 : Bx wr (w.heap.size + 2) [.int .i64 n.wind.hi, .int .i64 n.cur.hi, V]
  bel : Bel w wr
theorem WoSt.next {n : Net} {w : World} {k : Nat} {gv av wv V V' : Value} {wr wa w' : World} (h : WoSt n w k gv av wv V wr) (hk : k < n.grips.length) (hb : Bel wr wa) {x : Int} (hx : x = (atG n.grips k).lo)
    (ho : w'.ownsRow 0 3 1 V' ((lowsG n.grips k).length + 1) ((lowsG n.grips k).map (Value.int .i64) ++ [.int .i64 x])) (hg : wa.grownBy w' V.ownBlock) (hv : V'.ownBlock = V.ownBlock ∨ V'.ownBlock = some wa.heap.size) :
    WoSt n w (k + 1) gv av wv V' (w'.setCell ⟨w.heap.size + 2, 2, none⟩ V') := by
  have hs := h.bel.szle
  have hs2 := hb.szle
  have l2 := h.b2.lt
  have hfar : ∀ g, V'.ownBlock = some g → w.heap.size + 3 ≤ g := fun g q => by
    rcases hv with e | e
    · exact h.far g (by rw [← e]; exact q)
    · rw [e] at q; injection q with q; omega
  have hne : ∀ p, p < w.heap.size + 3 → V.ownBlock ≠ some p := fun p hp e => by have := h.far p e; omega
  have o2 : w'.ownsRow 0 3 1 V' (lowsG n.grips (k + 1)).length ((lowsG n.grips (k + 1)).map (Value.int .i64)) := by
    rw [lowsG_succ hk, ← hx]
    simpa using ho
  refine ⟨row_set o2 (fun g q => ?_), hfar, ?_, ?_, ?_, ?_⟩
  · have := hfar g q
    show g ≠ w.heap.size + 2
    omega
  · exact ((h.b0.bel hb).grown hg (hne _ (by omega))).other (by omega) _
  · exact ((h.b1.bel hb).grown hg (hne _ (by omega))).other (by omega) _
  · exact ((h.b2.bel hb).grown hg (hne _ (by omega))).set (i := 2) (by simp) V'
  · exact ((h.bel.trans hb).grown hg (fun g q => by have := h.far g q; omega)).setCell (by show w.heap.size ≤ w.heap.size + 2; omega) _
theorem src_one {w : World} {g : Nat} {v : Value} {T : TypeId} (hg : g = w.heap.size) : ∀ j u, ([v] : List Value)[j]? = some u → (w.alloc (.cells #[v] T)).cell? ((⟨g, 0, none⟩ : Addr).add j) = some u := fun j u hu => by
  have hj : j = 0 := by
    rcases Nat.eq_zero_or_pos j with q | q
    · exact q
    · rw [List.getElem?_eq_none (by show 1 ≤ j; omega)] at hu; cases hu
  subst hj
  rw [add_at, Nat.zero_add, (row_facts (new_row hg)).1 0]
  exact hu
theorem ownRow_len {w : World} {T n : Nat} {V : Value} {xs : List Value} (h : w.ownsRow 0 T 1 V n xs) : ∃ a c, V = .slice a n c := by
  rcases h.2 with ⟨rfl, e⟩ | ⟨g, cap, cur, rfl, _⟩
  · exact ⟨none, 0, by rw [e]⟩
  · exact ⟨some ⟨g, 0, none⟩, cap, rfl⟩
theorem nworst_any (n : Net) (v : Value) (w : World) (hv : NetAt w v n) (hl : n.grips.length ≤ 3) :
    Calls Tryd.prog 62 #[v] w fun e w' => ∃ V, e = .returned V ∧ RowAt w' V n (worstT n) ∧ Bel w w' := by
  have HV := Lib.hid hv
  obtain ⟨ga, gc, aa, ac, xa, xc, rfl, hg, ha, hx⟩ := hv.open
  have HA := Lib.hid ha
  have HXX := Lib.hid hx
  obtain ⟨ga', gc', gb, go, ge, hga, ⟨lg, _⟩, hgc⟩ := hg
  injection ge with ge1 _ ge3
  subst ge1 ge3
  have hixg := idxGrips (c := gc) hga
  have HGC := Lib.hid hgc
  have hal : n.an.length ≤ 140737488355328 := by obtain ⟨_, _, _, _, _, _, h, _⟩ := ha; exact h.1
  have hxl : n.walls.length ≤ 140737488355328 := by obtain ⟨_, _, _, _, _, _, h, _⟩ := hx; exact h.1
  obtain ⟨i1, hi1, hz1, hs1, hb1⟩ := info_parts mkInt
  have HI1 := Lib.hid hi1
  have HZ1 := Lib.hid hz1
  clear hv hga hgc ha hx hi1 hz1
  have HLL := Lib.hid (fun k (hk : k ≤ n.grips.length) => lowsG_len hk)
  go_enter Tryd.func62, Tryd.ntmps62
  go_upto_region 3 with fail
  generalize hW : World.alloc _ _ = W0
  have hst0 : WoSt n w 0 (.slice ga n.grips.length gc) (.slice aa n.an.length ac) (.slice xa n.walls.length xc) (.slice none 0 0) W0 := by
    rw [← hW]
    refine ⟨World.ownsRow_nil _ 0 _ 1, fun g h => by simp [Value.ownBlock] at h, ?_, ?_, ?_, ?_⟩
    · exact ((Bx.new rfl).bel ((Bel.refl _).alloc _)).bel ((Bel.refl _).alloc _)
    · exact (Bx.new (by simp)).bel ((Bel.refl _).alloc _)
    · exact Bx.new (by simp)
    · exact (((Bel.refl w).alloc _).alloc _).alloc _
  have HST0 := Lib.hid hst0
  clear hW hst0
  go_loopw [16] (fun i wr => ∃ (k : Nat) (V : Value), k ≤ n.grips.length ∧ i = .int .i64 k ∧ Hid (WoSt n w k (.slice ga n.grips.length gc) (.slice aa n.an.length ac) (.slice xa n.walls.length xc) V wr)) (fun i _ => n.grips.length - (intOf i).toNat)
  case atStart => exact ⟨0, _, by omega, rfl, HST0⟩
  case round =>
    obtain ⟨k, V, hk, rfl, HST⟩ := hrel
    have hkl := HLL.out k hk
    by_cases hlt : k < n.grips.length
    · have hlti : (k : Int) < (n.grips.length : Int) := by omega
      have k0 := HST.out.bel.cell (HGC.out k hlt).1
      have k1 := HST.out.bel.cell (HGC.out k hlt).2
      have lk := cell_lt k0
      have y0 := HST.out.b2.c 0 _ rfl
      have y1 := HST.out.b2.c 1 _ rfl
      have y2 := HST.out.b2.c 2 _ rfl
      have lz := cell_lt y0
      have HK := Lib.hid hlt
      have HE := Lib.hid (Eq.refl (atG n.grips k).lo)
      generalize hq : atG n.grips k = s at *
      have HQ := Lib.hid hq
      clear hq
      go_wp2_with (at_builtin; refine wpList_append_where rfl _ _ 33 rfl 3 i1 (.int .i64 0) 1 8 Tryd.underlying33 HI1.out HZ1.out hs1 hb1 rfl (by decide) _ (lowsG n.grips k).length ((lowsG n.grips k).map (Value.int .i64)) rfl (ownsRow_bel HST.out.own (((Bel.refl _).alloc _).alloc _)) ⟨wr.heap.size + 1, 0, none⟩ 1 1 [.int .i64 s.lo] rfl rfl (src_one (by simp)) (fun y hy => by simp at hy; subst hy; rfl) (by unfold maxLen; omega) (by omega) ?_; intro V' w7 hown hgrow hwhere; obtain ⟨va', vc', hV'⟩ := ownRow_len hown; subst hV'; have HN := Lib.hid (HST.out.next HK.out (((Bel.refl _).alloc _).alloc _) (by rw [HQ.out]) hown hgrow hwhere); have HZ := Lib.hid ((HST.out.b2.bel (((Bel.refl _).alloc _).alloc _)).grown hgrow (fun e => by have := HST.out.far _ e; omega)); have z2 := HZ.out.c 2 _ rfl; have zf := HZ.out.f; have lz2 := HZ.out.lt; clear hown hgrow hwhere k0 k1 y0 y1 y2 lk lz)
      go_roundw
      case rel => exact ⟨k + 1, _, by omega, by go_num, by rw [hkl] at HN; exact HN⟩
      case measure => simp [intOf]; omega
    · have hlti : ¬ (k : Int) < (n.grips.length : Int) := by omega
      obtain rfl : k = n.grips.length := by omega
      have y0 := HST.out.b2.c 0 _ rfl
      have y1 := HST.out.b2.c 1 _ rfl
      have y2 := HST.out.b2.c 2 _ rfl
      have ly := cell_lt y0
      have x0 := HST.out.b0.c 0 _ rfl
      have x1 := HST.out.b0.c 1 _ rfl
      have x2 := HST.out.b0.c 2 _ rfl
      have x3 := HST.out.b0.c 3 _ rfl
      have x4 := HST.out.b0.c 4 _ rfl
      have x5 := HST.out.b0.c 5 _ rfl
      have x6 := HST.out.b0.c 6 _ rfl
      have lx := cell_lt x0
      have z0 := HST.out.b1.c 0 _ rfl
      have z1 := HST.out.b1.c 1 _ rfl
      have z2 := HST.out.b1.c 2 _ rfl
      have z3 := HST.out.b1.c 3 _ rfl
      have z4 := HST.out.b1.c 4 _ rfl
      have z5 := HST.out.b1.c 5 _ rfl
      have z6 := HST.out.b1.c 6 _ rfl
      have z7 := HST.out.b1.c 7 _ rfl
      have z8 := HST.out.b1.c 8 _ rfl
      have z9 := HST.out.b1.c 9 _ rfl
      have lz := cell_lt z0
      have zf := HST.out.b1.f
      obtain ⟨va, vc, hV⟩ : ∃ a c, V = .slice a n.grips.length c := by
        have h := ownRow_len HST.out.own
        rw [HLL.out _ (Nat.le_refl _)] at h
        exact h
      subst hV
      have HNE : ∀ g, (Value.slice va n.grips.length vc).ownBlock = some g → g ≠ w.heap.size + 1 := fun g hg => by have := HST.out.far g hg; omega
      have HNE2 := Lib.hid HNE
      clear HNE
      clear hk hlti
      have hlen : (worstT n).grips.length = n.grips.length := HLL.out _ (Nat.le_refl _)
      have HLN := Lib.hid hlen
      clear hlen
      go_wp2
      refine bodyPost_ret (v := .agg #[.int .i64 n.wind.lo, .int .i64 n.wind.hi, .int .i64 n.cur.lo, .int .i64 n.cur.hi, .slice ga n.grips.length gc, .slice aa n.an.length ac, .slice xa n.walls.length xc, .int .i64 n.wind.hi, .int .i64 n.cur.hi, .slice va n.grips.length vc]) (by simp [results, Tryd.results62, go_sem, *]) rfl ?_
      have HBF := HST.out.bel
      have key : ∀ W9, Bel w W9 → W9.ownsRow 0 3 1 (.slice va n.grips.length vc) (lowsG n.grips n.grips.length).length ((lowsG n.grips n.grips.length).map (Value.int .i64)) →
          ∃ V, Ending.returned (.agg #[.int .i64 n.wind.lo, .int .i64 n.wind.hi, .int .i64 n.cur.lo, .int .i64 n.cur.hi, .slice ga n.grips.length gc, .slice aa n.an.length ac, .slice xa n.walls.length xc, .int .i64 n.wind.hi, .int .i64 n.cur.hi, .slice va n.grips.length vc]) = .returned V ∧ RowAt W9 V n (worstT n) ∧ Bel w W9 := fun W9 hb ho =>
        ⟨_, rfl, ⟨ga, gc, aa, ac, xa, xc, va, vc, by rw [HLN.out]; rfl, HA.out.bel hb, HXX.out.bel hb, by rw [HLN.out]; exact ownInts (l := lowsG n.grips n.grips.length) (by rw [HLL.out _ (Nat.le_refl _)]; omega) ho⟩, hb⟩
      refine key _ ?_ ?_
      · repeat (refine Bel.setCell ?_ (by show w.heap.size ≤ w.heap.size + 1; omega) _)
        exact HBF
      · repeat (refine row_set ?_ (fun g hg => HNE2.out g hg))
        exact HST.out.own
/-- The least wind found. -/
def LeastW (n : Net) (r : Int) : Prop := (∃ k : Nat, r = k ∧ k < 21 ∧ stepM (withW n k) (worstT (withW n k)) 0 ≠ 0 ∧ ∀ j : Nat, j < k → stepM (withW n j) (worstT (withW n j)) 0 = 0) ∨ (r = 21 ∧ ∀ j : Nat, j < 21 → stepM (withW n j) (worstT (withW n j)) 0 = 0)
theorem nleast_any (n : Net) (hn : NetOk n) (v : Value) (w : World) (hv : NetAt w v n) :
    Calls Tryd.prog 84 #[v, .func (.func 62) #[] #[]] w fun e w' => ∃ r, e = .returned (.int .i64 r) ∧ LeastW n r ∧ Bel w w' := by
  have HV := Lib.hid hv
  have HLW := Lib.hid (show ∀ r, LeastW n r ↔ ((∃ k : Nat, r = k ∧ k < 21 ∧ stepM (withW n k) (worstT (withW n k)) 0 ≠ 0 ∧ ∀ j : Nat, j < k → stepM (withW n j) (worstT (withW n j)) 0 = 0) ∨ (r = 21 ∧ ∀ j : Nat, j < 21 → stepM (withW n j) (worstT (withW n j)) 0 = 0)) from fun r => Iff.rfl)
  obtain ⟨ga, gc, aa, ac, xa, xc, rfl, hg, ha, hx⟩ := hv.open
  have hgl : n.grips.length ≤ 3 := hn.gl
  have HWO := Lib.hid (fun (k : Nat) (hk : k < 21) wx (hx : Bel w wx) => nworst_any (withW n k) (.agg #[.int .i64 (k : Int), .int .i64 (k : Int), .int .i64 n.cur.lo, .int .i64 n.cur.hi, .slice ga n.grips.length gc, .slice aa n.an.length ac, .slice xa n.walls.length xc]) wx ⟨_, _, _, rfl, hg.bel hx, ha.bel hx, ‹WallsAt w _ n.walls›.bel hx⟩ hgl)
  have HST := Lib.hid (fun (k : Nat) (hk : k < 21) V wx (hx : RowAt wx V (withW n k) (worstT (withW n k))) => show Calls Tryd.prog 82 #[V, .int .u64 0] wx fun e w' => e = .returned (.int .u64 (stepM (withW n k) (worstT (withW n k)) 0 : Nat)) ∧ Bel wx w' from nstep_any (withW n k) (worstT (withW n k)) (withW_ok hn (by omega)) (worst_ok (withW_ok hn (by omega))) 0 V wx hx (by omega))
  have HRA := Lib.hid (fun (k : Nat) V wx (hx : RowAt wx V (withW n k) (worstT (withW n k))) => show ∃ a b c d e f g h i j, V = .agg #[a, b, c, d, e, f, g, h, i, j] from by obtain ⟨_, _, _, _, _, _, _, _, e, _⟩ := hx; exact ⟨_, _, _, _, _, _, _, _, _, _, e⟩)
  clear hn hv hg ha hx hgl
  generalize n.an.length = A at *
  generalize n.walls.length = X at *
  generalize n.grips.length = G at *
  go_enter Tryd.func84, Tryd.ntmps84
  go_upto_region 2 with fail
  generalize hW : World.alloc _ _ = W0
  have HB : Hid (Bel w W0) := Lib.hid (by rw [← hW]; exact (Bel.refl w).alloc _)
  have HX0 : Hid (Bx W0 w.heap.size [.int .i64 n.wind.lo, .int .i64 n.wind.hi, .int .i64 n.cur.lo, .int .i64 n.cur.hi, .slice ga G gc, .slice aa A ac, .slice xa X xc]) := Lib.hid (by rw [← hW]; exact Bx.new rfl)
  clear hW
  go_loopw [6] (fun i wr => ∃ (k : Nat) (a b : Int), k ≤ 21 ∧ i = .int .i64 k ∧ Hid (∀ j : Nat, j < k → stepM (withW n j) (worstT (withW n j)) 0 = 0) ∧ Hid (Bx wr w.heap.size [.int .i64 a, .int .i64 b, .int .i64 n.cur.lo, .int .i64 n.cur.hi, .slice ga G gc, .slice aa A ac, .slice xa X xc]) ∧ Hid (Bel w wr)) (fun i _ => 21 - (intOf i).toNat)
  case atStart => exact ⟨0, _, _, by omega, rfl, Lib.hid fun j hj => absurd hj (by omega), HX0, HB⟩
  case round =>
    obtain ⟨k, a, b, hk, rfl, hno, hbx, hbe⟩ := hrel
    have x0 := hbx.out.c 0 _ rfl
    have x1 := hbx.out.c 1 _ rfl
    have xf := hbx.out.f
    have lx := hbx.out.lt
    by_cases hlt : k < 21
    · have hlti : (k : Int) < 21 := by omega
      have HW1 := Lib.hid (HWO.out k hlt)
      have HS1 := Lib.hid (HST.out k hlt)
      have HR1 := Lib.hid (HRA.out k)
      have HN1 := Lib.hid (fun (h : stepM (withW n k) (worstT (withW n k)) 0 ≠ 0) => show LeastW n k from .inl ⟨k, rfl, hlt, h, hno.out⟩)
      have HN2 := Lib.hid (fun (h : stepM (withW n k) (worstT (withW n k)) 0 = 0) => show ∀ j : Nat, j < k + 1 → stepM (withW n j) (worstT (withW n j)) 0 = 0 from fun j hj => by
        by_cases e : j = k
        · rw [e]; exact h
        · exact hno.out j (by omega))
      clear HWO HST HRA hno HLW
      generalize withW n k = nk at *
      generalize stepM nk (worstT nk) 0 = D at *
      generalize worstT nk = tk at *
      go_upto_region 5 with fail
      have HX1 := Lib.hid ((hbx.out.set (i := 0) (by simp) (.int .i64 k)).set (i := 1) (by simp) (.int .i64 k))
      have HB1 := Lib.hid ((hbe.out.setCell (p := ⟨w.heap.size, 0, none⟩) (Nat.le_refl _) (.int .i64 k)).setCell (p := ⟨w.heap.size, 1, none⟩) (Nat.le_refl _) (.int .i64 k))
      clear x0 x1 xf lx hbx hbe
      generalize World.setCell _ _ _ = W1 at *
      have x0 := HX1.out.c 0 _ rfl
      have x1 := HX1.out.c 1 _ rfl
      have x2 := HX1.out.c 2 _ rfl
      have x3 := HX1.out.c 3 _ rfl
      have x4 := HX1.out.c 4 _ rfl
      have x5 := HX1.out.c 5 _ rfl
      have x6 := HX1.out.c 6 _ rfl
      have lx := HX1.out.lt
      go_wp2_with fail
      refine (HW1.out _ HB1.out).mono ?_
      rintro e w2 ⟨V, rfl, hra, hb⟩
      obtain ⟨a1, a2, a3, a4, a5, a6, a7, a8, a9, a10, rfl⟩ := HR1.out _ _ hra
      have HRX := Lib.hid hra
      have HX2 := Lib.hid (HX1.out.bel hb)
      have HB2 := Lib.hid (HB1.out.trans hb)
      clear hra hb x0 x1 x2 x3 x4 x5 x6 lx
      go_wp2_with fail
      refine (HS1.out _ _ HRX.out).mono ?_
      rintro e w3 ⟨rfl, hb⟩
      have HX3 := Lib.hid (HX2.out.bel hb)
      have HB3 := Lib.hid (HB2.out.trans hb)
      clear hb
      by_cases hd : D = 0
      · have HN := Lib.hid (HN2.out hd)
        have hq : ((D : Int) != 0) = false := by rw [hd]; rfl
        clear hd
        go_wp2
        go_roundw
        case rel => exact ⟨k + 1, _, _, by omega, by go_num, HN, HX3, HB3⟩
        case measure => simp [intOf]; omega
      · have HN := Lib.hid (HN1.out hd)
        have hq : ((D : Int) != 0) = true := by rw [bne_iff_ne]; omega
        clear hd
        go_wp2
        go_ret
        exact ⟨_, rfl, HN.out, HB3.out⟩
    · have hlti : ¬ (k : Int) < 21 := by omega
      have HN : Hid (LeastW n 21) := Lib.hid (.inr ⟨rfl, fun j hj => hno.out j (by omega)⟩)
      clear HWO HST HRA hno HLW
      go_wp2
      go_ret
      exact ⟨_, rfl, HN.out, hbe.out⟩
end Go.Proofs.YtkdcdhkhadhcfaaDoor
