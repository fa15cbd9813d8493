/-
  the top law: holes: the net with the holes of all anchors that drag.
-/
import Derived.Test.YtkdcdhkhadhcfaaDoorTornX
import Derived.Test.YtkdcdhkhadhcfaaDoorHoRf2
namespace Go.Proofs.YtkdcdhkhadhcfaaDoor
set_option linter.unusedVariables false
open Go Go.RowKit
set_option maxHeartbeats 4000000
set_option maxRecDepth 100000
theorem mkHole : (Tryd.prog.info? 89).map (fun i => (i.zero, i.size, i.bytes)) = some (some (.agg #[.int .i64 0, .int .i64 0, .int .i64 0, .int .i64 0]), 4, 32) := by kernel_rfl
def hoC (h : Hole) : List Value := [.int .i64 h.frm, .int .i64 h.lo, .int .i64 h.hi, .int .i64 h.hrs]
theorem hoC_len (h : Hole) : (hoC h).length = 4 := rfl
theorem hoC_one (h : Hole) : ∀ u, u ∈ hoC h → u.oneCell' = true := fun u hu => by
  unfold hoC at hu
  simp at hu
  rcases hu with rfl | rfl | rfl | rfl <;> rfl
theorem flat_snoc {α : Type} {f : α → List Value} (l : List α) (x : α) : flat f (l ++ [x]) = flat f l ++ f x := by
  unfold flat
  rw [List.flatMap_append]
  simp
theorem KeepC.grown {D : Nat → Prop} {A W W' : World} {r : Option Nat} (h : KeepC D A W) (hg : W.grownBy W' r) (hr : ∀ g, r = some g → A.heap.size ≤ g) : KeepC D A W' :=
  ⟨Nat.le_trans h.size hg.size, fun k o hd hk ho => by
    have hlt : k < A.heap.size := (Array.getElem?_eq_some_iff.1 hk).1
    rw [hg.block k (Nat.lt_of_lt_of_le hlt h.size) (fun e => by have := hr k e.symm; omega)]
    exact h.block k o hd hk ho⟩
theorem Bx.keepc {D : Nat → Prop} {A W : World} {p : Nat} {u : Value} {cs : List Value} (h : Bx A p (u :: cs)) (hd : ¬ D p) (k : KeepC D A W) : Bx W p (u :: cs) := by
  obtain ⟨o, ho, hk⟩ := cells_of_cell (h.c 0 u rfl)
  have e : W.heap[p]? = A.heap[p]? := (k.block p o hd ho hk).trans ho.symm
  exact ⟨fun j v hv => (World.cell?_of_block e).trans (h.c j v hv), fun o => by rw [← h.f o]; unfold World.frozen?; rw [e], Nat.lt_of_lt_of_le h.lt k.size⟩
theorem ownRow_lenS {w : World} {T sz n : Nat} {V : Value} {xs : List Value} (h : w.ownsRow 0 T sz V n xs) : ∃ a c, V = .slice a n c := by
  rcases h.2 with ⟨rfl, e⟩ | ⟨g, cap, cur, rfl, _⟩
  · exact ⟨none, 0, by rw [e]⟩
  · exact ⟨some ⟨g, 0, none⟩, cap, rfl⟩
theorem ownHoles {w : World} {x : Value} {l : List Hole} (hl : l.length ≤ 1000) (hx : w.ownsRow 0 89 4 x l.length (flat hoC l)) : HolesAt w x l := by
  have hx' := hx
  rcases hx.2 with ⟨rfl, h0⟩ | ⟨g, cap, cur, rfl, _, hg, hnc, _⟩
  · have : l = [] := List.eq_nil_of_length_eq_zero h0
    subst this
    exact ⟨none, 0, 0, 0, rfl, fun q => absurd q (by simp), by simp, fun i hi => absurd hi (by simp)⟩
  · refine ⟨some ⟨g, 0, none⟩, cap, g, 0, rfl, fun _ => rfl, ⟨by omega, hnc⟩, fun i hi => ?_⟩
    have hr := flat_read (f := hoC) (z := 4) default hoC_len (by decide) hx' i hi
    exact ⟨hr 0 _ rfl, hr 1 _ rfl, hr 2 _ rfl, hr 3 _ rfl⟩
theorem src_cells {w : World} {g : Nat} {cs : List Value} (h : ∀ j, w.cell? ⟨g, j, none⟩ = cs.toArray[j]?) : ∀ j u, cs[j]? = some u → w.cell? ((⟨g, 0, none⟩ : Addr).add j) = some u := fun j u hu => by
  rw [add_at, Nat.zero_add, h j]
  simpa using hu
/-- The net as it is made. -/
structure HlSt (m : Int) (hs : List Hole) (l : List Int) (s : Nat) (W0 : World) (k : Nat) (V : Value) (wr : World) : Prop where
  own : wr.ownsRow 0 89 4 V (pickH hs (l.take k)).length (flat hoC (pickH hs (l.take k)))
  far : ∀ g, V.ownBlock = some g → W0.heap.size ≤ g
  keep : KeepC (fun g => g = s) W0 wr
  b8 : Bx wr s [.int .i64 m, V, .slice none 0 0]
theorem HlSt.next {m : Int} {hs : List Hole} {l : List Int} {s k : Nat} {W0 wa w' : World} {V V' : Value} {x : Hole} (ho0 : wa.ownsRow 0 89 4 V (pickH hs (l.take k)).length (flat hoC (pickH hs (l.take k)))) (hf : ∀ g, V.ownBlock = some g → W0.heap.size ≤ g)
    (hk : KeepC (fun g => g = s) W0 wa) (h8 : Bx wa s [.int .i64 m, V, .slice none 0 0]) (hs0 : s < W0.heap.size) (hkl : k < l.length) (hx : x = atH hs (at0 l k).toNat)
    (ho : w'.ownsRow 0 89 4 V' ((pickH hs (l.take k)).length + 1) (flat hoC (pickH hs (l.take k)) ++ hoC x)) (hg : wa.grownBy w' V.ownBlock) (hv : V'.ownBlock = V.ownBlock ∨ V'.ownBlock = some wa.heap.size) :
    HlSt m hs l s W0 (k + 1) V' (w'.setCell ⟨s, 1, none⟩ V') := by
  have hfar : ∀ g, V'.ownBlock = some g → W0.heap.size ≤ g := fun g q => by
    rcases hv with e | e
    · exact hf g (by rw [← e]; exact q)
    · rw [e] at q; injection q with q; have := hk.size; omega
  have o2 : w'.ownsRow 0 89 4 V' (pickH hs (l.take (k + 1))).length (flat hoC (pickH hs (l.take (k + 1)))) := by
    rw [pick_take hkl, flat_snoc, List.length_append, ← hx]
    exact ho
  refine ⟨row_set o2 (fun g q => ?_), hfar, ?_, ?_⟩
  · have := hfar g q
    show g ≠ s
    omega
  · exact (hk.grown hg hf).t (KeepC.set _ _ _ rfl)
  · exact (h8.grown hg (fun e => by have := hf _ e; omega)).set (i := 1) (by simp) V'
theorem holes_any (n : Net) (t : NTr) (hs : List Hole) (m a1 a2 b1 b2 : Int) (ua ca ha : Option Addr) (ul uc cl cc hc : Nat) (hn : NetOk n) (ht : TrOk n t) (hhs : hs.length = n.an.length) (v vt : Value) (w : World) (hv : NetAt w v n) (hvt : NTrAt w vt t) (hh : HolesAt w (.slice ha hs.length hc) hs) (hT : BruAt w) :
    Calls Tryd.prog 20 #[v, vt, .agg #[.int .i64 a1, .int .i64 a2, .slice ua ul uc, .int .i64 b1, .int .i64 b2, .slice ca cl cc, .slice ha hs.length hc, .int .i64 m]] w fun e w' => ∃ (D : Nat) (o : Value), e = .returned (.tuple #[o, .bool true]) ∧ Fin n t D ∧ MNetAt w' o ⟨m, pickH hs (blOf D), []⟩ ∧ Bel w w' := by
  have hal := hn.al
  have HC := Lib.hid (fun wx (hb : Bel w wx) => nCopyT_any t vt wx (hvt.bel hb) (by have := ht.l; have := hn.gl; omega))
  have HD := Lib.hid (fun wx v1 v2 (hb : Bel w wx) (h1 : NetAt wx v1 n) (h2 : NTrAt wx v2 t) => nDragsF_any n t hn ht v1 v2 wx h1 h2 (hT.bel hb))
  have HRS := Lib.hid (fun D (h : Fin n t D) => bl_rising h.1 (drg_lt hn h.1))
  have HIN := Lib.hid (fun D (h : Fin n t D) => show (blOf D).length ≤ 6 ∧ ∀ k, k < (blOf D).length → 0 ≤ at0 (blOf D) k ∧ at0 (blOf D) k < n.an.length from ⟨blTo_len D 6, fun k hk => by
    obtain ⟨i, h1, h2⟩ := (bl_mem (drg_lt hn h.1)).1 (getD_mem (blOf D) k 0 hk)
    have := drg_in h.1 h1
    unfold at0
    omega⟩)
  have HVN := Lib.hid hv
  obtain ⟨ga, gc, aa, ac, xa, xc, rfl, lg, la2, lx⟩ := hv.openL
  obtain ⟨ta, tc, rfl, _⟩ := hvt.open
  have HH := Lib.hid hh
  generalize hAA : n.an.length = A at *
  clear hAA
  generalize n.walls.length = X at *
  generalize n.grips.length = G at *
  generalize t.grips.length = T at *
  have HHS := Lib.hid hhs
  clear hn ht hv hvt hT hh hhs
  go_enter Tryd.func20, Tryd.ntmps20
  go_upto_region 2 with fail
  generalize hW : World.alloc _ _ = W2
  have HB2 : Hid (Bel w W2) := Lib.hid (by rw [← hW]; exact ((((((Bel.refl w).alloc _).alloc _).alloc _).alloc _).alloc _))
  have HP : Hid (Bx W2 w.heap.size [.int .i64 n.wind.lo, .int .i64 n.wind.hi, .int .i64 n.cur.lo, .int .i64 n.cur.hi, .slice ga G gc, .slice aa A ac, .slice xa X xc]) := Lib.hid (by rw [← hW]; exact ((((Bx.new rfl).bel ((Bel.refl _).alloc _)).bel ((Bel.refl _).alloc _)).bel ((Bel.refl _).alloc _)).bel ((Bel.refl _).alloc _))
  have HQ : Hid (Bx W2 (w.heap.size + 1) [.int .i64 t.wind, .int .i64 t.cur, .slice ta T tc]) := Lib.hid (by rw [← hW]; exact (((Bx.new (by simp)).bel ((Bel.refl _).alloc _)).bel ((Bel.refl _).alloc _)).bel ((Bel.refl _).alloc _))
  have HX5 : Hid (Bx W2 (w.heap.size + 1 + 1) [.int .i64 a1, .int .i64 a2, .slice ua ul uc, .int .i64 b1, .int .i64 b2, .slice ca cl cc, .slice ha hs.length hc, .int .i64 m]) := Lib.hid (by rw [← hW]; exact ((Bx.new (by simp)).bel ((Bel.refl _).alloc _)).bel ((Bel.refl _).alloc _))
  have HX6 : Hid (Bx W2 (w.heap.size + 1 + 1 + 1) [.int .i64 0, .slice none 0 0, .slice none 0 0]) := Lib.hid (by rw [← hW]; exact (Bx.new (by simp)).bel ((Bel.refl _).alloc _))
  have HX8 : Hid (Bx W2 (w.heap.size + 1 + 1 + 1 + 1) [.int .i64 m, .slice none 0 0, .slice none 0 0]) := Lib.hid (by rw [← hW]; exact Bx.new (by simp))
  clear hW
  have x0 := HP.out.c 0 _ rfl
  have x1 := HP.out.c 1 _ rfl
  have x2 := HP.out.c 2 _ rfl
  have x3 := HP.out.c 3 _ rfl
  have x4 := HP.out.c 4 _ rfl
  have x5 := HP.out.c 5 _ rfl
  have x6 := HP.out.c 6 _ rfl
  have y0 := HQ.out.c 0 _ rfl
  have y1 := HQ.out.c 1 _ rfl
  have y2 := HQ.out.c 2 _ rfl
  have lp := HP.out.lt
  have lq := HQ.out.lt
  refine wp_region_mixB (Plan.seq [0, 1, 1002, 1003, 4, 5, 6, 7, 8] .nil) (by kernel_rfl) (by kernel_rfl) (fun hcur => ?_)
  simp only [Plan.seq, Plan.fill, List.getD_cons_zero, List.getD_cons_succ, Nat.reduceLT, ↓reduceIte, Nat.reduceSub]
  apply mix_pure _ rfl
  · intro w' hw'
    have hcr := hw'.cells
    go_simp
    rfl
  intro K hK
  go_simp
  refine hK _ ?_
  clear hK K
  apply mix_pure _ rfl
  · intro w' hw'
    have hcr := hw'.cells
    go_simp
    rfl
  intro K hK
  go_simp
  refine hK _ ?_
  clear hK K
  refine mix_act rfl (fun K hK => ?_)
  go_simp
  refine (HC.out _ (HB2.out.trans hcur)).mono ?_
  rintro e wc ⟨vc, rfl, hbc, hnc⟩
  simp only []
  have HCC := Lib.hid (hcur.trans hbc)
  refine hK _ _ (hcur.trans hbc) (fun hcur => ?_)
  clear hK K hbc
  refine mix_act rfl (fun K hK => ?_)
  go_simp
  refine (HD.out _ _ vc (HB2.out.trans hcur) (HVN.out.bel (HB2.out.trans hcur)) hnc).mono ?_
  rintro e W3 ⟨D, l, rfl, hFin, hl, hbd, hfar⟩
  simp only []
  have HF := Lib.hid hFin
  have HLL := Lib.hid hl
  have HFAR := Lib.hid (fun g hg => Nat.le_trans HCC.out.szle (hfar g hg))
  refine hK _ _ (hcur.trans hbd) (fun hcur => ?_)
  clear hK K hFin hl hbd hfar hnc
  apply mix_pure _ rfl
  · intro w' hw'
    have hcr := hw'.cells
    go_simp
    rfl
  intro K hK
  go_simp
  refine hK _ ?_
  clear hK K
  apply mix_pure _ rfl
  · intro w' hw'
    have hcr := hw'.cells
    go_simp
    rfl
  intro K hK
  go_simp
  refine hK _ ?_
  clear hK K
  apply mix_pure _ rfl
  · intro w' hw'
    have hcr := hw'.cells
    go_simp
    rfl
  intro K hK
  go_simp
  refine hK _ ?_
  clear hK K
  apply mix_pure _ rfl
  · intro w' hw'
    have hcr := hw'.cells
    go_simp
    rfl
  intro K hK
  go_simp
  refine hK _ ?_
  clear hK K
  apply mix_pure _ rfl
  · intro w' hw'
    have hcr := hw'.cells
    go_simp
    rfl
  intro K hK
  go_simp
  refine hK _ ?_
  clear hK K
  refine mix_nil ?_
  have HCU := Lib.hid (HB2.out.trans hcur)
  have HP3 := Lib.hid (HP.out.bel hcur)
  have HX53 := Lib.hid (HX5.out.bel hcur)
  have HX63 := Lib.hid (HX6.out.bel hcur)
  have HX83 := Lib.hid (HX8.out.bel hcur)
  have l8 := HX8.out.lt
  clear hcur x0 x1 x2 x3 x4 x5 x6 y0 y1 y2 lp lq HP HX5 HX6 HX8 HQ HC HD HB2
  have x5 := HP3.out.c 5 _ rfl
  have lz := HP3.out.lt
  have hl := HLL.out
  obtain ⟨la, lc, lb, lo, rfl, hla, ⟨hll, _⟩, hlc⟩ := hl
  have hixl := idxInts (c := lc) hla
  have HRI := Lib.hid (Rising_any (.slice la (blOf D).length lc) (blOf D) 0 ((A : Int) - 1) _ HLL.out)
  rw [HRS.out D HF.out] at HRI
  have HLC := Lib.hid hlc
  have HLA := Lib.hid (show 0 < (blOf D).length → w.heap.size + 1 + 1 + 1 + 1 < lb from fun h0 => by
    have e := hla h0
    subst e
    exact Nat.lt_of_lt_of_le l8 (HFAR.out lb rfl))
  clear hla hlc HFAR
  go_wp2_with (first | (go_at_call 25; refine HRI.out.mono ?_; rintro e W4 ⟨rfl, hbz⟩; have HZ := Lib.hid hbz; clear hbz) | fail)
  have HBW4 := Lib.hid (HCU.out.trans HZ.out)
  have H54 := Lib.hid (HX53.out.bel HZ.out)
  have H64 := Lib.hid (HX63.out.bel HZ.out)
  have H84 := Lib.hid (HX83.out.bel HZ.out)
  have hs84 := H84.out.lt
  obtain ⟨hl6, hlin⟩ := HIN.out D HF.out
  have HLIN := Lib.hid hlin
  have HST0 : Hid (HlSt m hs (blOf D) (w.heap.size + 1 + 1 + 1 + 1) W4 0 (.slice none 0 0) W4) := Lib.hid ⟨World.ownsRow_nil _ 0 _ 4, fun g h => by simp [Value.ownBlock] at h, KeepC.r _ _, H84.out⟩
  obtain ⟨i1, hi1, hz1, hs1, hb1⟩ := info_parts mkHole
  have HI1 := Lib.hid hi1
  have HZ1 := Lib.hid hz1
  have hh := HH.out
  obtain ⟨ha', hc', hb, ho, he, hha, ⟨hhl, _⟩, hcc⟩ := hh
  injection he with he1 he2 he3
  subst he1 he3
  have hixh := idxHoles (c := hc) hha
  have HCC := Lib.hid hcc
  clear hlin hi1 hz1 hha hcc HCU HX53 HX63 HX83 HP3 x5 lz HRS HIN HVN HRI lg la2 lx hal
  generalize hLD : blOf D = L at *
  have HLD := Lib.hid hLD
  clear hLD
  go_loopw [11] (fun i wr => ∃ (k : Nat) (V : Value), k ≤ L.length ∧ i = .int .i64 k ∧ Hid (HlSt m hs L (w.heap.size + 1 + 1 + 1 + 1) W4 k V wr) ∧ Hid (Bel w wr)) (fun i _ => L.length - (intOf i).toNat)
  case atStart => exact ⟨0, _, by omega, rfl, HST0, HBW4⟩
  case round =>
    obtain ⟨k, V, hk, rfl, HST, HBE⟩ := hrel
    have z0 := HST.out.b8.c 0 _ rfl
    have z1 := HST.out.b8.c 1 _ rfl
    have z2 := HST.out.b8.c 2 _ rfl
    have lz := HST.out.b8.lt
    obtain ⟨va, vc, hV⟩ := ownRow_lenS HST.out.own
    have HPL := Lib.hid (show (pickH hs (L.take k)).length = k by rw [pick_len, List.length_take]; omega)
    rw [HPL.out] at hV
    subst hV
    by_cases hlt : k < L.length
    · have hlti : (k : Int) < (L.length : Int) := by omega
      obtain ⟨g1, g2⟩ := HLIN.out k hlt
      obtain ⟨j, hj⟩ : ∃ j : Nat, at0 L k = (j : Int) := ⟨(at0 L k).toNat, by omega⟩
      have hjA : j < hs.length := by rw [HHS.out]; omega
      have HLK := Lib.hid (show W4.cell? ⟨lb, lo + k, none⟩ = some (.int .i64 (j : Int)) by rw [← hj]; exact HZ.out.cell (HLC.out k hlt))
      have HLN := Lib.hid (show lb ≠ w.heap.size + 1 + 1 + 1 + 1 by have := HLA.out (by omega); omega)
      have HJ := Lib.hid (show (at0 L k).toNat = j by omega)
      have HHC := Lib.hid (HCC.out j hjA)
      have hbl := cell_lt HHC.out.1
      have HHN := Lib.hid (show hb ≠ w.heap.size + 1 + 1 + 1 + 1 by simp only at hbl; omega)
      have HAT := Lib.hid (show atH hs j = atH hs (at0 L k).toNat by rw [HJ.out])
      clear hj g1 g2 hbl HJ
      generalize hsx : atH hs j = x at *
      clear hsx
      go_wp2_with fail
      have hc0 : KeepC (fun g => g = w.heap.size + 1 + 1 + 1 + 1) W4 wr.drew ∧ Bx wr.drew (w.heap.size + 1 + 1 + 1 + 1) [.int .i64 m, .slice va k vc, .slice none 0 0] := ⟨HST.out.keep.t (KeepC.of_bel (Bel.refl _).drew), HST.out.b8.bel (Bel.refl _).drew⟩
      refine wp_region_mixTC (Plan.seq [0, 1, 2, 3, 4, 5, 6, 7, 8, 9, 1010, 1011, 12] .nil) (fun q => KeepC (fun g => g = w.heap.size + 1 + 1 + 1 + 1) W4 q ∧ Bx q (w.heap.size + 1 + 1 + 1 + 1) [.int .i64 m, .slice va k vc, .slice none 0 0]) (by kernel_rfl) (by kernel_rfl) (hc0) (fun hcur => ?_)
      simp only [Plan.seq, Plan.fill, List.getD_cons_zero, List.getD_cons_succ, Nat.reduceLT, ↓reduceIte, Nat.reduceSub]
      apply mix_pure _ rfl
      · intro w' hw'
        have z1 := hw'.2.c 1 _ rfl
        have q6 := (H54.out.keepc (by omega) hw'.1).c 6 _ rfl
        have kl := hw'.1.cell (p := ⟨lb, lo + k, none⟩) HLN.out HLK.out
        have h0 := hw'.1.cell (p := ⟨hb, ho + j * 4, none⟩) HHN.out (HBW4.out.cell HHC.out.1)
        have h1 := hw'.1.cell (p := ⟨hb, ho + j * 4 + 1, none⟩) HHN.out (HBW4.out.cell HHC.out.2.1)
        have h2 := hw'.1.cell (p := ⟨hb, ho + j * 4 + 2, none⟩) HHN.out (HBW4.out.cell HHC.out.2.2.1)
        have h3 := hw'.1.cell (p := ⟨hb, ho + j * 4 + 3, none⟩) HHN.out (HBW4.out.cell HHC.out.2.2.2)
        go_simp
        rfl
      intro K hK
      go_simp
      refine hK _ ?_
      clear hK K
      apply mix_pure _ rfl
      · intro w' hw'
        have z1 := hw'.2.c 1 _ rfl
        have q6 := (H54.out.keepc (by omega) hw'.1).c 6 _ rfl
        have kl := hw'.1.cell (p := ⟨lb, lo + k, none⟩) HLN.out HLK.out
        have h0 := hw'.1.cell (p := ⟨hb, ho + j * 4, none⟩) HHN.out (HBW4.out.cell HHC.out.1)
        have h1 := hw'.1.cell (p := ⟨hb, ho + j * 4 + 1, none⟩) HHN.out (HBW4.out.cell HHC.out.2.1)
        have h2 := hw'.1.cell (p := ⟨hb, ho + j * 4 + 2, none⟩) HHN.out (HBW4.out.cell HHC.out.2.2.1)
        have h3 := hw'.1.cell (p := ⟨hb, ho + j * 4 + 3, none⟩) HHN.out (HBW4.out.cell HHC.out.2.2.2)
        go_simp
        rfl
      intro K hK
      go_simp
      refine hK _ ?_
      clear hK K
      apply mix_pure _ rfl
      · intro w' hw'
        have z1 := hw'.2.c 1 _ rfl
        have q6 := (H54.out.keepc (by omega) hw'.1).c 6 _ rfl
        have kl := hw'.1.cell (p := ⟨lb, lo + k, none⟩) HLN.out HLK.out
        have h0 := hw'.1.cell (p := ⟨hb, ho + j * 4, none⟩) HHN.out (HBW4.out.cell HHC.out.1)
        have h1 := hw'.1.cell (p := ⟨hb, ho + j * 4 + 1, none⟩) HHN.out (HBW4.out.cell HHC.out.2.1)
        have h2 := hw'.1.cell (p := ⟨hb, ho + j * 4 + 2, none⟩) HHN.out (HBW4.out.cell HHC.out.2.2.1)
        have h3 := hw'.1.cell (p := ⟨hb, ho + j * 4 + 3, none⟩) HHN.out (HBW4.out.cell HHC.out.2.2.2)
        go_simp
        rfl
      intro K hK
      go_simp
      refine hK _ ?_
      clear hK K
      apply mix_pure _ rfl
      · intro w' hw'
        have z1 := hw'.2.c 1 _ rfl
        have q6 := (H54.out.keepc (by omega) hw'.1).c 6 _ rfl
        have kl := hw'.1.cell (p := ⟨lb, lo + k, none⟩) HLN.out HLK.out
        have h0 := hw'.1.cell (p := ⟨hb, ho + j * 4, none⟩) HHN.out (HBW4.out.cell HHC.out.1)
        have h1 := hw'.1.cell (p := ⟨hb, ho + j * 4 + 1, none⟩) HHN.out (HBW4.out.cell HHC.out.2.1)
        have h2 := hw'.1.cell (p := ⟨hb, ho + j * 4 + 2, none⟩) HHN.out (HBW4.out.cell HHC.out.2.2.1)
        have h3 := hw'.1.cell (p := ⟨hb, ho + j * 4 + 3, none⟩) HHN.out (HBW4.out.cell HHC.out.2.2.2)
        go_simp
        rfl
      intro K hK
      go_simp
      refine hK _ ?_
      clear hK K
      apply mix_pure _ rfl
      · intro w' hw'
        have z1 := hw'.2.c 1 _ rfl
        have q6 := (H54.out.keepc (by omega) hw'.1).c 6 _ rfl
        have kl := hw'.1.cell (p := ⟨lb, lo + k, none⟩) HLN.out HLK.out
        have h0 := hw'.1.cell (p := ⟨hb, ho + j * 4, none⟩) HHN.out (HBW4.out.cell HHC.out.1)
        have h1 := hw'.1.cell (p := ⟨hb, ho + j * 4 + 1, none⟩) HHN.out (HBW4.out.cell HHC.out.2.1)
        have h2 := hw'.1.cell (p := ⟨hb, ho + j * 4 + 2, none⟩) HHN.out (HBW4.out.cell HHC.out.2.2.1)
        have h3 := hw'.1.cell (p := ⟨hb, ho + j * 4 + 3, none⟩) HHN.out (HBW4.out.cell HHC.out.2.2.2)
        go_simp
        rfl
      intro K hK
      go_simp
      refine hK _ ?_
      clear hK K
      apply mix_pure _ rfl
      · intro w' hw'
        have z1 := hw'.2.c 1 _ rfl
        have q6 := (H54.out.keepc (by omega) hw'.1).c 6 _ rfl
        have kl := hw'.1.cell (p := ⟨lb, lo + k, none⟩) HLN.out HLK.out
        have h0 := hw'.1.cell (p := ⟨hb, ho + j * 4, none⟩) HHN.out (HBW4.out.cell HHC.out.1)
        have h1 := hw'.1.cell (p := ⟨hb, ho + j * 4 + 1, none⟩) HHN.out (HBW4.out.cell HHC.out.2.1)
        have h2 := hw'.1.cell (p := ⟨hb, ho + j * 4 + 2, none⟩) HHN.out (HBW4.out.cell HHC.out.2.2.1)
        have h3 := hw'.1.cell (p := ⟨hb, ho + j * 4 + 3, none⟩) HHN.out (HBW4.out.cell HHC.out.2.2.2)
        go_simp
        rfl
      intro K hK
      go_simp
      refine hK _ ?_
      clear hK K
      apply mix_pure _ rfl
      · intro w' hw'
        have z1 := hw'.2.c 1 _ rfl
        have q6 := (H54.out.keepc (by omega) hw'.1).c 6 _ rfl
        have kl := hw'.1.cell (p := ⟨lb, lo + k, none⟩) HLN.out HLK.out
        have h0 := hw'.1.cell (p := ⟨hb, ho + j * 4, none⟩) HHN.out (HBW4.out.cell HHC.out.1)
        have h1 := hw'.1.cell (p := ⟨hb, ho + j * 4 + 1, none⟩) HHN.out (HBW4.out.cell HHC.out.2.1)
        have h2 := hw'.1.cell (p := ⟨hb, ho + j * 4 + 2, none⟩) HHN.out (HBW4.out.cell HHC.out.2.2.1)
        have h3 := hw'.1.cell (p := ⟨hb, ho + j * 4 + 3, none⟩) HHN.out (HBW4.out.cell HHC.out.2.2.2)
        go_simp
        rfl
      intro K hK
      go_simp
      refine hK _ ?_
      clear hK K
      apply mix_pure _ rfl
      · intro w' hw'
        have z1 := hw'.2.c 1 _ rfl
        have q6 := (H54.out.keepc (by omega) hw'.1).c 6 _ rfl
        have kl := hw'.1.cell (p := ⟨lb, lo + k, none⟩) HLN.out HLK.out
        have h0 := hw'.1.cell (p := ⟨hb, ho + j * 4, none⟩) HHN.out (HBW4.out.cell HHC.out.1)
        have h1 := hw'.1.cell (p := ⟨hb, ho + j * 4 + 1, none⟩) HHN.out (HBW4.out.cell HHC.out.2.1)
        have h2 := hw'.1.cell (p := ⟨hb, ho + j * 4 + 2, none⟩) HHN.out (HBW4.out.cell HHC.out.2.2.1)
        have h3 := hw'.1.cell (p := ⟨hb, ho + j * 4 + 3, none⟩) HHN.out (HBW4.out.cell HHC.out.2.2.2)
        go_simp
        rfl
      intro K hK
      go_simp
      refine hK _ ?_
      clear hK K
      apply mix_pure _ rfl
      · intro w' hw'
        have z1 := hw'.2.c 1 _ rfl
        have q6 := (H54.out.keepc (by omega) hw'.1).c 6 _ rfl
        have kl := hw'.1.cell (p := ⟨lb, lo + k, none⟩) HLN.out HLK.out
        have h0 := hw'.1.cell (p := ⟨hb, ho + j * 4, none⟩) HHN.out (HBW4.out.cell HHC.out.1)
        have h1 := hw'.1.cell (p := ⟨hb, ho + j * 4 + 1, none⟩) HHN.out (HBW4.out.cell HHC.out.2.1)
        have h2 := hw'.1.cell (p := ⟨hb, ho + j * 4 + 2, none⟩) HHN.out (HBW4.out.cell HHC.out.2.2.1)
        have h3 := hw'.1.cell (p := ⟨hb, ho + j * 4 + 3, none⟩) HHN.out (HBW4.out.cell HHC.out.2.2.2)
        go_simp
        rfl
      intro K hK
      go_simp
      refine hK _ ?_
      clear hK K
      apply mix_pure _ rfl
      · intro w' hw'
        have z1 := hw'.2.c 1 _ rfl
        have q6 := (H54.out.keepc (by omega) hw'.1).c 6 _ rfl
        have kl := hw'.1.cell (p := ⟨lb, lo + k, none⟩) HLN.out HLK.out
        have h0 := hw'.1.cell (p := ⟨hb, ho + j * 4, none⟩) HHN.out (HBW4.out.cell HHC.out.1)
        have h1 := hw'.1.cell (p := ⟨hb, ho + j * 4 + 1, none⟩) HHN.out (HBW4.out.cell HHC.out.2.1)
        have h2 := hw'.1.cell (p := ⟨hb, ho + j * 4 + 2, none⟩) HHN.out (HBW4.out.cell HHC.out.2.2.1)
        have h3 := hw'.1.cell (p := ⟨hb, ho + j * 4 + 3, none⟩) HHN.out (HBW4.out.cell HHC.out.2.2.2)
        go_simp
        rfl
      intro K hK
      go_simp
      refine hK _ ?_
      clear hK K
      refine mix_act rfl (fun K hK => ?_)
      go_simp
      generalize hWA : World.drew (World.alloc _ _) = WA
      have hna := new_at hWA
      have HNX := Lib.hid (row_facts hna.2.1)
      have HNB := Lib.hid hna.1
      refine hK _ _ ⟨HST.out.keep.t (KeepC.of_bel hna.1), HST.out.b8.bel hna.1⟩ (fun hcur => ?_)
      clear hK K hWA hna
      refine mix_act rfl (fun K hK => ?_)
      refine wp_append_opt _ _ 56 rfl 89 i1 (.agg #[.int .i64 0, .int .i64 0, .int .i64 0, .int .i64 0]) 4 32 Tryd.underlying56 HI1.out HZ1.out hs1 hb1 rfl (by decide) _ k (flat hoC (pickH hs (L.take k))) rfl (by have := ownsRow_bel HST.out.own HNB.out; rw [HPL.out] at this; exact this) (some ⟨wr.heap.size, 0, none⟩) 1 1 (hoC x) rfl rfl (fun _ => ⟨_, rfl, src_cells HNX.out.1⟩) (hoC_one x) (by unfold maxLen; omega) (by omega) ?_
      intro V' w7 hown hgrow hwhere
      obtain ⟨va', vc', hV'⟩ := ownRow_lenS hown
      subst hV'
      have HNS := Lib.hid (HlSt.next (l := L) (by have := ownsRow_bel HST.out.own HNB.out; exact this) HST.out.far hcur.1 hcur.2 hs84 hlt HAT.out (by rw [HPL.out]; exact hown) hgrow hwhere)
      have h82 := hcur.2.grown hgrow (fun e => by have := HST.out.far _ e; omega)
      have HB7 := Lib.hid (((HBE.out.trans HNB.out).grown hgrow (fun g e => by have := HST.out.far g e; have := HBW4.out.szle; omega)).setCell (p := ⟨w.heap.size + 1 + 1 + 1 + 1, 1, none⟩) (by show w.heap.size ≤ w.heap.size + 1 + 1 + 1 + 1; omega) (.slice va' (k + 1) vc'))
      refine hK _ _ ⟨hcur.1.grown hgrow (fun g e => HST.out.far g e), h82⟩ (fun hcur => ?_)
      clear hK K hown hgrow hwhere h82
      apply mix_pure _ rfl
      · intro w' hw'
        have z1 := hw'.2.c 1 _ rfl
        have q6 := (H54.out.keepc (by omega) hw'.1).c 6 _ rfl
        have kl := hw'.1.cell (p := ⟨lb, lo + k, none⟩) HLN.out HLK.out
        have h0 := hw'.1.cell (p := ⟨hb, ho + j * 4, none⟩) HHN.out (HBW4.out.cell HHC.out.1)
        have h1 := hw'.1.cell (p := ⟨hb, ho + j * 4 + 1, none⟩) HHN.out (HBW4.out.cell HHC.out.2.1)
        have h2 := hw'.1.cell (p := ⟨hb, ho + j * 4 + 2, none⟩) HHN.out (HBW4.out.cell HHC.out.2.2.1)
        have h3 := hw'.1.cell (p := ⟨hb, ho + j * 4 + 3, none⟩) HHN.out (HBW4.out.cell HHC.out.2.2.2)
        go_simp
        rfl
      intro K hK
      go_simp
      refine hK _ ?_
      clear hK K
      refine mix_tailK rfl (fun K hK => ?_)
      have z0 := hcur.2.c 0 _ rfl
      have z1 := hcur.2.c 1 _ rfl
      have zf := hcur.2.f
      have zl := hcur.2.lt
      go_simp
      refine hK _ _ ?_
      clear hK K z0 z1 zf zl
      clear hcur hc0
      go_wp2
      go_roundw
      case rel => exact ⟨k + 1, _, by omega, by go_num, HNS, HB7⟩
      case measure => simp [intOf]; omega
    · have hlti : ¬ (k : Int) < (L.length : Int) := by omega
      obtain rfl : k = L.length := by omega
      have HX6 := Lib.hid (H64.out.keepc (by omega) HST.out.keep)
      have f0 := HX6.out.c 0 _ rfl
      have f1 := HX6.out.c 1 _ rfl
      have f2 := HX6.out.c 2 _ rfl
      have ff := HX6.out.f
      have fl := HX6.out.lt
      have HNE : Hid (∀ g, (Value.slice va L.length vc).ownBlock = some g → g ≠ w.heap.size + 1 + 1 + 1) := Lib.hid (fun g hg => by have := HST.out.far g hg; omega)
      clear HLIN
      go_wp2
      refine bodyPost_ret (v := .tuple #[.agg #[.int .i64 m, .slice va L.length vc, .slice none 0 0], .bool true]) (by simp [results, Tryd.results20, go_sem, *]) rfl ?_
      have key : ∀ W9, Bel w W9 → W9.ownsRow 0 89 4 (.slice va L.length vc) (pickH hs L).length (flat hoC (pickH hs L)) →
          ∃ (D : Nat) (o : Value), Ending.returned (.tuple #[.agg #[.int .i64 m, .slice va L.length vc, .slice none 0 0], .bool true]) = .returned (.tuple #[o, .bool true]) ∧ Fin n t D ∧ MNetAt W9 o ⟨m, pickH hs (blOf D), []⟩ ∧ Bel w W9 := fun W9 hb ho =>
        ⟨D, _, rfl, HF.out, ⟨_, _, rfl, by rw [HLD.out]; exact ownHoles (by rw [pick_len]; omega) ho, ⟨none, 0, 0, 0, rfl, fun q => absurd q (by simp), by simp, fun i hi => absurd hi (by simp)⟩⟩, hb⟩
      refine key _ ?_ ?_
      · repeat (refine Bel.setCell ?_ (by show w.heap.size ≤ w.heap.size + 1 + 1 + 1; omega) _)
        exact HBE.out
      · repeat (refine row_set ?_ (fun g hg => HNE.out g hg))
        have := HST.out.own
        rw [List.take_length] at this
        exact this
end Go.Proofs.YtkdcdhkhadhcfaaDoor
