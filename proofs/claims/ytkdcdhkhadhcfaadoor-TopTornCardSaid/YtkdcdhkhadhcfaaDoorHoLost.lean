/-
  mesh: what an order loses, and when all holes are mended by it.
-/
import Derived.Test.YtkdcdhkhadhcfaaDoorHoTimes
namespace Go.Proofs.YtkdcdhkhadhcfaaDoor
open Go Go.RowKit
set_option maxHeartbeats 8000000
set_option maxRecDepth 100000
def RatesIn (n : MNet) : Prop := ∀ i, i < n.holes.length → 0 ≤ (atH n.holes i).lo ∧ (atH n.holes i).lo ≤ 20 ∧ 0 ≤ (atH n.holes i).hi ∧ (atH n.holes i).hi ≤ 20
theorem mul_in {a b A B : Int} (ha : 0 ≤ a ∧ a ≤ A) (hb : -B ≤ b ∧ b ≤ B) : -(A * B) ≤ a * b ∧ a * b ≤ A * B := by
  have h1 := Int.mul_le_mul_of_nonneg_left hb.2 ha.1
  have h2 := Int.mul_le_mul_of_nonneg_left hb.1 ha.1
  have h3 : a * B ≤ A * B := Int.mul_le_mul_of_nonneg_right ha.2 (by omega)
  rw [Int.mul_neg] at h2
  omega
theorem lostTo_in {n : MNet} {r : Hole → Int} {out : List Int} (hr : ∀ i, i < n.holes.length → 0 ≤ r (atH n.holes i) ∧ r (atH n.holes i) ≤ 20) (hh : HolesIn n) (ho : ∀ x, x ∈ out → 0 ≤ x ∧ x ≤ 9020) :
    ∀ k, k ≤ n.holes.length → -(180400 * (k : Int)) ≤ lostTo r n.holes out k ∧ lostTo r n.holes out k ≤ 180400 * (k : Int)
  | 0, _ => by simp [lostTo]
  | k + 1, hk => by
    have ih := lostTo_in hr hh ho k (by omega)
    have h1 := hr k (by omega)
    have h2 := hh k (by omega)
    have h3 := at0_in ho (by omega) k
    have h4 := mul_in (B := 9020) h1 (show -9020 ≤ at0 out k - (atH n.holes k).frm ∧ at0 out k - (atH n.holes k).frm ≤ 9020 by omega)
    have e : lostTo r n.holes out (k + 1) = lostTo r n.holes out k + r (atH n.holes k) * (at0 out k - (atH n.holes k).frm) := rfl
    rw [e]
    omega
theorem timesV_in {n : MNet} {o : List Int} (hh : HolesIn n) (ho : OrdIn n o) (hl : o.length ≤ 1000) : (∀ x, x ∈ timesV n o → 0 ≤ x ∧ x ≤ 9020) ∧ (timesV n o).length = n.holes.length := by
  have h := (stFr_small hh ho o.length (Nat.le_refl _)).2
  refine ⟨fun x hx => ?_, (stFr_len n o o.length).2⟩
  have := h x hx
  omega
structure LsAt (w : World) (hv : Value) (a b : Int) (wx : World) : Prop where
  bel : Bel w wx
  p1 : wx.cell? ⟨w.heap.size, 1, none⟩ = some hv
  s0 : wx.cell? ⟨w.heap.size + 1, 0, none⟩ = some (.int .i64 a)
  s1 : wx.cell? ⟨w.heap.size + 1, 1, none⟩ = some (.int .i64 b)
  f0 : wx.frozen? ⟨w.heap.size + 1, 0, none⟩ = false
  f1 : wx.frozen? ⟨w.heap.size + 1, 1, none⟩ = false
theorem LsAt.go {w : World} {hv : Value} {a b : Int} {wx wy : World} (h : LsAt w hv a b wx) (k : Bel wx wy) : LsAt w hv a b wy :=
  ⟨h.bel.trans k, k.cell h.p1, k.cell h.s0, k.cell h.s1, (k.frozens _ (cell_lt h.s0)).trans h.f0, (k.frozens _ (cell_lt h.s1)).trans h.f1⟩
theorem LsAt.put {w : World} {hv : Value} {a b : Int} {wx : World} (h : LsAt w hv a b wx) (c d : Int) : LsAt w hv c d ((wx.setCell ⟨w.heap.size + 1, 0, none⟩ (.int .i64 c)).setCell ⟨w.heap.size + 1, 1, none⟩ (.int .i64 d)) := by
  refine ⟨(h.bel.setCell (p := ⟨w.heap.size + 1, 0, none⟩) (by show _ ≤ w.heap.size + 1; omega) _).setCell (p := ⟨w.heap.size + 1, 1, none⟩) (by show _ ≤ w.heap.size + 1; omega) _, ?_, ?_, ?_, by rw [World.frozen?_setCell, World.frozen?_setCell]; exact h.f0, by rw [World.frozen?_setCell, World.frozen?_setCell]; exact h.f1⟩
  · rw [World.cell?_setCell_other _ _ _ _ (by intro q; injection q with q; omega), World.cell?_setCell_other _ _ _ _ (by intro q; injection q with q; omega)]; exact h.p1
  · rw [World.cell?_setCell_other _ _ _ _ (by intro q; injection q with q1 q2; omega)]; exact World.cell?_setCell_same _ _ _ (by rw [h.s0])
  · exact World.cell?_setCell_same _ _ _ (by rw [World.cell?_setCell_other _ _ _ _ (by intro q; injection q with q1 q2; omega), h.s1])
theorem lost_any (n : MNet) (o : List Int) (v ov : Value) (w : World) (hv : MNetAt w v n) (ho : IntsAt w ov o) (hm : 1 ≤ n.men ∧ n.men ≤ 3) (h6 : n.holes.length ≤ 1000) (hin : HolesIn n) (hra : RatesIn n) (hord : OrdIn n o) (hol : o.length ≤ 1000)
    (hps : ∀ i, i < n.prs.length → 0 ≤ (atP n.prs i).a ∧ (atP n.prs i).a < n.holes.length) :
    Calls Tryd.prog 94 #[v, ov] w fun e w' => e = .returned (.agg #[.int .i64 (lowV n o), .int .i64 (highV n o)]) ∧ Bel w w' := by
  have HT := Lib.hid (fun wx (hx : Bel w wx) => times_any n o v ov wx (hv.bel hx) (ho.bel hx) hm h6 hin hord hol hps)
  obtain ⟨ha, hc, pa, pc, rfl, hh, hp, hG, hQ⟩ := hv.open
  obtain ⟨tin, tlen⟩ := timesV_in hin hord hol
  have HLO := Lib.hid (lostTo_in (r := Hole.lo) (out := timesV n o) (fun i hi => ⟨(hra i hi).1, (hra i hi).2.1⟩) hin tin)
  have HHI := Lib.hid (lostTo_in (r := Hole.hi) (out := timesV n o) (fun i hi => ⟨(hra i hi).2.2.1, (hra i hi).2.2.2⟩) hin tin)
  have HTI := Lib.hid (at0_in tin (by omega))
  have HIN := Lib.hid hin
  have HRA := Lib.hid hra
  have HLV := Lib.hid (show lowV n o = lostTo Hole.lo n.holes (timesV n o) n.holes.length from rfl)
  have HHV := Lib.hid (show highV n o = lostTo Hole.hi n.holes (timesV n o) n.holes.length from rfl)
  have HTL := Lib.hid tlen
  have HH := Lib.hid hh
  obtain ⟨oa, oc, ob', oo, rfl, _, _, _⟩ := ho
  clear hv hp hh hm hin hra hord hol hps tin tlen
  generalize hTV : timesV n o = T at *
  clear hTV
  generalize hGG : n.holes.length = G at *
  have HGG := Lib.hid hGG
  clear hGG
  generalize n.prs.length = X at *
  generalize n.men = men at *
  generalize o.length = N at *
  go_enter Tryd.func94, Tryd.ntmps94
  go_wp2_with fail
  refine (HT.out _ (by repeat (first | assumption | exact Bel.refl _ | refine Bel.drew ?_ | refine Bel.drewN ?_ _ | refine Bel.alloc ?_ _ | refine Bel.setCell ?_ (by simp <;> omega) _ | refine Bel.trans ?_ (by assumption)))).mono ?_
  rintro e w1 ⟨v', rfl, hti, hb1, hfar⟩
  have hbw : Bel w w1 := Bel.trans (by repeat (first | assumption | exact Bel.refl _ | refine Bel.drew ?_ | refine Bel.drewN ?_ _ | refine Bel.alloc ?_ _ | refine Bel.setCell ?_ (by simp <;> omega) _ | refine Bel.trans ?_ (by assumption))) hb1
  have hls : LsAt w (.slice ha G hc) 0 0 w1 := by
    have r0 : ((w.alloc (.cells #[.int .i64 men, .slice ha G hc, .slice pa X pc] 121)).alloc (.cells #[.int .i64 0, .int .i64 0] 27)).heap[w.heap.size]? = some (.cells #[.int .i64 men, .slice ha G hc, .slice pa X pc] 121 (0, 0)) := (old_row (by simp)).trans (new_row rfl)
    have r1 : ((w.alloc (.cells #[.int .i64 men, .slice ha G hc, .slice pa X pc] 121)).alloc (.cells #[.int .i64 0, .int .i64 0] 27)).heap[w.heap.size + 1]? = some (.cells #[.int .i64 0, .int .i64 0] 27 (0, 0)) := new_row (by simp)
    exact ⟨hbw, hb1.cell ((row_facts r0).1 1), hb1.cell ((row_facts r1).1 0), hb1.cell ((row_facts r1).1 1), (hb1.frozens ⟨w.heap.size + 1, 0, none⟩ (by simp)).trans ((row_facts r1).2 0), (hb1.frozens ⟨w.heap.size + 1, 1, none⟩ (by simp)).trans ((row_facts r1).2 1)⟩
  have HLS := Lib.hid hls
  obtain ⟨ta, tc, tb, tof, rfl, hta, _, htc⟩ := hti
  rw [HTL.out] at hta htc ⊢
  have hixt := idxInts (c := tc) hta
  have HTC := Lib.hid (fun i (hi : i < G) => And.intro (htc i hi) (show tb ≠ w.heap.size + 1 by
    have h1 := hta (by omega)
    have h2 := hfar _ _ _ (by rw [h1])
    simp only [World.size_alloc] at h2
    omega))
  clear hfar
  obtain ⟨ha', hc', hb, hof, e, hha, _, hcell⟩ := HH.out
  simp only [Value.slice.injEq] at e
  obtain ⟨rfl, hee, rfl⟩ := e
  clear hee
  rw [HGG.out] at hha hcell
  have hixh := idxHoles (c := hc) hha
  have HCELL := Lib.hid hcell
  clear hta htc hha hcell hls hb1 hbw HT
  go_wp2
  go_loopw [12] (fun i wr => ∃ k : Nat, k ≤ G ∧ i = .int .i64 k ∧ Bel w1 w1 ∧ Hid (LsAt w (.slice ha G hc) (lostTo Hole.lo n.holes T k) (lostTo Hole.hi n.holes T k) wr) ∧ Hid (∀ (p : Addr) (v : Value), p.block ≠ w.heap.size + 1 → w1.cell? p = some v → wr.cell? p = some v)) (fun i _ => G - (intOf i).toNat)
  case atStart => exact ⟨0, by omega, rfl, Bel.refl _, HLS, Lib.hid (fun _ _ _ h => h)⟩
  case round =>
    obtain ⟨k, hk, rfl, _, HLr, HKr⟩ := hrel
    by_cases hlt : k < G
    · have hlti : (k : Int) < (G : Int) := by omega
      have p1 := HLr.out.p1
      have s0 := HLr.out.s0
      have s1 := HLr.out.s1
      have f0 := HLr.out.f0
      have f1 := HLr.out.f1
      obtain ⟨t0, htb⟩ := HTC.out k hlt
      replace t0 := HKr.out ⟨tb, tof + k, none⟩ _ htb t0
      obtain ⟨c0, c1, c2, c3⟩ := HCELL.out k hlt
      replace c0 := HLr.out.bel.cell c0
      replace c1 := HLr.out.bel.cell c1
      replace c2 := HLr.out.bel.cell c2
      replace c3 := HLr.out.bel.cell c3
      have hin := HIN.out k (by rw [HGG.out]; exact hlt)
      have hra := HRA.out k (by rw [HGG.out]; exact hlt)
      have hlo := HLO.out k hk
      have hhi := HHI.out k hk
      have hlo1 := HLO.out (k + 1) hlt
      have hhi1 := HHI.out (k + 1) hlt
      have htk := HTI.out k
      have e1 : lostTo Hole.lo n.holes T (k + 1) = lostTo Hole.lo n.holes T k + (atH n.holes k).lo * (at0 T k - (atH n.holes k).frm) := rfl
      have e2 : lostTo Hole.hi n.holes T (k + 1) = lostTo Hole.hi n.holes T k + (atH n.holes k).hi * (at0 T k - (atH n.holes k).frm) := rfl
      have hm1 := mul_in (B := 9020) ⟨hra.1, hra.2.1⟩ (show -9020 ≤ at0 T k - (atH n.holes k).frm ∧ at0 T k - (atH n.holes k).frm ≤ 9020 by omega)
      have hm2 := mul_in (B := 9020) ⟨hra.2.2.1, hra.2.2.2⟩ (show -9020 ≤ at0 T k - (atH n.holes k).frm ∧ at0 T k - (atH n.holes k).frm ≤ 9020 by omega)
      have HE1 := Lib.hid e1
      have HE2 := Lib.hid e2
      clear e1 e2 hra hlo1 hhi1
      generalize lostTo Hole.lo n.holes T k = L0 at *
      generalize lostTo Hole.hi n.holes T k = H0 at *
      generalize at0 T k = A at *
      generalize (atH n.holes k).frm = f at *
      generalize (atH n.holes k).lo = lo at *
      generalize (atH n.holes k).hi = hi at *
      generalize (atH n.holes k).hrs = hrs at *
      have w1' : IntKind.i64.wrap (lo * (A - f)) = lo * (A - f) := IntWalk.i64_in _ (by omega)
      have w2' : IntKind.i64.wrap (hi * (A - f)) = hi * (A - f) := IntWalk.i64_in _ (by omega)
      have w3' : IntKind.i64.wrap (A - f) = A - f := IntWalk.i64_in _ (by omega)
      have l0 := cell_lt s0
      have lt0 := cell_lt t0
      have lp := cell_lt p1
      have lc := cell_lt c0
      clear htb
      go_wp2
      refine ⟨⟨k + 1, by omega, by go_num, Bel.refl _, Lib.hid ?_, Lib.hid ?_⟩, by simp [intOf]; omega⟩
      · rw [HE1.out, HE2.out]
        exact (HLr.out.put _ _).go ((Bel.refl _).alloc _)
      · intro p v hp hv
        refine Bel.cell ((Bel.refl _).alloc _) ?_
        rw [World.cell?_setCell_other _ _ _ _ (by intro q; exact hp (by rw [← q])), World.cell?_setCell_other _ _ _ _ (by intro q; exact hp (by rw [← q]))]
        exact HKr.out p v hp hv
    · obtain rfl : G = k := by omega
      have s0 := HLr.out.s0
      have s1 := HLr.out.s1
      have f0 := HLr.out.f0
      have f1 := HLr.out.f1
      have l0 := cell_lt s0
      clear hixt hixh
      have HPT := Lib.hid (HLr.out.put (lostTo Hole.lo n.holes T G) (lostTo Hole.hi n.holes T G))
      go_wp2
      have n0 := HPT.out.s0
      have n1 := HPT.out.s1
      rw [HLV.out, HHV.out]
      exact bodyPost_ret (v := .agg #[.int .i64 (lostTo Hole.lo n.holes T G), .int .i64 (lostTo Hole.hi n.holes T G)]) (by simp [results, Tryd.results94, go_sem, n0, n1]) rfl ⟨rfl, HPT.out.bel⟩
end Go.Proofs.YtkdcdhkhadhcfaaDoor
