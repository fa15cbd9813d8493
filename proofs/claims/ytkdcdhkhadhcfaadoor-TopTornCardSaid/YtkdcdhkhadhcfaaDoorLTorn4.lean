/-
  the top law: TopTorn: the nets of holes.
-/
import Derived.Test.YtkdcdhkhadhcfaaDoorTornH
import Derived.Test.YtkdcdhkhadhcfaaDoorNLaw2
namespace Go.Proofs.YtkdcdhkhadhcfaaDoor
open Go Go.RowKit
set_option maxHeartbeats 8000000
set_option maxRecDepth 100000
/-- What the law asks of the two nets of holes. -/
theorem torn_law {n : Net} {u c : NTr} {hs : List Hole} {m : Int} (hn : NetOk n) (hu : TrOk n u) (hc : TrOk n c) (hk : Calm u c) (hr : r4Ok m hs) (hl : hs.length = n.an.length) {D E : Nat} (hD : Fin n u D) (hE : Fin n c E) :
    MOk ⟨m, pickH hs (blOf D), []⟩ ∧ MOk ⟨m, pickH hs (blOf E), []⟩ ∧ ∀ (o p u1 v1 : List Int) (x y s t : Int), bestV (highV ⟨m, pickH hs (blOf D), []⟩) (ords ⟨m, pickH hs (blOf D), []⟩ (pickH hs (blOf D)).length []) = some (o, x) → bestV (highV ⟨m, pickH hs (blOf E), []⟩) (ords ⟨m, pickH hs (blOf E), []⟩ (pickH hs (blOf E)).length []) = some (p, y) →
      bestV (lastV ⟨m, pickH hs (blOf D), []⟩) (ords ⟨m, pickH hs (blOf D), []⟩ (pickH hs (blOf D)).length []) = some (u1, s) → bestV (lastV ⟨m, pickH hs (blOf E), []⟩) (ords ⟨m, pickH hs (blOf E), []⟩ (pickH hs (blOf E)).length []) = some (v1, t) →
      (0 ≤ y ∧ y ≤ x ∧ 0 ≤ t ∧ t ≤ s) ∧ ((pickH hs (blOf D)).length = 0 → x = 0 ∧ s = 0) := by
  have hin : ∀ {t : NTr} {D : Nat}, Fin n t D → ∀ k, k < (blOf D).length → 0 ≤ at0 (blOf D) k ∧ at0 (blOf D) k < hs.length := fun h k hk => by
    obtain ⟨i, h1, h2⟩ := (bl_mem (drg_lt hn h.1)).1 (getD_mem (blOf _) k 0 hk)
    have := drg_in h.1 h1
    unfold at0
    omega
  refine ⟨pick_ok ⟨hr.1, hr.2.1⟩ hr.2.2.2 (blTo_len _ 6) (hin hD), pick_ok ⟨hr.1, hr.2.1⟩ hr.2.2.2 (blTo_len _ 6) (hin hE), fun o p u1 v1 x y s t h1 h2 h3 h4 => ⟨?_, fun h0 => ?_⟩⟩
  · have hsub := calm_fin hn hu hc hk hE hD
    obtain ⟨_, x', _, y', _, s', _, t', e1, e2, q1, q2, e3, e4, q3, q4⟩ := pick_mono (m := m) hr.1 hr.2.2.2 (bl_sub hsub 6) (hin hD)
    have f1 := e1.symm.trans h2
    have f2 := e2.symm.trans h1
    have f3 := e3.symm.trans h4
    have f4 := e4.symm.trans h3
    injection f1 with f1; injection f1 with _ f1
    injection f2 with f2; injection f2 with _ f2
    injection f3 with f3; injection f3 with _ f3
    injection f4 with f4; injection f4 with _ f4
    omega
  · have e : pickH hs (blOf D) = [] := List.length_eq_zero_iff.1 h0
    rw [e] at h1 h3
    obtain ⟨⟨_, z1⟩, ⟨_, z2⟩⟩ := none_zero m
    have f1 := z1.symm.trans h1
    have f2 := z2.symm.trans h3
    injection f1 with f1; injection f1 with _ f1
    injection f2 with f2; injection f2 with _ f2
    omega
theorem run_min_int4 {P : Program} (w : World) (ts : Array TypeId) (t : TypeId) (k k1 k2 k3 : IntKind) (x y z u : Int) : (Builtin.min_ ts t #[.int k x, .int k1 y, .int k2 z, .int k3 u]).run P w = .ok (.int k (min (min (min x y) z) u)) w := by
  have e : ∀ a b : Int, (if b < a then b else a) = min a b := by intro a b; split <;> omega
  simp [Builtin.min_, Builtin.min2, e]
attribute [local go_sem high] run_min_int4
theorem torn_main (n : Net) (u c : NTr) (hs : List Hole) (m : Int) (vn vu vc vh : Value) (w : World) (hn : NetAt w vn n) (hug : IntsAt w vu u.grips) (hcg : IntsAt w vc c.grips) (hh : HolesAt w vh hs) (hT : BruAt w) (h0 : hugeN n u = false) (h1 : hugeN n c = false) (h3 : netB n = true) (h4 : ntrB n u = true) (h5 : ntrB n c = true) (q1 : ¬ u.wind < c.wind) (q2 : ¬ u.cur < c.cur) (q3 : hs.length = n.an.length) :
    Calls Tryd.prog 4 #[vn, .agg #[.int .i64 u.wind, .int .i64 u.cur, vu, .int .i64 c.wind, .int .i64 c.cur, vc, vh, .int .i64 m]] w fun e w' => e = .returned (.bool true) ∧ Bel w w' := by
  have hu0 : NTrAt w (.agg #[.int .i64 u.wind, .int .i64 u.cur, vu]) u := ⟨vu, rfl, hug⟩
  have hc0 : NTrAt w (.agg #[.int .i64 c.wind, .int .i64 c.cur, vc]) c := ⟨vc, rfl, hcg⟩
  have HN := Lib.hid hn
  have HU := Lib.hid hu0
  have HC := Lib.hid hc0
  have HH := Lib.hid hh
  have HT := Lib.hid hT
  have HHU := Lib.hid (fun wx (hb : Bel w wx) => nHuge_any n u vn _ wx (hn.bel hb) (hu0.bel hb))
  have HHC := Lib.hid (fun wx (hb : Bel w wx) => nHuge_any n c vn _ wx (hn.bel hb) (hc0.bel hb))
  have HC2 := Lib.hid (fun wx (hb : Bel w wx) => R2Check_any n vn wx (hn.bel hb))
  have HIU := Lib.hid (fun wx (hb : Bel w wx) => R2IsTruth_any n u vn _ wx (hn.bel hb) (hu0.bel hb))
  have HIC := Lib.hid (fun wx (hb : Bel w wx) => R2IsTruth_any n c vn _ wx (hn.bel hb) (hc0.bel hb))
  have HR4 := Lib.hid (fun wx (hb : Bel w wx) => R4Check_any m hs vh wx (hh.bel hb))
  have HHE := Lib.hid (fun wx (hb : Bel w wx) => torn_any wx)
  obtain ⟨na, nc, aa, ac, xa, xc, rfl, _, _, _⟩ := hn.openL
  obtain ⟨ua, uc, ub, uo, rfl, hua, ⟨hul, _⟩, huc⟩ := hug
  obtain ⟨ca, cc, cb, co, rfl, hca, ⟨hcl, _⟩, hcc⟩ := hcg
  have HHX := Lib.hid hh
  obtain ⟨ha, hcp, hb', ho, rfl, _, ⟨hhl, _⟩, _⟩ := hh
  have hixu := idxInts (c := uc) hua
  have hixc := idxInts (c := cc) hca
  have HUC := Lib.hid huc
  have HCG := Lib.hid hcc
  clear hn hu0 hc0 hT hua huc hca hcc
  have HQ3 := Lib.hid q3
  clear q3
  go_enter Tryd.func4, Tryd.ntmps4
  go_wp2_with fail
  generalize hW : World.alloc _ _ = w0
  have HB : Hid (Bel w w0) := Lib.hid (by rw [← hW]; exact ((Bel.refl w).alloc _).alloc _)
  have HX1 : Hid (Bx w0 w.heap.size [.int .i64 n.wind.lo, .int .i64 n.wind.hi, .int .i64 n.cur.lo, .int .i64 n.cur.hi, .slice na n.grips.length nc, .slice aa n.an.length ac, .slice xa n.walls.length xc]) := Lib.hid (by rw [← hW]; exact (Bx.new rfl).bel ((Bel.refl _).alloc _))
  have HX2 : Hid (Bx w0 (w.heap.size + 1) [.int .i64 u.wind, .int .i64 u.cur, .slice ua u.grips.length uc, .int .i64 c.wind, .int .i64 c.cur, .slice ca c.grips.length cc, .slice ha hs.length hcp, .int .i64 m]) := Lib.hid (by rw [← hW]; exact Bx.new (by simp))
  clear hW
  refine (HHU.out _ HB.out).mono ?_
  rintro e w1 ⟨rfl, hb⟩
  replace HX1 := Lib.hid (HX1.out.bel hb)
  replace HX2 := Lib.hid (HX2.out.bel hb)
  replace HB := Lib.hid (HB.out.trans hb)
  clear hb
  rw [h0]
  have y0 := HX1.out.c 0 _ rfl
  have y1 := HX1.out.c 1 _ rfl
  have y2 := HX1.out.c 2 _ rfl
  have y3 := HX1.out.c 3 _ rfl
  have y4 := HX1.out.c 4 _ rfl
  have y5 := HX1.out.c 5 _ rfl
  have y6 := HX1.out.c 6 _ rfl
  have ly := HX1.out.lt
  have z0 := HX2.out.c 0 _ rfl
  have z1 := HX2.out.c 1 _ rfl
  have z2 := HX2.out.c 2 _ rfl
  have z3 := HX2.out.c 3 _ rfl
  have z4 := HX2.out.c 4 _ rfl
  have z5 := HX2.out.c 5 _ rfl
  have z6 := HX2.out.c 6 _ rfl
  have z7 := HX2.out.c 7 _ rfl
  have lz := HX2.out.lt
  go_wp2_with fail
  refine (HHC.out _ HB.out).mono ?_
  rintro e w2 ⟨rfl, hb⟩
  replace HX1 := Lib.hid (HX1.out.bel hb)
  replace HX2 := Lib.hid (HX2.out.bel hb)
  replace HB := Lib.hid (HB.out.trans hb)
  clear hb
  clear y0 y1 y2 y3 y4 y5 y6 ly z0 z1 z2 z3 z4 z5 z6 z7 lz
  rw [h1]
  have y0 := HX1.out.c 0 _ rfl
  have y1 := HX1.out.c 1 _ rfl
  have y2 := HX1.out.c 2 _ rfl
  have y3 := HX1.out.c 3 _ rfl
  have y4 := HX1.out.c 4 _ rfl
  have y5 := HX1.out.c 5 _ rfl
  have y6 := HX1.out.c 6 _ rfl
  have ly := HX1.out.lt
  go_wp2_with fail
  refine (HC2.out _ HB.out).mono ?_
  rintro e w3 ⟨rfl, hb⟩
  replace HX1 := Lib.hid (HX1.out.bel hb)
  replace HX2 := Lib.hid (HX2.out.bel hb)
  replace HB := Lib.hid (HB.out.trans hb)
  clear hb
  clear y0 y1 y2 y3 y4 y5 y6 ly
  rw [show netE n = 0 by unfold netE; rw [h3]; rfl]
  have y0 := HX1.out.c 0 _ rfl
  have y1 := HX1.out.c 1 _ rfl
  have y2 := HX1.out.c 2 _ rfl
  have y3 := HX1.out.c 3 _ rfl
  have y4 := HX1.out.c 4 _ rfl
  have y5 := HX1.out.c 5 _ rfl
  have y6 := HX1.out.c 6 _ rfl
  have ly := HX1.out.lt
  have z0 := HX2.out.c 0 _ rfl
  have z1 := HX2.out.c 1 _ rfl
  have z2 := HX2.out.c 2 _ rfl
  have z3 := HX2.out.c 3 _ rfl
  have z4 := HX2.out.c 4 _ rfl
  have z5 := HX2.out.c 5 _ rfl
  have z6 := HX2.out.c 6 _ rfl
  have z7 := HX2.out.c 7 _ rfl
  have lz := HX2.out.lt
  go_wp2_with fail
  refine (HIU.out _ HB.out).mono ?_
  rintro e w4 ⟨rfl, hb⟩
  replace HX1 := Lib.hid (HX1.out.bel hb)
  replace HX2 := Lib.hid (HX2.out.bel hb)
  replace HB := Lib.hid (HB.out.trans hb)
  clear hb
  clear y0 y1 y2 y3 y4 y5 y6 ly z0 z1 z2 z3 z4 z5 z6 z7 lz
  rw [h4]
  have y0 := HX1.out.c 0 _ rfl
  have y1 := HX1.out.c 1 _ rfl
  have y2 := HX1.out.c 2 _ rfl
  have y3 := HX1.out.c 3 _ rfl
  have y4 := HX1.out.c 4 _ rfl
  have y5 := HX1.out.c 5 _ rfl
  have y6 := HX1.out.c 6 _ rfl
  have ly := HX1.out.lt
  have z0 := HX2.out.c 0 _ rfl
  have z1 := HX2.out.c 1 _ rfl
  have z2 := HX2.out.c 2 _ rfl
  have z3 := HX2.out.c 3 _ rfl
  have z4 := HX2.out.c 4 _ rfl
  have z5 := HX2.out.c 5 _ rfl
  have z6 := HX2.out.c 6 _ rfl
  have z7 := HX2.out.c 7 _ rfl
  have lz := HX2.out.lt
  go_wp2_with fail
  refine (HIC.out _ HB.out).mono ?_
  rintro e w5 ⟨rfl, hb⟩
  replace HX1 := Lib.hid (HX1.out.bel hb)
  replace HX2 := Lib.hid (HX2.out.bel hb)
  replace HB := Lib.hid (HB.out.trans hb)
  clear hb
  clear y0 y1 y2 y3 y4 y5 y6 ly z0 z1 z2 z3 z4 z5 z6 z7 lz
  rw [h5]
  have d1 : decide (u.wind < c.wind) = false := decide_eq_false (by omega)
  have d2 : decide (u.cur < c.cur) = false := decide_eq_false (by omega)
  have d3 : ((hs.length : Int) != (n.an.length : Int)) = false := by rw [bne_eq_false_iff_eq, HQ3.out]
  have y0 := HX1.out.c 0 _ rfl
  have y1 := HX1.out.c 1 _ rfl
  have y2 := HX1.out.c 2 _ rfl
  have y3 := HX1.out.c 3 _ rfl
  have y4 := HX1.out.c 4 _ rfl
  have y5 := HX1.out.c 5 _ rfl
  have y6 := HX1.out.c 6 _ rfl
  have ly := HX1.out.lt
  have z0 := HX2.out.c 0 _ rfl
  have z1 := HX2.out.c 1 _ rfl
  have z2 := HX2.out.c 2 _ rfl
  have z3 := HX2.out.c 3 _ rfl
  have z4 := HX2.out.c 4 _ rfl
  have z5 := HX2.out.c 5 _ rfl
  have z6 := HX2.out.c 6 _ rfl
  have z7 := HX2.out.c 7 _ rfl
  have lz := HX2.out.lt
  go_wp2_with fail
  refine (HR4.out _ HB.out).mono ?_
  rintro e w6 ⟨r, rfl, hr, hb⟩
  replace HX1 := Lib.hid (HX1.out.bel hb)
  replace HX2 := Lib.hid (HX2.out.bel hb)
  replace HB := Lib.hid (HB.out.trans hb)
  have HR := Lib.hid hr
  clear hr
  clear hb
  clear y0 y1 y2 y3 y4 y5 y6 ly z0 z1 z2 z3 z4 z5 z6 z7 lz
  clear d1 d2 d3
  by_cases q4 : r = 0
  rotate_left
  · have d4 : (r != 0) = true := by rw [bne_iff_ne]; exact q4
    go_wp2_with fail
    refine (HHE.out _ HB.out).mono ?_
    rintro e wz ⟨rfl, hb⟩
    have HBZ := Lib.hid (HB.out.trans hb)
    clear hb
    go_wp2
    go_ret
    exact ⟨rfl, HBZ.out⟩
  subst q4
  have hnok := netB_iff.1 h3
  have htu := ntrB_iff.1 h4
  have htc := ntrB_iff.1 h5
  have HLAW := Lib.hid (fun (hk : Calm u c) D E hD hE => torn_law (D := D) (E := E) hnok htu htc hk (HR.out rfl) HQ3.out hD hE)
  have HCALM := Lib.hid (fun (h : ∀ i, i < n.grips.length → at0 u.grips i ≤ at0 c.grips i) => show Calm u c from ⟨by omega, by omega, fun i hi => h i (by rw [← htu.l]; exact hi)⟩)
  have HOU := Lib.hid (fun wx (hb : Bel w wx) => holes_any n u hs m u.wind u.cur c.wind c.cur ua ca ha u.grips.length uc c.grips.length cc hcp hnok htu HQ3.out _ _ wx (HN.out.bel hb) (HU.out.bel hb) (HHX.out.bel hb) (HT.out.bel hb))
  have HOC := Lib.hid (fun wx (hb : Bel w wx) => holes_any n c hs m u.wind u.cur c.wind c.cur ua ca ha u.grips.length uc c.grips.length cc hcp hnok htc HQ3.out _ _ wx (HN.out.bel hb) (HC.out.bel hb) (HHX.out.bel hb) (HT.out.bel hb))
  have hlu : ∀ k, k < n.grips.length → k < u.grips.length ∧ k < c.grips.length := fun k hk => ⟨by rw [htu.l]; exact hk, by rw [htc.l]; exact hk⟩
  have HLU := Lib.hid hlu
  have hg3 : n.grips.length ≤ 3 := hnok.gl
  clear h0 h1 h3 h4 h5 hnok htu htc hlu q1 q2 HHU HHC HC2 HIU HIC HR4 HR HQ3 HN HU HC HHX HH HT
  have y0 := HX1.out.c 0 _ rfl
  have y1 := HX1.out.c 1 _ rfl
  have y2 := HX1.out.c 2 _ rfl
  have y3 := HX1.out.c 3 _ rfl
  have y4 := HX1.out.c 4 _ rfl
  have y5 := HX1.out.c 5 _ rfl
  have y6 := HX1.out.c 6 _ rfl
  have ly := HX1.out.lt
  go_wp2_with fail
  go_loopw [5] (fun i wr => ∃ k : Nat, k ≤ n.grips.length ∧ i = .int .i64 k ∧ Hid (∀ j, j < k → at0 u.grips j ≤ at0 c.grips j) ∧ Hid (Bel w6 wr)) (fun i _ => n.grips.length - (intOf i).toNat)
  case atStart => exact ⟨0, by omega, rfl, Lib.hid fun j hj => absurd hj (by omega), Lib.hid (Bel.refl _)⟩
  case round =>
    clear y0 y1 y2 y3 y4 y5 y6 ly
    obtain ⟨k, hk, rfl, hno, hbr⟩ := hrel
    replace HX1 := Lib.hid (HX1.out.bel hbr.out)
    replace HX2 := Lib.hid (HX2.out.bel hbr.out)
    replace HB := Lib.hid (HB.out.trans hbr.out)
    by_cases hlt : k < n.grips.length
    · have hlti : (k : Int) < (n.grips.length : Int) := by omega
      obtain ⟨hku, hkc⟩ := HLU.out k hlt
      have k0 := HB.out.cell (HUC.out k hku)
      have k1 := HB.out.cell (HCG.out k hkc)
      have lk0 := cell_lt k0
      have lk1 := cell_lt k1
      have y0 := HX1.out.c 0 _ rfl
      have y1 := HX1.out.c 1 _ rfl
      have y2 := HX1.out.c 2 _ rfl
      have y3 := HX1.out.c 3 _ rfl
      have y4 := HX1.out.c 4 _ rfl
      have y5 := HX1.out.c 5 _ rfl
      have y6 := HX1.out.c 6 _ rfl
      have ly := HX1.out.lt
      have z0 := HX2.out.c 0 _ rfl
      have z1 := HX2.out.c 1 _ rfl
      have z2 := HX2.out.c 2 _ rfl
      have z3 := HX2.out.c 3 _ rfl
      have z4 := HX2.out.c 4 _ rfl
      have z5 := HX2.out.c 5 _ rfl
      have z6 := HX2.out.c 6 _ rfl
      have z7 := HX2.out.c 7 _ rfl
      have lz := HX2.out.lt
      have HNX := Lib.hid (fun (h : at0 u.grips k ≤ at0 c.grips k) => show ∀ j, j < k + 1 → at0 u.grips j ≤ at0 c.grips j from fun j hj => by
          by_cases e : j = k
          · rw [e]; exact h
          · exact hno.out j (by omega))
      clear hno
      generalize at0 u.grips k = gu at *
      generalize at0 c.grips k = gc at *
      by_cases hq : gc < gu
      · have dq : decide (gc < gu) = true := decide_eq_true hq
        clear HNX HLAW HCALM HOU HOC
        go_wp2_with fail
        refine wp_region_mixB (Plan.seq [0, 1, 2, 3, 4, 5, 6, 7, 8, 9, 10, 11, 12] .nil) (by kernel_rfl) (by kernel_rfl) (fun hcur => ?_)
        simp only [Plan.seq, Plan.fill, List.getD_cons_zero, List.getD_cons_succ, Nat.reduceLT, ↓reduceIte]
        apply mix_pure _ rfl
        · intro w' hw'
          have hcr := hw'.cells
          go_simp
          rfl
        intro K hK
        go_simp
        refine hK _ ?_
        clear hK K
        apply mix_pure _ rfl
        · intro w' hw'
          have hcr := hw'.cells
          go_simp
          rfl
        intro K hK
        go_simp
        refine hK _ ?_
        clear hK K
        apply mix_pure _ rfl
        · intro w' hw'
          have hcr := hw'.cells
          go_simp
          rfl
        intro K hK
        go_simp
        refine hK _ ?_
        clear hK K
        apply mix_pure _ rfl
        · intro w' hw'
          have hcr := hw'.cells
          go_simp
          rfl
        intro K hK
        go_simp
        refine hK _ ?_
        clear hK K
        apply mix_pure _ rfl
        · intro w' hw'
          have hcr := hw'.cells
          go_simp
          rfl
        intro K hK
        go_simp
        refine hK _ ?_
        clear hK K
        apply mix_pure _ rfl
        · intro w' hw'
          have hcr := hw'.cells
          go_simp
          rfl
        intro K hK
        go_simp
        refine hK _ ?_
        clear hK K
        apply mix_pure _ rfl
        · intro w' hw'
          have hcr := hw'.cells
          go_simp
          rfl
        intro K hK
        go_simp
        refine hK _ ?_
        clear hK K
        apply mix_pure _ rfl
        · intro w' hw'
          have hcr := hw'.cells
          go_simp
          rfl
        intro K hK
        go_simp
        refine hK _ ?_
        clear hK K
        apply mix_pure _ rfl
        · intro w' hw'
          have hcr := hw'.cells
          go_simp
          rfl
        intro K hK
        go_simp
        refine hK _ ?_
        clear hK K
        apply mix_pure _ rfl
        · intro w' hw'
          have hcr := hw'.cells
          go_simp
          rfl
        intro K hK
        go_simp
        refine hK _ ?_
        clear hK K
        apply mix_pure _ rfl
        · intro w' hw'
          have hcr := hw'.cells
          go_simp
          rfl
        intro K hK
        go_simp
        refine hK _ ?_
        clear hK K
        apply mix_pure _ rfl
        · intro w' hw'
          have hcr := hw'.cells
          go_simp
          rfl
        intro K hK
        go_simp
        refine hK _ ?_
        clear hK K
        apply mix_pure _ rfl
        · intro w' hw'
          have hcr := hw'.cells
          go_simp
          rfl
        intro K hK
        go_simp
        refine hK _ ?_
        clear hK K
        refine mix_nil ?_
        replace HB := Lib.hid (HB.out.trans hcur)
        clear hcur k0 k1 lk0 lk1
        clear y0 y1 y2 y3 y4 y5 y6 ly z0 z1 z2 z3 z4 z5 z6 z7 lz
        go_wp2_with fail
        refine (HHE.out _ HB.out).mono ?_
        rintro e wz ⟨rfl, hb⟩
        have HBZ := Lib.hid (HB.out.trans hb)
        clear hb
        go_wp2
        go_ret
        exact ⟨rfl, HBZ.out⟩
      · have dq : decide (gc < gu) = false := decide_eq_false hq
        have HN2 := Lib.hid (HNX.out (by omega))
        clear HLAW HCALM HOU HOC HNX
        go_wp2_with fail
        refine wp_region_mixB (Plan.seq [0, 1, 2, 3, 4, 5, 6, 7, 8, 9, 10, 11, 12] .nil) (by kernel_rfl) (by kernel_rfl) (fun hcur => ?_)
        simp only [Plan.seq, Plan.fill, List.getD_cons_zero, List.getD_cons_succ, Nat.reduceLT, ↓reduceIte]
        apply mix_pure _ rfl
        · intro w' hw'
          have hcr := hw'.cells
          go_simp
          rfl
        intro K hK
        go_simp
        refine hK _ ?_
        clear hK K
        apply mix_pure _ rfl
        · intro w' hw'
          have hcr := hw'.cells
          go_simp
          rfl
        intro K hK
        go_simp
        refine hK _ ?_
        clear hK K
        apply mix_pure _ rfl
        · intro w' hw'
          have hcr := hw'.cells
          go_simp
          rfl
        intro K hK
        go_simp
        refine hK _ ?_
        clear hK K
        apply mix_pure _ rfl
        · intro w' hw'
          have hcr := hw'.cells
          go_simp
          rfl
        intro K hK
        go_simp
        refine hK _ ?_
        clear hK K
        apply mix_pure _ rfl
        · intro w' hw'
          have hcr := hw'.cells
          go_simp
          rfl
        intro K hK
        go_simp
        refine hK _ ?_
        clear hK K
        apply mix_pure _ rfl
        · intro w' hw'
          have hcr := hw'.cells
          go_simp
          rfl
        intro K hK
        go_simp
        refine hK _ ?_
        clear hK K
        apply mix_pure _ rfl
        · intro w' hw'
          have hcr := hw'.cells
          go_simp
          rfl
        intro K hK
        go_simp
        refine hK _ ?_
        clear hK K
        apply mix_pure _ rfl
        · intro w' hw'
          have hcr := hw'.cells
          go_simp
          rfl
        intro K hK
        go_simp
        refine hK _ ?_
        clear hK K
        apply mix_pure _ rfl
        · intro w' hw'
          have hcr := hw'.cells
          go_simp
          rfl
        intro K hK
        go_simp
        refine hK _ ?_
        clear hK K
        apply mix_pure _ rfl
        · intro w' hw'
          have hcr := hw'.cells
          go_simp
          rfl
        intro K hK
        go_simp
        refine hK _ ?_
        clear hK K
        apply mix_pure _ rfl
        · intro w' hw'
          have hcr := hw'.cells
          go_simp
          rfl
        intro K hK
        go_simp
        refine hK _ ?_
        clear hK K
        apply mix_pure _ rfl
        · intro w' hw'
          have hcr := hw'.cells
          go_simp
          rfl
        intro K hK
        go_simp
        refine hK _ ?_
        clear hK K
        apply mix_pure _ rfl
        · intro w' hw'
          have hcr := hw'.cells
          go_simp
          rfl
        intro K hK
        go_simp
        refine hK _ ?_
        clear hK K
        refine mix_nil ?_
        have HBR := Lib.hid (hbr.out.trans hcur)
        clear hcur k0 k1 lk0 lk1
        clear y0 y1 y2 y3 y4 y5 y6 ly z0 z1 z2 z3 z4 z5 z6 z7 lz
        go_wp2
        go_roundw
        case rel => exact ⟨k + 1, by omega, by go_num, HN2, HBR⟩
        case measure => simp [intOf]; omega
    · have hlti : ¬ (k : Int) < (n.grips.length : Int) := by omega
      obtain rfl : k = n.grips.length := by omega
      have HLW := Lib.hid (HLAW.out (HCALM.out hno.out))
      clear hno HLAW HCALM HLU hk
      have y0 := HX1.out.c 0 _ rfl
      have y1 := HX1.out.c 1 _ rfl
      have y2 := HX1.out.c 2 _ rfl
      have y3 := HX1.out.c 3 _ rfl
      have y4 := HX1.out.c 4 _ rfl
      have y5 := HX1.out.c 5 _ rfl
      have y6 := HX1.out.c 6 _ rfl
      have ly := HX1.out.lt
      have z0 := HX2.out.c 0 _ rfl
      have z1 := HX2.out.c 1 _ rfl
      have z2 := HX2.out.c 2 _ rfl
      have z3 := HX2.out.c 3 _ rfl
      have z4 := HX2.out.c 4 _ rfl
      have z5 := HX2.out.c 5 _ rfl
      have z6 := HX2.out.c 6 _ rfl
      have z7 := HX2.out.c 7 _ rfl
      have lz := HX2.out.lt
      go_wp2_with fail
      refine (HOU.out _ HB.out).mono ?_
      rintro e w7 ⟨D, od, rfl, hfin, hnet, hb⟩
      replace HX1 := Lib.hid (HX1.out.bel hb)
      replace HX2 := Lib.hid (HX2.out.bel hb)
      replace HB := Lib.hid (HB.out.trans hb)
      have HFD := Lib.hid hfin
      have HMD := Lib.hid hnet
      obtain ⟨aD, bD, pD, qD, rfl, _, _, hlD, _⟩ := hnet.open
      clear hfin hnet
      clear hb
      clear y0 y1 y2 y3 y4 y5 y6 ly z0 z1 z2 z3 z4 z5 z6 z7 lz
      go_upto_region 9 with fail
      generalize hW : World.alloc _ _ = wo
      have hb : Bel w7 wo := by rw [← hW]; exact (Bel.refl _).alloc _
      have HX3 : Hid (Bx wo w7.heap.size [.int .i64 m, .slice aD (pickH hs (blOf D)).length bD, .slice pD 0 qD]) := Lib.hid (by rw [← hW]; exact Bx.new rfl)
      clear hW
      replace HX1 := Lib.hid (HX1.out.bel hb)
      replace HX2 := Lib.hid (HX2.out.bel hb)
      replace HMD := Lib.hid (HMD.out.bel hb)
      replace HB := Lib.hid (HB.out.trans hb)
      clear hb
      have y0 := HX1.out.c 0 _ rfl
      have y1 := HX1.out.c 1 _ rfl
      have y2 := HX1.out.c 2 _ rfl
      have y3 := HX1.out.c 3 _ rfl
      have y4 := HX1.out.c 4 _ rfl
      have y5 := HX1.out.c 5 _ rfl
      have y6 := HX1.out.c 6 _ rfl
      have ly := HX1.out.lt
      have z0 := HX2.out.c 0 _ rfl
      have z1 := HX2.out.c 1 _ rfl
      have z2 := HX2.out.c 2 _ rfl
      have z3 := HX2.out.c 3 _ rfl
      have z4 := HX2.out.c 4 _ rfl
      have z5 := HX2.out.c 5 _ rfl
      have z6 := HX2.out.c 6 _ rfl
      have z7 := HX2.out.c 7 _ rfl
      have lz := HX2.out.lt
      go_wp2_with fail
      refine (HOC.out _ HB.out).mono ?_
      rintro e w8 ⟨E, oe, rfl, hfin, hnet, hb⟩
      replace HX1 := Lib.hid (HX1.out.bel hb)
      replace HX2 := Lib.hid (HX2.out.bel hb)
      replace HX3 := Lib.hid (HX3.out.bel hb)
      replace HMD := Lib.hid (HMD.out.bel hb)
      replace HB := Lib.hid (HB.out.trans hb)
      have HFE := Lib.hid hfin
      have HME := Lib.hid hnet
      obtain ⟨aE, bE, pE, qE, rfl, _, _, hlE, _⟩ := hnet.open
      clear hfin hnet
      clear hb
      clear y0 y1 y2 y3 y4 y5 y6 ly z0 z1 z2 z3 z4 z5 z6 z7 lz
      go_upto_region 10 with fail
      generalize hW : World.alloc _ _ = wo
      have hb : Bel w8 wo := by rw [← hW]; exact (Bel.refl _).alloc _
      have HX4 : Hid (Bx wo w8.heap.size [.int .i64 m, .slice aE (pickH hs (blOf E)).length bE, .slice pE 0 qE]) := Lib.hid (by rw [← hW]; exact Bx.new rfl)
      clear hW
      replace HX1 := Lib.hid (HX1.out.bel hb)
      replace HX2 := Lib.hid (HX2.out.bel hb)
      replace HX3 := Lib.hid (HX3.out.bel hb)
      replace HMD := Lib.hid (HMD.out.bel hb)
      replace HME := Lib.hid (HME.out.bel hb)
      replace HB := Lib.hid (HB.out.trans hb)
      clear hb
      obtain ⟨HM1, HM2, HLW2⟩ := HLW.out D E HFD.out HFE.out
      have HMK1 := Lib.hid HM1
      have HMK2 := Lib.hid HM2
      have HFI := Lib.hid HLW2
      clear HM1 HM2 HLW2 HLW HOU HOC HFD HFE HX1 HX2
      have v0 := HX3.out.c 0 _ rfl
      have v1 := HX3.out.c 1 _ rfl
      have v2 := HX3.out.c 2 _ rfl
      have lv := HX3.out.lt
      go_wp2_with fail
      refine (mLeast_any _ _ _ HMK1.out HMD.out).mono ?_
      rintro e w9 ⟨ox1, x1, hbest, rfl, hb⟩
      have HEx1 := Lib.hid hbest
      replace HX3 := Lib.hid (HX3.out.bel hb)
      replace HX4 := Lib.hid (HX4.out.bel hb)
      replace HMD := Lib.hid (HMD.out.bel hb)
      replace HME := Lib.hid (HME.out.bel hb)
      replace HB := Lib.hid (HB.out.trans hb)
      clear hb hbest v0 v1 v2 lv
      have v0 := HX4.out.c 0 _ rfl
      have v1 := HX4.out.c 1 _ rfl
      have v2 := HX4.out.c 2 _ rfl
      have lv := HX4.out.lt
      go_wp2_with fail
      refine (mLeast_any _ _ _ HMK2.out HME.out).mono ?_
      rintro e w10 ⟨ox2, x2, hbest, rfl, hb⟩
      have HEx2 := Lib.hid hbest
      replace HX3 := Lib.hid (HX3.out.bel hb)
      replace HX4 := Lib.hid (HX4.out.bel hb)
      replace HMD := Lib.hid (HMD.out.bel hb)
      replace HME := Lib.hid (HME.out.bel hb)
      replace HB := Lib.hid (HB.out.trans hb)
      clear hb hbest v0 v1 v2 lv
      have v0 := HX3.out.c 0 _ rfl
      have v1 := HX3.out.c 1 _ rfl
      have v2 := HX3.out.c 2 _ rfl
      have lv := HX3.out.lt
      go_wp2_with fail
      refine (mDone_any _ _ _ HMK1.out HMD.out).mono ?_
      rintro e w11 ⟨ox3, x3, hbest, rfl, hb⟩
      have HEx3 := Lib.hid hbest
      replace HX3 := Lib.hid (HX3.out.bel hb)
      replace HX4 := Lib.hid (HX4.out.bel hb)
      replace HMD := Lib.hid (HMD.out.bel hb)
      replace HME := Lib.hid (HME.out.bel hb)
      replace HB := Lib.hid (HB.out.trans hb)
      clear hb hbest v0 v1 v2 lv
      have v0 := HX4.out.c 0 _ rfl
      have v1 := HX4.out.c 1 _ rfl
      have v2 := HX4.out.c 2 _ rfl
      have lv := HX4.out.lt
      go_wp2_with fail
      refine (mDone_any _ _ _ HMK2.out HME.out).mono ?_
      rintro e w12 ⟨ox4, x4, hbest, rfl, hb⟩
      have HEx4 := Lib.hid hbest
      replace HX3 := Lib.hid (HX3.out.bel hb)
      replace HX4 := Lib.hid (HX4.out.bel hb)
      replace HMD := Lib.hid (HMD.out.bel hb)
      replace HME := Lib.hid (HME.out.bel hb)
      replace HB := Lib.hid (HB.out.trans hb)
      clear hb hbest v0 v1 v2 lv
      obtain ⟨⟨f1, f2, f3, f4⟩, f5⟩ := HFI.out _ _ _ _ _ _ _ _ HEx1.out HEx2.out HEx3.out HEx4.out
      have HF5 := Lib.hid f5
      clear f5 HFI HEx1 HEx2 HEx3 HEx4 HMK1 HMK2
      have v1 := HX3.out.c 1 _ rfl
      have lv := HX3.out.lt
      have e1 : decide (x1 < x2) = false := decide_eq_false (by omega)
      have e2 : decide (x3 < x4) = false := decide_eq_false (by omega)
      have hmin : decide (min (min (min x1 x2) x3) x4 < 0) = false := decide_eq_false (by omega)
      generalize (pickH hs (blOf D)).length = len at *
      by_cases hz : len = 0
      · obtain ⟨rfl, rfl⟩ := HF5.out hz
        subst hz
        clear HF5
        go_wp2_with fail
        refine (HHE.out _ HB.out).mono ?_
        rintro e wz ⟨rfl, hb⟩
        have HBZ := Lib.hid (HB.out.trans hb)
        clear hb
        go_wp2
        go_ret
        exact ⟨rfl, HBZ.out⟩
      · have hz1 : (0 : Int) < (len : Int) := by omega
        have hz2 : decide ((0 : Int) < (len : Int)) = true := decide_eq_true hz1
        clear HF5 hz
        go_wp2_with fail
        refine (HHE.out _ HB.out).mono ?_
        rintro e wz ⟨rfl, hb⟩
        have HBZ := Lib.hid (HB.out.trans hb)
        clear hb
        go_wp2
        go_ret
        exact ⟨rfl, HBZ.out⟩
end Go.Proofs.YtkdcdhkhadhcfaaDoor
