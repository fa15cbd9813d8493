/-
  beasts: the program's next step is that of the plain law; Next.
-/
import Derived.Test.YtogiidkofddhaaaDoorBWay
import Derived.Test.YtogiidkofddhaaaDoorBR
namespace Go.Proofs.YtogiidkofddhaaaDoor
set_option linter.unusedVariables false
open Go Go.RowKit Go.Shelf
set_option maxHeartbeats 4000000
set_option maxRecDepth 100000
theorem step_cmp {b : BT} (hok : Okb b) {looks : Bool} {pr : PrT} (hi : InvP b looks pr) (hfx : Fix b looks 1048576 1 (encV pr)) {s : Nat} (hs : Dom b s) {x : BS × List Nat} (hx : x ∈ stepsOf b looks s) {v : Int} (hv : opt b looks 1048576 1 s = some v) :
    isB false (withP b pr x) (ofP pr s) = decide ((stepV b 1048576 1 (opt b looks 1048576 1) x).map (fun v => v / 1048576) = (opt b looks 1048576 1 s).map (fun v => v / 1048576)) ∧
    isB true (withP b pr x) (ofP pr s) = decide (stepV b 1048576 1 (opt b looks 1048576 1) x = opt b looks 1048576 1 s) := by
  obtain ⟨g1, g2⟩ := steps_dom hok hs hx
  obtain ⟨c1, c2⟩ := cost_in hok hx
  have e1 : mxV (opt b looks 1048576 1) x.2 = mxV (encV pr) x.2 := mxV_congr fun t ht => (hfx.eq hok way_K (g2 t ht)).symm
  have e2 : (pr s).map enc = some v := (hfx.eq hok way_K hs).trans hv
  cases e : pr s with
  | none => rw [e] at e2; cases e2
  | some q =>
    rw [e] at e2
    injection e2 with e2
    have eo : ofP pr s = q := by unfold ofP; rw [e]; rfl
    obtain ⟨q1, q2, q3⟩ := hi.small e
    rw [hv, eo]
    unfold stepV
    rw [e1]
    rcases hi.with_ (b := b) (steps_two hx) with ⟨a1, a2⟩ | ⟨p, a1, a2, a3, a4, a5, a6⟩
    · rw [a1, a2]
      have n1 : ¬ farP.1 = q.1 := by unfold farP; show ¬ (1073741824 : Int) = q.1; omega
      refine ⟨?_, ?_⟩
      · show decide (farP.1 = q.1) = _
        rw [decide_eq_false n1]; rfl
      · show decide (farP = q) = _
        rw [decide_eq_false fun h => n1 (by rw [h])]; rfl
    · rw [a1, a2]
      unfold enc at e2
      simp only [Option.map_some, Option.some.injEq]
      refine ⟨?_, ?_⟩
      · show decide (costS b x.1 + p.1 = q.1) = _
        refine decide_eq_decide.2 ?_
        unfold enc
        omega
      · show decide ((costS b x.1 + p.1, p.2 + 1) = q) = _
        refine decide_eq_decide.2 ?_
        unfold enc
        constructor
        · intro h; rw [← h] at e2; simp only [] at e2; omega
        · intro h
          refine Prod.ext ?_ ?_
          · show costS b x.1 + p.1 = q.1; omega
          · show p.2 + 1 = q.2; omega
theorem nextP_cheap {b : BT} (hok : Okb b) {pr : PrT} (hi : InvP b true pr) (hfx : Fix b true 1048576 1 (encV pr)) {s : Nat} (hs : Dom b s) {v : Int} (hv : opt b true 1048576 1 s = some v) : nextP b true pr false s = nextV b true 1 0 (opt b true 1 0) s := by
  rw [cheap_next hok hs]
  exact find_congr fun x hx => (step_cmp hok hi hfx hs hx hv).1
theorem nextP_same {b : BT} (hok : Okb b) {pr : PrT} (hi : InvP b false pr) (hfx : Fix b false 1048576 1 (encV pr)) {s : Nat} (hs : Dom b s) {v : Int} (hv : opt b false 1048576 1 s = some v) : nextP b false pr true s = nextV b false 1048576 1 (opt b false 1048576 1) s :=
  find_congr fun x hx => (step_cmp hok hi hfx hs hx hv).2
theorem ofL_ne1 {b : BT} (hok : Okb b) : ofL b.places ≠ 1 := fun e => by
  obtain ⟨p, hp⟩ := List.exists_mem_of_ne_nil _ hok.pn
  have h0 := hok.pi p hp
  have h1 := (ofL_bit b.places (p + 1).toNat).2 ⟨p, hp, rfl⟩
  rw [e, Nat.testBit_one_eq_true_iff_self_eq_zero] at h1
  omega
theorem opt_K_some {b : BT} (hok : Okb b) {looks : Bool} {s : Nat} (hs : Dom b s) {v : Int} (h : opt b looks 1 0 s = some v) : ∃ u, opt b looks 1048576 1 s = some u := by
  rw [turns_1.optE hok way_1 hs] at h
  cases e : opt b looks 1048576 1 s with
  | none => rw [e] at h; cases h
  | some u => exact ⟨u, rfl⟩
/-- The answer of Next. -/
noncomputable def nextA (b : BT) : BS := if validT b then (if (opt b true 1 0 (ofL b.places)).isSome then (nextS b (ofL b.places)).1 else ⟨0, 0⟩) else ⟨0, 0⟩
theorem rvN {k k' x x' y y' : Int} (h0 : k' = k) (h1 : x' = x) (h2 : y' = y) : Ending.returned (.tuple #[.agg #[.int .i64 k, .int .i64 x], .int .i64 y]) = .returned (.tuple #[.agg #[.int .i64 k', .int .i64 x'], .int .i64 y']) := by rw [h0, h1, h2]
theorem Next_any (b : BT) (v : Value) (w : World) (hf : FarAt w) (hv : BTrapAt w v b) :
    Calls Tryd.prog 32 #[v] w fun e w' => e = .returned (.tuple #[.agg #[.int .i64 (nextA b).k, .int .i64 (nextA b).x], .int .i64 (leastE b true)]) ∧ Bel w w' := by
  have HV := Lib.hid hv
  have HC := Lib.hid (fun wx (hx : Bel w wx) => bCheck_any b v wx (hv.bel hx))
  obtain ⟨dv, sv, pv, rfl, hd, hs, hp⟩ := hv
  have HASK0 := Lib.hid (fun hval wx (hx : Bel w wx) => ask_none b hval dv sv pv true b.places pv wx (hf.bel hx) (HV.out.bel hx) (hp.bel hx) (places_in6 (okb_iff.1 hval)) (dom_places (okb_iff.1 hval)))
  have HASK1 := Lib.hid (fun hval wx (hx : Bel w wx) => ask_some b hval dv sv pv true b.places pv wx (hf.bel hx) (HV.out.bel hx) (hp.bel hx) (places_in6 (okb_iff.1 hval)) (dom_places (okb_iff.1 hval)))
  have HOFF := Lib.hid (fun hval wx (hx : Bel w wx) => of_any pv b.places wx (hp.bel hx) (places_in6 (okb_iff.1 hval)))
  have HFR := Lib.hid (fun wx (hx : Bel w wx) => hf.bel hx)
  obtain ⟨pa, pc, pb, poff, rfl, _, ⟨hpl, _⟩, _⟩ := hp
  have hdv : ∃ da dn dc, dv = .slice da dn dc := by obtain ⟨da, dc, db, doff, rfl, _⟩ := hd; exact ⟨_, _, _, rfl⟩
  have hsv : ∃ sa sn sc, sv = .slice sa sn sc := by obtain ⟨sa, sc, sb, soff, rfl, _⟩ := hs; exact ⟨_, _, _, rfl⟩
  obtain ⟨da, dn, dc, rfl⟩ := hdv
  obtain ⟨sa, sn, sc, rfl⟩ := hsv
  have HBX := Lib.hid (fun wx hx => (BoxB.new (w := w) (b := b) (dv := .slice da dn dc) (sv := .slice sa sn sc) (pv := .slice pa b.places.length pc) (T := 25)).bel (w' := wx) hx)
  clear hd hs hf
  have hc2 : ∀ (W W' : World), Bel (W.alloc (.cells #[.int .i64 0, .int .i64 0] 50)) W' → (∀ o, W'.frozen? ⟨W.heap.size, o, none⟩ = false) ∧ W'.cell? ⟨W.heap.size, 0, none⟩ = some (.int .i64 0) ∧ W'.cell? ⟨W.heap.size, 1, none⟩ = some (.int .i64 0) := fun W W' h =>
    ⟨fun o => (h.frozens ⟨W.heap.size, o, none⟩ (by simp)).trans ((row_facts (new_row rfl)).2 o), h.cell ((row_facts (new_row rfl)).1 0), h.cell ((row_facts (new_row rfl)).1 1)⟩
  have HC2 := Lib.hid hc2
  clear hc2
  cases hval : validT b
  · have E1 := Lib.hid (show nextA b = ⟨0, 0⟩ by unfold nextA; rw [hval]; rfl)
    have E2 := Lib.hid (least_bad (looks := true) hval).2
    rw [chkT_false hval] at HC
    clear hval
    go_enter Tryd.func32, Tryd.ntmps32
    go_wp2_with (go_at_call 54; refine (HC.out _ (by repeat (first | assumption | exact Bel.refl _ | refine Bel.drew ?_ | refine Bel.drewN ?_ _ | refine Bel.alloc ?_ _ | refine Bel.setCell ?_ (by simp <;> omega) _ | refine Bel.trans ?_ (by assumption)))).mono ?_; rintro e w1 ⟨rfl, hb⟩; obtain ⟨q0, q1, q2⟩ := HC2.out _ _ hb; simp only [World.size_alloc] at q0 q1 q2; have f0 := q0 0; have f1 := q0 1)
    obtain ⟨n0, n1⟩ := two_cells (u0 := .int .i64 0) (u1 := .int .i64 0) q1 q2
    exact bodyPost_ret (v := .tuple #[.agg #[.int .i64 0, .int .i64 0], .int .i64 60]) (by simp [results, Tryd.results32, go_sem, n0, n1]) rfl ⟨rvN (by rw [E1.out]) (by rw [E1.out]) E2.out, (by repeat (first | assumption | exact Bel.refl _ | refine Bel.drew ?_ | refine Bel.drewN ?_ _ | refine Bel.alloc ?_ _ | refine Bel.setCell ?_ (by simp <;> omega) _ | refine Bel.trans ?_ (by assumption)))⟩
  have e2 := (least_good (looks := true) hval).2
  rw [chkT_true hval] at HC
  have hok := okb_iff.1 hval
  cases ho : opt b true 1048576 1 (ofL b.places) with
  | none =>
    obtain ⟨o1, o2⟩ := opt_none_P hok (dom_places hok) ho
    obtain ⟨o3, o4⟩ := optVE_none o2
    have E1 := Lib.hid (show nextA b = ⟨0, 0⟩ by unfold nextA; rw [hval, o2]; rfl)
    have E2 := Lib.hid (e2.trans o4)
    have HASK := Lib.hid (fun wx hx => HASK0.out hval wx hx o1)
    clear hval e2 ho o1 o2 o3 o4 hok HASK0 HASK1 HOFF
    go_enter Tryd.func32, Tryd.ntmps32
    go_wp2_with (first
      | (go_at_call 54; refine (HC.out _ (by repeat (first | assumption | exact Bel.refl _ | refine Bel.drew ?_ | refine Bel.drewN ?_ _ | refine Bel.alloc ?_ _ | refine Bel.setCell ?_ (by simp <;> omega) _ | refine Bel.trans ?_ (by assumption)))).mono ?_; rintro e w1 ⟨rfl, hb⟩; have HBB := Lib.hid hb; have y := HBX.out _ (Bel.trans ((Bel.refl _).alloc _) hb); obtain ⟨x0, x1, x2, x3, x4, x5⟩ := y; have l0 := cell_lt x0; have HB1 := Lib.hid (show Bel w w1 from Bel.trans (by repeat (first | assumption | exact Bel.refl _ | refine Bel.drew ?_ | refine Bel.drewN ?_ _ | refine Bel.alloc ?_ _ | refine Bel.setCell ?_ (by simp <;> omega) _ | refine Bel.trans ?_ (by assumption))) hb); clear hb)
      | (go_at_call 64; refine (HASK.out _ HB1.out).mono ?_; rintro e w2 ⟨rfl, hb2⟩; have HB2 := Lib.hid (HB1.out.trans hb2); obtain ⟨q0, q1, q2⟩ := HC2.out _ _ (HBB.out.trans hb2); simp only [World.size_alloc] at q0 q1 q2; have f0 := q0 0; have f1 := q0 1; have lq := cell_lt q1; clear hb2 q0))
    obtain ⟨n0, n1⟩ := two_cells (u0 := .int .i64 0) (u1 := .int .i64 0) q1 q2
    have m0 := ((Bel.refl _).alloc (.cells #[.int .i64 1073741824, .int .i64 1073741824] 80)).cell n0
    have m1 := ((Bel.refl _).alloc (.cells #[.int .i64 1073741824, .int .i64 1073741824] 80)).cell n1
    have hB2 := HB2.out
    exact bodyPost_ret (v := .tuple #[.agg #[.int .i64 0, .int .i64 0], .int .i64 3]) (by simp [results, Tryd.results32, go_sem, m0, m1]) rfl ⟨rvN (by rw [E1.out]) (by rw [E1.out]) E2.out, (by repeat (first | assumption | exact Bel.refl _ | refine Bel.drew ?_ | refine Bel.drewN ?_ _ | refine Bel.alloc ?_ _ | refine Bel.setCell ?_ (by simp <;> omega) _ | refine Bel.trans ?_ (by assumption)))⟩
  | some u =>
    obtain ⟨o1, o2⟩ := opt_some_P hok (dom_places hok) ho
    obtain ⟨o3, o4⟩ := optVE_some o2
    obtain ⟨hnx, hmem, _⟩ := nextS_spec hok (dom_places hok) (ofL_ne1 hok) o2
    have E1 := Lib.hid (show nextA b = (nextS b (ofL b.places)).1 by unfold nextA; rw [hval, o2]; rfl)
    have E2 := Lib.hid (e2.trans o4)
    have HNX := Lib.hid (fun pr hi hfx => (nextP_cheap hok (pr := pr) hi hfx (dom_places hok) ho).trans hnx)
    have HNEXT := Lib.hid (fun hb mb pr hpr hx wx h1 h2 h3 (h4 : Bel w wx) => hnext_cheap hb mb (ofL b.places) b hval (dom_places hok).2 (.slice da dn dc) (.slice sa sn sc) (.slice pa b.places.length pc) true pr hpr (nextS b (ofL b.places)) hx wx h1 h2 h3 (HV.out.bel h4))
    have HOF := Lib.hid (fun wx hx => HOFF.out hval wx hx)
    generalize decP u = p at *
    have HASK := Lib.hid (fun wx hx => HASK1.out hval wx hx p o1)
    clear hval e2 ho o1 o2 o3 o4 hok HASK0 HASK1 HOFF hnx hmem
    generalize nextS b (ofL b.places) = ns at *
    generalize ofL b.places = S at *
    go_enter Tryd.func32, Tryd.ntmps32
    go_wp2_with (first
      | (go_at_call 54; refine (HC.out _ (by repeat (first | assumption | exact Bel.refl _ | refine Bel.drew ?_ | refine Bel.drewN ?_ _ | refine Bel.alloc ?_ _ | refine Bel.setCell ?_ (by simp <;> omega) _ | refine Bel.trans ?_ (by assumption)))).mono ?_; rintro e w1 ⟨rfl, hb⟩; have HBB := Lib.hid hb; have y := HBX.out _ (Bel.trans ((Bel.refl _).alloc _) hb); obtain ⟨x0, x1, x2, x3, x4, x5⟩ := y; have l0 := cell_lt x0; have HB1 := Lib.hid (show Bel w w1 from Bel.trans (by repeat (first | assumption | exact Bel.refl _ | refine Bel.drew ?_ | refine Bel.drewN ?_ _ | refine Bel.alloc ?_ _ | refine Bel.setCell ?_ (by simp <;> omega) _ | refine Bel.trans ?_ (by assumption))) hb); clear hb)
      | (go_at_call 64; refine (HASK.out _ HB1.out).mono ?_; rintro e w2 ⟨hb, mb, pr, rfl, hh, hm, hi, hfx, hb2⟩; have HH := Lib.hid hh; have HM := Lib.hid hm; have HI := Lib.hid hi; have HX := Lib.hid hfx; have HB12 := Lib.hid hb2; replace x0 := hb2.cell x0; replace x1 := hb2.cell x1; replace x2 := hb2.cell x2; replace x3 := hb2.cell x3; replace x4 := hb2.cell x4; replace x5 := hb2.cell x5; have l0 := cell_lt x0; have HB2 := Lib.hid (HB1.out.trans hb2); clear hb2 hh hm hi hfx)
      | (go_at_call 65; refine (HOF.out _ (HB2.out.alloc _)).mono ?_; rintro e w3 ⟨rfl, hb3⟩; have HB3 := Lib.hid (show Bel w2 w3 from Bel.trans ((Bel.refl _).alloc _) hb3); clear hb3)
      | (go_at_call 66; refine (HNEXT.out hb mb pr (fun t => HI.out.ofP_in t) (HNX.out pr HI.out HX.out) _ (HFR.out _ (HB2.out.trans HB3.out)) (HH.out.bel HB3.out) (HM.out.bel HB3.out) (HB2.out.trans HB3.out)).mono ?_; rintro e w4 ⟨nv, rfl, _, hb4, _⟩; have HB4 := Lib.hid (HB2.out.trans (HB3.out.trans hb4)); obtain ⟨q0, q1, q2⟩ := HC2.out _ _ (HBB.out.trans (HB12.out.trans (HB3.out.trans hb4))); simp only [World.size_alloc] at q0 q1 q2; have f0 := q0 0; have f1 := q0 1; have lq := cell_lt q1; clear hb4 q0))
    obtain ⟨n0, n1⟩ := two_cells (u0 := .int .i64 ns.1.k) (u1 := .int .i64 ns.1.x) q1 q2
    have m0 := ((Bel.refl _).alloc (.cells #[.int .i64 ns.1.k, .int .i64 ns.1.x] 50)).cell n0
    have m1 := ((Bel.refl _).alloc (.cells #[.int .i64 ns.1.k, .int .i64 ns.1.x] 50)).cell n1
    have hB4 := HB4.out
    exact bodyPost_ret (v := .tuple #[.agg #[.int .i64 ns.1.k, .int .i64 ns.1.x], .int .i64 0]) (by simp [results, Tryd.results32, go_sem, m0, m1]) rfl ⟨rvN (by rw [E1.out]) (by rw [E1.out]) E2.out, (by repeat (first | assumption | exact Bel.refl _ | refine Bel.drew ?_ | refine Bel.drewN ?_ _ | refine Bel.alloc ?_ _ | refine Bel.setCell ?_ (by simp <;> omega) _ | refine Bel.trans ?_ (by assumption)))⟩
end Go.Proofs.YtogiidkofddhaaaDoor
