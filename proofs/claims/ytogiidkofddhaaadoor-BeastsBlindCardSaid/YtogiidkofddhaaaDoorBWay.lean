/-
  beasts: Way.
-/
import Derived.Test.YtogiidkofddhaaaDoorBLeast
import Derived.Test.YtogiidkofddhaaaDoorBMove3
namespace Go.Proofs.YtogiidkofddhaaaDoor
open Go Go.RowKit Go.Shelf
set_option maxHeartbeats 4000000
set_option maxRecDepth 100000
noncomputable def wayV (b : BT) (at_ : Int) : Int := if validT b then (if chamB b.n at_ then optV b true [at_] else 0) else 0
noncomputable def wayE (b : BT) (at_ : Int) : Int := if validT b then (if chamB b.n at_ then optE b true [at_] else 1) else 60
theorem Way_any (b : BT) (v : Value) (c : Int) (w : World) (hf : FarAt w) (hv : BTrapAt w v b) :
    Calls Tryd.prog 36 #[v, .int .i64 c] w fun e w' => e = .returned (.tuple #[.int .i64 (wayV b c), .int .i64 (wayE b c)]) ∧ Bel w w' := by
  have HV := Lib.hid hv
  have HC := Lib.hid (fun wx (hx : Bel w wx) => bCheck_any b v wx (hv.bel hx))
  obtain ⟨dv, sv, pv, rfl, hd, hs, hp⟩ := hv
  have HASK0 := Lib.hid (fun hval h1 h2 pv2 wx (hx : Bel w wx) hi => ask_none b hval dv sv pv true [c] pv2 wx (hf.bel hx) (HV.out.bel hx) hi h1 h2)
  have HASK1 := Lib.hid (fun hval h1 h2 pv2 wx (hx : Bel w wx) hi => ask_some b hval dv sv pv true [c] pv2 wx (hf.bel hx) (HV.out.bel hx) hi h1 h2)
  obtain ⟨pa, pc, pb, poff, rfl, _, ⟨hpl, _⟩, _⟩ := hp
  have hdv : ∃ da dn dc, dv = .slice da dn dc := by obtain ⟨da, dc, db, doff, rfl, _⟩ := hd; exact ⟨_, _, _, rfl⟩
  have hsv : ∃ sa sn sc, sv = .slice sa sn sc := by obtain ⟨sa, sc, sb, soff, rfl, _⟩ := hs; exact ⟨_, _, _, rfl⟩
  obtain ⟨da, dn, dc, rfl⟩ := hdv
  obtain ⟨sa, sn, sc, rfl⟩ := hsv
  have HBX := Lib.hid (fun wx hx => (BoxB.new (w := w) (b := b) (dv := .slice da dn dc) (sv := .slice sa sn sc) (pv := .slice pa b.places.length pc) (T := 25)).bel (w' := wx) hx)
  clear hd hs hf
  have HCH := Lib.hid (fun wx => chamber_any b c (.slice da dn dc) (.slice sa sn sc) (.slice pa b.places.length pc) wx)
  cases hval : validT b
  · have E1 := Lib.hid (show wayV b c = 0 by unfold wayV; rw [hval]; rfl)
    have E2 := Lib.hid (show wayE b c = 60 by unfold wayE; rw [hval]; rfl)
    rw [chkT_false hval] at HC
    clear hval
    go_enter Tryd.func36, Tryd.ntmps36
    go_wp2_with (go_at_call 54; refine (HC.out _ (by repeat (first | assumption | exact Bel.refl _ | refine Bel.drew ?_ | refine Bel.drewN ?_ _ | refine Bel.alloc ?_ _ | refine Bel.setCell ?_ (by simp <;> omega) _ | refine Bel.trans ?_ (by assumption)))).mono ?_; rintro e w1 ⟨rfl, hb⟩)
    exact bodyPost_ret (v := .tuple #[.int .i64 0, .int .i64 60]) (by simp [results, Tryd.results36, go_sem, *]) rfl ⟨rvI E1.out E2.out, Bel.trans (by repeat (first | assumption | exact Bel.refl _ | refine Bel.drew ?_ | refine Bel.drewN ?_ _ | refine Bel.alloc ?_ _ | refine Bel.setCell ?_ (by simp <;> omega) _ | refine Bel.trans ?_ (by assumption))) hb⟩
  rw [chkT_true hval] at HC
  have hok := okb_iff.1 hval
  cases hch : chamB b.n c
  · have E1 := Lib.hid (show wayV b c = 0 by unfold wayV; rw [hval, hch]; rfl)
    have E2 := Lib.hid (show wayE b c = 1 by unfold wayE; rw [hval, hch]; rfl)
    rw [hch] at HCH
    clear hval hch hok HASK0 HASK1
    go_enter Tryd.func36, Tryd.ntmps36
    go_wp2_with (first
      | (go_at_call 54; refine (HC.out _ (by repeat (first | assumption | exact Bel.refl _ | refine Bel.drew ?_ | refine Bel.drewN ?_ _ | refine Bel.alloc ?_ _ | refine Bel.setCell ?_ (by simp <;> omega) _ | refine Bel.trans ?_ (by assumption)))).mono ?_; rintro e w1 ⟨rfl, hb⟩; have HBB := Lib.hid hb; have y := HBX.out _ hb; obtain ⟨x0, x1, x2, x3, x4, x5⟩ := y; have l0 := cell_lt x0; have HB1 := Lib.hid (show Bel w w1 from Bel.trans (by repeat (first | assumption | exact Bel.refl _ | refine Bel.drew ?_ | refine Bel.drewN ?_ _ | refine Bel.alloc ?_ _ | refine Bel.setCell ?_ (by simp <;> omega) _ | refine Bel.trans ?_ (by assumption))) hb); clear hb)
      | (go_at_call 84; refine (HCH.out _).mono ?_; rintro e w3 ⟨rfl, hb3⟩; replace x0 := hb3.cell x0; replace x1 := hb3.cell x1; replace x2 := hb3.cell x2; replace x3 := hb3.cell x3; replace x4 := hb3.cell x4; replace x5 := hb3.cell x5; have l0 := cell_lt x0; have HB3 := Lib.hid (HB1.out.trans hb3); clear hb3))
    exact bodyPost_ret (v := .tuple #[.int .i64 0, .int .i64 1]) (by simp [results, Tryd.results36, go_sem, *]) rfl ⟨rvI E1.out E2.out, HB3.out⟩
  have hcc := hch
  rw [chamB_in hok.n1 hok.n2] at hcc
  have hcb := withinB_true.1 hcc
  have hn2 := hok.n2
  have hD : Dom b (ofL [c]) := dom_ofL hok (by simp) fun p hp => by rw [List.mem_singleton.1 hp]; omega
  have hI : ∀ j, j < [c].length → -1 ≤ at0 [c] j ∧ at0 [c] j ≤ 6 := fun j hj => by
    have : j = 0 := by simp at hj; omega
    subst this
    show -1 ≤ c ∧ c ≤ 6
    omega
  rw [hch] at HCH
  cases ho : opt b true 1048576 1 (ofL [c]) with
  | none =>
    obtain ⟨o1, o2⟩ := opt_none_P hok hD ho
    obtain ⟨o3, o4⟩ := optVE_none o2
    have E1 := Lib.hid (show wayV b c = 0 by unfold wayV; rw [hval, hch, o3]; rfl)
    have E2 := Lib.hid (show wayE b c = 3 by unfold wayE; rw [hval, hch, o4]; rfl)
    have HASK := Lib.hid (fun pv2 wx hx hi => HASK0.out hval hI hD pv2 wx hx hi o1)
    clear hval ho o1 o2 o3 o4 hok HASK0 HASK1 hch hcc hcb hD hI
    go_enter Tryd.func36, Tryd.ntmps36
    go_wp2_with (first
      | (go_at_call 54; refine (HC.out _ (by repeat (first | assumption | exact Bel.refl _ | refine Bel.drew ?_ | refine Bel.drewN ?_ _ | refine Bel.alloc ?_ _ | refine Bel.setCell ?_ (by simp <;> omega) _ | refine Bel.trans ?_ (by assumption)))).mono ?_; rintro e w1 ⟨rfl, hb⟩; have HBB := Lib.hid hb; have y := HBX.out _ hb; obtain ⟨x0, x1, x2, x3, x4, x5⟩ := y; have l0 := cell_lt x0; have HB1 := Lib.hid (show Bel w w1 from Bel.trans (by repeat (first | assumption | exact Bel.refl _ | refine Bel.drew ?_ | refine Bel.drewN ?_ _ | refine Bel.alloc ?_ _ | refine Bel.setCell ?_ (by simp <;> omega) _ | refine Bel.trans ?_ (by assumption))) hb); clear hb)
      | (go_at_call 84; refine (HCH.out _).mono ?_; rintro e w3 ⟨rfl, hb3⟩; replace x0 := hb3.cell x0; replace x1 := hb3.cell x1; replace x2 := hb3.cell x2; replace x3 := hb3.cell x3; replace x4 := hb3.cell x4; replace x5 := hb3.cell x5; have l0 := cell_lt x0; have HB3 := Lib.hid (HB1.out.trans hb3); clear hb3)
      | (go_at_call 64; refine (HASK.out _ _ (HB3.out.alloc _) one_ints).mono ?_; rintro e w2 ⟨rfl, hb2⟩; have HB2 := Lib.hid ((HB3.out.alloc _).trans hb2); clear hb2))
    exact bodyPost_ret (v := .tuple #[.int .i64 0, .int .i64 3]) (by simp [results, Tryd.results36, go_sem, *]) rfl ⟨rvI E1.out E2.out, Bel.alloc HB2.out _⟩
  | some u =>
    obtain ⟨o1, o2⟩ := opt_some_P hok hD ho
    obtain ⟨o3, o4⟩ := optVE_some o2
    generalize decP u = p at *
    have E1 := Lib.hid (show wayV b c = p.1 by unfold wayV; rw [hval, hch, o3]; rfl)
    have E2 := Lib.hid (show wayE b c = 0 by unfold wayE; rw [hval, hch, o4]; rfl)
    have HASK := Lib.hid (fun pv2 wx hx hi => HASK1.out hval hI hD pv2 wx hx hi p o1)
    clear hval ho o1 o2 o3 o4 hok HASK0 HASK1 hch hcc hcb hD hI
    go_enter Tryd.func36, Tryd.ntmps36
    go_wp2_with (first
      | (go_at_call 54; refine (HC.out _ (by repeat (first | assumption | exact Bel.refl _ | refine Bel.drew ?_ | refine Bel.drewN ?_ _ | refine Bel.alloc ?_ _ | refine Bel.setCell ?_ (by simp <;> omega) _ | refine Bel.trans ?_ (by assumption)))).mono ?_; rintro e w1 ⟨rfl, hb⟩; have HBB := Lib.hid hb; have y := HBX.out _ hb; obtain ⟨x0, x1, x2, x3, x4, x5⟩ := y; have l0 := cell_lt x0; have HB1 := Lib.hid (show Bel w w1 from Bel.trans (by repeat (first | assumption | exact Bel.refl _ | refine Bel.drew ?_ | refine Bel.drewN ?_ _ | refine Bel.alloc ?_ _ | refine Bel.setCell ?_ (by simp <;> omega) _ | refine Bel.trans ?_ (by assumption))) hb); clear hb)
      | (go_at_call 84; refine (HCH.out _).mono ?_; rintro e w3 ⟨rfl, hb3⟩; replace x0 := hb3.cell x0; replace x1 := hb3.cell x1; replace x2 := hb3.cell x2; replace x3 := hb3.cell x3; replace x4 := hb3.cell x4; replace x5 := hb3.cell x5; have l0 := cell_lt x0; have HB3 := Lib.hid (HB1.out.trans hb3); clear hb3)
      | (go_at_call 64; refine (HASK.out _ _ (HB3.out.alloc _) one_ints).mono ?_; rintro e w2 ⟨hb, mb, pr, rfl, _, _, _, _, hb2⟩; have HB2 := Lib.hid ((HB3.out.alloc _).trans hb2); clear hb2))
    exact bodyPost_ret (v := .tuple #[.int .i64 p.1, .int .i64 0]) (by simp [results, Tryd.results36, go_sem, *]) rfl ⟨rvI E1.out E2.out, Bel.alloc HB2.out _⟩
/-- The first step of a plan: the program's answer. -/
noncomputable def nextS1 (b : BT) (looks sm : Bool) (s : Nat) : Option (BS × List Nat) := nextP b looks (fun t => if decide (t ≠ 0) && decide (t < 2 ^ (b.n.toNat + 1)) then optP b looks t else none) sm s
theorem nextP_opt {b : BT} (hok : Okb b) {looks : Bool} {pr : PrT} (hi : InvP b looks pr) (hfx : Fix b looks 1048576 1 (encV pr)) (sm : Bool) {s : Nat} : nextP b looks pr sm s = nextS1 b looks sm s := by
  unfold nextS1
  congr 1
  funext t
  by_cases h : Dom b t
  · rw [if_pos (by simpa [Dom] using h)]; exact pr_opt hok hi hfx h
  · rw [if_neg (by simpa [Dom] using h)]
    cases e : pr t with
    | none => rfl
    | some p => exact absurd (hi.dom t p e) h
end Go.Proofs.YtogiidkofddhaaaDoor
