/-
  beasts: Least, Blind.
-/
import Derived.Test.YtogiidkofddhaaaDoorBAsk
import Derived.Test.YtogiidkofddhaaaDoorBCheck
namespace Go.Proofs.YtogiidkofddhaaaDoor
open Go Go.RowKit Go.Shelf
set_option maxHeartbeats 4000000
set_option maxRecDepth 100000
theorem opt_none_P {b : BT} (hok : Okb b) {looks : Bool} {s : Nat} (hs : Dom b s) (h : opt b looks 1048576 1 s = none) : optP b looks s = none ∧ opt b looks 1 0 s = none := by
  refine ⟨by unfold optP; rw [h]; rfl, ?_⟩
  rw [turns_1.optE hok way_1 hs, h]; rfl
theorem opt_some_P {b : BT} (hok : Okb b) {looks : Bool} {s : Nat} (hs : Dom b s) {u : Int} (h : opt b looks 1048576 1 s = some u) : optP b looks s = some (decP u) ∧ opt b looks 1 0 s = some (decP u).1 := by
  refine ⟨by unfold optP; rw [h]; rfl, ?_⟩
  rw [turns_1.optE hok way_1 hs, h]; rfl
theorem places_in6 {b : BT} (hok : Okb b) : ∀ j, j < b.places.length → -1 ≤ at0 b.places j ∧ at0 b.places j ≤ 6 := fun j hj => by
  have := hok.pi _ (getD_mem b.places j 0 hj)
  have h5 := hok.n2
  unfold at0
  omega
theorem dom_ofL {b : BT} (hok : Okb b) {l : List Int} (hn : l ≠ []) (hi : ∀ p, p ∈ l → -1 ≤ p ∧ p ≤ b.n - 1) : Dom b (ofL l) := by
  have hn1 := hok.n1
  refine ⟨fun e => ?_, ofL_lt fun p hp => by have := hi p hp; omega⟩
  cases l with
  | nil => exact hn rfl
  | cons p l =>
    have := (ofL_bit (p :: l) (p + 1).toNat).2 ⟨p, by simp, rfl⟩
    rw [e] at this
    simp at this
theorem dom_places {b : BT} (hok : Okb b) : Dom b (ofL b.places) := dom_ofL hok hok.pn fun p hp => by have := hok.pi p hp; omega
noncomputable def optV (b : BT) (looks : Bool) (l : List Int) : Int := (opt b looks 1 0 (ofL l)).getD 0
noncomputable def optE (b : BT) (looks : Bool) (l : List Int) : Int := if (opt b looks 1 0 (ofL l)).isSome then 0 else 3
noncomputable def leastV (b : BT) (looks : Bool) : Int := if validT b then optV b looks b.places else 0
noncomputable def leastE (b : BT) (looks : Bool) : Int := if validT b then optE b looks b.places else 60
theorem least_bad {b : BT} {looks : Bool} (h : validT b = false) : leastV b looks = 0 ∧ leastE b looks = 60 := by unfold leastV leastE; rw [h]; exact ⟨rfl, rfl⟩
theorem optVE_none {b : BT} {looks : Bool} {l : List Int} (e : opt b looks 1 0 (ofL l) = none) : optV b looks l = 0 ∧ optE b looks l = 3 := by unfold optV optE; rw [e]; exact ⟨rfl, rfl⟩
theorem optVE_some {b : BT} {looks : Bool} {l : List Int} {v : Int} (e : opt b looks 1 0 (ofL l) = some v) : optV b looks l = v ∧ optE b looks l = 0 := by unfold optV optE; rw [e]; exact ⟨rfl, rfl⟩
theorem least_good {b : BT} {looks : Bool} (h : validT b = true) : leastV b looks = optV b looks b.places ∧ leastE b looks = optE b looks b.places := by unfold leastV leastE; rw [h]; exact ⟨rfl, rfl⟩
theorem rvI {x y x' y' : Int} (h1 : x' = x) (h2 : y' = y) : Ending.returned (.tuple #[.int .i64 x, .int .i64 y]) = .returned (.tuple #[.int .i64 x', .int .i64 y']) := by rw [h1, h2]
theorem Least_any (b : BT) (v : Value) (w : World) (hf : FarAt w) (hv : BTrapAt w v b) :
    Calls Tryd.prog 39 #[v] w fun e w' => e = .returned (.tuple #[.int .i64 (leastV b true), .int .i64 (leastE b true)]) ∧ Bel w w' := by
  have HV := Lib.hid hv
  have HC := Lib.hid (fun wx (hx : Bel w wx) => bCheck_any b v wx (hv.bel hx))
  obtain ⟨dv, sv, pv, rfl, hd, hs, hp⟩ := hv
  have HASK0 := Lib.hid (fun hval wx (hx : Bel w wx) => ask_none b hval dv sv pv true b.places pv wx (hf.bel hx) (HV.out.bel hx) (hp.bel hx) (places_in6 (okb_iff.1 hval)) (dom_places (okb_iff.1 hval)))
  have HASK1 := Lib.hid (fun hval wx (hx : Bel w wx) => ask_some b hval dv sv pv true b.places pv wx (hf.bel hx) (HV.out.bel hx) (hp.bel hx) (places_in6 (okb_iff.1 hval)) (dom_places (okb_iff.1 hval)))
  obtain ⟨pa, pc, pb, poff, rfl, _, ⟨hpl, _⟩, _⟩ := hp
  have hdv : ∃ da dn dc, dv = .slice da dn dc := by obtain ⟨da, dc, db, doff, rfl, _⟩ := hd; exact ⟨_, _, _, rfl⟩
  have hsv : ∃ sa sn sc, sv = .slice sa sn sc := by obtain ⟨sa, sc, sb, soff, rfl, _⟩ := hs; exact ⟨_, _, _, rfl⟩
  obtain ⟨da, dn, dc, rfl⟩ := hdv
  obtain ⟨sa, sn, sc, rfl⟩ := hsv
  have HBX := Lib.hid (fun wx hx => (BoxB.new (w := w) (b := b) (dv := .slice da dn dc) (sv := .slice sa sn sc) (pv := .slice pa b.places.length pc) (T := 25)).bel (w' := wx) hx)
  clear hd hs hf
  cases hval : validT b
  · obtain ⟨e1, e2⟩ := least_bad (looks := true) hval
    have E1 := Lib.hid e1
    have E2 := Lib.hid e2
    rw [chkT_false hval] at HC
    clear hval e1 e2
    go_enter Tryd.func39, Tryd.ntmps39
    go_wp2_with (go_at_call 54; refine (HC.out _ (by repeat (first | assumption | exact Bel.refl _ | refine Bel.drew ?_ | refine Bel.drewN ?_ _ | refine Bel.alloc ?_ _ | refine Bel.setCell ?_ (by simp <;> omega) _ | refine Bel.trans ?_ (by assumption)))).mono ?_; rintro e w1 ⟨rfl, hb⟩)
    exact bodyPost_ret (v := .tuple #[.int .i64 0, .int .i64 60]) (by simp [results, Tryd.results39, go_sem, *]) rfl ⟨rvI E1.out E2.out, Bel.trans (by repeat (first | assumption | exact Bel.refl _ | refine Bel.drew ?_ | refine Bel.drewN ?_ _ | refine Bel.alloc ?_ _ | refine Bel.setCell ?_ (by simp <;> omega) _ | refine Bel.trans ?_ (by assumption))) hb⟩
  obtain ⟨e1, e2⟩ := least_good (looks := true) hval
  rw [chkT_true hval] at HC
  have hok := okb_iff.1 hval
  cases ho : opt b true 1048576 1 (ofL b.places) with
  | none =>
    obtain ⟨o1, o2⟩ := opt_none_P hok (dom_places hok) ho
    obtain ⟨o3, o4⟩ := optVE_none o2
    have E1 := Lib.hid (e1.trans o3)
    have E2 := Lib.hid (e2.trans o4)
    have HASK := Lib.hid (fun wx hx => HASK0.out hval wx hx o1)
    clear hval e1 e2 ho o1 o2 o3 o4 hok HASK0 HASK1
    go_enter Tryd.func39, Tryd.ntmps39
    go_wp2_with (first
      | (go_at_call 54; refine (HC.out _ (by repeat (first | assumption | exact Bel.refl _ | refine Bel.drew ?_ | refine Bel.drewN ?_ _ | refine Bel.alloc ?_ _ | refine Bel.setCell ?_ (by simp <;> omega) _ | refine Bel.trans ?_ (by assumption)))).mono ?_; rintro e w1 ⟨rfl, hb⟩; have y := HBX.out _ hb; obtain ⟨x0, x1, x2, x3, x4, x5⟩ := y; have l0 := cell_lt x0; have HB1 := Lib.hid (show Bel w w1 from Bel.trans (by repeat (first | assumption | exact Bel.refl _ | refine Bel.drew ?_ | refine Bel.drewN ?_ _ | refine Bel.alloc ?_ _ | refine Bel.setCell ?_ (by simp <;> omega) _ | refine Bel.trans ?_ (by assumption))) hb); clear hb)
      | (go_at_call 64; refine (HASK.out _ HB1.out).mono ?_; rintro e w2 ⟨rfl, hb2⟩; have HB2 := Lib.hid (HB1.out.trans hb2); clear hb2))
    exact bodyPost_ret (v := .tuple #[.int .i64 0, .int .i64 3]) (by simp [results, Tryd.results39, go_sem, *]) rfl ⟨rvI E1.out E2.out, Bel.alloc HB2.out _⟩
  | some u =>
    obtain ⟨o1, o2⟩ := opt_some_P hok (dom_places hok) ho
    obtain ⟨o3, o4⟩ := optVE_some o2
    have E1 := Lib.hid (e1.trans o3)
    have E2 := Lib.hid (e2.trans o4)
    generalize decP u = p at *
    have HASK := Lib.hid (fun wx hx => HASK1.out hval wx hx p o1)
    clear hval e1 e2 ho o1 o2 o3 o4 hok HASK0 HASK1
    go_enter Tryd.func39, Tryd.ntmps39
    go_wp2_with (first
      | (go_at_call 54; refine (HC.out _ (by repeat (first | assumption | exact Bel.refl _ | refine Bel.drew ?_ | refine Bel.drewN ?_ _ | refine Bel.alloc ?_ _ | refine Bel.setCell ?_ (by simp <;> omega) _ | refine Bel.trans ?_ (by assumption)))).mono ?_; rintro e w1 ⟨rfl, hb⟩; have y := HBX.out _ hb; obtain ⟨x0, x1, x2, x3, x4, x5⟩ := y; have l0 := cell_lt x0; have HB1 := Lib.hid (show Bel w w1 from Bel.trans (by repeat (first | assumption | exact Bel.refl _ | refine Bel.drew ?_ | refine Bel.drewN ?_ _ | refine Bel.alloc ?_ _ | refine Bel.setCell ?_ (by simp <;> omega) _ | refine Bel.trans ?_ (by assumption))) hb); clear hb)
      | (go_at_call 64; refine (HASK.out _ HB1.out).mono ?_; rintro e w2 ⟨hb, mb, pr, rfl, _, _, _, _, hb2⟩; have HB2 := Lib.hid (HB1.out.trans hb2); clear hb2))
    exact bodyPost_ret (v := .tuple #[.int .i64 p.1, .int .i64 0]) (by simp [results, Tryd.results39, go_sem, *]) rfl ⟨rvI E1.out E2.out, Bel.alloc HB2.out _⟩
theorem Blind_any (b : BT) (v : Value) (w : World) (hf : FarAt w) (hv : BTrapAt w v b) :
    Calls Tryd.prog 46 #[v] w fun e w' => e = .returned (.tuple #[.int .i64 (leastV b false), .int .i64 (leastE b false)]) ∧ Bel w w' := by
  have HV := Lib.hid hv
  have HC := Lib.hid (fun wx (hx : Bel w wx) => bCheck_any b v wx (hv.bel hx))
  obtain ⟨dv, sv, pv, rfl, hd, hs, hp⟩ := hv
  have HASK0 := Lib.hid (fun hval wx (hx : Bel w wx) => ask_none b hval dv sv pv false b.places pv wx (hf.bel hx) (HV.out.bel hx) (hp.bel hx) (places_in6 (okb_iff.1 hval)) (dom_places (okb_iff.1 hval)))
  have HASK1 := Lib.hid (fun hval wx (hx : Bel w wx) => ask_some b hval dv sv pv false b.places pv wx (hf.bel hx) (HV.out.bel hx) (hp.bel hx) (places_in6 (okb_iff.1 hval)) (dom_places (okb_iff.1 hval)))
  obtain ⟨pa, pc, pb, poff, rfl, _, ⟨hpl, _⟩, _⟩ := hp
  have hdv : ∃ da dn dc, dv = .slice da dn dc := by obtain ⟨da, dc, db, doff, rfl, _⟩ := hd; exact ⟨_, _, _, rfl⟩
  have hsv : ∃ sa sn sc, sv = .slice sa sn sc := by obtain ⟨sa, sc, sb, soff, rfl, _⟩ := hs; exact ⟨_, _, _, rfl⟩
  obtain ⟨da, dn, dc, rfl⟩ := hdv
  obtain ⟨sa, sn, sc, rfl⟩ := hsv
  have HBX := Lib.hid (fun wx hx => (BoxB.new (w := w) (b := b) (dv := .slice da dn dc) (sv := .slice sa sn sc) (pv := .slice pa b.places.length pc) (T := 25)).bel (w' := wx) hx)
  clear hd hs hf
  cases hval : validT b
  · obtain ⟨e1, e2⟩ := least_bad (looks := false) hval
    have E1 := Lib.hid e1
    have E2 := Lib.hid e2
    rw [chkT_false hval] at HC
    clear hval e1 e2
    go_enter Tryd.func46, Tryd.ntmps46
    go_wp2_with (go_at_call 54; refine (HC.out _ (by repeat (first | assumption | exact Bel.refl _ | refine Bel.drew ?_ | refine Bel.drewN ?_ _ | refine Bel.alloc ?_ _ | refine Bel.setCell ?_ (by simp <;> omega) _ | refine Bel.trans ?_ (by assumption)))).mono ?_; rintro e w1 ⟨rfl, hb⟩)
    exact bodyPost_ret (v := .tuple #[.int .i64 0, .int .i64 60]) (by simp [results, Tryd.results46, go_sem, *]) rfl ⟨rvI E1.out E2.out, Bel.trans (by repeat (first | assumption | exact Bel.refl _ | refine Bel.drew ?_ | refine Bel.drewN ?_ _ | refine Bel.alloc ?_ _ | refine Bel.setCell ?_ (by simp <;> omega) _ | refine Bel.trans ?_ (by assumption))) hb⟩
  obtain ⟨e1, e2⟩ := least_good (looks := false) hval
  rw [chkT_true hval] at HC
  have hok := okb_iff.1 hval
  cases ho : opt b false 1048576 1 (ofL b.places) with
  | none =>
    obtain ⟨o1, o2⟩ := opt_none_P hok (dom_places hok) ho
    obtain ⟨o3, o4⟩ := optVE_none o2
    have E1 := Lib.hid (e1.trans o3)
    have E2 := Lib.hid (e2.trans o4)
    have HASK := Lib.hid (fun wx hx => HASK0.out hval wx hx o1)
    clear hval e1 e2 ho o1 o2 o3 o4 hok HASK0 HASK1
    go_enter Tryd.func46, Tryd.ntmps46
    go_wp2_with (first
      | (go_at_call 54; refine (HC.out _ (by repeat (first | assumption | exact Bel.refl _ | refine Bel.drew ?_ | refine Bel.drewN ?_ _ | refine Bel.alloc ?_ _ | refine Bel.setCell ?_ (by simp <;> omega) _ | refine Bel.trans ?_ (by assumption)))).mono ?_; rintro e w1 ⟨rfl, hb⟩; have y := HBX.out _ hb; obtain ⟨x0, x1, x2, x3, x4, x5⟩ := y; have l0 := cell_lt x0; have HB1 := Lib.hid (show Bel w w1 from Bel.trans (by repeat (first | assumption | exact Bel.refl _ | refine Bel.drew ?_ | refine Bel.drewN ?_ _ | refine Bel.alloc ?_ _ | refine Bel.setCell ?_ (by simp <;> omega) _ | refine Bel.trans ?_ (by assumption))) hb); clear hb)
      | (go_at_call 64; refine (HASK.out _ HB1.out).mono ?_; rintro e w2 ⟨rfl, hb2⟩; have HB2 := Lib.hid (HB1.out.trans hb2); clear hb2))
    exact bodyPost_ret (v := .tuple #[.int .i64 0, .int .i64 3]) (by simp [results, Tryd.results46, go_sem, *]) rfl ⟨rvI E1.out E2.out, Bel.alloc HB2.out _⟩
  | some u =>
    obtain ⟨o1, o2⟩ := opt_some_P hok (dom_places hok) ho
    obtain ⟨o3, o4⟩ := optVE_some o2
    have E1 := Lib.hid (e1.trans o3)
    have E2 := Lib.hid (e2.trans o4)
    generalize decP u = p at *
    have HASK := Lib.hid (fun wx hx => HASK1.out hval wx hx p o1)
    clear hval e1 e2 ho o1 o2 o3 o4 hok HASK0 HASK1
    go_enter Tryd.func46, Tryd.ntmps46
    go_wp2_with (first
      | (go_at_call 54; refine (HC.out _ (by repeat (first | assumption | exact Bel.refl _ | refine Bel.drew ?_ | refine Bel.drewN ?_ _ | refine Bel.alloc ?_ _ | refine Bel.setCell ?_ (by simp <;> omega) _ | refine Bel.trans ?_ (by assumption)))).mono ?_; rintro e w1 ⟨rfl, hb⟩; have y := HBX.out _ hb; obtain ⟨x0, x1, x2, x3, x4, x5⟩ := y; have l0 := cell_lt x0; have HB1 := Lib.hid (show Bel w w1 from Bel.trans (by repeat (first | assumption | exact Bel.refl _ | refine Bel.drew ?_ | refine Bel.drewN ?_ _ | refine Bel.alloc ?_ _ | refine Bel.setCell ?_ (by simp <;> omega) _ | refine Bel.trans ?_ (by assumption))) hb); clear hb)
      | (go_at_call 64; refine (HASK.out _ HB1.out).mono ?_; rintro e w2 ⟨hb, mb, pr, rfl, _, _, _, _, hb2⟩; have HB2 := Lib.hid (HB1.out.trans hb2); clear hb2))
    exact bodyPost_ret (v := .tuple #[.int .i64 p.1, .int .i64 0]) (by simp [results, Tryd.results46, go_sem, *]) rfl ⟨rvI E1.out E2.out, Bel.alloc HB2.out _⟩
end Go.Proofs.YtogiidkofddhaaaDoor
