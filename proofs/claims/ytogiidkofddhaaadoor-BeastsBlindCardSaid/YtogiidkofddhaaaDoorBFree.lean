/-
  beasts: Free.
-/
import Derived.Test.YtogiidkofddhaaaDoorBTrap
import Derived.Test.YtogiidkofddhaaaDoorBClone
namespace Go.Proofs.YtogiidkofddhaaaDoor
open Go Go.RowKit Go.Shelf
set_option maxHeartbeats 4000000
set_option maxRecDepth 100000
/-- The trap with a door that costs nothing. -/
def freeB (b : BT) (i : Nat) : BT := { b with doors := b.doors.set i ⟨(atD b.doors i).a, (atD b.doors i).b, 0⟩ }
noncomputable def freeV (b : BT) (d : Int) : Int := if validT b then (if isDoorB b d then (if (opt b true 1 0 (ofL b.places)).isSome then leastV b true - leastV (freeB b d.toNat) true else 0) else 0) else 0
noncomputable def freeE (b : BT) (d : Int) : Int := if validT b then (if isDoorB b d then leastE b true else 1) else 60
theorem leastV_in {b : BT} {looks : Bool} : 0 ≤ leastV b looks ∧ leastV b looks ≤ 1856 := by
  unfold leastV
  cases hval : validT b
  · show (0 : Int) ≤ 0 ∧ (0 : Int) ≤ 1856; omega
  · have hok := okb_iff.1 hval
    show 0 ≤ optV b looks b.places ∧ optV b looks b.places ≤ 1856
    unfold optV
    cases ho : opt b looks 1 0 (ofL b.places) with
    | none => show (0 : Int) ≤ 0 ∧ (0 : Int) ≤ 1856; omega
    | some v => exact opt_1856 hok (dom_places hok) ho
theorem freeB_at {b : BT} {i j : Nat} (hi : i < b.doors.length) : atD (freeB b i).doors j = if j = i then ⟨(atD b.doors i).a, (atD b.doors i).b, 0⟩ else atD b.doors j := by
  unfold freeB atD
  simp only []
  by_cases e : j = i
  · rw [if_pos e, e]; simp [List.getD, hi]
  · rw [if_neg e]; simp only [List.getD, List.getElem?_set]; rw [if_neg (fun q => e q.symm)]
theorem Free_any (b : BT) (v : Value) (d : Int) (w : World) (hf : FarAt w) (hv : BTrapAt w v b) :
    Calls Tryd.prog 49 #[v, .int .i64 d] w fun e w' => e = .returned (.tuple #[.int .i64 (freeV b d), .int .i64 (freeE b d)]) ∧ Bel w w' := by
  have HV := Lib.hid hv
  have HC := Lib.hid (fun wx (hx : Bel w wx) => bCheck_any b v wx (hv.bel hx))
  obtain ⟨dv, sv, pv, rfl, hd, hs, hp⟩ := hv
  have HL := Lib.hid (fun b' v' wx (hx : Bel w wx) hb => Least_any b' v' wx (hf.bel hx) hb)
  have HIS := Lib.hid (fun wx (hx : Bel w wx) => isDoor_any b d _ wx (HV.out.bel hx))
  have HS := Lib.hid hs
  have HP := Lib.hid hp
  have HCL := Lib.hid (fun h0 h8 wx (hx : Bel w wx) => Clone_any dv b.doors wx (hd.bel hx) h0 h8)
  have hdl : ∃ a c, dv = .slice a b.doors.length c := by obtain ⟨da, dc, _, _, rfl, _⟩ := hd; exact ⟨_, _, rfl⟩
  obtain ⟨da0, dc0, rfl⟩ := hdl
  obtain ⟨pa, pc, pb, poff, rfl, _, ⟨hpl, _⟩, _⟩ := hp
  have hsv : ∃ sa sn sc, sv = .slice sa sn sc := by obtain ⟨sa, sc, sb, soff, rfl, _⟩ := hs; exact ⟨_, _, _, rfl⟩
  obtain ⟨sa, sn, sc, rfl⟩ := hsv
  have HBX := Lib.hid (fun wx hx => (BoxB.new (w := w) (b := b) (dv := .slice da0 b.doors.length dc0) (sv := .slice sa sn sc) (pv := .slice pa b.places.length pc) (T := 25)).bel (w' := wx) hx)
  clear hd hs hf
  cases hval : validT b
  · have E1 := Lib.hid (show freeV b d = 0 by unfold freeV; rw [hval]; rfl)
    have E2 := Lib.hid (show freeE b d = 60 by unfold freeE; rw [hval]; rfl)
    rw [chkT_false hval] at HC
    clear hval
    go_enter Tryd.func49, Tryd.ntmps49
    go_wp2_with (go_at_call 54; refine (HC.out _ (by repeat (first | assumption | exact Bel.refl _ | refine Bel.drew ?_ | refine Bel.drewN ?_ _ | refine Bel.alloc ?_ _ | refine Bel.setCell ?_ (by simp <;> omega) _ | refine Bel.trans ?_ (by assumption)))).mono ?_; rintro e w1 ⟨rfl, hb⟩)
    exact bodyPost_ret (v := .tuple #[.int .i64 0, .int .i64 60]) (by simp [results, Tryd.results49, go_sem, *]) rfl ⟨rvI E1.out E2.out, Bel.trans (by repeat (first | assumption | exact Bel.refl _ | refine Bel.drew ?_ | refine Bel.drewN ?_ _ | refine Bel.alloc ?_ _ | refine Bel.setCell ?_ (by simp <;> omega) _ | refine Bel.trans ?_ (by assumption))) hb⟩
  rw [chkT_true hval] at HC
  have hok := okb_iff.1 hval
  cases hin : isDoorB b d
  · have E1 := Lib.hid (show freeV b d = 0 by unfold freeV; rw [hval, hin]; rfl)
    have E2 := Lib.hid (show freeE b d = 1 by unfold freeE; rw [hval, hin]; rfl)
    rw [hin] at HIS
    clear hval hin hok
    go_enter Tryd.func49, Tryd.ntmps49
    go_wp2_with (first
      | (go_at_call 54; refine (HC.out _ (by repeat (first | assumption | exact Bel.refl _ | refine Bel.drew ?_ | refine Bel.drewN ?_ _ | refine Bel.alloc ?_ _ | refine Bel.setCell ?_ (by simp <;> omega) _ | refine Bel.trans ?_ (by assumption)))).mono ?_; rintro e w1 ⟨rfl, hb⟩; have HBB := Lib.hid hb; have y := HBX.out _ hb; obtain ⟨x0, x1, x2, x3, x4, x5⟩ := y; have l0 := cell_lt x0; have HB1 := Lib.hid (show Bel w w1 from Bel.trans (by repeat (first | assumption | exact Bel.refl _ | refine Bel.drew ?_ | refine Bel.drewN ?_ _ | refine Bel.alloc ?_ _ | refine Bel.setCell ?_ (by simp <;> omega) _ | refine Bel.trans ?_ (by assumption))) hb); clear hb)
      | (go_at_call 75; refine (HIS.out _ HB1.out).mono ?_; rintro e w3 ⟨rfl, hb3⟩; replace x0 := hb3.cell x0; replace x1 := hb3.cell x1; replace x2 := hb3.cell x2; replace x3 := hb3.cell x3; replace x4 := hb3.cell x4; replace x5 := hb3.cell x5; have l0 := cell_lt x0; have HBB3 := Lib.hid (HBB.out.trans hb3); have HB3 := Lib.hid (HB1.out.trans hb3); clear hb3))
    exact bodyPost_ret (v := .tuple #[.int .i64 0, .int .i64 1]) (by simp [results, Tryd.results49, go_sem, *]) rfl ⟨rvI E1.out E2.out, HB3.out⟩
  rw [hin] at HIS
  cases ho : opt b true 1 0 (ofL b.places) with
  | none =>
    obtain ⟨o3, o4⟩ := optVE_none ho
    obtain ⟨e1, e2⟩ := least_good (looks := true) hval
    have E1 := Lib.hid (show freeV b d = 0 by unfold freeV; rw [hval, hin, ho]; rfl)
    have E2 := Lib.hid (show freeE b d = 3 by unfold freeE; rw [hval, hin]; show leastE b true = 3; rw [e2, o4])
    have HL1 := Lib.hid (fun wx (hx : Bel w wx) => HL.out b _ wx hx (HV.out.bel hx))
    rw [e1, e2, o3, o4] at HL1
    clear hval hin hok ho o3 o4 e1 e2
    go_enter Tryd.func49, Tryd.ntmps49
    go_wp2_with (first
      | (go_at_call 54; refine (HC.out _ (by repeat (first | assumption | exact Bel.refl _ | refine Bel.drew ?_ | refine Bel.drewN ?_ _ | refine Bel.alloc ?_ _ | refine Bel.setCell ?_ (by simp <;> omega) _ | refine Bel.trans ?_ (by assumption)))).mono ?_; rintro e w1 ⟨rfl, hb⟩; have HBB := Lib.hid hb; have y := HBX.out _ hb; obtain ⟨x0, x1, x2, x3, x4, x5⟩ := y; have l0 := cell_lt x0; have HB1 := Lib.hid (show Bel w w1 from Bel.trans (by repeat (first | assumption | exact Bel.refl _ | refine Bel.drew ?_ | refine Bel.drewN ?_ _ | refine Bel.alloc ?_ _ | refine Bel.setCell ?_ (by simp <;> omega) _ | refine Bel.trans ?_ (by assumption))) hb); clear hb)
      | (go_at_call 75; refine (HIS.out _ HB1.out).mono ?_; rintro e w3 ⟨rfl, hb3⟩; replace x0 := hb3.cell x0; replace x1 := hb3.cell x1; replace x2 := hb3.cell x2; replace x3 := hb3.cell x3; replace x4 := hb3.cell x4; replace x5 := hb3.cell x5; have l0 := cell_lt x0; have HBB3 := Lib.hid (HBB.out.trans hb3); have HB3 := Lib.hid (HB1.out.trans hb3); clear hb3)
      | (go_at_call 39; refine (HL1.out _ HB3.out).mono ?_; rintro e w4 ⟨rfl, hb4⟩; replace x0 := hb4.cell x0; replace x1 := hb4.cell x1; replace x2 := hb4.cell x2; replace x3 := hb4.cell x3; replace x4 := hb4.cell x4; replace x5 := hb4.cell x5; have l0 := cell_lt x0; have FX := Lib.hid (((HBB3.out.trans hb4).frozens ⟨w.heap.size, 1, none⟩ (by simp)).trans ((row_facts (new_row rfl)).2 1)); have HB4 := Lib.hid (HB3.out.trans hb4); clear hb4))
    exact bodyPost_ret (v := .tuple #[.int .i64 0, .int .i64 3]) (by simp [results, Tryd.results49, go_sem, *]) rfl ⟨rvI E1.out E2.out, HB4.out⟩
  | some u =>
    obtain ⟨o3, o4⟩ := optVE_some ho
    obtain ⟨e1, e2⟩ := least_good (looks := true) hval
    have hdd := withinB_true.1 (show withinB d 0 ((b.doors.length : Int) - 1) = true from hin)
    obtain ⟨i, rfl⟩ : ∃ i : Nat, d = (i : Int) := ⟨d.toNat, by omega⟩
    have hi : i < b.doors.length := by omega
    have E1 := Lib.hid (show freeV b (i : Int) = leastV b true - leastV (freeB b i) true by unfold freeV; rw [hval, hin, ho]; rfl)
    have E2 := Lib.hid (show freeE b (i : Int) = 0 by unfold freeE; rw [hval, hin]; show leastE b true = 0; rw [e2, o4])
    have HL1 := Lib.hid (fun wx (hx : Bel w wx) => HL.out b _ wx hx (HV.out.bel hx))
    rw [e2, o4] at HL1
    have HCN := Lib.hid (fun wx hx => HCL.out (by omega) hok.dl wx hx)
    obtain ⟨v0, v1⟩ := leastV_in (b := b) (looks := true)
    obtain ⟨v2, v3⟩ := leastV_in (b := freeB b i) (looks := true)
    have hd8 := hok.dl
    clear hval hin hok ho o3 o4 e1 e2 hdd HCL
    generalize leastV b true = n1 at *
    go_enter Tryd.func49, Tryd.ntmps49
    go_wp2_with (first
      | (go_at_call 54; refine (HC.out _ (by repeat (first | assumption | exact Bel.refl _ | refine Bel.drew ?_ | refine Bel.drewN ?_ _ | refine Bel.alloc ?_ _ | refine Bel.setCell ?_ (by simp <;> omega) _ | refine Bel.trans ?_ (by assumption)))).mono ?_; rintro e w1 ⟨rfl, hb⟩; have HBB := Lib.hid hb; have y := HBX.out _ hb; obtain ⟨x0, x1, x2, x3, x4, x5⟩ := y; have l0 := cell_lt x0; have HB1 := Lib.hid (show Bel w w1 from Bel.trans (by repeat (first | assumption | exact Bel.refl _ | refine Bel.drew ?_ | refine Bel.drewN ?_ _ | refine Bel.alloc ?_ _ | refine Bel.setCell ?_ (by simp <;> omega) _ | refine Bel.trans ?_ (by assumption))) hb); clear hb)
      | (go_at_call 75; refine (HIS.out _ HB1.out).mono ?_; rintro e w3 ⟨rfl, hb3⟩; replace x0 := hb3.cell x0; replace x1 := hb3.cell x1; replace x2 := hb3.cell x2; replace x3 := hb3.cell x3; replace x4 := hb3.cell x4; replace x5 := hb3.cell x5; have l0 := cell_lt x0; have HBB3 := Lib.hid (HBB.out.trans hb3); have HB3 := Lib.hid (HB1.out.trans hb3); clear hb3)
      | (go_at_call 39; refine (HL1.out _ HB3.out).mono ?_; rintro e w4 ⟨rfl, hb4⟩; replace x0 := hb4.cell x0; replace x1 := hb4.cell x1; replace x2 := hb4.cell x2; replace x3 := hb4.cell x3; replace x4 := hb4.cell x4; replace x5 := hb4.cell x5; have l0 := cell_lt x0; have FX := Lib.hid (((HBB3.out.trans hb4).frozens ⟨w.heap.size, 1, none⟩ (by simp)).trans ((row_facts (new_row rfl)).2 1)); have HB4 := Lib.hid (HB3.out.trans hb4); clear hb4)
      | (go_at_call 93
         refine (HCN.out _ HB4.out).mono ?_
         rintro e w5 ⟨g, cap, rfl, hown, hb5⟩
         have hix := fun wz => idxDoors (a := some ⟨g, 0, none⟩) (n := b.doors.length) (c := cap) (b := g) (off := 0) (fun _ => rfl) wz i hi
         simp only [Nat.zero_add] at hix
         have hge := hown.ge
         obtain ⟨d0, d1, d2⟩ := hown.cells i hi
         have f2 := hown.froz (i * 3 + 2)
         have l44 : w.heap.size < w4.heap.size := cell_lt x0
         replace x0 := hb5.cell x0
         replace x1 := hb5.cell x1
         replace x2 := hb5.cell x2
         replace x3 := hb5.cell x3
         replace x4 := hb5.cell x4
         replace x5 := hb5.cell x5
         have hne1 : w.heap.size ≠ g := by omega
         have hne2 : g ≠ w.heap.size := by omega
         have fx : w5.frozen? ⟨w.heap.size, 1, none⟩ = false := (hb5.frozens ⟨w.heap.size, 1, none⟩ (by show w.heap.size < _; omega)).trans FX.out
         have HO := Lib.hid hown
         have HB5 := Lib.hid (HB4.out.trans hb5)
         clear hb5 hown l0 HL1 HCN))
    obtain ⟨W8, hW8⟩ : ∃ W8, W8 = (w5.setCell ⟨w.heap.size, 1, none⟩ (.slice (some ⟨g, 0, none⟩) b.doors.length cap)).setCell ⟨g, i * 3 + 2, none⟩ (.int .i64 0) := ⟨_, rfl⟩
    rw [← hW8]
    have hB8 : Bel w W8 := by rw [hW8]; exact (HB5.out.setCell (p := ⟨w.heap.size, 1, none⟩) (Nat.le_refl _) _).setCell (p := ⟨g, i * 3 + 2, none⟩) (by show _ ≤ g; omega) _
    have hot : ∀ o x, o ≠ i * 3 + 2 → w5.cell? ⟨g, o, none⟩ = some x → W8.cell? ⟨g, o, none⟩ = some x := fun o x ho hx => by
      rw [hW8, World.cell?_setCell_other _ _ _ _ (by intro q; injection q; omega), World.cell?_setCell_other _ _ _ _ (by intro q; injection q; omega)]
      exact hx
    have hsame : W8.cell? ⟨g, i * 3 + 2, none⟩ = some (.int .i64 0) := by
      rw [hW8]
      exact World.cell?_setCell_same _ _ _ (by rw [World.cell?_setCell_other _ _ _ _ (by intro q; injection q; omega), d2])
    have hlen : (freeB b i).doors.length = b.doors.length := by unfold freeB; simp
    have hdo : DoorsAt W8 (.slice (some ⟨g, 0, none⟩) b.doors.length cap) (freeB b i).doors := by
      refine ⟨some ⟨g, 0, none⟩, cap, g, 0, by rw [hlen], fun _ => rfl, ⟨by omega, by rw [hlen]; exact HO.out.cap⟩, fun j hj => ?_⟩
      rw [hlen] at hj
      obtain ⟨c0, c1, c2⟩ := HO.out.cells j hj
      rw [freeB_at hi, Nat.zero_add]
      by_cases e : j = i
      · rw [if_pos e, e]
        rw [e] at c0 c1
        exact ⟨hot _ _ (by omega) c0, hot _ _ (by omega) c1, hsame⟩
      · rw [if_neg e]
        exact ⟨hot _ _ (by omega) c0, hot _ _ (by omega) c1, hot _ _ (by omega) c2⟩
    have hbt : BTrapAt W8 (.agg #[.int .i64 b.n, .slice (some ⟨g, 0, none⟩) b.doors.length cap, .slice sa sn sc, .int .i64 b.look, .int .i64 b.eats, .slice pa b.places.length pc]) (freeB b i) := ⟨_, _, _, rfl, hdo, HS.out.bel hB8, HP.out.bel hB8⟩
    have HLF := Lib.hid (HL.out (freeB b i) _ W8 hB8 hbt)
    have HB8 := Lib.hid hB8
    clear hW8 hB8 hot hsame hlen hdo hbt x0 x1 x2 x3 x4 x5 d0 d1 d2 f2 fx hix
    generalize leastV (freeB b i) true = n2 at *
    have hw : IntKind.i64.wrap (n1 - n2) = n1 - n2 := IntWalk.i64_in _ (by omega)
    refine HLF.out.mono ?_
    rintro e w9 ⟨rfl, hb9⟩
    have HB9 := Lib.hid (HB8.out.trans hb9)
    clear hb9 HLF
    go_wp2
    exact bodyPost_ret (v := .tuple #[.int .i64 (n1 - n2), .int .i64 0]) (by simp [results, Tryd.results49, go_sem]) rfl ⟨rvI E1.out E2.out, HB9.out⟩
end Go.Proofs.YtogiidkofddhaaaDoor
