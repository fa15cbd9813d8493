/-
  beasts: ask: a hunt of a trap, if there is a plan for some places.
-/
import Derived.Test.YtogiidkofddhaaaDoorBNext
import Derived.Test.YtogiidkofddhaaaDoorBMove3
namespace Go.Proofs.YtogiidkofddhaaaDoor
open Go Go.RowKit Go.Shelf
set_option maxHeartbeats 4000000
set_option maxRecDepth 100000
def decP (v : Int) : Int × Int := (v / 1048576, v % 1048576)
/-- The price of a belief. -/
noncomputable def optP (b : BT) (looks : Bool) (s : Nat) : Option (Int × Int) := (opt b looks 1048576 1 s).map decP
theorem pr_opt {b : BT} (hok : Okb b) {looks : Bool} {pr : PrT} (hi : InvP b looks pr) (hfx : Fix b looks 1048576 1 (encV pr)) {s : Nat} (hs : Dom b s) : pr s = optP b looks s := by
  have e := hfx.eq hok way_K hs
  unfold optP
  rw [← e]
  unfold encV
  cases h : pr s with
  | none => rfl
  | some p =>
    obtain ⟨h1, h2, h3⟩ := hi.small h
    simp only [Option.map_some]
    unfold decP enc
    have e1 : (p.1 * 1048576 + p.2) / 1048576 = p.1 := by omega
    have e2 : (p.1 * 1048576 + p.2) % 1048576 = p.2 := by omega
    rw [e1, e2]
/-- What ask gives if there is a plan. -/
def AskOk (b : BT) (dv sv pv : Value) (looks : Bool) (p : Int × Int) (w : World) (e : Ending) (w' : World) : Prop := ∃ hb mb pr, e = .returned (.tuple #[.pointer (some ⟨hb, 0, none⟩), .agg #[.int .i64 p.1, .int .i64 p.2], .int .i64 0]) ∧ HuntAt w' hb mb b dv sv pv looks ∧ MapP w' mb pr ∧ InvP b looks pr ∧ Fix b looks 1048576 1 (encV pr) ∧ Bel w w'
theorem ask_none (b : BT) (hval : validT b = true) (dv sv pv : Value) (looks : Bool) (pl : List Int) (pv2 : Value) (w : World) (hf : FarAt w) (hv : BTrapAt w (.agg #[.int .i64 b.n, dv, sv, .int .i64 b.look, .int .i64 b.eats, pv]) b) (hp : IntsAt w pv2 pl)
    (hin : ∀ j, j < pl.length → -1 ≤ at0 pl j ∧ at0 pl j ≤ 6) (hd : Dom b (ofL pl)) (ho : optP b looks (ofL pl) = none) :
    Calls Tryd.prog 64 #[.agg #[.int .i64 b.n, dv, sv, .int .i64 b.look, .int .i64 b.eats, pv], .bool looks, pv2] w fun e w' => e = .returned (.tuple #[.pointer none, .agg #[.int .i64 1073741824, .int .i64 1073741824], .int .i64 3]) ∧ Bel w w' := by
  have hok := okb_iff.1 hval
  have HF := Lib.hid hf
  have HV := Lib.hid hv
  have HSTART := Lib.hid (fun wx (hx : Bel w wx) => start_any b hval dv sv pv looks wx (hf.bel hx) (hv.bel hx))
  have HOFF := Lib.hid (fun wx (hx : Bel w wx) => of_any pv2 pl wx (hp.bel hx) hin)
  have HD := Lib.hid hd
  have HN := Lib.hid ho
  have l0 := cell_lt hf.1
  have f0 := hf.1
  have f1 := hf.2
  clear hf hv hp hin hd ho
  generalize ofL pl = S at *
  go_enter Tryd.func64, Tryd.ntmps64
  go_wp2_with (first
    | (go_at_call 88
       refine (HSTART.out _ (by repeat (first | assumption | exact Bel.refl _ | refine Bel.drew ?_ | refine Bel.drewN ?_ _ | refine Bel.alloc ?_ _ | refine Bel.setCell ?_ (by simp <;> omega) _ | refine Bel.trans ?_ (by assumption)))).mono ?_
       rintro e w1 ⟨hb, mb, pr, rfl, g1, g2, hh, hm, hi, hx, hbw⟩
       have hz := hbw.szle
       simp only [World.size_alloc] at hz
       have k70 : w1.cell? ⟨w.heap.size + 1, 0, none⟩ = some (.int .i64 0) := (hbw.cells ⟨w.heap.size + 1, 0, none⟩ (by simp)).trans (by simp)
       have k71 : w1.cell? ⟨w.heap.size + 1, 1, none⟩ = some (.int .i64 0) := (hbw.cells ⟨w.heap.size + 1, 1, none⟩ (by simp)).trans (by simp)
       have q70 : w1.frozen? ⟨w.heap.size + 1, 0, none⟩ = false := (hbw.frozens ⟨w.heap.size + 1, 0, none⟩ (by simp)).trans (by simp)
       have q71 : w1.frozen? ⟨w.heap.size + 1, 1, none⟩ = false := (hbw.frozens ⟨w.heap.size + 1, 1, none⟩ (by simp)).trans (by simp)
       have HOP := Lib.hid (pr_opt hok hi hx HD.out)
       have HH := Lib.hid hh
       have HM := Lib.hid hm
       have HI := Lib.hid hi
       have HX := Lib.hid hx
       have HB1 := Lib.hid (show Bel w w1 from Bel.trans (by repeat (first | assumption | exact Bel.refl _ | refine Bel.drew ?_ | refine Bel.drewN ?_ _ | refine Bel.alloc ?_ _ | refine Bel.setCell ?_ (by simp <;> omega) _ | refine Bel.trans ?_ (by assumption))) hbw)
       have hopn : ofP pr S = (1073741824, 1073741824) := by unfold ofP; rw [HOP.out, HN.out]; rfl
       have HOF := Lib.hid (fun wx (hx : Bel w1 wx) => (hof_any hb mb S b dv sv pv looks pr wx (HF.out.bel (HB1.out.trans hx)) (HH.out.bel hx) (HM.out.bel hx)).mono (R' := fun e w' => e = .returned (.agg #[.int .i64 1073741824, .int .i64 1073741824]) ∧ Bel wx w') (fun e w' h => ⟨by rw [h.1, hopn], h.2⟩))
       clear hopn
       clear hh hm hi hx hbw)
    | (go_at_call 65
       refine (HOFF.out _ HB1.out).mono ?_
       rintro e w2 ⟨rfl, hb2⟩
       have HB2 := Lib.hid hb2
       clear hb2)
    | (go_at_call 89
       refine (HOF.out _ HB2.out).mono ?_
       rintro e w3 ⟨rfl, hb3⟩
       have hb13 := HB2.out.trans hb3
       replace k70 := hb13.cell k70
       replace k71 := hb13.cell k71
       replace q70 := (hb13.frozens ⟨w.heap.size + 1, 0, none⟩ (by show w.heap.size + 1 < _; omega)).trans q70
       replace q71 := (hb13.frozens ⟨w.heap.size + 1, 1, none⟩ (by show w.heap.size + 1 < _; omega)).trans q71
       replace f0 := (HB1.out.trans hb13).cell f0
       replace f1 := (HB1.out.trans hb13).cell f1
       have l70 := cell_lt k70
       have l0 := cell_lt f0
       have HB13 := Lib.hid hb13
       clear hb13 hb3))
  generalize hW4 : World.alloc w3 _ = W4
  have hb4 : Bel w3 W4 := by rw [← hW4]; exact (Bel.refl _).alloc _
  have c0 : W4.cell? ⟨w3.heap.size, 0, none⟩ = some (.int .i64 1073741824) := by rw [← hW4]; exact (row_facts (new_row rfl)).1 0
  have c1 : W4.cell? ⟨w3.heap.size, 1, none⟩ = some (.int .i64 1073741824) := by rw [← hW4]; exact (row_facts (new_row rfl)).1 1
  replace k70 := hb4.cell k70
  replace k71 := hb4.cell k71
  replace q70 := (hb4.frozens ⟨w.heap.size + 1, 0, none⟩ (by show w.heap.size + 1 < _; omega)).trans q70
  replace q71 := (hb4.frozens ⟨w.heap.size + 1, 1, none⟩ (by show w.heap.size + 1 < _; omega)).trans q71
  replace f0 := hb4.cell f0
  replace f1 := hb4.cell f1
  have HB4 := Lib.hid (HB1.out.trans (HB13.out.trans hb4))
  have hn0 : ∀ (W : World) (r : Nat) (u0 u1 x : Value) (o : Nat), r ≠ w.heap.size + 1 → W.cell? ⟨r, o, none⟩ = some x → ((W.setCell ⟨w.heap.size + 1, 0, none⟩ u0).setCell ⟨w.heap.size + 1, 1, none⟩ u1).cell? ⟨r, o, none⟩ = some x := fun W r u0 u1 x o hr h =>
    ((KeepC.set (D := fun g => g = w.heap.size + 1) _ ⟨w.heap.size + 1, 0, none⟩ u0 rfl).t (KeepC.set (D := fun g => g = w.heap.size + 1) _ ⟨w.heap.size + 1, 1, none⟩ u1 rfl)).cell hr h
  have HN0 := Lib.hid hn0
  have hne0 : (0 : Nat) ≠ w.heap.size + 1 := by omega
  clear hW4 hb4 hn0 l70
  have l70 := cell_lt k70
  refine wp_region_mixC (Plan.seq [0, 1, 1002, 3] .nil) (fun q => q.cell? ⟨0, 0, none⟩ = some (.int .i64 1073741824) ∧ q.cell? ⟨0, 1, none⟩ = some (.int .i64 1073741824)) (by kernel_rfl) (by kernel_rfl) (⟨f0, f1⟩) (fun hcur => ?_)
  simp only [Plan.seq, Plan.fill, List.getD_cons_zero, List.getD_cons_succ, Nat.reduceLT, ↓reduceIte, Nat.reduceSub]
  apply mix_pure _ rfl
  · intro w' hw'
    obtain ⟨e0, e1⟩ := hw'
    go_simp
    rfl
  intro K hK
  go_simp
  refine hK _ ?_
  clear hK K
  apply mix_pure _ rfl
  · intro w' hw'
    obtain ⟨e0, e1⟩ := hw'
    go_simp
    rfl
  intro K hK
  go_simp
  refine hK _ ?_
  clear hK K
  refine mix_act rfl (fun K hK => ?_)
  go_simp
  refine hK _ _ ⟨HN0.out _ _ _ _ _ _ hne0 f0, HN0.out _ _ _ _ _ _ hne0 f1⟩ (fun hcur => ?_)
  clear hK K
  apply mix_pure _ rfl
  · intro w' hw'
    obtain ⟨e0, e1⟩ := hw'
    go_simp
    rfl
  intro K hK
  go_simp
  refine hK _ ?_
  clear hK K
  refine mix_nil ?_
  obtain ⟨n0, n1⟩ := two_cells (W := W4) (u0 := .int .i64 1073741824) (u1 := .int .i64 1073741824) k70 k71
  have hBW : Bel w ((W4.setCell ⟨w.heap.size + 1, 0, none⟩ (.int .i64 1073741824)).setCell ⟨w.heap.size + 1, 1, none⟩ (.int .i64 1073741824)).drew := (((HB4.out).setCell (p := ⟨w.heap.size + 1, 0, none⟩) (by show _ ≤ w.heap.size + 1; omega) _).setCell (p := ⟨w.heap.size + 1, 1, none⟩) (by show _ ≤ w.heap.size + 1; omega) _).drew
  go_wp2
  exact bodyPost_ret (v := .tuple #[.pointer none, .agg #[.int .i64 1073741824, .int .i64 1073741824], .int .i64 3]) (by simp [results, Tryd.results64, go_sem, n0, n1]) rfl ⟨rfl, hBW⟩
theorem ask_some (b : BT) (hval : validT b = true) (dv sv pv : Value) (looks : Bool) (pl : List Int) (pv2 : Value) (w : World) (hf : FarAt w) (hv : BTrapAt w (.agg #[.int .i64 b.n, dv, sv, .int .i64 b.look, .int .i64 b.eats, pv]) b) (hp : IntsAt w pv2 pl)
    (hin : ∀ j, j < pl.length → -1 ≤ at0 pl j ∧ at0 pl j ≤ 6) (hd : Dom b (ofL pl)) (p : Int × Int) (ho : optP b looks (ofL pl) = some p) :
    Calls Tryd.prog 64 #[.agg #[.int .i64 b.n, dv, sv, .int .i64 b.look, .int .i64 b.eats, pv], .bool looks, pv2] w fun e w' => AskOk b dv sv pv looks p w e w' := by
  have hok := okb_iff.1 hval
  have HF := Lib.hid hf
  have HV := Lib.hid hv
  have HSTART := Lib.hid (fun wx (hx : Bel w wx) => start_any b hval dv sv pv looks wx (hf.bel hx) (hv.bel hx))
  have HOFF := Lib.hid (fun wx (hx : Bel w wx) => of_any pv2 pl wx (hp.bel hx) hin)
  have HD := Lib.hid hd
  have HN := Lib.hid ho
  have l0 := cell_lt hf.1
  have f0 := hf.1
  have f1 := hf.2
  clear hf hv hp hin hd ho
  generalize ofL pl = S at *
  go_enter Tryd.func64, Tryd.ntmps64
  go_wp2_with (first
    | (go_at_call 88
       refine (HSTART.out _ (by repeat (first | assumption | exact Bel.refl _ | refine Bel.drew ?_ | refine Bel.drewN ?_ _ | refine Bel.alloc ?_ _ | refine Bel.setCell ?_ (by simp <;> omega) _ | refine Bel.trans ?_ (by assumption)))).mono ?_
       rintro e w1 ⟨hb, mb, pr, rfl, g1, g2, hh, hm, hi, hx, hbw⟩
       have hz := hbw.szle
       simp only [World.size_alloc] at hz
       have k70 : w1.cell? ⟨w.heap.size + 1, 0, none⟩ = some (.int .i64 0) := (hbw.cells ⟨w.heap.size + 1, 0, none⟩ (by simp)).trans (by simp)
       have k71 : w1.cell? ⟨w.heap.size + 1, 1, none⟩ = some (.int .i64 0) := (hbw.cells ⟨w.heap.size + 1, 1, none⟩ (by simp)).trans (by simp)
       have q70 : w1.frozen? ⟨w.heap.size + 1, 0, none⟩ = false := (hbw.frozens ⟨w.heap.size + 1, 0, none⟩ (by simp)).trans (by simp)
       have q71 : w1.frozen? ⟨w.heap.size + 1, 1, none⟩ = false := (hbw.frozens ⟨w.heap.size + 1, 1, none⟩ (by simp)).trans (by simp)
       have HOP := Lib.hid (pr_opt hok hi hx HD.out)
       have HH := Lib.hid hh
       have HM := Lib.hid hm
       have HI := Lib.hid hi
       have HX := Lib.hid hx
       have HB1 := Lib.hid (show Bel w w1 from Bel.trans (by repeat (first | assumption | exact Bel.refl _ | refine Bel.drew ?_ | refine Bel.drewN ?_ _ | refine Bel.alloc ?_ _ | refine Bel.setCell ?_ (by simp <;> omega) _ | refine Bel.trans ?_ (by assumption))) hbw)
       have hops : pr S = some p := HOP.out.trans HN.out
       obtain ⟨_, p2, p3⟩ := hi.small hops
       have hopn : ofP pr S = p := by unfold ofP; rw [hops]; rfl
       have HOF := Lib.hid (fun wx (hx : Bel w1 wx) => (hof_any hb mb S b dv sv pv looks pr wx (HF.out.bel (HB1.out.trans hx)) (HH.out.bel hx) (HM.out.bel hx)).mono (R' := fun e w' => e = .returned (.agg #[.int .i64 p.1, .int .i64 p.2]) ∧ Bel wx w') (fun e w' h => ⟨by rw [h.1, hopn], h.2⟩))
       have hne : (p.1 == 1073741824) = false := by rw [beq_eq_false_iff_ne]; omega
       clear hopn hops
       clear hh hm hi hx hbw)
    | (go_at_call 65
       refine (HOFF.out _ HB1.out).mono ?_
       rintro e w2 ⟨rfl, hb2⟩
       have HB2 := Lib.hid hb2
       clear hb2)
    | (go_at_call 89
       refine (HOF.out _ HB2.out).mono ?_
       rintro e w3 ⟨rfl, hb3⟩
       have hb13 := HB2.out.trans hb3
       replace k70 := hb13.cell k70
       replace k71 := hb13.cell k71
       replace q70 := (hb13.frozens ⟨w.heap.size + 1, 0, none⟩ (by show w.heap.size + 1 < _; omega)).trans q70
       replace q71 := (hb13.frozens ⟨w.heap.size + 1, 1, none⟩ (by show w.heap.size + 1 < _; omega)).trans q71
       replace f0 := (HB1.out.trans hb13).cell f0
       replace f1 := (HB1.out.trans hb13).cell f1
       have l70 := cell_lt k70
       have l0 := cell_lt f0
       have HB13 := Lib.hid hb13
       clear hb13 hb3))
  generalize hW4 : World.alloc w3 _ = W4
  have hb4 : Bel w3 W4 := by rw [← hW4]; exact (Bel.refl _).alloc _
  have c0 : W4.cell? ⟨w3.heap.size, 0, none⟩ = some (.int .i64 p.1) := by rw [← hW4]; exact (row_facts (new_row rfl)).1 0
  have c1 : W4.cell? ⟨w3.heap.size, 1, none⟩ = some (.int .i64 p.2) := by rw [← hW4]; exact (row_facts (new_row rfl)).1 1
  replace k70 := hb4.cell k70
  replace k71 := hb4.cell k71
  replace q70 := (hb4.frozens ⟨w.heap.size + 1, 0, none⟩ (by show w.heap.size + 1 < _; omega)).trans q70
  replace q71 := (hb4.frozens ⟨w.heap.size + 1, 1, none⟩ (by show w.heap.size + 1 < _; omega)).trans q71
  replace f0 := hb4.cell f0
  replace f1 := hb4.cell f1
  have HB14 := Lib.hid (HB13.out.trans hb4)
  have HB4 := Lib.hid (HB1.out.trans (HB13.out.trans hb4))
  have hn0 : ∀ (W : World) (r : Nat) (u0 u1 x : Value) (o : Nat), r ≠ w.heap.size + 1 → W.cell? ⟨r, o, none⟩ = some x → ((W.setCell ⟨w.heap.size + 1, 0, none⟩ u0).setCell ⟨w.heap.size + 1, 1, none⟩ u1).cell? ⟨r, o, none⟩ = some x := fun W r u0 u1 x o hr h =>
    ((KeepC.set (D := fun g => g = w.heap.size + 1) _ ⟨w.heap.size + 1, 0, none⟩ u0 rfl).t (KeepC.set (D := fun g => g = w.heap.size + 1) _ ⟨w.heap.size + 1, 1, none⟩ u1 rfl)).cell hr h
  have HN0 := Lib.hid hn0
  have hne0 : (w3.heap.size : Nat) ≠ w.heap.size + 1 := by omega
  clear hW4 hb4 hn0 l70
  have l70 := cell_lt k70
  refine wp_region_mixC (Plan.seq [0, 1, 2, 1003, 4] .nil) (fun q => q.cell? ⟨w3.heap.size, 0, none⟩ = some (.int .i64 p.1) ∧ q.cell? ⟨w3.heap.size, 1, none⟩ = some (.int .i64 p.2)) (by kernel_rfl) (by kernel_rfl) (⟨c0, c1⟩) (fun hcur => ?_)
  simp only [Plan.seq, Plan.fill, List.getD_cons_zero, List.getD_cons_succ, Nat.reduceLT, ↓reduceIte, Nat.reduceSub]
  apply mix_pure _ rfl
  · intro w' hw'
    obtain ⟨e0, e1⟩ := hw'
    go_simp
    rfl
  intro K hK
  go_simp
  refine hK _ ?_
  clear hK K
  apply mix_pure _ rfl
  · intro w' hw'
    obtain ⟨e0, e1⟩ := hw'
    go_simp
    rfl
  intro K hK
  go_simp
  refine hK _ ?_
  clear hK K
  apply mix_pure _ rfl
  · intro w' hw'
    obtain ⟨e0, e1⟩ := hw'
    go_simp
    rfl
  intro K hK
  go_simp
  refine hK _ ?_
  clear hK K
  refine mix_act rfl (fun K hK => ?_)
  go_simp
  refine hK _ _ ⟨HN0.out _ _ _ _ _ _ hne0 c0, HN0.out _ _ _ _ _ _ hne0 c1⟩ (fun hcur => ?_)
  clear hK K
  apply mix_pure _ rfl
  · intro w' hw'
    obtain ⟨e0, e1⟩ := hw'
    go_simp
    rfl
  intro K hK
  go_simp
  refine hK _ ?_
  clear hK K
  refine mix_nil ?_
  obtain ⟨n0, n1⟩ := two_cells (W := W4) (u0 := .int .i64 p.1) (u1 := .int .i64 p.2) k70 k71
  have hBW : Bel w ((W4.setCell ⟨w.heap.size + 1, 0, none⟩ (.int .i64 p.1)).setCell ⟨w.heap.size + 1, 1, none⟩ (.int .i64 p.2)).drew := (((HB4.out).setCell (p := ⟨w.heap.size + 1, 0, none⟩) (by show _ ≤ w.heap.size + 1; omega) _).setCell (p := ⟨w.heap.size + 1, 1, none⟩) (by show _ ≤ w.heap.size + 1; omega) _).drew
  go_wp2
  have hkc : KeepC (fun g => g = w.heap.size + 1) W4 ((W4.setCell ⟨w.heap.size + 1, 0, none⟩ (.int .i64 p.1)).setCell ⟨w.heap.size + 1, 1, none⟩ (.int .i64 p.2)) := (KeepC.set (D := fun g => g = w.heap.size + 1) _ ⟨w.heap.size + 1, 0, none⟩ _ rfl).t (KeepC.set (D := fun g => g = w.heap.size + 1) _ ⟨w.heap.size + 1, 1, none⟩ _ rfl)
  have hko : KeepsOthers W4 ((W4.setCell ⟨w.heap.size + 1, 0, none⟩ (.int .i64 p.1)).setCell ⟨w.heap.size + 1, 1, none⟩ (.int .i64 p.2)) := (KeepsOthers.setCell _ _ _).trans (KeepsOthers.setCell _ _ _)
  have hdr : Bel ((W4.setCell ⟨w.heap.size + 1, 0, none⟩ (.int .i64 p.1)).setCell ⟨w.heap.size + 1, 1, none⟩ (.int .i64 p.2)) ((W4.setCell ⟨w.heap.size + 1, 0, none⟩ (.int .i64 p.1)).setCell ⟨w.heap.size + 1, 1, none⟩ (.int .i64 p.2)).drew := (Bel.refl _).drew
  have hhb : hb ≠ w.heap.size + 1 := by simp only [World.size_alloc] at g1; omega
  have hh4 := HH.out.bel HB14.out
  exact bodyPost_ret (v := .tuple #[.pointer (some ⟨hb, 0, none⟩), .agg #[.int .i64 p.1, .int .i64 p.2], .int .i64 0]) (by simp [results, Tryd.results64, go_sem, n0, n1]) rfl
    ⟨hb, mb, pr, rfl, HuntAt.bel ⟨hh4.box.keepC hkc hhb, hkc.cell hhb hh4.looks, hkc.cell hhb hh4.map⟩ hdr, ((HM.out.bel HB14.out).others hko).bel hdr, HI.out, HX.out, hBW⟩
end Go.Proofs.YtogiidkofddhaaaDoor
