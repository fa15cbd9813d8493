/-
  mesh: the least of a number of all orders of a valid net.
-/
import Derived.Test.YtkdcdhkhadhcfaaDoorHoLeast
namespace Go.Proofs.YtkdcdhkhadhcfaaDoor
open Go Go.RowKit Go.Shelf
set_option maxHeartbeats 8000000
set_option maxRecDepth 100000
theorem has_ne {n : MNet} (h : hasV n = true) : ords n n.holes.length [] ≠ [] := fun e => by
  unfold hasV at h
  rw [e] at h
  cases h
theorem found_any (n : MNet) (v : Value) (gm g : FuncId) (f : List Int → Int) (w : World) (hn : MOk n) (hv : MNetAt w v n) (hegm : ∀ args w, (callFunc gm args).run Tryd.prog w = .ok (.enter gm args) w) (heg : ∀ args w, (callFunc g args).run Tryd.prog w = .ok (.enter g args) w)
    (hmk : ∀ wx, Bel w wx → Calls Tryd.prog gm #[v] wx fun e w' => e = .returned (.func (.func g) #[v] #[]) ∧ Bel wx w')
    (hof : ∀ x ov wx, x ∈ ords n n.holes.length [] → Bel w wx → IntsAt wx ov x → Calls Tryd.prog g #[v, ov] wx fun e w' => e = .returned (.int .i64 (f x)) ∧ Bel wx w') :
    Calls Tryd.prog 45 #[v, .func (.func gm) #[] #[]] w fun e w' => ∃ o k ov, bestV f (ords n n.holes.length []) = some (o, k) ∧ e = .returned (.tuple #[ov, .int .i64 k, .int .i64 0]) ∧ IntsAt w' ov o ∧ Bel w w' := by
  have HCK := Lib.hid (fun wx (hx : Bel w wx) => mcheck_any n v wx hn (hv.bel hx))
  have HMK := Lib.hid hmk
  have HLE := Lib.hid (fun wx (hx : Bel w wx) => least_any n v g f wx (by have := hn.h6; omega) (hv.bel hx) (has_ne hn.has) heg (fun x ov wy h1 h2 h3 => hof x ov wy h1 (hx.trans h2) h3))
  obtain ⟨ha, hc, pa, pc, rfl, _, _, hG, hQ⟩ := hv.open
  clear hv hn hmk hof heg
  generalize ords n n.holes.length [] = os at *
  generalize n.holes.length = G at *
  generalize n.prs.length = X at *
  generalize n.men = men at *
  go_enter Tryd.func45, Tryd.ntmps45
  go_wp2_with fail
  refine (HCK.out _ (by repeat (first | assumption | exact Bel.refl _ | refine Bel.drew ?_ | refine Bel.drewN ?_ _ | refine Bel.alloc ?_ _ | refine Bel.setCell ?_ (by simp <;> omega) _ | refine Bel.trans ?_ (by assumption)))).mono ?_
  rintro e w1 ⟨rfl, hb1⟩
  have q0 := hb1.cell (v := .int .i64 men) ((row_facts (new_row rfl)).1 0)
  have q1 := hb1.cell (v := .slice ha G hc) ((row_facts (new_row rfl)).1 1)
  have q2 := hb1.cell (v := .slice pa X pc) ((row_facts (new_row rfl)).1 2)
  have HB1 := Lib.hid (show Bel w w1 from Bel.trans (by repeat (first | assumption | exact Bel.refl _ | refine Bel.drew ?_ | refine Bel.drewN ?_ _ | refine Bel.alloc ?_ _ | refine Bel.setCell ?_ (by simp <;> omega) _ | refine Bel.trans ?_ (by assumption))) hb1)
  have l0 := cell_lt q0
  clear hb1
  go_upto_region 5 with fail
  refine wp_region_mixB (Plan.seq [0, 1, 2, 1003, 1004, 5, 6, 7, 8, 9] .nil) (by kernel_rfl) (by kernel_rfl) (fun hcur => ?_)
  simp only [Plan.seq, Plan.fill, List.getD_cons_zero, List.getD_cons_succ, Nat.reduceLT, ↓reduceIte, Nat.reduceSub]
  apply mix_pure _ rfl
  · intro w' hw'
    have hcr := hw'.cells
    go_simp
    rfl
  intro K hK
  go_simp
  refine hK _ ?_
  clear hK K
  apply mix_pure _ rfl
  · intro w' hw'
    have hcr := hw'.cells
    go_simp
    rfl
  intro K hK
  go_simp
  refine hK _ ?_
  clear hK K
  apply mix_pure _ rfl
  · intro w' hw'
    have hcr := hw'.cells
    go_simp
    rfl
  intro K hK
  go_simp
  refine hK _ ?_
  clear hK K
  refine mix_act rfl (fun K hK => ?_)
  go_simp
  refine (HMK.out _ (HB1.out.trans (Bel.trans (by repeat (first | assumption | exact Bel.refl _ | refine Bel.drew ?_ | refine Bel.drewN ?_ _ | refine Bel.alloc ?_ _ | refine Bel.setCell ?_ (by simp <;> omega) _ | refine Bel.trans ?_ (by assumption))) hcur))).mono ?_
  rintro e w2 ⟨rfl, hb⟩
  simp only []
  refine hK _ _ (hcur.trans hb) (fun hcur => ?_)
  clear hK K hb
  refine mix_act rfl (fun K hK => ?_)
  go_simp
  refine (HLE.out _ (HB1.out.trans (Bel.trans (by repeat (first | assumption | exact Bel.refl _ | refine Bel.drew ?_ | refine Bel.drewN ?_ _ | refine Bel.alloc ?_ _ | refine Bel.setCell ?_ (by simp <;> omega) _ | refine Bel.trans ?_ (by assumption))) hcur))).mono ?_
  rintro e w3 ⟨o, k, ov, h1, rfl, h3, hb⟩
  have HR := Lib.hid (And.intro h1 h3)
  simp only []
  refine hK _ _ (hcur.trans hb) (fun hcur => ?_)
  clear hK K hb h1 h3
  apply mix_pure _ rfl
  · intro w' hw'
    have hcr := hw'.cells
    go_simp
    rfl
  intro K hK
  go_simp
  refine hK _ ?_
  clear hK K
  apply mix_pure _ rfl
  · intro w' hw'
    have hcr := hw'.cells
    go_simp
    rfl
  intro K hK
  go_simp
  refine hK _ ?_
  clear hK K
  apply mix_pure _ rfl
  · intro w' hw'
    have hcr := hw'.cells
    go_simp
    rfl
  intro K hK
  go_simp
  refine hK _ ?_
  clear hK K
  apply mix_pure _ rfl
  · intro w' hw'
    have hcr := hw'.cells
    go_simp
    rfl
  intro K hK
  go_simp
  refine hK _ ?_
  clear hK K
  apply mix_pure _ rfl
  · intro w' hw'
    have hcr := hw'.cells
    go_simp
    rfl
  intro K hK
  go_simp
  refine hK _ ?_
  clear hK K
  refine mix_nil ?_
  have HB3 := Lib.hid (show Bel w w3 from HB1.out.trans (Bel.trans (by repeat (first | assumption | exact Bel.refl _ | refine Bel.drew ?_ | refine Bel.drewN ?_ _ | refine Bel.alloc ?_ _ | refine Bel.setCell ?_ (by simp <;> omega) _ | refine Bel.trans ?_ (by assumption))) hcur))
  clear hcur q0 q1 q2 l0
  go_wp2
  exact bodyPost_ret (v := .tuple #[ov, .int .i64 k, .int .i64 0]) (by simp [results, Tryd.results45, go_sem]) rfl ⟨o, k, ov, HR.out.1, rfl, HR.out.2, HB3.out⟩
end Go.Proofs.YtkdcdhkhadhcfaaDoor
