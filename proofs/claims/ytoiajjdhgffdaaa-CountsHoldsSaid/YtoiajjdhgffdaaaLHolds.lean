/-
  law: CountsHolds: Check and Holds are what the document says, and Truth returns a truth, or the error, for every trap and numbers: the call returns true and changes nothing that was there
-/
import Derived.Test.YtoiajjdhgffdaaaWorks
import Derived.Test.YtoiajjdhgffdaaaSame
import Derived.Test.YtoiajjdhgffdaaaSmall
import Derived.Test.YtoiajjdhgffdaaaCopied
import Derived.Test.YtoiajjdhgffdaaaHolds
import Derived.Test.YtoiajjdhgffdaaaRTruth
import Derived.Test.YtoiajjdhgffdaaaTruthV
import Derived.Deep.DeepCutAuto
namespace Go.Proofs.Ytoiajjdhgffdaaa
open Go Go.RowKit
set_option maxHeartbeats 8000000
set_option maxRecDepth 100000
open Classical in
noncomputable def holdsB (t : CT) (l : List (List Int)) : Bool := decide (validB t = true ∧ IsT t l)
open Classical in
theorem holdsB_iff {t : CT} {l : List (List Int)} : holdsB t l = true ↔ validB t = true ∧ IsT t l := by
  unfold holdsB
  exact decide_eq_true_iff
theorem bool_of_iff {b c : Bool} {p : Prop} (h : b = true ↔ p) (k : c = true ↔ p) : b = c := by
  cases b <;> cases c <;> simp_all
theorem holds_fix {t : CT} {l : List (List Int)} {w w' : World} {e : Ending} (h : ∃ b : Bool, e = .returned (.tuple #[.bool b, .int .i64 (chk t)]) ∧ (b = true ↔ validB t = true ∧ IsT t l) ∧ Bel w w') :
    e = .returned (.tuple #[.bool (holdsB t l), .int .i64 (chk t)]) ∧ Bel w w' := by
  obtain ⟨b, h1, h2, h3⟩ := h
  rw [bool_of_iff h2 holdsB_iff] at h1
  exact ⟨h1, h3⟩
theorem truthRows_not_huge {t : CT} (hf : Fit t) : hugeB (truthRows t) = false := by
  have := hf.t2
  have := hf.c2
  unfold hugeB
  rw [Bool.or_eq_false_iff, Bool.not_eq_false']
  refine ⟨decide_eq_false (by rw [truthRows_len]; omega), ?_⟩
  unfold longB
  rw [allB_iff]
  intro i hi
  rw [truthRows_len] at hi
  rw [truthRows_row hi]
  simp; omega
theorem small_rows {l : List (List Int)} (h : hugeB l = false) : l.length ≤ 40 ∧ ∀ i, i < l.length → (atL l i).length ≤ 40 := by
  unfold hugeB at h
  simp only [Bool.or_eq_false_iff, decide_eq_false_iff_not, Bool.not_eq_false'] at h
  obtain ⟨h1, h2⟩ := h
  unfold longB at h2
  refine ⟨by omega, fun i hi => ?_⟩
  have := allB_iff.1 h2 i hi
  simp at this
  omega
theorem rowsNil (w : World) : RowsAt w (.slice none 0 0) [] := ⟨none, 0, 0, 0, fun _ => undef, rfl, fun h => absurd h (by simp), by simp, fun i hi => absurd hi (by simp)⟩
theorem CountsHolds_any (t : CT) (v : Value) (l : List (List Int)) (vl : Value) (w : World) (hv : TrapAt w v t) (hl : RowsAt w vl l) : Calls Try.prog 14 #[v, vl] w fun e w' => e = .returned (.bool true) ∧ Bel w w' := by
  have HV := Lib.hid hv
  have HL := Lib.hid hl
  have HUG := Lib.hid (fun wx hx => Huge_any t v wx hx)
  have HUL := Lib.hid (fun wx hx => huge_any vl l wx hx)
  clear hl
  obtain ⟨ov, wv, rfl, ⟨a, c, b, off, rv, rfl, _⟩, ⟨wa, wc, wb, woff, rfl, _⟩⟩ := hv
  by_cases hh : HugeB t = true
  · rw [hh] at HUG
    go_enter Try.func14, Try.ntmps14
    go_wp2_with fail
    refine (HUG.out _ (HV.out.bel (by repeat (first | assumption | exact Bel.refl _ | refine Bel.drew ?_ | refine Bel.drewN ?_ _ | refine Bel.alloc ?_ _ | refine Bel.setCell ?_ (by simp <;> omega) _ | refine Bel.trans ?_ (by assumption))))).mono ?_
    rintro e w1 ⟨rfl, hb⟩
    have x0 : w1.cell? ⟨w.heap.size, 0, none⟩ = some (.int .i64 t.C) := hb.cell ((row_facts (new_row (by first | rfl | (simp; done)))).1 0)
    have x1 : w1.cell? ⟨w.heap.size, 1, none⟩ = some (.int .i64 t.T) := hb.cell ((row_facts (new_row (by first | rfl | (simp; done)))).1 1)
    have x2 : w1.cell? ⟨w.heap.size, 2, none⟩ = some (.slice a t.op.length c) := hb.cell ((row_facts (new_row (by first | rfl | (simp; done)))).1 2)
    have x3 : w1.cell? ⟨w.heap.size, 3, none⟩ = some (.slice wa t.ws.length wc) := hb.cell ((row_facts (new_row (by first | rfl | (simp; done)))).1 3)
    have hB1 : Bel w w1 := Bel.trans (by repeat (first | assumption | exact Bel.refl _ | refine Bel.drew ?_ | refine Bel.drewN ?_ _ | refine Bel.alloc ?_ _ | refine Bel.setCell ?_ (by simp <;> omega) _ | refine Bel.trans ?_ (by assumption))) hb
    have lx0 := cell_lt x0
    replace HV := Lib.hid (HV.out.bel hB1)
    replace HL := Lib.hid (HL.out.bel hB1)
    clear hb
    go_wp2_with fail
    refine (works_any _).mono ?_
    rintro e wz ⟨rfl, hb⟩
    have HBZ := Lib.hid (hB1.trans (Bel.trans (by repeat (first | assumption | exact Bel.refl _ | refine Bel.drew ?_ | refine Bel.drewN ?_ _ | refine Bel.alloc ?_ _ | refine Bel.setCell ?_ (by simp <;> omega) _ | refine Bel.trans ?_ (by assumption))) hb))
    clear hb hB1
    go_wp2
    go_ret
    exact ⟨rfl, HBZ.out⟩
  have hh : HugeB t = false := by simpa using hh
  rw [hh] at HUG
  by_cases hg : hugeB l = true
  · rw [hg] at HUL
    clear hh hg
    go_enter Try.func14, Try.ntmps14
    go_wp2_with fail
    refine (HUG.out _ (HV.out.bel (by repeat (first | assumption | exact Bel.refl _ | refine Bel.drew ?_ | refine Bel.drewN ?_ _ | refine Bel.alloc ?_ _ | refine Bel.setCell ?_ (by simp <;> omega) _ | refine Bel.trans ?_ (by assumption))))).mono ?_
    rintro e w1 ⟨rfl, hb⟩
    have x0 : w1.cell? ⟨w.heap.size, 0, none⟩ = some (.int .i64 t.C) := hb.cell ((row_facts (new_row (by first | rfl | (simp; done)))).1 0)
    have x1 : w1.cell? ⟨w.heap.size, 1, none⟩ = some (.int .i64 t.T) := hb.cell ((row_facts (new_row (by first | rfl | (simp; done)))).1 1)
    have x2 : w1.cell? ⟨w.heap.size, 2, none⟩ = some (.slice a t.op.length c) := hb.cell ((row_facts (new_row (by first | rfl | (simp; done)))).1 2)
    have x3 : w1.cell? ⟨w.heap.size, 3, none⟩ = some (.slice wa t.ws.length wc) := hb.cell ((row_facts (new_row (by first | rfl | (simp; done)))).1 3)
    have hB1 : Bel w w1 := Bel.trans (by repeat (first | assumption | exact Bel.refl _ | refine Bel.drew ?_ | refine Bel.drewN ?_ _ | refine Bel.alloc ?_ _ | refine Bel.setCell ?_ (by simp <;> omega) _ | refine Bel.trans ?_ (by assumption))) hb
    have lx0 := cell_lt x0
    replace HV := Lib.hid (HV.out.bel hB1)
    replace HL := Lib.hid (HL.out.bel hB1)
    clear hb
    go_wp2_with fail
    refine (HUL.out _ (HL.out.bel (by repeat (first | assumption | exact Bel.refl _ | refine Bel.drew ?_ | refine Bel.drewN ?_ _ | refine Bel.alloc ?_ _ | refine Bel.setCell ?_ (by simp <;> omega) _ | refine Bel.trans ?_ (by assumption))))).mono ?_
    rintro e w2 ⟨rfl, hb⟩
    have hk : Bel w1 w2 := Bel.trans (by repeat (first | assumption | exact Bel.refl _ | refine Bel.drew ?_ | refine Bel.drewN ?_ _ | refine Bel.alloc ?_ _ | refine Bel.setCell ?_ (by simp <;> omega) _ | refine Bel.trans ?_ (by assumption))) hb
    replace x0 := hk.cell x0
    replace x1 := hk.cell x1
    replace x2 := hk.cell x2
    replace x3 := hk.cell x3
    have lx0 := cell_lt x0
    have hB2 : Bel w w2 := hB1.trans hk
    replace HV := Lib.hid (HV.out.bel hk)
    replace HL := Lib.hid (HL.out.bel hk)
    clear hb hk hB1
    go_wp2_with fail
    refine (works_any _).mono ?_
    rintro e wz ⟨rfl, hb⟩
    have HBZ := Lib.hid (hB2.trans (Bel.trans (by repeat (first | assumption | exact Bel.refl _ | refine Bel.drew ?_ | refine Bel.drewN ?_ _ | refine Bel.alloc ?_ _ | refine Bel.setCell ?_ (by simp <;> omega) _ | refine Bel.trans ?_ (by assumption))) hb))
    clear hb hB2
    go_wp2
    go_ret
    exact ⟨rfl, HBZ.out⟩
  have hg : hugeB l = false := by simpa using hg
  rw [hg] at HUL
  have hroom := room_small hh
  obtain ⟨hl1, hl2⟩ := small_rows hg
  have HCP := Lib.hid (fun wx hx => (Copy_any t (.agg #[.int .i64 t.C, .int .i64 t.T, .slice a t.op.length c, .slice wa t.ws.length wc]) wx hx hroom).mono fun e w' h => h.trap (by have := hroom.ws; omega))
  have HCD := Lib.hid (fun wx hx => copied_any vl l wx hx hl1 hl2)
  have HK0 := Lib.hid (fun vo wx hx => Check_any t vo wx hx)
  have HK1 := Lib.hid (fun wx hx => RCheck_any t (.agg #[.int .i64 t.C, .int .i64 t.T, .slice a t.op.length c, .slice wa t.ws.length wc]) wx hx)
  have HH0 := Lib.hid (fun vo wx hx vm hm => (Holds_any t vo vm l wx hx hm).mono fun e w' h => holds_fix h)
  have HH1 := Lib.hid (fun wx hx hm => (RHolds_any t (.agg #[.int .i64 t.C, .int .i64 t.T, .slice a t.op.length c, .slice wa t.ws.length wc]) vl l wx hx hm).mono fun e w' h => holds_fix h)
  have HT1 := Lib.hid (fun wx hx => RTruth_any t (.agg #[.int .i64 t.C, .int .i64 t.T, .slice a t.op.length c, .slice wa t.ws.length wc]) wx hx)
  have HSA := Lib.hid (fun vo wx hx hy => Same_eq vo (.agg #[.int .i64 t.C, .int .i64 t.T, .slice a t.op.length c, .slice wa t.ws.length wc]) t wx hx hy)
  have HSL := Lib.hid (fun vm wx hx hy => sameLists_eq vm vl l wx hx hy)
  generalize holdsB t l = hb0 at *
  clear hh hg hroom hl1 hl2
  by_cases he : errR t true = 0
  · have HT0 := Lib.hid (fun vo wx hx => (Truth_any t vo wx hx).mono (R' := fun e w' => ∃ v, e = .returned (.tuple #[v, .int .i64 0]) ∧ RowsAt w' v (truthRows t) ∧ Bel wx w') fun e w' h => by
      rcases h with ⟨h1, _⟩ | ⟨_, h⟩
      · exact absurd he h1
      · exact h)
    obtain ⟨hval, _, _⟩ := errR_zero he
    have hex := errR_exact he
    have HHU := Lib.hid (fun vk wx hx => (huge_any vk (truthRows t) wx hx).mono (R' := fun e w' => e = .returned (.bool false) ∧ Bel wx w') fun e w' h => ⟨by rw [h.1, truthRows_not_huge hex.2], h.2⟩)
    have HIT := Lib.hid (fun wx hx vk hy => (IsTruth_any t (.agg #[.int .i64 t.C, .int .i64 t.T, .slice a t.op.length c, .slice wa t.ws.length wc]) vk (truthRows t) wx hx hy hval).mono (R' := fun e w' => e = .returned (.bool true) ∧ Bel wx w') fun e w' h => by
      obtain ⟨bq, k1, k2, k3⟩ := h
      rw [k2.2 (truth_isT hex.2 hex.1)] at k1
      exact ⟨k1, k3⟩)
    rw [he] at HT1
    generalize chk t = ck at *
    clear he hval hex
    go_enter Try.func14, Try.ntmps14
    go_wp2_with fail
    refine (HUG.out _ (HV.out.bel (by repeat (first | assumption | exact Bel.refl _ | refine Bel.drew ?_ | refine Bel.drewN ?_ _ | refine Bel.alloc ?_ _ | refine Bel.setCell ?_ (by simp <;> omega) _ | refine Bel.trans ?_ (by assumption))))).mono ?_
    rintro e w1 ⟨rfl, hb⟩
    have x0 : w1.cell? ⟨w.heap.size, 0, none⟩ = some (.int .i64 t.C) := hb.cell ((row_facts (new_row (by first | rfl | (simp; done)))).1 0)
    have x1 : w1.cell? ⟨w.heap.size, 1, none⟩ = some (.int .i64 t.T) := hb.cell ((row_facts (new_row (by first | rfl | (simp; done)))).1 1)
    have x2 : w1.cell? ⟨w.heap.size, 2, none⟩ = some (.slice a t.op.length c) := hb.cell ((row_facts (new_row (by first | rfl | (simp; done)))).1 2)
    have x3 : w1.cell? ⟨w.heap.size, 3, none⟩ = some (.slice wa t.ws.length wc) := hb.cell ((row_facts (new_row (by first | rfl | (simp; done)))).1 3)
    have hB1 : Bel w w1 := Bel.trans (by repeat (first | assumption | exact Bel.refl _ | refine Bel.drew ?_ | refine Bel.drewN ?_ _ | refine Bel.alloc ?_ _ | refine Bel.setCell ?_ (by simp <;> omega) _ | refine Bel.trans ?_ (by assumption))) hb
    have lx0 := cell_lt x0
    replace HV := Lib.hid (HV.out.bel hB1)
    replace HL := Lib.hid (HL.out.bel hB1)
    clear hb
    go_wp2_with fail
    refine (HUL.out _ (HL.out.bel (by repeat (first | assumption | exact Bel.refl _ | refine Bel.drew ?_ | refine Bel.drewN ?_ _ | refine Bel.alloc ?_ _ | refine Bel.setCell ?_ (by simp <;> omega) _ | refine Bel.trans ?_ (by assumption))))).mono ?_
    rintro e w2 ⟨rfl, hb⟩
    have hk : Bel w1 w2 := Bel.trans (by repeat (first | assumption | exact Bel.refl _ | refine Bel.drew ?_ | refine Bel.drewN ?_ _ | refine Bel.alloc ?_ _ | refine Bel.setCell ?_ (by simp <;> omega) _ | refine Bel.trans ?_ (by assumption))) hb
    replace x0 := hk.cell x0
    replace x1 := hk.cell x1
    replace x2 := hk.cell x2
    replace x3 := hk.cell x3
    have lx0 := cell_lt x0
    have hB2 : Bel w w2 := hB1.trans hk
    replace HV := Lib.hid (HV.out.bel hk)
    replace HL := Lib.hid (HL.out.bel hk)
    clear hb hk hB1
    go_wp2_with fail
    refine (HCP.out _ (HV.out.bel (by repeat (first | assumption | exact Bel.refl _ | refine Bel.drew ?_ | refine Bel.drewN ?_ _ | refine Bel.alloc ?_ _ | refine Bel.setCell ?_ (by simp <;> omega) _ | refine Bel.trans ?_ (by assumption))))).mono ?_
    rintro e w3 ⟨vo, rfl, hb, hO⟩
    have hk : Bel w2 w3 := Bel.trans (by repeat (first | assumption | exact Bel.refl _ | refine Bel.drew ?_ | refine Bel.drewN ?_ _ | refine Bel.alloc ?_ _ | refine Bel.setCell ?_ (by simp <;> omega) _ | refine Bel.trans ?_ (by assumption))) hb
    replace x0 := hk.cell x0
    replace x1 := hk.cell x1
    replace x2 := hk.cell x2
    replace x3 := hk.cell x3
    have lx0 := cell_lt x0
    have hB3 : Bel w w3 := hB2.trans hk
    replace HV := Lib.hid (HV.out.bel hk)
    replace HL := Lib.hid (HL.out.bel hk)
    clear hb hk hB2
    have HO := Lib.hid hO
    obtain ⟨ov2, wv2, rfl, ⟨a2, c2, b2, off2, rv2, rfl, _⟩, ⟨wa2, wc2, wb2, woff2, rfl, _⟩⟩ := hO
    go_wp2_with fail
    refine (HCD.out _ (HL.out.bel (by repeat (first | assumption | exact Bel.refl _ | refine Bel.drew ?_ | refine Bel.drewN ?_ _ | refine Bel.alloc ?_ _ | refine Bel.setCell ?_ (by simp <;> omega) _ | refine Bel.trans ?_ (by assumption))))).mono ?_
    rintro e w4 ⟨vm, rfl, hb, hM⟩
    have hk : Bel w3 w4 := Bel.trans (by repeat (first | assumption | exact Bel.refl _ | refine Bel.drew ?_ | refine Bel.drewN ?_ _ | refine Bel.alloc ?_ _ | refine Bel.setCell ?_ (by simp <;> omega) _ | refine Bel.trans ?_ (by assumption))) hb
    replace x0 := hk.cell x0
    replace x1 := hk.cell x1
    replace x2 := hk.cell x2
    replace x3 := hk.cell x3
    have lx0 := cell_lt x0
    have hB4 : Bel w w4 := hB3.trans hk
    replace HV := Lib.hid (HV.out.bel hk)
    replace HL := Lib.hid (HL.out.bel hk)
    replace HO := Lib.hid (HO.out.bel hk)
    clear hb hk hB3
    have HM := Lib.hid hM
    clear hM
    go_upto_region 4 with fail
    generalize hW5 : w4.alloc _ = W5
    have hk : Bel w4 W5 := by rw [← hW5]; exact (Bel.refl w4).alloc _
    have y0 : W5.cell? ⟨w4.heap.size, 0, none⟩ = some (.int .i64 t.C) := by rw [← hW5]; exact (row_facts (new_row rfl)).1 0
    have y1 : W5.cell? ⟨w4.heap.size, 1, none⟩ = some (.int .i64 t.T) := by rw [← hW5]; exact (row_facts (new_row rfl)).1 1
    have y2 : W5.cell? ⟨w4.heap.size, 2, none⟩ = some (.slice a2 t.op.length c2) := by rw [← hW5]; exact (row_facts (new_row rfl)).1 2
    have y3 : W5.cell? ⟨w4.heap.size, 3, none⟩ = some (.slice wa2 t.ws.length wc2) := by rw [← hW5]; exact (row_facts (new_row rfl)).1 3
    clear hW5
    replace x0 := hk.cell x0
    replace x1 := hk.cell x1
    replace x2 := hk.cell x2
    replace x3 := hk.cell x3
    have lx0 := cell_lt x0
    have ly0 := cell_lt y0
    have hB5 : Bel w W5 := hB4.trans hk
    replace HV := Lib.hid (HV.out.bel hk)
    replace HL := Lib.hid (HL.out.bel hk)
    replace HO := Lib.hid (HO.out.bel hk)
    replace HM := Lib.hid (HM.out.bel hk)
    clear hk hB4
    go_cut [30] (fun s wx => s = .bool false ∧ Bel W5 wx)
    case first =>
      refine wp_region_mixB (Plan.seq [0, 2, 1001, 1003, 4] .nil) (by kernel_rfl) (by kernel_rfl) (fun hcur => ?_)
      simp only [Plan.seq, Plan.fill, List.getD_cons_zero, List.getD_cons_succ, Nat.reduceLT, ↓reduceIte, Nat.reduceSub]
      apply mix_pure _ rfl
      · intro w' hw'
        have hcr := hw'.cells
        go_simp
        rfl
      intro K hK
      go_simp
      refine hK _ ?_
      clear hK K
      apply mix_pure _ rfl
      · intro w' hw'
        have hcr := hw'.cells
        go_simp
        rfl
      intro K hK
      go_simp
      refine hK _ ?_
      clear hK K
      refine mix_act rfl (fun K hK => ?_)
      go_simp
      refine (HK0.out (.agg #[.int .i64 t.C, .int .i64 t.T, .slice a2 t.op.length c2, .slice wa2 t.ws.length wc2]) _ (HO.out.bel hcur)).mono ?_
      rintro e w7 ⟨rfl, hb⟩
      simp only []
      refine hK _ _ (hcur.trans hb) (fun hcur => ?_)
      clear hK K hb
      refine mix_act rfl (fun K hK => ?_)
      go_simp
      refine (HK1.out _ (HV.out.bel hcur)).mono ?_
      rintro e w8 ⟨rfl, hb⟩
      simp only []
      refine hK _ _ (hcur.trans hb) (fun hcur => ?_)
      clear hK K hb
      apply mix_pure _ rfl
      · intro w' hw'
        have hcr := hw'.cells
        go_simp
        rfl
      intro K hK
      go_simp
      refine hK _ ?_
      clear hK K
      refine mix_nil ?_
      go_wp2_with fail
      go_meet
      first
        | exact ⟨rfl, hcur⟩
        | exact ⟨by simp, hcur⟩
    case rest =>
      obtain ⟨rfl, hk⟩ := hcut
      have hB6 := hB5.trans hk
      replace x0 := hk.cell x0
      replace x1 := hk.cell x1
      replace x2 := hk.cell x2
      replace x3 := hk.cell x3
      replace y0 := hk.cell y0
      replace y1 := hk.cell y1
      replace y2 := hk.cell y2
      replace y3 := hk.cell y3
      have lx0 := cell_lt x0
      have ly0 := cell_lt y0
      replace HV := Lib.hid (HV.out.bel hk)
      replace HL := Lib.hid (HL.out.bel hk)
      replace HO := Lib.hid (HO.out.bel hk)
      replace HM := Lib.hid (HM.out.bel hk)
      clear hk hB5
      rename World => w6
      go_wp2_with fail
      refine (HH0.out (.agg #[.int .i64 t.C, .int .i64 t.T, .slice a2 t.op.length c2, .slice wa2 t.ws.length wc2]) _ (HO.out.bel (by repeat (first | assumption | exact Bel.refl _ | refine Bel.drew ?_ | refine Bel.drewN ?_ _ | refine Bel.alloc ?_ _ | refine Bel.setCell ?_ (by simp <;> omega) _ | refine Bel.trans ?_ (by assumption)))) _ (HM.out.bel (by repeat (first | assumption | exact Bel.refl _ | refine Bel.drew ?_ | refine Bel.drewN ?_ _ | refine Bel.alloc ?_ _ | refine Bel.setCell ?_ (by simp <;> omega) _ | refine Bel.trans ?_ (by assumption))))).mono ?_
      rintro e w7 ⟨rfl, hb⟩
      have hk : Bel w6 w7 := Bel.trans (by repeat (first | assumption | exact Bel.refl _ | refine Bel.drew ?_ | refine Bel.drewN ?_ _ | refine Bel.alloc ?_ _ | refine Bel.setCell ?_ (by simp <;> omega) _ | refine Bel.trans ?_ (by assumption))) hb
      replace x0 := hk.cell x0
      replace x1 := hk.cell x1
      replace x2 := hk.cell x2
      replace x3 := hk.cell x3
      replace y0 := hk.cell y0
      replace y1 := hk.cell y1
      replace y2 := hk.cell y2
      replace y3 := hk.cell y3
      have lx0 := cell_lt x0
      have ly0 := cell_lt y0
      have hB7 : Bel w w7 := hB6.trans hk
      replace HV := Lib.hid (HV.out.bel hk)
      replace HL := Lib.hid (HL.out.bel hk)
      replace HO := Lib.hid (HO.out.bel hk)
      replace HM := Lib.hid (HM.out.bel hk)
      clear hb hk hB6
      go_wp2_with fail
      refine (HH1.out _ (HV.out.bel (by repeat (first | assumption | exact Bel.refl _ | refine Bel.drew ?_ | refine Bel.drewN ?_ _ | refine Bel.alloc ?_ _ | refine Bel.setCell ?_ (by simp <;> omega) _ | refine Bel.trans ?_ (by assumption)))) (HL.out.bel (by repeat (first | assumption | exact Bel.refl _ | refine Bel.drew ?_ | refine Bel.drewN ?_ _ | refine Bel.alloc ?_ _ | refine Bel.setCell ?_ (by simp <;> omega) _ | refine Bel.trans ?_ (by assumption))))).mono ?_
      rintro e w8 ⟨rfl, hb⟩
      have hk : Bel w7 w8 := Bel.trans (by repeat (first | assumption | exact Bel.refl _ | refine Bel.drew ?_ | refine Bel.drewN ?_ _ | refine Bel.alloc ?_ _ | refine Bel.setCell ?_ (by simp <;> omega) _ | refine Bel.trans ?_ (by assumption))) hb
      replace x0 := hk.cell x0
      replace x1 := hk.cell x1
      replace x2 := hk.cell x2
      replace x3 := hk.cell x3
      replace y0 := hk.cell y0
      replace y1 := hk.cell y1
      replace y2 := hk.cell y2
      replace y3 := hk.cell y3
      have lx0 := cell_lt x0
      have ly0 := cell_lt y0
      have hB8 : Bel w w8 := hB7.trans hk
      replace HV := Lib.hid (HV.out.bel hk)
      replace HL := Lib.hid (HL.out.bel hk)
      replace HO := Lib.hid (HO.out.bel hk)
      replace HM := Lib.hid (HM.out.bel hk)
      clear hb hk hB7
      go_wp2_with fail
      refine (HT0.out (.agg #[.int .i64 t.C, .int .i64 t.T, .slice a2 t.op.length c2, .slice wa2 t.ws.length wc2]) _ (HO.out.bel (by repeat (first | assumption | exact Bel.refl _ | refine Bel.drew ?_ | refine Bel.drewN ?_ _ | refine Bel.alloc ?_ _ | refine Bel.setCell ?_ (by simp <;> omega) _ | refine Bel.trans ?_ (by assumption))))).mono ?_
      rintro e w9 ⟨vk, rfl, hR, hb⟩
      have hk : Bel w8 w9 := Bel.trans (by repeat (first | assumption | exact Bel.refl _ | refine Bel.drew ?_ | refine Bel.drewN ?_ _ | refine Bel.alloc ?_ _ | refine Bel.setCell ?_ (by simp <;> omega) _ | refine Bel.trans ?_ (by assumption))) hb
      replace x0 := hk.cell x0
      replace x1 := hk.cell x1
      replace x2 := hk.cell x2
      replace x3 := hk.cell x3
      replace y0 := hk.cell y0
      replace y1 := hk.cell y1
      replace y2 := hk.cell y2
      replace y3 := hk.cell y3
      have lx0 := cell_lt x0
      have ly0 := cell_lt y0
      have hB9 : Bel w w9 := hB8.trans hk
      replace HV := Lib.hid (HV.out.bel hk)
      replace HL := Lib.hid (HL.out.bel hk)
      replace HO := Lib.hid (HO.out.bel hk)
      replace HM := Lib.hid (HM.out.bel hk)
      clear hb hk hB8
      have HR := Lib.hid hR
      clear hR
      go_wp2_with fail
      refine (HT1.out _ (HV.out.bel (by repeat (first | assumption | exact Bel.refl _ | refine Bel.drew ?_ | refine Bel.drewN ?_ _ | refine Bel.alloc ?_ _ | refine Bel.setCell ?_ (by simp <;> omega) _ | refine Bel.trans ?_ (by assumption))))).mono ?_
      rintro e w10 ⟨vx, rfl, hb⟩
      have hk : Bel w9 w10 := Bel.trans (by repeat (first | assumption | exact Bel.refl _ | refine Bel.drew ?_ | refine Bel.drewN ?_ _ | refine Bel.alloc ?_ _ | refine Bel.setCell ?_ (by simp <;> omega) _ | refine Bel.trans ?_ (by assumption))) hb
      replace x0 := hk.cell x0
      replace x1 := hk.cell x1
      replace x2 := hk.cell x2
      replace x3 := hk.cell x3
      replace y0 := hk.cell y0
      replace y1 := hk.cell y1
      replace y2 := hk.cell y2
      replace y3 := hk.cell y3
      have lx0 := cell_lt x0
      have ly0 := cell_lt y0
      have hB10 : Bel w w10 := hB9.trans hk
      replace HV := Lib.hid (HV.out.bel hk)
      replace HL := Lib.hid (HL.out.bel hk)
      replace HO := Lib.hid (HO.out.bel hk)
      replace HM := Lib.hid (HM.out.bel hk)
      replace HR := Lib.hid (HR.out.bel hk)
      clear hb hk hB9
      go_wp2_with fail
      refine (HSA.out (.agg #[.int .i64 t.C, .int .i64 t.T, .slice a2 t.op.length c2, .slice wa2 t.ws.length wc2]) _ (HO.out.bel (by repeat (first | assumption | exact Bel.refl _ | refine Bel.drew ?_ | refine Bel.drewN ?_ _ | refine Bel.alloc ?_ _ | refine Bel.setCell ?_ (by simp <;> omega) _ | refine Bel.trans ?_ (by assumption)))) (HV.out.bel (by repeat (first | assumption | exact Bel.refl _ | refine Bel.drew ?_ | refine Bel.drewN ?_ _ | refine Bel.alloc ?_ _ | refine Bel.setCell ?_ (by simp <;> omega) _ | refine Bel.trans ?_ (by assumption))))).mono ?_
      rintro e w11 ⟨rfl, hb⟩
      have hk : Bel w10 w11 := Bel.trans (by repeat (first | assumption | exact Bel.refl _ | refine Bel.drew ?_ | refine Bel.drewN ?_ _ | refine Bel.alloc ?_ _ | refine Bel.setCell ?_ (by simp <;> omega) _ | refine Bel.trans ?_ (by assumption))) hb
      replace x0 := hk.cell x0
      replace x1 := hk.cell x1
      replace x2 := hk.cell x2
      replace x3 := hk.cell x3
      replace y0 := hk.cell y0
      replace y1 := hk.cell y1
      replace y2 := hk.cell y2
      replace y3 := hk.cell y3
      have lx0 := cell_lt x0
      have ly0 := cell_lt y0
      have hB11 : Bel w w11 := hB10.trans hk
      replace HV := Lib.hid (HV.out.bel hk)
      replace HL := Lib.hid (HL.out.bel hk)
      replace HO := Lib.hid (HO.out.bel hk)
      replace HM := Lib.hid (HM.out.bel hk)
      replace HR := Lib.hid (HR.out.bel hk)
      clear hb hk hB10
      go_wp2_with fail
      refine (HSL.out _ _ (HM.out.bel (by repeat (first | assumption | exact Bel.refl _ | refine Bel.drew ?_ | refine Bel.drewN ?_ _ | refine Bel.alloc ?_ _ | refine Bel.setCell ?_ (by simp <;> omega) _ | refine Bel.trans ?_ (by assumption)))) (HL.out.bel (by repeat (first | assumption | exact Bel.refl _ | refine Bel.drew ?_ | refine Bel.drewN ?_ _ | refine Bel.alloc ?_ _ | refine Bel.setCell ?_ (by simp <;> omega) _ | refine Bel.trans ?_ (by assumption))))).mono ?_
      rintro e w12 ⟨rfl, hb⟩
      have hk : Bel w11 w12 := Bel.trans (by repeat (first | assumption | exact Bel.refl _ | refine Bel.drew ?_ | refine Bel.drewN ?_ _ | refine Bel.alloc ?_ _ | refine Bel.setCell ?_ (by simp <;> omega) _ | refine Bel.trans ?_ (by assumption))) hb
      replace x0 := hk.cell x0
      replace x1 := hk.cell x1
      replace x2 := hk.cell x2
      replace x3 := hk.cell x3
      replace y0 := hk.cell y0
      replace y1 := hk.cell y1
      replace y2 := hk.cell y2
      replace y3 := hk.cell y3
      have lx0 := cell_lt x0
      have ly0 := cell_lt y0
      have hB12 : Bel w w12 := hB11.trans hk
      replace HV := Lib.hid (HV.out.bel hk)
      replace HL := Lib.hid (HL.out.bel hk)
      replace HO := Lib.hid (HO.out.bel hk)
      replace HM := Lib.hid (HM.out.bel hk)
      replace HR := Lib.hid (HR.out.bel hk)
      clear hb hk hB11
      go_wp2_with fail
      refine (HHU.out _ _ (HR.out.bel (by repeat (first | assumption | exact Bel.refl _ | refine Bel.drew ?_ | refine Bel.drewN ?_ _ | refine Bel.alloc ?_ _ | refine Bel.setCell ?_ (by simp <;> omega) _ | refine Bel.trans ?_ (by assumption))))).mono ?_
      rintro e w13 ⟨rfl, hb⟩
      have hk : Bel w12 w13 := Bel.trans (by repeat (first | assumption | exact Bel.refl _ | refine Bel.drew ?_ | refine Bel.drewN ?_ _ | refine Bel.alloc ?_ _ | refine Bel.setCell ?_ (by simp <;> omega) _ | refine Bel.trans ?_ (by assumption))) hb
      replace x0 := hk.cell x0
      replace x1 := hk.cell x1
      replace x2 := hk.cell x2
      replace x3 := hk.cell x3
      replace y0 := hk.cell y0
      replace y1 := hk.cell y1
      replace y2 := hk.cell y2
      replace y3 := hk.cell y3
      have lx0 := cell_lt x0
      have ly0 := cell_lt y0
      have hB13 : Bel w w13 := hB12.trans hk
      replace HV := Lib.hid (HV.out.bel hk)
      replace HL := Lib.hid (HL.out.bel hk)
      replace HO := Lib.hid (HO.out.bel hk)
      replace HM := Lib.hid (HM.out.bel hk)
      replace HR := Lib.hid (HR.out.bel hk)
      clear hb hk hB12
      go_wp2_with fail
      refine (HIT.out _ (HV.out.bel (by repeat (first | assumption | exact Bel.refl _ | refine Bel.drew ?_ | refine Bel.drewN ?_ _ | refine Bel.alloc ?_ _ | refine Bel.setCell ?_ (by simp <;> omega) _ | refine Bel.trans ?_ (by assumption)))) _ (HR.out.bel (by repeat (first | assumption | exact Bel.refl _ | refine Bel.drew ?_ | refine Bel.drewN ?_ _ | refine Bel.alloc ?_ _ | refine Bel.setCell ?_ (by simp <;> omega) _ | refine Bel.trans ?_ (by assumption))))).mono ?_
      rintro e w14 ⟨rfl, hb⟩
      have hk : Bel w13 w14 := Bel.trans (by repeat (first | assumption | exact Bel.refl _ | refine Bel.drew ?_ | refine Bel.drewN ?_ _ | refine Bel.alloc ?_ _ | refine Bel.setCell ?_ (by simp <;> omega) _ | refine Bel.trans ?_ (by assumption))) hb
      replace x0 := hk.cell x0
      replace x1 := hk.cell x1
      replace x2 := hk.cell x2
      replace x3 := hk.cell x3
      replace y0 := hk.cell y0
      replace y1 := hk.cell y1
      replace y2 := hk.cell y2
      replace y3 := hk.cell y3
      have lx0 := cell_lt x0
      have ly0 := cell_lt y0
      have hB14 : Bel w w14 := hB13.trans hk
      replace HV := Lib.hid (HV.out.bel hk)
      replace HL := Lib.hid (HL.out.bel hk)
      replace HO := Lib.hid (HO.out.bel hk)
      replace HM := Lib.hid (HM.out.bel hk)
      replace HR := Lib.hid (HR.out.bel hk)
      clear hb hk hB13
      go_wp2_with fail
      refine (works_any _).mono ?_
      rintro e wz ⟨rfl, hb⟩
      have HBZ := Lib.hid (hB14.trans (Bel.trans (by repeat (first | assumption | exact Bel.refl _ | refine Bel.drew ?_ | refine Bel.drewN ?_ _ | refine Bel.alloc ?_ _ | refine Bel.setCell ?_ (by simp <;> omega) _ | refine Bel.trans ?_ (by assumption))) hb))
      clear hb hB14
      go_wp2
      go_ret
      exact ⟨rfl, HBZ.out⟩
  · have HT0 := Lib.hid (fun vo wx hx => (Truth_any t vo wx hx).mono (R' := fun e w' => e = .returned (.tuple #[.slice none 0 0, .int .i64 (errR t true)]) ∧ Bel wx w') fun e w' h => by
      rcases h with ⟨_, h⟩ | ⟨h1, _⟩
      · exact h
      · exact absurd h1 he)
    have HHU := Lib.hid (fun wx => (huge_any _ [] wx (rowsNil wx)).mono (R' := fun e w' => e = .returned (.bool false) ∧ Bel wx w') fun e w' h => ⟨by rw [h.1]; rfl, h.2⟩)
    have hne : (errR t true != 0) = true := by rw [bne_iff_ne]; exact he
    clear he
    generalize errR t true = er at *
    generalize chk t = ck at *
    go_enter Try.func14, Try.ntmps14
    go_wp2_with fail
    refine (HUG.out _ (HV.out.bel (by repeat (first | assumption | exact Bel.refl _ | refine Bel.drew ?_ | refine Bel.drewN ?_ _ | refine Bel.alloc ?_ _ | refine Bel.setCell ?_ (by simp <;> omega) _ | refine Bel.trans ?_ (by assumption))))).mono ?_
    rintro e w1 ⟨rfl, hb⟩
    have x0 : w1.cell? ⟨w.heap.size, 0, none⟩ = some (.int .i64 t.C) := hb.cell ((row_facts (new_row (by first | rfl | (simp; done)))).1 0)
    have x1 : w1.cell? ⟨w.heap.size, 1, none⟩ = some (.int .i64 t.T) := hb.cell ((row_facts (new_row (by first | rfl | (simp; done)))).1 1)
    have x2 : w1.cell? ⟨w.heap.size, 2, none⟩ = some (.slice a t.op.length c) := hb.cell ((row_facts (new_row (by first | rfl | (simp; done)))).1 2)
    have x3 : w1.cell? ⟨w.heap.size, 3, none⟩ = some (.slice wa t.ws.length wc) := hb.cell ((row_facts (new_row (by first | rfl | (simp; done)))).1 3)
    have hB1 : Bel w w1 := Bel.trans (by repeat (first | assumption | exact Bel.refl _ | refine Bel.drew ?_ | refine Bel.drewN ?_ _ | refine Bel.alloc ?_ _ | refine Bel.setCell ?_ (by simp <;> omega) _ | refine Bel.trans ?_ (by assumption))) hb
    have lx0 := cell_lt x0
    replace HV := Lib.hid (HV.out.bel hB1)
    replace HL := Lib.hid (HL.out.bel hB1)
    clear hb
    go_wp2_with fail
    refine (HUL.out _ (HL.out.bel (by repeat (first | assumption | exact Bel.refl _ | refine Bel.drew ?_ | refine Bel.drewN ?_ _ | refine Bel.alloc ?_ _ | refine Bel.setCell ?_ (by simp <;> omega) _ | refine Bel.trans ?_ (by assumption))))).mono ?_
    rintro e w2 ⟨rfl, hb⟩
    have hk : Bel w1 w2 := Bel.trans (by repeat (first | assumption | exact Bel.refl _ | refine Bel.drew ?_ | refine Bel.drewN ?_ _ | refine Bel.alloc ?_ _ | refine Bel.setCell ?_ (by simp <;> omega) _ | refine Bel.trans ?_ (by assumption))) hb
    replace x0 := hk.cell x0
    replace x1 := hk.cell x1
    replace x2 := hk.cell x2
    replace x3 := hk.cell x3
    have lx0 := cell_lt x0
    have hB2 : Bel w w2 := hB1.trans hk
    replace HV := Lib.hid (HV.out.bel hk)
    replace HL := Lib.hid (HL.out.bel hk)
    clear hb hk hB1
    go_wp2_with fail
    refine (HCP.out _ (HV.out.bel (by repeat (first | assumption | exact Bel.refl _ | refine Bel.drew ?_ | refine Bel.drewN ?_ _ | refine Bel.alloc ?_ _ | refine Bel.setCell ?_ (by simp <;> omega) _ | refine Bel.trans ?_ (by assumption))))).mono ?_
    rintro e w3 ⟨vo, rfl, hb, hO⟩
    have hk : Bel w2 w3 := Bel.trans (by repeat (first | assumption | exact Bel.refl _ | refine Bel.drew ?_ | refine Bel.drewN ?_ _ | refine Bel.alloc ?_ _ | refine Bel.setCell ?_ (by simp <;> omega) _ | refine Bel.trans ?_ (by assumption))) hb
    replace x0 := hk.cell x0
    replace x1 := hk.cell x1
    replace x2 := hk.cell x2
    replace x3 := hk.cell x3
    have lx0 := cell_lt x0
    have hB3 : Bel w w3 := hB2.trans hk
    replace HV := Lib.hid (HV.out.bel hk)
    replace HL := Lib.hid (HL.out.bel hk)
    clear hb hk hB2
    have HO := Lib.hid hO
    obtain ⟨ov2, wv2, rfl, ⟨a2, c2, b2, off2, rv2, rfl, _⟩, ⟨wa2, wc2, wb2, woff2, rfl, _⟩⟩ := hO
    go_wp2_with fail
    refine (HCD.out _ (HL.out.bel (by repeat (first | assumption | exact Bel.refl _ | refine Bel.drew ?_ | refine Bel.drewN ?_ _ | refine Bel.alloc ?_ _ | refine Bel.setCell ?_ (by simp <;> omega) _ | refine Bel.trans ?_ (by assumption))))).mono ?_
    rintro e w4 ⟨vm, rfl, hb, hM⟩
    have hk : Bel w3 w4 := Bel.trans (by repeat (first | assumption | exact Bel.refl _ | refine Bel.drew ?_ | refine Bel.drewN ?_ _ | refine Bel.alloc ?_ _ | refine Bel.setCell ?_ (by simp <;> omega) _ | refine Bel.trans ?_ (by assumption))) hb
    replace x0 := hk.cell x0
    replace x1 := hk.cell x1
    replace x2 := hk.cell x2
    replace x3 := hk.cell x3
    have lx0 := cell_lt x0
    have hB4 : Bel w w4 := hB3.trans hk
    replace HV := Lib.hid (HV.out.bel hk)
    replace HL := Lib.hid (HL.out.bel hk)
    replace HO := Lib.hid (HO.out.bel hk)
    clear hb hk hB3
    have HM := Lib.hid hM
    clear hM
    go_upto_region 4 with fail
    generalize hW5 : w4.alloc _ = W5
    have hk : Bel w4 W5 := by rw [← hW5]; exact (Bel.refl w4).alloc _
    have y0 : W5.cell? ⟨w4.heap.size, 0, none⟩ = some (.int .i64 t.C) := by rw [← hW5]; exact (row_facts (new_row rfl)).1 0
    have y1 : W5.cell? ⟨w4.heap.size, 1, none⟩ = some (.int .i64 t.T) := by rw [← hW5]; exact (row_facts (new_row rfl)).1 1
    have y2 : W5.cell? ⟨w4.heap.size, 2, none⟩ = some (.slice a2 t.op.length c2) := by rw [← hW5]; exact (row_facts (new_row rfl)).1 2
    have y3 : W5.cell? ⟨w4.heap.size, 3, none⟩ = some (.slice wa2 t.ws.length wc2) := by rw [← hW5]; exact (row_facts (new_row rfl)).1 3
    clear hW5
    replace x0 := hk.cell x0
    replace x1 := hk.cell x1
    replace x2 := hk.cell x2
    replace x3 := hk.cell x3
    have lx0 := cell_lt x0
    have ly0 := cell_lt y0
    have hB5 : Bel w W5 := hB4.trans hk
    replace HV := Lib.hid (HV.out.bel hk)
    replace HL := Lib.hid (HL.out.bel hk)
    replace HO := Lib.hid (HO.out.bel hk)
    replace HM := Lib.hid (HM.out.bel hk)
    clear hk hB4
    go_cut [30] (fun s wx => s = .bool false ∧ Bel W5 wx)
    case first =>
      refine wp_region_mixB (Plan.seq [0, 2, 1001, 1003, 4] .nil) (by kernel_rfl) (by kernel_rfl) (fun hcur => ?_)
      simp only [Plan.seq, Plan.fill, List.getD_cons_zero, List.getD_cons_succ, Nat.reduceLT, ↓reduceIte, Nat.reduceSub]
      apply mix_pure _ rfl
      · intro w' hw'
        have hcr := hw'.cells
        go_simp
        rfl
      intro K hK
      go_simp
      refine hK _ ?_
      clear hK K
      apply mix_pure _ rfl
      · intro w' hw'
        have hcr := hw'.cells
        go_simp
        rfl
      intro K hK
      go_simp
      refine hK _ ?_
      clear hK K
      refine mix_act rfl (fun K hK => ?_)
      go_simp
      refine (HK0.out (.agg #[.int .i64 t.C, .int .i64 t.T, .slice a2 t.op.length c2, .slice wa2 t.ws.length wc2]) _ (HO.out.bel hcur)).mono ?_
      rintro e w7 ⟨rfl, hb⟩
      simp only []
      refine hK _ _ (hcur.trans hb) (fun hcur => ?_)
      clear hK K hb
      refine mix_act rfl (fun K hK => ?_)
      go_simp
      refine (HK1.out _ (HV.out.bel hcur)).mono ?_
      rintro e w8 ⟨rfl, hb⟩
      simp only []
      refine hK _ _ (hcur.trans hb) (fun hcur => ?_)
      clear hK K hb
      apply mix_pure _ rfl
      · intro w' hw'
        have hcr := hw'.cells
        go_simp
        rfl
      intro K hK
      go_simp
      refine hK _ ?_
      clear hK K
      refine mix_nil ?_
      go_wp2_with fail
      go_meet
      first
        | exact ⟨rfl, hcur⟩
        | exact ⟨by simp, hcur⟩
    case rest =>
      obtain ⟨rfl, hk⟩ := hcut
      have hB6 := hB5.trans hk
      replace x0 := hk.cell x0
      replace x1 := hk.cell x1
      replace x2 := hk.cell x2
      replace x3 := hk.cell x3
      replace y0 := hk.cell y0
      replace y1 := hk.cell y1
      replace y2 := hk.cell y2
      replace y3 := hk.cell y3
      have lx0 := cell_lt x0
      have ly0 := cell_lt y0
      replace HV := Lib.hid (HV.out.bel hk)
      replace HL := Lib.hid (HL.out.bel hk)
      replace HO := Lib.hid (HO.out.bel hk)
      replace HM := Lib.hid (HM.out.bel hk)
      clear hk hB5
      rename World => w6
      go_wp2_with fail
      refine (HH0.out (.agg #[.int .i64 t.C, .int .i64 t.T, .slice a2 t.op.length c2, .slice wa2 t.ws.length wc2]) _ (HO.out.bel (by repeat (first | assumption | exact Bel.refl _ | refine Bel.drew ?_ | refine Bel.drewN ?_ _ | refine Bel.alloc ?_ _ | refine Bel.setCell ?_ (by simp <;> omega) _ | refine Bel.trans ?_ (by assumption)))) _ (HM.out.bel (by repeat (first | assumption | exact Bel.refl _ | refine Bel.drew ?_ | refine Bel.drewN ?_ _ | refine Bel.alloc ?_ _ | refine Bel.setCell ?_ (by simp <;> omega) _ | refine Bel.trans ?_ (by assumption))))).mono ?_
      rintro e w7 ⟨rfl, hb⟩
      have hk : Bel w6 w7 := Bel.trans (by repeat (first | assumption | exact Bel.refl _ | refine Bel.drew ?_ | refine Bel.drewN ?_ _ | refine Bel.alloc ?_ _ | refine Bel.setCell ?_ (by simp <;> omega) _ | refine Bel.trans ?_ (by assumption))) hb
      replace x0 := hk.cell x0
      replace x1 := hk.cell x1
      replace x2 := hk.cell x2
      replace x3 := hk.cell x3
      replace y0 := hk.cell y0
      replace y1 := hk.cell y1
      replace y2 := hk.cell y2
      replace y3 := hk.cell y3
      have lx0 := cell_lt x0
      have ly0 := cell_lt y0
      have hB7 : Bel w w7 := hB6.trans hk
      replace HV := Lib.hid (HV.out.bel hk)
      replace HL := Lib.hid (HL.out.bel hk)
      replace HO := Lib.hid (HO.out.bel hk)
      replace HM := Lib.hid (HM.out.bel hk)
      clear hb hk hB6
      go_wp2_with fail
      refine (HH1.out _ (HV.out.bel (by repeat (first | assumption | exact Bel.refl _ | refine Bel.drew ?_ | refine Bel.drewN ?_ _ | refine Bel.alloc ?_ _ | refine Bel.setCell ?_ (by simp <;> omega) _ | refine Bel.trans ?_ (by assumption)))) (HL.out.bel (by repeat (first | assumption | exact Bel.refl _ | refine Bel.drew ?_ | refine Bel.drewN ?_ _ | refine Bel.alloc ?_ _ | refine Bel.setCell ?_ (by simp <;> omega) _ | refine Bel.trans ?_ (by assumption))))).mono ?_
      rintro e w8 ⟨rfl, hb⟩
      have hk : Bel w7 w8 := Bel.trans (by repeat (first | assumption | exact Bel.refl _ | refine Bel.drew ?_ | refine Bel.drewN ?_ _ | refine Bel.alloc ?_ _ | refine Bel.setCell ?_ (by simp <;> omega) _ | refine Bel.trans ?_ (by assumption))) hb
      replace x0 := hk.cell x0
      replace x1 := hk.cell x1
      replace x2 := hk.cell x2
      replace x3 := hk.cell x3
      replace y0 := hk.cell y0
      replace y1 := hk.cell y1
      replace y2 := hk.cell y2
      replace y3 := hk.cell y3
      have lx0 := cell_lt x0
      have ly0 := cell_lt y0
      have hB8 : Bel w w8 := hB7.trans hk
      replace HV := Lib.hid (HV.out.bel hk)
      replace HL := Lib.hid (HL.out.bel hk)
      replace HO := Lib.hid (HO.out.bel hk)
      replace HM := Lib.hid (HM.out.bel hk)
      clear hb hk hB7
      go_wp2_with fail
      refine (HT0.out (.agg #[.int .i64 t.C, .int .i64 t.T, .slice a2 t.op.length c2, .slice wa2 t.ws.length wc2]) _ (HO.out.bel (by repeat (first | assumption | exact Bel.refl _ | refine Bel.drew ?_ | refine Bel.drewN ?_ _ | refine Bel.alloc ?_ _ | refine Bel.setCell ?_ (by simp <;> omega) _ | refine Bel.trans ?_ (by assumption))))).mono ?_
      rintro e w9 ⟨rfl, hb⟩
      have hk : Bel w8 w9 := Bel.trans (by repeat (first | assumption | exact Bel.refl _ | refine Bel.drew ?_ | refine Bel.drewN ?_ _ | refine Bel.alloc ?_ _ | refine Bel.setCell ?_ (by simp <;> omega) _ | refine Bel.trans ?_ (by assumption))) hb
      replace x0 := hk.cell x0
      replace x1 := hk.cell x1
      replace x2 := hk.cell x2
      replace x3 := hk.cell x3
      replace y0 := hk.cell y0
      replace y1 := hk.cell y1
      replace y2 := hk.cell y2
      replace y3 := hk.cell y3
      have lx0 := cell_lt x0
      have ly0 := cell_lt y0
      have hB9 : Bel w w9 := hB8.trans hk
      replace HV := Lib.hid (HV.out.bel hk)
      replace HL := Lib.hid (HL.out.bel hk)
      replace HO := Lib.hid (HO.out.bel hk)
      replace HM := Lib.hid (HM.out.bel hk)
      clear hb hk hB8
      go_wp2_with fail
      refine (HT1.out _ (HV.out.bel (by repeat (first | assumption | exact Bel.refl _ | refine Bel.drew ?_ | refine Bel.drewN ?_ _ | refine Bel.alloc ?_ _ | refine Bel.setCell ?_ (by simp <;> omega) _ | refine Bel.trans ?_ (by assumption))))).mono ?_
      rintro e w10 ⟨vx, rfl, hb⟩
      have hk : Bel w9 w10 := Bel.trans (by repeat (first | assumption | exact Bel.refl _ | refine Bel.drew ?_ | refine Bel.drewN ?_ _ | refine Bel.alloc ?_ _ | refine Bel.setCell ?_ (by simp <;> omega) _ | refine Bel.trans ?_ (by assumption))) hb
      replace x0 := hk.cell x0
      replace x1 := hk.cell x1
      replace x2 := hk.cell x2
      replace x3 := hk.cell x3
      replace y0 := hk.cell y0
      replace y1 := hk.cell y1
      replace y2 := hk.cell y2
      replace y3 := hk.cell y3
      have lx0 := cell_lt x0
      have ly0 := cell_lt y0
      have hB10 : Bel w w10 := hB9.trans hk
      replace HV := Lib.hid (HV.out.bel hk)
      replace HL := Lib.hid (HL.out.bel hk)
      replace HO := Lib.hid (HO.out.bel hk)
      replace HM := Lib.hid (HM.out.bel hk)
      clear hb hk hB9
      go_wp2_with fail
      refine (HSA.out (.agg #[.int .i64 t.C, .int .i64 t.T, .slice a2 t.op.length c2, .slice wa2 t.ws.length wc2]) _ (HO.out.bel (by repeat (first | assumption | exact Bel.refl _ | refine Bel.drew ?_ | refine Bel.drewN ?_ _ | refine Bel.alloc ?_ _ | refine Bel.setCell ?_ (by simp <;> omega) _ | refine Bel.trans ?_ (by assumption)))) (HV.out.bel (by repeat (first | assumption | exact Bel.refl _ | refine Bel.drew ?_ | refine Bel.drewN ?_ _ | refine Bel.alloc ?_ _ | refine Bel.setCell ?_ (by simp <;> omega) _ | refine Bel.trans ?_ (by assumption))))).mono ?_
      rintro e w11 ⟨rfl, hb⟩
      have hk : Bel w10 w11 := Bel.trans (by repeat (first | assumption | exact Bel.refl _ | refine Bel.drew ?_ | refine Bel.drewN ?_ _ | refine Bel.alloc ?_ _ | refine Bel.setCell ?_ (by simp <;> omega) _ | refine Bel.trans ?_ (by assumption))) hb
      replace x0 := hk.cell x0
      replace x1 := hk.cell x1
      replace x2 := hk.cell x2
      replace x3 := hk.cell x3
      replace y0 := hk.cell y0
      replace y1 := hk.cell y1
      replace y2 := hk.cell y2
      replace y3 := hk.cell y3
      have lx0 := cell_lt x0
      have ly0 := cell_lt y0
      have hB11 : Bel w w11 := hB10.trans hk
      replace HV := Lib.hid (HV.out.bel hk)
      replace HL := Lib.hid (HL.out.bel hk)
      replace HO := Lib.hid (HO.out.bel hk)
      replace HM := Lib.hid (HM.out.bel hk)
      clear hb hk hB10
      go_wp2_with fail
      refine (HSL.out _ _ (HM.out.bel (by repeat (first | assumption | exact Bel.refl _ | refine Bel.drew ?_ | refine Bel.drewN ?_ _ | refine Bel.alloc ?_ _ | refine Bel.setCell ?_ (by simp <;> omega) _ | refine Bel.trans ?_ (by assumption)))) (HL.out.bel (by repeat (first | assumption | exact Bel.refl _ | refine Bel.drew ?_ | refine Bel.drewN ?_ _ | refine Bel.alloc ?_ _ | refine Bel.setCell ?_ (by simp <;> omega) _ | refine Bel.trans ?_ (by assumption))))).mono ?_
      rintro e w12 ⟨rfl, hb⟩
      have hk : Bel w11 w12 := Bel.trans (by repeat (first | assumption | exact Bel.refl _ | refine Bel.drew ?_ | refine Bel.drewN ?_ _ | refine Bel.alloc ?_ _ | refine Bel.setCell ?_ (by simp <;> omega) _ | refine Bel.trans ?_ (by assumption))) hb
      replace x0 := hk.cell x0
      replace x1 := hk.cell x1
      replace x2 := hk.cell x2
      replace x3 := hk.cell x3
      replace y0 := hk.cell y0
      replace y1 := hk.cell y1
      replace y2 := hk.cell y2
      replace y3 := hk.cell y3
      have lx0 := cell_lt x0
      have ly0 := cell_lt y0
      have hB12 : Bel w w12 := hB11.trans hk
      replace HV := Lib.hid (HV.out.bel hk)
      replace HL := Lib.hid (HL.out.bel hk)
      replace HO := Lib.hid (HO.out.bel hk)
      replace HM := Lib.hid (HM.out.bel hk)
      clear hb hk hB11
      go_wp2_with fail
      refine (HHU.out _).mono ?_
      rintro e w13 ⟨rfl, hb⟩
      have hk : Bel w12 w13 := Bel.trans (by repeat (first | assumption | exact Bel.refl _ | refine Bel.drew ?_ | refine Bel.drewN ?_ _ | refine Bel.alloc ?_ _ | refine Bel.setCell ?_ (by simp <;> omega) _ | refine Bel.trans ?_ (by assumption))) hb
      replace x0 := hk.cell x0
      replace x1 := hk.cell x1
      replace x2 := hk.cell x2
      replace x3 := hk.cell x3
      replace y0 := hk.cell y0
      replace y1 := hk.cell y1
      replace y2 := hk.cell y2
      replace y3 := hk.cell y3
      have lx0 := cell_lt x0
      have ly0 := cell_lt y0
      have hB13 : Bel w w13 := hB12.trans hk
      replace HV := Lib.hid (HV.out.bel hk)
      replace HL := Lib.hid (HL.out.bel hk)
      replace HO := Lib.hid (HO.out.bel hk)
      replace HM := Lib.hid (HM.out.bel hk)
      clear hb hk hB12
      go_wp2_with fail
      refine (works_any _).mono ?_
      rintro e wz ⟨rfl, hb⟩
      have HBZ := Lib.hid (hB13.trans (Bel.trans (by repeat (first | assumption | exact Bel.refl _ | refine Bel.drew ?_ | refine Bel.drewN ?_ _ | refine Bel.alloc ?_ _ | refine Bel.setCell ?_ (by simp <;> omega) _ | refine Bel.trans ?_ (by assumption))) hb))
      clear hb hB13
      go_wp2
      go_ret
      exact ⟨rfl, HBZ.out⟩
end Go.Proofs.Ytoiajjdhgffdaaa
