/-
  law: CountsIdle: without any one word of Idle all spans are the same; without any other word Judge does not say that it surely holds: the call returns true for every trap and number, and changes nothing that was there
-/
import Derived.Test.YtoiajjdhgffdaaaWorks
import Derived.Test.YtoiajjdhgffdaaaTime
import Derived.Test.YtoiajjdhgffdaaaIdle
import Derived.Test.YtoiajjdhgffdaaaWithout
import Derived.Test.YtoiajjdhgffdaaaNarrower
import Derived.Test.YtoiajjdhgffdaaaSmall
import Derived.Test.YtoiajjdhgffdaaaIsOne
namespace Go.Proofs.Ytoiajjdhgffdaaa
open Go Go.RowKit
set_option maxHeartbeats 8000000
set_option maxRecDepth 100000
theorem idle_ok {t : CT} {w w' : World} {e : Ending} (he : errR t true = 0) (h : IdlePost t w e w') : ∃ v, e = .returned (.tuple #[v, .int .i64 0]) ∧ IntsAt w' v (idleL t) ∧ Bel w w' := by
  rcases h with ⟨h1, _⟩ | ⟨_, h⟩
  · exact absurd he h1
  · exact h
theorem CountsIdle_any (t : CT) (v : Value) (word : Int) (w : World) (hv : TrapAt w v t) : Calls Try.prog 10 #[v, .int .i64 word] w fun e w' => e = .returned (.bool true) ∧ Bel w w' := by
  have HV := Lib.hid hv
  have HRT := Lib.hid (fun wx hx => ready_any t v wx hx)
  obtain ⟨ov, wv, rfl, ⟨a, c, b, off, rv, rfl, _⟩, ⟨wa, wc, wb, woff, rfl, hwa, hwlen, hwc⟩⟩ := hv
  have hixw := idxWords (c := wc) hwa
  have HWC := Lib.hid hwc
  clear hwa hwc
  by_cases hr : readyB t = true
  rotate_left
  · have hr : readyB t = false := by simpa using hr
    rw [hr] at HRT
    go_enter Try.func10, Try.ntmps10
    go_wp2_with fail
    refine (HRT.out _ (HV.out.bel (by repeat (first | assumption | exact Bel.refl _ | refine Bel.drew ?_ | refine Bel.drewN ?_ _ | refine Bel.alloc ?_ _ | refine Bel.setCell ?_ (by simp <;> omega) _ | refine Bel.trans ?_ (by assumption))))).mono ?_
    rintro e w1 ⟨rfl, hb⟩
    have x0 : w1.cell? ⟨w.heap.size, 0, none⟩ = some (.int .i64 t.C) := hb.cell ((row_facts (new_row (by first | rfl | (simp; done)))).1 0)
    have x1 : w1.cell? ⟨w.heap.size, 1, none⟩ = some (.int .i64 t.T) := hb.cell ((row_facts (new_row (by first | rfl | (simp; done)))).1 1)
    have x2 : w1.cell? ⟨w.heap.size, 2, none⟩ = some (.slice a t.op.length c) := hb.cell ((row_facts (new_row (by first | rfl | (simp; done)))).1 2)
    have x3 : w1.cell? ⟨w.heap.size, 3, none⟩ = some (.slice wa t.ws.length wc) := hb.cell ((row_facts (new_row (by first | rfl | (simp; done)))).1 3)
    have hB1 : Bel w w1 := Bel.trans (by repeat (first | assumption | exact Bel.refl _ | refine Bel.drew ?_ | refine Bel.drewN ?_ _ | refine Bel.alloc ?_ _ | refine Bel.setCell ?_ (by simp <;> omega) _ | refine Bel.trans ?_ (by assumption))) hb
    have lx0 := cell_lt x0
    replace HV := Lib.hid (HV.out.bel hB1)
    clear hb
    go_wp2_with fail
    refine (works_any _).mono ?_
    rintro e wz ⟨rfl, hb⟩
    have HBZ := Lib.hid (hB1.trans (Bel.trans (by repeat (first | assumption | exact Bel.refl _ | refine Bel.drew ?_ | refine Bel.drewN ?_ _ | refine Bel.alloc ?_ _ | refine Bel.setCell ?_ (by simp <;> omega) _ | refine Bel.trans ?_ (by assumption))) hb))
    clear hb hB1
    go_wp2
    go_ret
    exact ⟨rfl, HBZ.out⟩
  rw [hr] at HRT
  have hval := (readyB_iff.1 hr).2
  have hroom : Room t := room_small (readyB_iff.1 hr).1
  have hf := fit_of_valid hval
  have hw8 : t.ws.length ≤ 8 := (validB_bounds hval).2.2.2.1
  have HIO := Lib.hid (fun wx hx => IsOne_any t (.agg #[.int .i64 t.C, .int .i64 t.T, .slice a t.op.length c, .slice wa t.ws.length wc]) wx hx hf (valid_nine hval))
  clear hr
  by_cases h1 : oneB t = true
  rotate_left
  · have h1 : oneB t = false := by simpa using h1
    rw [h1] at HIO
    clear h1 hval hf hroom
    go_enter Try.func10, Try.ntmps10
    go_wp2_with fail
    refine (HRT.out _ (HV.out.bel (by repeat (first | assumption | exact Bel.refl _ | refine Bel.drew ?_ | refine Bel.drewN ?_ _ | refine Bel.alloc ?_ _ | refine Bel.setCell ?_ (by simp <;> omega) _ | refine Bel.trans ?_ (by assumption))))).mono ?_
    rintro e w1 ⟨rfl, hb⟩
    have x0 : w1.cell? ⟨w.heap.size, 0, none⟩ = some (.int .i64 t.C) := hb.cell ((row_facts (new_row (by first | rfl | (simp; done)))).1 0)
    have x1 : w1.cell? ⟨w.heap.size, 1, none⟩ = some (.int .i64 t.T) := hb.cell ((row_facts (new_row (by first | rfl | (simp; done)))).1 1)
    have x2 : w1.cell? ⟨w.heap.size, 2, none⟩ = some (.slice a t.op.length c) := hb.cell ((row_facts (new_row (by first | rfl | (simp; done)))).1 2)
    have x3 : w1.cell? ⟨w.heap.size, 3, none⟩ = some (.slice wa t.ws.length wc) := hb.cell ((row_facts (new_row (by first | rfl | (simp; done)))).1 3)
    have hB1 : Bel w w1 := Bel.trans (by repeat (first | assumption | exact Bel.refl _ | refine Bel.drew ?_ | refine Bel.drewN ?_ _ | refine Bel.alloc ?_ _ | refine Bel.setCell ?_ (by simp <;> omega) _ | refine Bel.trans ?_ (by assumption))) hb
    have lx0 := cell_lt x0
    replace HV := Lib.hid (HV.out.bel hB1)
    clear hb
    go_wp2_with fail
    refine (HIO.out _ (HV.out.bel (by repeat (first | assumption | exact Bel.refl _ | refine Bel.drew ?_ | refine Bel.drewN ?_ _ | refine Bel.alloc ?_ _ | refine Bel.setCell ?_ (by simp <;> omega) _ | refine Bel.trans ?_ (by assumption))))).mono ?_
    rintro e w2 ⟨rfl, hb⟩
    have hk : Bel w1 w2 := Bel.trans (by repeat (first | assumption | exact Bel.refl _ | refine Bel.drew ?_ | refine Bel.drewN ?_ _ | refine Bel.alloc ?_ _ | refine Bel.setCell ?_ (by simp <;> omega) _ | refine Bel.trans ?_ (by assumption))) hb
    replace x0 := hk.cell x0
    replace x1 := hk.cell x1
    replace x2 := hk.cell x2
    replace x3 := hk.cell x3
    have lx0 := cell_lt x0
    have hB2 : Bel w w2 := hB1.trans hk
    replace HV := Lib.hid (HV.out.bel hk)
    clear hb hk hB1
    go_wp2_with fail
    refine (works_any _).mono ?_
    rintro e wz ⟨rfl, hb⟩
    have HBZ := Lib.hid (hB2.trans (Bel.trans (by repeat (first | assumption | exact Bel.refl _ | refine Bel.drew ?_ | refine Bel.drewN ?_ _ | refine Bel.alloc ?_ _ | refine Bel.setCell ?_ (by simp <;> omega) _ | refine Bel.trans ?_ (by assumption))) hb))
    clear hb hB2
    go_wp2
    go_ret
    exact ⟨rfl, HBZ.out⟩
  rw [h1] at HIO
  have hone := oneB_iff.1 h1
  have hwn : IntKind.i64.wrap ((t.ws.length : Int) - 1) = (t.ws.length : Int) - 1 := IntWalk.i64_in _ (by omega)
  have HWI := Lib.hid (fun wx => (Within_any word 0 ((t.ws.length : Int) - 1) wx).mono (R' := fun e w' => e = .returned (.bool (withinB word 0 ((t.ws.length : Int) - 1))) ∧ Bel wx w') fun e w' h => ⟨h.1, h.2 ▸ Bel.refl _⟩)
  clear h1
  by_cases hwi : withinB word 0 ((t.ws.length : Int) - 1) = true
  rotate_left
  · have hwi : withinB word 0 ((t.ws.length : Int) - 1) = false := by simpa using hwi
    rw [hwi] at HWI
    clear hwi hval hf hroom hone
    go_enter Try.func10, Try.ntmps10
    go_wp2_with fail
    refine (HRT.out _ (HV.out.bel (by repeat (first | assumption | exact Bel.refl _ | refine Bel.drew ?_ | refine Bel.drewN ?_ _ | refine Bel.alloc ?_ _ | refine Bel.setCell ?_ (by simp <;> omega) _ | refine Bel.trans ?_ (by assumption))))).mono ?_
    rintro e w1 ⟨rfl, hb⟩
    have x0 : w1.cell? ⟨w.heap.size, 0, none⟩ = some (.int .i64 t.C) := hb.cell ((row_facts (new_row (by first | rfl | (simp; done)))).1 0)
    have x1 : w1.cell? ⟨w.heap.size, 1, none⟩ = some (.int .i64 t.T) := hb.cell ((row_facts (new_row (by first | rfl | (simp; done)))).1 1)
    have x2 : w1.cell? ⟨w.heap.size, 2, none⟩ = some (.slice a t.op.length c) := hb.cell ((row_facts (new_row (by first | rfl | (simp; done)))).1 2)
    have x3 : w1.cell? ⟨w.heap.size, 3, none⟩ = some (.slice wa t.ws.length wc) := hb.cell ((row_facts (new_row (by first | rfl | (simp; done)))).1 3)
    have hB1 : Bel w w1 := Bel.trans (by repeat (first | assumption | exact Bel.refl _ | refine Bel.drew ?_ | refine Bel.drewN ?_ _ | refine Bel.alloc ?_ _ | refine Bel.setCell ?_ (by simp <;> omega) _ | refine Bel.trans ?_ (by assumption))) hb
    have lx0 := cell_lt x0
    replace HV := Lib.hid (HV.out.bel hB1)
    clear hb
    go_wp2_with fail
    refine (HIO.out _ (HV.out.bel (by repeat (first | assumption | exact Bel.refl _ | refine Bel.drew ?_ | refine Bel.drewN ?_ _ | refine Bel.alloc ?_ _ | refine Bel.setCell ?_ (by simp <;> omega) _ | refine Bel.trans ?_ (by assumption))))).mono ?_
    rintro e w2 ⟨rfl, hb⟩
    have hk : Bel w1 w2 := Bel.trans (by repeat (first | assumption | exact Bel.refl _ | refine Bel.drew ?_ | refine Bel.drewN ?_ _ | refine Bel.alloc ?_ _ | refine Bel.setCell ?_ (by simp <;> omega) _ | refine Bel.trans ?_ (by assumption))) hb
    replace x0 := hk.cell x0
    replace x1 := hk.cell x1
    replace x2 := hk.cell x2
    replace x3 := hk.cell x3
    have lx0 := cell_lt x0
    have hB2 : Bel w w2 := hB1.trans hk
    replace HV := Lib.hid (HV.out.bel hk)
    clear hb hk hB1
    go_wp2_with fail
    refine (HWI.out _).mono ?_
    rintro e w3 ⟨rfl, hb⟩
    have hk : Bel w2 w3 := Bel.trans (by repeat (first | assumption | exact Bel.refl _ | refine Bel.drew ?_ | refine Bel.drewN ?_ _ | refine Bel.alloc ?_ _ | refine Bel.setCell ?_ (by simp <;> omega) _ | refine Bel.trans ?_ (by assumption))) hb
    replace x0 := hk.cell x0
    replace x1 := hk.cell x1
    replace x2 := hk.cell x2
    replace x3 := hk.cell x3
    have lx0 := cell_lt x0
    have hB3 : Bel w w3 := hB2.trans hk
    replace HV := Lib.hid (HV.out.bel hk)
    clear hb hk hB2
    go_wp2_with fail
    refine (works_any _).mono ?_
    rintro e wz ⟨rfl, hb⟩
    have HBZ := Lib.hid (hB3.trans (Bel.trans (by repeat (first | assumption | exact Bel.refl _ | refine Bel.drew ?_ | refine Bel.drewN ?_ _ | refine Bel.alloc ?_ _ | refine Bel.setCell ?_ (by simp <;> omega) _ | refine Bel.trans ?_ (by assumption))) hb))
    clear hb hB3
    go_wp2
    go_ret
    exact ⟨rfl, HBZ.out⟩
  rw [hwi] at HWI
  rw [withinB_true] at hwi
  obtain ⟨k, rfl⟩ : ∃ k : Nat, word = k := ⟨word.toNat, by omega⟩
  have hk : k < t.ws.length := by omega
  have he : errR t true = 0 := errR_ok (askR_zero.2 ⟨hval, rfl⟩) hone
  obtain ⟨hj1, hj2⟩ := judge_idle hf hk hone
  have hvo := valid_without hval hk
  have hoo : ∃ y, Sat (without t k) (-1) y := by obtain ⟨y, hy⟩ := one_skip hk hone; exact ⟨y, (sat_without hk).2 hy⟩
  have hfo := fit_without hf hk
  have hxw : isWordB t.C t.T (atW t.ws k) = true := allB_iff.1 hf.wb k hk
  have heo : errR (without t k) (isWordB (without t k).C (without t k).T (atW t.ws k)) = 0 := errR_ok (askR_zero.2 ⟨hvo, hxw⟩) hoo
  have HIDL := Lib.hid (fun wx hx => (Idle_any t (.agg #[.int .i64 t.C, .int .i64 t.T, .slice a t.op.length c, .slice wa t.ws.length wc]) wx hx).mono fun e w' h => idle_ok he h)
  have HWO := Lib.hid (fun wx hx => Without_any t (.agg #[.int .i64 t.C, .int .i64 t.T, .slice a t.op.length c, .slice wa t.ws.length wc]) k wx hx hroom hk)
  have HJ := Lib.hid (fun vo wx hx => (Judge_any (without t k) vo (atW t.ws k) wx hx).mono fun e w' h => int_ok heo rfl h)
  have HRI := Lib.hid (fun vl wx hx => (Rising_any vl (idleL t) 0 ((t.ws.length : Int) - 1) wx hx).mono (R' := fun e w' => e = .returned (.bool true) ∧ Bel wx w') fun e w' h => ⟨by rw [h.1, idleL_rising], h.2⟩)
  have HIN := Lib.hid (fun vl wx hx => (In_any vl (idleL t) k wx hx).mono (R' := fun e w' => e = .returned (.bool (idleB t k)) ∧ Bel wx w') fun e w' h => ⟨by rw [h.1, idleL_in hk], h.2 ▸ Bel.refl _⟩)
  have HN1 := Lib.hid (fun vo wx hx hy => narrower_any t (without t k) (.agg #[.int .i64 t.C, .int .i64 t.T, .slice a t.op.length c, .slice wa t.ws.length wc]) vo wx hx hy hval hvo rfl rfl hone (fun y hy => (sat_without hk).2 ((sat_all hk).1 hy).1))
  have HN2 := Lib.hid (fun (hid : idleB t k = true) vo wx hx hy => narrower_any (without t k) t vo (.agg #[.int .i64 t.C, .int .i64 t.T, .slice a t.op.length c, .slice wa t.ws.length wc]) wx hx hy hvo hval rfl rfl hoo (hj2 hid))
  have hll := (idleTo_facts t t.ws.length).1
  have HXV := Lib.hid (show (atW t.ws k).val = .agg #[.int .i64 (atW t.ws k).time, .int .i64 (atW t.ws k).chamber, .int .i64 (atW t.ws k).low, .int .i64 (atW t.ws k).high] from rfl)
  generalize judgeR (fishLo (without t k) (atW t.ws k).time (atW t.ws k).chamber) (fishHi (without t k) (atW t.ws k).time (atW t.ws k).chamber) (atW t.ws k).low (atW t.ws k).high = jr at *
  have HCC := Lib.hid (HWC.out k hk)
  have hki : (k : Int) < (t.ws.length : Int) := by omega
  clear hval hf hroom hone he hvo hoo hfo hxw heo hj2 hwi
  cases hid : idleB t k
  · rw [hid] at HIN hj1
    have hjn : (jr == 1) = false := by
      have : jr ≠ 1 := fun q => by have := hj1.1 q; cases this
      simpa using this
    have hjm : (jr != 1) = true := by rw [bne, hjn]; rfl
    clear hj1
    go_enter Try.func10, Try.ntmps10
    go_wp2_with fail
    refine (HRT.out _ (HV.out.bel (by repeat (first | assumption | exact Bel.refl _ | refine Bel.drew ?_ | refine Bel.drewN ?_ _ | refine Bel.alloc ?_ _ | refine Bel.setCell ?_ (by simp <;> omega) _ | refine Bel.trans ?_ (by assumption))))).mono ?_
    rintro e w1 ⟨rfl, hb⟩
    have x0 : w1.cell? ⟨w.heap.size, 0, none⟩ = some (.int .i64 t.C) := hb.cell ((row_facts (new_row (by first | rfl | (simp; done)))).1 0)
    have x1 : w1.cell? ⟨w.heap.size, 1, none⟩ = some (.int .i64 t.T) := hb.cell ((row_facts (new_row (by first | rfl | (simp; done)))).1 1)
    have x2 : w1.cell? ⟨w.heap.size, 2, none⟩ = some (.slice a t.op.length c) := hb.cell ((row_facts (new_row (by first | rfl | (simp; done)))).1 2)
    have x3 : w1.cell? ⟨w.heap.size, 3, none⟩ = some (.slice wa t.ws.length wc) := hb.cell ((row_facts (new_row (by first | rfl | (simp; done)))).1 3)
    have hB1 : Bel w w1 := Bel.trans (by repeat (first | assumption | exact Bel.refl _ | refine Bel.drew ?_ | refine Bel.drewN ?_ _ | refine Bel.alloc ?_ _ | refine Bel.setCell ?_ (by simp <;> omega) _ | refine Bel.trans ?_ (by assumption))) hb
    have lx0 := cell_lt x0
    replace HV := Lib.hid (HV.out.bel hB1)
    clear hb
    go_wp2_with fail
    refine (HIO.out _ (HV.out.bel (by repeat (first | assumption | exact Bel.refl _ | refine Bel.drew ?_ | refine Bel.drewN ?_ _ | refine Bel.alloc ?_ _ | refine Bel.setCell ?_ (by simp <;> omega) _ | refine Bel.trans ?_ (by assumption))))).mono ?_
    rintro e w2 ⟨rfl, hb⟩
    have hk : Bel w1 w2 := Bel.trans (by repeat (first | assumption | exact Bel.refl _ | refine Bel.drew ?_ | refine Bel.drewN ?_ _ | refine Bel.alloc ?_ _ | refine Bel.setCell ?_ (by simp <;> omega) _ | refine Bel.trans ?_ (by assumption))) hb
    replace x0 := hk.cell x0
    replace x1 := hk.cell x1
    replace x2 := hk.cell x2
    replace x3 := hk.cell x3
    have lx0 := cell_lt x0
    have hB2 : Bel w w2 := hB1.trans hk
    replace HV := Lib.hid (HV.out.bel hk)
    clear hb hk hB1
    go_wp2_with fail
    refine (HWI.out _).mono ?_
    rintro e w3 ⟨rfl, hb⟩
    have hk : Bel w2 w3 := Bel.trans (by repeat (first | assumption | exact Bel.refl _ | refine Bel.drew ?_ | refine Bel.drewN ?_ _ | refine Bel.alloc ?_ _ | refine Bel.setCell ?_ (by simp <;> omega) _ | refine Bel.trans ?_ (by assumption))) hb
    replace x0 := hk.cell x0
    replace x1 := hk.cell x1
    replace x2 := hk.cell x2
    replace x3 := hk.cell x3
    have lx0 := cell_lt x0
    have hB3 : Bel w w3 := hB2.trans hk
    replace HV := Lib.hid (HV.out.bel hk)
    clear hb hk hB2
    go_wp2_with fail
    refine (HIDL.out _ (HV.out.bel (by repeat (first | assumption | exact Bel.refl _ | refine Bel.drew ?_ | refine Bel.drewN ?_ _ | refine Bel.alloc ?_ _ | refine Bel.setCell ?_ (by simp <;> omega) _ | refine Bel.trans ?_ (by assumption))))).mono ?_
    rintro e w4 ⟨vl, rfl, hL, hb⟩
    have hk : Bel w3 w4 := Bel.trans (by repeat (first | assumption | exact Bel.refl _ | refine Bel.drew ?_ | refine Bel.drewN ?_ _ | refine Bel.alloc ?_ _ | refine Bel.setCell ?_ (by simp <;> omega) _ | refine Bel.trans ?_ (by assumption))) hb
    replace x0 := hk.cell x0
    replace x1 := hk.cell x1
    replace x2 := hk.cell x2
    replace x3 := hk.cell x3
    have lx0 := cell_lt x0
    have hB4 : Bel w w4 := hB3.trans hk
    replace HV := Lib.hid (HV.out.bel hk)
    clear hb hk hB3
    have HL := Lib.hid hL
    clear hL
    go_wp2_with fail
    refine (HWO.out _ (HV.out.bel (by repeat (first | assumption | exact Bel.refl _ | refine Bel.drew ?_ | refine Bel.drewN ?_ _ | refine Bel.alloc ?_ _ | refine Bel.setCell ?_ (by simp <;> omega) _ | refine Bel.trans ?_ (by assumption))))).mono ?_
    rintro e w5 ⟨vo, rfl, hb, hO⟩
    have hk : Bel w4 w5 := Bel.trans (by repeat (first | assumption | exact Bel.refl _ | refine Bel.drew ?_ | refine Bel.drewN ?_ _ | refine Bel.alloc ?_ _ | refine Bel.setCell ?_ (by simp <;> omega) _ | refine Bel.trans ?_ (by assumption))) hb
    replace x0 := hk.cell x0
    replace x1 := hk.cell x1
    replace x2 := hk.cell x2
    replace x3 := hk.cell x3
    have lx0 := cell_lt x0
    have hB5 : Bel w w5 := hB4.trans hk
    replace HV := Lib.hid (HV.out.bel hk)
    replace HL := Lib.hid (HL.out.bel hk)
    clear hb hk hB4
    have HO := Lib.hid hO
    obtain ⟨ov2, wv2, rfl, ⟨a2, c2, b2, off2, rv2, rfl, _⟩, ⟨wa2, wc2, wb2, woff2, rfl, _⟩⟩ := hO
    go_wp2
    generalize hW6 : w5.alloc _ = W6
    have hk6 : Bel w5 W6 := by rw [← hW6]; exact (Bel.refl w5).alloc _
    have y0 : W6.cell? ⟨w5.heap.size, 0, none⟩ = some (.int .i64 (without t k).C) := by rw [← hW6]; exact (row_facts (new_row rfl)).1 0
    have y1 : W6.cell? ⟨w5.heap.size, 1, none⟩ = some (.int .i64 (without t k).T) := by rw [← hW6]; exact (row_facts (new_row rfl)).1 1
    have y2 : W6.cell? ⟨w5.heap.size, 2, none⟩ = some (.slice a2 (without t k).op.length c2) := by rw [← hW6]; exact (row_facts (new_row rfl)).1 2
    have y3 : W6.cell? ⟨w5.heap.size, 3, none⟩ = some (.slice wa2 (without t k).ws.length wc2) := by rw [← hW6]; exact (row_facts (new_row rfl)).1 3
    replace x0 := hk6.cell x0
    replace x1 := hk6.cell x1
    replace x2 := hk6.cell x2
    replace x3 := hk6.cell x3
    have lx0 := cell_lt x0
    have ly0 := cell_lt y0
    replace HV := Lib.hid (HV.out.bel hk6)
    replace HL := Lib.hid (HL.out.bel hk6)
    replace HO := Lib.hid (HO.out.bel hk6)
    have hB6 := hB5.trans hk6
    have c0 := hB6.cell HCC.out.1
    have c1 := hB6.cell HCC.out.2.1
    have c2' := hB6.cell HCC.out.2.2.1
    have c3 := hB6.cell HCC.out.2.2.2
    have lc0 := cell_lt c0
    have HB6 := Lib.hid hB6
    clear hW6 hk6 hB5 hB6 HIO HWI HIDL HWO HRT
    refine wp_region_mixB (Plan.seq [0, 1, 2, 3, 4, 5, 1006, 7, 8, 9, 10, 11] .nil) (by kernel_rfl) (by kernel_rfl) (fun hcur => ?_)
    simp only [Plan.seq, Plan.fill, List.getD_cons_zero, List.getD_cons_succ, Nat.reduceLT, ↓reduceIte, Nat.reduceSub]
    apply mix_pure _ rfl
    · intro w' hw'
      have hcr := hw'.cells
      go_simp
      rfl
    intro K hK
    go_simp
    refine hK _ ?_
    clear hK K
    apply mix_pure _ rfl
    · intro w' hw'
      have hcr := hw'.cells
      go_simp
      rfl
    intro K hK
    go_simp
    refine hK _ ?_
    clear hK K
    apply mix_pure _ rfl
    · intro w' hw'
      have hcr := hw'.cells
      go_simp
      rfl
    intro K hK
    go_simp
    refine hK _ ?_
    clear hK K
    apply mix_pure _ rfl
    · intro w' hw'
      have hcr := hw'.cells
      go_simp
      rfl
    intro K hK
    go_simp
    refine hK _ ?_
    clear hK K
    apply mix_pure _ rfl
    · intro w' hw'
      have hcr := hw'.cells
      go_simp
      rfl
    intro K hK
    go_simp
    refine hK _ ?_
    clear hK K
    apply mix_pure _ rfl
    · intro w' hw'
      have hcr := hw'.cells
      go_simp
      rfl
    intro K hK
    go_simp
    refine hK _ ?_
    clear hK K
    refine mix_act rfl (fun K hK => ?_)
    go_simp
    rw [← HXV.out]
    refine (HJ.out _ _ (HO.out.bel hcur)).mono ?_
    rintro e w7 ⟨rfl, hb⟩
    simp only []
    refine hK _ _ (hcur.trans hb) (fun hcur => ?_)
    clear hK K hb
    apply mix_pure _ rfl
    · intro w' hw'
      have hcr := hw'.cells
      go_simp
      rfl
    intro K hK
    go_simp
    refine hK _ ?_
    clear hK K
    apply mix_pure _ rfl
    · intro w' hw'
      have hcr := hw'.cells
      go_simp
      rfl
    intro K hK
    go_simp
    refine hK _ ?_
    clear hK K
    apply mix_pure _ rfl
    · intro w' hw'
      have hcr := hw'.cells
      go_simp
      rfl
    intro K hK
    go_simp
    refine hK _ ?_
    clear hK K
    apply mix_pure _ rfl
    · intro w' hw'
      have hcr := hw'.cells
      go_simp
      rfl
    intro K hK
    go_simp
    refine hK _ ?_
    clear hK K
    apply mix_pure _ rfl
    · intro w' hw'
      have hcr := hw'.cells
      go_simp
      rfl
    intro K hK
    go_simp
    refine hK _ ?_
    clear hK K
    refine mix_nil ?_
    have hk : Bel W6 w7 := hcur
    clear hcur lc0 c0 c1 c2' c3
    replace x0 := hk.cell x0
    replace x1 := hk.cell x1
    replace x2 := hk.cell x2
    replace x3 := hk.cell x3
    replace y0 := hk.cell y0
    replace y1 := hk.cell y1
    replace y2 := hk.cell y2
    replace y3 := hk.cell y3
    have lx0 := cell_lt x0
    have ly0 := cell_lt y0
    have hB7 : Bel w w7 := HB6.out.trans hk
    replace HV := Lib.hid (HV.out.bel hk)
    replace HL := Lib.hid (HL.out.bel hk)
    replace HO := Lib.hid (HO.out.bel hk)
    clear hk HB6
    obtain ⟨la, lc, lb, loff, rfl, hla, hlb, hlc⟩ := HL.out
    clear hla hlb hlc
    have hlle : (idleL t).length ≤ t.ws.length := hll
    generalize hnl : (idleL t).length = nl at *
    have HNL := Lib.hid hnl
    have hgt : decide ((t.ws.length : Int) < (nl : Int)) = false := by simp; omega
    clear hnl hll
    go_wp2_with fail
    refine (HRI.out _ _ (HL.out.bel (by repeat (first | assumption | exact Bel.refl _ | refine Bel.drew ?_ | refine Bel.drewN ?_ _ | refine Bel.alloc ?_ _ | refine Bel.setCell ?_ (by simp <;> omega) _ | refine Bel.trans ?_ (by assumption))))).mono ?_
    rintro e w8 ⟨rfl, hb⟩
    have hk : Bel w7 w8 := Bel.trans (by repeat (first | assumption | exact Bel.refl _ | refine Bel.drew ?_ | refine Bel.drewN ?_ _ | refine Bel.alloc ?_ _ | refine Bel.setCell ?_ (by simp <;> omega) _ | refine Bel.trans ?_ (by assumption))) hb
    replace x0 := hk.cell x0
    replace x1 := hk.cell x1
    replace x2 := hk.cell x2
    replace x3 := hk.cell x3
    replace y0 := hk.cell y0
    replace y1 := hk.cell y1
    replace y2 := hk.cell y2
    replace y3 := hk.cell y3
    have lx0 := cell_lt x0
    have ly0 := cell_lt y0
    have hB8 : Bel w w8 := hB7.trans hk
    replace HV := Lib.hid (HV.out.bel hk)
    replace HL := Lib.hid (HL.out.bel hk)
    replace HO := Lib.hid (HO.out.bel hk)
    clear hb hk hB7
    go_wp2_with fail
    refine (HIN.out _ _ (HL.out.bel (by repeat (first | assumption | exact Bel.refl _ | refine Bel.drew ?_ | refine Bel.drewN ?_ _ | refine Bel.alloc ?_ _ | refine Bel.setCell ?_ (by simp <;> omega) _ | refine Bel.trans ?_ (by assumption))))).mono ?_
    rintro e w9 ⟨rfl, hb⟩
    have hk : Bel w8 w9 := Bel.trans (by repeat (first | assumption | exact Bel.refl _ | refine Bel.drew ?_ | refine Bel.drewN ?_ _ | refine Bel.alloc ?_ _ | refine Bel.setCell ?_ (by simp <;> omega) _ | refine Bel.trans ?_ (by assumption))) hb
    replace x0 := hk.cell x0
    replace x1 := hk.cell x1
    replace x2 := hk.cell x2
    replace x3 := hk.cell x3
    replace y0 := hk.cell y0
    replace y1 := hk.cell y1
    replace y2 := hk.cell y2
    replace y3 := hk.cell y3
    have lx0 := cell_lt x0
    have ly0 := cell_lt y0
    have hB9 : Bel w w9 := hB8.trans hk
    replace HV := Lib.hid (HV.out.bel hk)
    replace HL := Lib.hid (HL.out.bel hk)
    replace HO := Lib.hid (HO.out.bel hk)
    clear hb hk hB8
    go_wp2_with fail
    refine (works_any _).mono ?_
    rintro e wz ⟨rfl, hb⟩
    have HBZ := Lib.hid (hB9.trans (Bel.trans (by repeat (first | assumption | exact Bel.refl _ | refine Bel.drew ?_ | refine Bel.drewN ?_ _ | refine Bel.alloc ?_ _ | refine Bel.setCell ?_ (by simp <;> omega) _ | refine Bel.trans ?_ (by assumption))) hb))
    clear hb hB9
    go_wp2
    go_ret
    exact ⟨rfl, HBZ.out⟩
  · rw [hid] at HIN hj1
    have hjn : (jr == 1) = true := by
      have : jr = 1 := hj1.2 rfl
      rw [this]; rfl
    have hjm : (jr != 1) = false := by rw [bne, hjn]; rfl
    clear hj1
    go_enter Try.func10, Try.ntmps10
    go_wp2_with fail
    refine (HRT.out _ (HV.out.bel (by repeat (first | assumption | exact Bel.refl _ | refine Bel.drew ?_ | refine Bel.drewN ?_ _ | refine Bel.alloc ?_ _ | refine Bel.setCell ?_ (by simp <;> omega) _ | refine Bel.trans ?_ (by assumption))))).mono ?_
    rintro e w1 ⟨rfl, hb⟩
    have x0 : w1.cell? ⟨w.heap.size, 0, none⟩ = some (.int .i64 t.C) := hb.cell ((row_facts (new_row (by first | rfl | (simp; done)))).1 0)
    have x1 : w1.cell? ⟨w.heap.size, 1, none⟩ = some (.int .i64 t.T) := hb.cell ((row_facts (new_row (by first | rfl | (simp; done)))).1 1)
    have x2 : w1.cell? ⟨w.heap.size, 2, none⟩ = some (.slice a t.op.length c) := hb.cell ((row_facts (new_row (by first | rfl | (simp; done)))).1 2)
    have x3 : w1.cell? ⟨w.heap.size, 3, none⟩ = some (.slice wa t.ws.length wc) := hb.cell ((row_facts (new_row (by first | rfl | (simp; done)))).1 3)
    have hB1 : Bel w w1 := Bel.trans (by repeat (first | assumption | exact Bel.refl _ | refine Bel.drew ?_ | refine Bel.drewN ?_ _ | refine Bel.alloc ?_ _ | refine Bel.setCell ?_ (by simp <;> omega) _ | refine Bel.trans ?_ (by assumption))) hb
    have lx0 := cell_lt x0
    replace HV := Lib.hid (HV.out.bel hB1)
    clear hb
    go_wp2_with fail
    refine (HIO.out _ (HV.out.bel (by repeat (first | assumption | exact Bel.refl _ | refine Bel.drew ?_ | refine Bel.drewN ?_ _ | refine Bel.alloc ?_ _ | refine Bel.setCell ?_ (by simp <;> omega) _ | refine Bel.trans ?_ (by assumption))))).mono ?_
    rintro e w2 ⟨rfl, hb⟩
    have hk : Bel w1 w2 := Bel.trans (by repeat (first | assumption | exact Bel.refl _ | refine Bel.drew ?_ | refine Bel.drewN ?_ _ | refine Bel.alloc ?_ _ | refine Bel.setCell ?_ (by simp <;> omega) _ | refine Bel.trans ?_ (by assumption))) hb
    replace x0 := hk.cell x0
    replace x1 := hk.cell x1
    replace x2 := hk.cell x2
    replace x3 := hk.cell x3
    have lx0 := cell_lt x0
    have hB2 : Bel w w2 := hB1.trans hk
    replace HV := Lib.hid (HV.out.bel hk)
    clear hb hk hB1
    go_wp2_with fail
    refine (HWI.out _).mono ?_
    rintro e w3 ⟨rfl, hb⟩
    have hk : Bel w2 w3 := Bel.trans (by repeat (first | assumption | exact Bel.refl _ | refine Bel.drew ?_ | refine Bel.drewN ?_ _ | refine Bel.alloc ?_ _ | refine Bel.setCell ?_ (by simp <;> omega) _ | refine Bel.trans ?_ (by assumption))) hb
    replace x0 := hk.cell x0
    replace x1 := hk.cell x1
    replace x2 := hk.cell x2
    replace x3 := hk.cell x3
    have lx0 := cell_lt x0
    have hB3 : Bel w w3 := hB2.trans hk
    replace HV := Lib.hid (HV.out.bel hk)
    clear hb hk hB2
    go_wp2_with fail
    refine (HIDL.out _ (HV.out.bel (by repeat (first | assumption | exact Bel.refl _ | refine Bel.drew ?_ | refine Bel.drewN ?_ _ | refine Bel.alloc ?_ _ | refine Bel.setCell ?_ (by simp <;> omega) _ | refine Bel.trans ?_ (by assumption))))).mono ?_
    rintro e w4 ⟨vl, rfl, hL, hb⟩
    have hk : Bel w3 w4 := Bel.trans (by repeat (first | assumption | exact Bel.refl _ | refine Bel.drew ?_ | refine Bel.drewN ?_ _ | refine Bel.alloc ?_ _ | refine Bel.setCell ?_ (by simp <;> omega) _ | refine Bel.trans ?_ (by assumption))) hb
    replace x0 := hk.cell x0
    replace x1 := hk.cell x1
    replace x2 := hk.cell x2
    replace x3 := hk.cell x3
    have lx0 := cell_lt x0
    have hB4 : Bel w w4 := hB3.trans hk
    replace HV := Lib.hid (HV.out.bel hk)
    clear hb hk hB3
    have HL := Lib.hid hL
    clear hL
    go_wp2_with fail
    refine (HWO.out _ (HV.out.bel (by repeat (first | assumption | exact Bel.refl _ | refine Bel.drew ?_ | refine Bel.drewN ?_ _ | refine Bel.alloc ?_ _ | refine Bel.setCell ?_ (by simp <;> omega) _ | refine Bel.trans ?_ (by assumption))))).mono ?_
    rintro e w5 ⟨vo, rfl, hb, hO⟩
    have hk : Bel w4 w5 := Bel.trans (by repeat (first | assumption | exact Bel.refl _ | refine Bel.drew ?_ | refine Bel.drewN ?_ _ | refine Bel.alloc ?_ _ | refine Bel.setCell ?_ (by simp <;> omega) _ | refine Bel.trans ?_ (by assumption))) hb
    replace x0 := hk.cell x0
    replace x1 := hk.cell x1
    replace x2 := hk.cell x2
    replace x3 := hk.cell x3
    have lx0 := cell_lt x0
    have hB5 : Bel w w5 := hB4.trans hk
    replace HV := Lib.hid (HV.out.bel hk)
    replace HL := Lib.hid (HL.out.bel hk)
    clear hb hk hB4
    have HO := Lib.hid hO
    obtain ⟨ov2, wv2, rfl, ⟨a2, c2, b2, off2, rv2, rfl, _⟩, ⟨wa2, wc2, wb2, woff2, rfl, _⟩⟩ := hO
    go_wp2
    generalize hW6 : w5.alloc _ = W6
    have hk6 : Bel w5 W6 := by rw [← hW6]; exact (Bel.refl w5).alloc _
    have y0 : W6.cell? ⟨w5.heap.size, 0, none⟩ = some (.int .i64 (without t k).C) := by rw [← hW6]; exact (row_facts (new_row rfl)).1 0
    have y1 : W6.cell? ⟨w5.heap.size, 1, none⟩ = some (.int .i64 (without t k).T) := by rw [← hW6]; exact (row_facts (new_row rfl)).1 1
    have y2 : W6.cell? ⟨w5.heap.size, 2, none⟩ = some (.slice a2 (without t k).op.length c2) := by rw [← hW6]; exact (row_facts (new_row rfl)).1 2
    have y3 : W6.cell? ⟨w5.heap.size, 3, none⟩ = some (.slice wa2 (without t k).ws.length wc2) := by rw [← hW6]; exact (row_facts (new_row rfl)).1 3
    replace x0 := hk6.cell x0
    replace x1 := hk6.cell x1
    replace x2 := hk6.cell x2
    replace x3 := hk6.cell x3
    have lx0 := cell_lt x0
    have ly0 := cell_lt y0
    replace HV := Lib.hid (HV.out.bel hk6)
    replace HL := Lib.hid (HL.out.bel hk6)
    replace HO := Lib.hid (HO.out.bel hk6)
    have hB6 := hB5.trans hk6
    have c0 := hB6.cell HCC.out.1
    have c1 := hB6.cell HCC.out.2.1
    have c2' := hB6.cell HCC.out.2.2.1
    have c3 := hB6.cell HCC.out.2.2.2
    have lc0 := cell_lt c0
    have HB6 := Lib.hid hB6
    clear hW6 hk6 hB5 hB6 HIO HWI HIDL HWO HRT
    refine wp_region_mixB (Plan.seq [0, 1, 2, 3, 4, 5, 1006, 7, 8, 9, 10, 11] .nil) (by kernel_rfl) (by kernel_rfl) (fun hcur => ?_)
    simp only [Plan.seq, Plan.fill, List.getD_cons_zero, List.getD_cons_succ, Nat.reduceLT, ↓reduceIte, Nat.reduceSub]
    apply mix_pure _ rfl
    · intro w' hw'
      have hcr := hw'.cells
      go_simp
      rfl
    intro K hK
    go_simp
    refine hK _ ?_
    clear hK K
    apply mix_pure _ rfl
    · intro w' hw'
      have hcr := hw'.cells
      go_simp
      rfl
    intro K hK
    go_simp
    refine hK _ ?_
    clear hK K
    apply mix_pure _ rfl
    · intro w' hw'
      have hcr := hw'.cells
      go_simp
      rfl
    intro K hK
    go_simp
    refine hK _ ?_
    clear hK K
    apply mix_pure _ rfl
    · intro w' hw'
      have hcr := hw'.cells
      go_simp
      rfl
    intro K hK
    go_simp
    refine hK _ ?_
    clear hK K
    apply mix_pure _ rfl
    · intro w' hw'
      have hcr := hw'.cells
      go_simp
      rfl
    intro K hK
    go_simp
    refine hK _ ?_
    clear hK K
    apply mix_pure _ rfl
    · intro w' hw'
      have hcr := hw'.cells
      go_simp
      rfl
    intro K hK
    go_simp
    refine hK _ ?_
    clear hK K
    refine mix_act rfl (fun K hK => ?_)
    go_simp
    rw [← HXV.out]
    refine (HJ.out _ _ (HO.out.bel hcur)).mono ?_
    rintro e w7 ⟨rfl, hb⟩
    simp only []
    refine hK _ _ (hcur.trans hb) (fun hcur => ?_)
    clear hK K hb
    apply mix_pure _ rfl
    · intro w' hw'
      have hcr := hw'.cells
      go_simp
      rfl
    intro K hK
    go_simp
    refine hK _ ?_
    clear hK K
    apply mix_pure _ rfl
    · intro w' hw'
      have hcr := hw'.cells
      go_simp
      rfl
    intro K hK
    go_simp
    refine hK _ ?_
    clear hK K
    apply mix_pure _ rfl
    · intro w' hw'
      have hcr := hw'.cells
      go_simp
      rfl
    intro K hK
    go_simp
    refine hK _ ?_
    clear hK K
    apply mix_pure _ rfl
    · intro w' hw'
      have hcr := hw'.cells
      go_simp
      rfl
    intro K hK
    go_simp
    refine hK _ ?_
    clear hK K
    apply mix_pure _ rfl
    · intro w' hw'
      have hcr := hw'.cells
      go_simp
      rfl
    intro K hK
    go_simp
    refine hK _ ?_
    clear hK K
    refine mix_nil ?_
    have hk : Bel W6 w7 := hcur
    clear hcur lc0 c0 c1 c2' c3
    replace x0 := hk.cell x0
    replace x1 := hk.cell x1
    replace x2 := hk.cell x2
    replace x3 := hk.cell x3
    replace y0 := hk.cell y0
    replace y1 := hk.cell y1
    replace y2 := hk.cell y2
    replace y3 := hk.cell y3
    have lx0 := cell_lt x0
    have ly0 := cell_lt y0
    have hB7 : Bel w w7 := HB6.out.trans hk
    replace HV := Lib.hid (HV.out.bel hk)
    replace HL := Lib.hid (HL.out.bel hk)
    replace HO := Lib.hid (HO.out.bel hk)
    clear hk HB6
    obtain ⟨la, lc, lb, loff, rfl, hla, hlb, hlc⟩ := HL.out
    clear hla hlb hlc
    have hlle : (idleL t).length ≤ t.ws.length := hll
    generalize hnl : (idleL t).length = nl at *
    have HNL := Lib.hid hnl
    have hgt : decide ((t.ws.length : Int) < (nl : Int)) = false := by simp; omega
    clear hnl hll
    go_wp2_with fail
    refine (HRI.out _ _ (HL.out.bel (by repeat (first | assumption | exact Bel.refl _ | refine Bel.drew ?_ | refine Bel.drewN ?_ _ | refine Bel.alloc ?_ _ | refine Bel.setCell ?_ (by simp <;> omega) _ | refine Bel.trans ?_ (by assumption))))).mono ?_
    rintro e w8 ⟨rfl, hb⟩
    have hk : Bel w7 w8 := Bel.trans (by repeat (first | assumption | exact Bel.refl _ | refine Bel.drew ?_ | refine Bel.drewN ?_ _ | refine Bel.alloc ?_ _ | refine Bel.setCell ?_ (by simp <;> omega) _ | refine Bel.trans ?_ (by assumption))) hb
    replace x0 := hk.cell x0
    replace x1 := hk.cell x1
    replace x2 := hk.cell x2
    replace x3 := hk.cell x3
    replace y0 := hk.cell y0
    replace y1 := hk.cell y1
    replace y2 := hk.cell y2
    replace y3 := hk.cell y3
    have lx0 := cell_lt x0
    have ly0 := cell_lt y0
    have hB8 : Bel w w8 := hB7.trans hk
    replace HV := Lib.hid (HV.out.bel hk)
    replace HL := Lib.hid (HL.out.bel hk)
    replace HO := Lib.hid (HO.out.bel hk)
    clear hb hk hB7
    go_wp2_with fail
    refine (HIN.out _ _ (HL.out.bel (by repeat (first | assumption | exact Bel.refl _ | refine Bel.drew ?_ | refine Bel.drewN ?_ _ | refine Bel.alloc ?_ _ | refine Bel.setCell ?_ (by simp <;> omega) _ | refine Bel.trans ?_ (by assumption))))).mono ?_
    rintro e w9 ⟨rfl, hb⟩
    have hk : Bel w8 w9 := Bel.trans (by repeat (first | assumption | exact Bel.refl _ | refine Bel.drew ?_ | refine Bel.drewN ?_ _ | refine Bel.alloc ?_ _ | refine Bel.setCell ?_ (by simp <;> omega) _ | refine Bel.trans ?_ (by assumption))) hb
    replace x0 := hk.cell x0
    replace x1 := hk.cell x1
    replace x2 := hk.cell x2
    replace x3 := hk.cell x3
    replace y0 := hk.cell y0
    replace y1 := hk.cell y1
    replace y2 := hk.cell y2
    replace y3 := hk.cell y3
    have lx0 := cell_lt x0
    have ly0 := cell_lt y0
    have hB9 : Bel w w9 := hB8.trans hk
    replace HV := Lib.hid (HV.out.bel hk)
    replace HL := Lib.hid (HL.out.bel hk)
    replace HO := Lib.hid (HO.out.bel hk)
    clear hb hk hB8
    go_wp2_with fail
    refine (HN1.out (.agg #[.int .i64 (without t k).C, .int .i64 (without t k).T, .slice a2 (without t k).op.length c2, .slice wa2 (without t k).ws.length wc2]) _ (HV.out.bel (by repeat (first | assumption | exact Bel.refl _ | refine Bel.drew ?_ | refine Bel.drewN ?_ _ | refine Bel.alloc ?_ _ | refine Bel.setCell ?_ (by simp <;> omega) _ | refine Bel.trans ?_ (by assumption)))) (HO.out.bel (by repeat (first | assumption | exact Bel.refl _ | refine Bel.drew ?_ | refine Bel.drewN ?_ _ | refine Bel.alloc ?_ _ | refine Bel.setCell ?_ (by simp <;> omega) _ | refine Bel.trans ?_ (by assumption))))).mono ?_
    rintro e w10 ⟨rfl, hb⟩
    have hk : Bel w9 w10 := Bel.trans (by repeat (first | assumption | exact Bel.refl _ | refine Bel.drew ?_ | refine Bel.drewN ?_ _ | refine Bel.alloc ?_ _ | refine Bel.setCell ?_ (by simp <;> omega) _ | refine Bel.trans ?_ (by assumption))) hb
    replace x0 := hk.cell x0
    replace x1 := hk.cell x1
    replace x2 := hk.cell x2
    replace x3 := hk.cell x3
    replace y0 := hk.cell y0
    replace y1 := hk.cell y1
    replace y2 := hk.cell y2
    replace y3 := hk.cell y3
    have lx0 := cell_lt x0
    have ly0 := cell_lt y0
    have hB10 : Bel w w10 := hB9.trans hk
    replace HV := Lib.hid (HV.out.bel hk)
    replace HL := Lib.hid (HL.out.bel hk)
    replace HO := Lib.hid (HO.out.bel hk)
    clear hb hk hB9
    go_wp2_with fail
    refine (HN2.out hid (.agg #[.int .i64 (without t k).C, .int .i64 (without t k).T, .slice a2 (without t k).op.length c2, .slice wa2 (without t k).ws.length wc2]) _ (HO.out.bel (by repeat (first | assumption | exact Bel.refl _ | refine Bel.drew ?_ | refine Bel.drewN ?_ _ | refine Bel.alloc ?_ _ | refine Bel.setCell ?_ (by simp <;> omega) _ | refine Bel.trans ?_ (by assumption)))) (HV.out.bel (by repeat (first | assumption | exact Bel.refl _ | refine Bel.drew ?_ | refine Bel.drewN ?_ _ | refine Bel.alloc ?_ _ | refine Bel.setCell ?_ (by simp <;> omega) _ | refine Bel.trans ?_ (by assumption))))).mono ?_
    rintro e w11 ⟨rfl, hb⟩
    have hk : Bel w10 w11 := Bel.trans (by repeat (first | assumption | exact Bel.refl _ | refine Bel.drew ?_ | refine Bel.drewN ?_ _ | refine Bel.alloc ?_ _ | refine Bel.setCell ?_ (by simp <;> omega) _ | refine Bel.trans ?_ (by assumption))) hb
    replace x0 := hk.cell x0
    replace x1 := hk.cell x1
    replace x2 := hk.cell x2
    replace x3 := hk.cell x3
    replace y0 := hk.cell y0
    replace y1 := hk.cell y1
    replace y2 := hk.cell y2
    replace y3 := hk.cell y3
    have lx0 := cell_lt x0
    have ly0 := cell_lt y0
    have hB11 : Bel w w11 := hB10.trans hk
    replace HV := Lib.hid (HV.out.bel hk)
    replace HL := Lib.hid (HL.out.bel hk)
    replace HO := Lib.hid (HO.out.bel hk)
    clear hb hk hB10
    go_wp2_with fail
    refine (works_any _).mono ?_
    rintro e wz ⟨rfl, hb⟩
    have HBZ := Lib.hid (hB11.trans (Bel.trans (by repeat (first | assumption | exact Bel.refl _ | refine Bel.drew ?_ | refine Bel.drewN ?_ _ | refine Bel.alloc ?_ _ | refine Bel.setCell ?_ (by simp <;> omega) _ | refine Bel.trans ?_ (by assumption))) hb))
    clear hb hB11
    go_wp2
    go_ret
    exact ⟨rfl, HBZ.out⟩
end Go.Proofs.Ytoiajjdhgffdaaa
