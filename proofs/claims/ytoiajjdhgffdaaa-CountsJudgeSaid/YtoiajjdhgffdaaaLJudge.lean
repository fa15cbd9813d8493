/-
  law: CountsJudge: Judge and Enough are what the document says, for every trap, word and number of fish; the call changes nothing that was there
-/
import Derived.Test.YtoiajjdhgffdaaaWorks
import Derived.Test.YtoiajjdhgffdaaaSame
import Derived.Test.YtoiajjdhgffdaaaSmall
import Derived.Test.YtoiajjdhgffdaaaRJudge
import Derived.Test.YtoiajjdhgffdaaaREnough
namespace Go.Proofs.Ytoiajjdhgffdaaa
open Go Go.RowKit
set_option maxHeartbeats 4000000
set_option maxRecDepth 100000
theorem isFirst_ex (f : Nat → Bool) : ∀ n, ∃ r, IsFirst n f r
  | 0 => ⟨-1, .inl ⟨rfl, fun j hj => by omega⟩⟩
  | n + 1 => by
    obtain ⟨r, h⟩ := isFirst_ex f n
    rcases h with ⟨_, h2⟩ | ⟨k, k1, k2, k3, k4⟩
    · cases e : f n with
      | true => exact ⟨n, .inr ⟨n, by omega, rfl, e, h2⟩⟩
      | false => exact ⟨-1, .inl ⟨rfl, fun j hj => by
          by_cases q : j = n
          · rw [q]; exact e
          · exact h2 j (by omega)⟩⟩
    · exact ⟨k, .inr ⟨k, by omega, rfl, k3, k4⟩⟩
theorem enough_fix (t : CT) (fish : Int) : ∃ a b er : Int, ∀ w e w', EnoughPost t fish w e w' → e = .returned (.tuple #[.agg #[.int .i64 a, .int .i64 b], .int .i64 er]) ∧ Bel w w' := by
  by_cases h : errR t (withinB fish 1 40) = 0
  · obtain ⟨s1, h1⟩ := isFirst_ex (enHi t fish) t.T.toNat
    obtain ⟨s2, h2⟩ := isFirst_ex (enLo t fish) t.T.toNat
    refine ⟨if (if s2 < 0 then (3 : Int) else 0) = 0 then s1 else 0, if (if s2 < 0 then (3 : Int) else 0) = 0 then s2 else 0, if s2 < 0 then 3 else 0, fun w e w' he => ?_⟩
    rcases he with ⟨q, _⟩ | ⟨_, r1, r2, k1, k2, k3⟩
    · exact absurd h q
    · rw [k1.uniq h1, k2.uniq h2] at k3
      exact k3
  · refine ⟨if errR t (withinB fish 1 40) = 0 then 0 else 0, if errR t (withinB fish 1 40) = 0 then 0 else 0, errR t (withinB fish 1 40), fun w e w' he => ?_⟩
    rcases he with ⟨_, k⟩ | ⟨q, _⟩
    · exact k
    · exact absurd q h
theorem CountsJudge_any (t : CT) (v : Value) (x : CW) (fish : Int) (w : World) (hv : TrapAt w v t) : Calls Try.prog 7 #[v, x.val, .int .i64 fish] w fun e w' => e = .returned (.bool true) ∧ Bel w w' := by
  have HV := Lib.hid hv
  have HUG := Lib.hid (fun wx hx => Huge_any t v wx hx)
  have HX := Lib.hid (show x.val = .agg #[.int .i64 x.time, .int .i64 x.chamber, .int .i64 x.low, .int .i64 x.high] from rfl)
  rw [HX.out]
  by_cases hh : HugeB t = true
  · rw [hh] at HUG
    obtain ⟨ov, wv, rfl, ⟨a, c, b, off, rv, rfl, _⟩, ⟨wa, wc, wb, woff, rfl, _⟩⟩ := hv
    go_enter Try.func7, Try.ntmps7
    go_wp2_with (first
      | (go_at_call 34; refine (HUG.out _ (HV.out.bel (by repeat (first | assumption | exact Bel.refl _ | refine Bel.drew ?_ | refine Bel.drewN ?_ _ | refine Bel.alloc ?_ _ | refine Bel.setCell ?_ (by simp <;> omega) _ | refine Bel.trans ?_ (by assumption))))).mono ?_; rintro e w' ⟨rfl, hb⟩)
      | (go_at_call 18; refine (works_any _).mono ?_; rintro e w'' ⟨rfl, hb2⟩))
    go_ret
    exact ⟨rfl, (by repeat (first | assumption | exact Bel.refl _ | refine Bel.drew ?_ | refine Bel.drewN ?_ _ | refine Bel.alloc ?_ _ | refine Bel.setCell ?_ (by simp <;> omega) _ | refine Bel.trans ?_ (by assumption)))⟩
  · have hh : HugeB t = false := by simpa using hh
    rw [hh] at HUG
    have hroom := room_small hh
    have HCP := Lib.hid (fun wx hx => (Copy_any t v wx hx hroom).mono fun e w' h => h.trap (by have := hroom.ws; omega))
    have HR0 := Lib.hid (fun wx hx => RJudge_any t v x wx hx hroom)
    have HP0 := Lib.hid (fun (v' : Value) wx hx => Judge_any t v' x wx hx)
    obtain ⟨a1, b1, e1, hen⟩ := enough_fix t fish
    have HP1 := Lib.hid (fun (v' : Value) wx hx => (Enough_any t v' fish wx hx).mono fun e w' h => hen wx e w' h)
    have HR1 := Lib.hid (fun wx hx => (REnough_any t v fish wx hx).mono fun e w' h => hen wx e w' h)
    unfold IntPost at HP0 HR0
    rw [HX.out] at HR0
    simp only [HX.out] at HP0
    generalize (if errR t (isWordB t.C t.T x) = 0 then judgeR (fishLo t x.time x.chamber) (fishHi t x.time x.chamber) x.low x.high else 0) = a0 at HP0 HR0
    generalize errR t (isWordB t.C t.T x) = e0 at HP0 HR0
    clear hroom hh hen
    obtain ⟨ov, wv, rfl, ⟨a, c, b, off, rv, rfl, _⟩, ⟨wa, wc, wb, woff, rfl, _⟩⟩ := hv
    go_enter Try.func7, Try.ntmps7
    go_wp2_with fail
    refine (HUG.out _ (HV.out.bel (by repeat (first | assumption | exact Bel.refl _ | refine Bel.drew ?_ | refine Bel.drewN ?_ _ | refine Bel.alloc ?_ _ | refine Bel.setCell ?_ (by simp <;> omega) _ | refine Bel.trans ?_ (by assumption))))).mono ?_
    rintro e w1 ⟨rfl, hb⟩
    have x0 : w1.cell? ⟨w.heap.size, 0, none⟩ = some (.int .i64 t.C) := hb.cell ((row_facts ((heap_alloc_old _ _ (by simp <;> omega)).trans (new_row rfl))).1 0)
    have x1 : w1.cell? ⟨w.heap.size, 1, none⟩ = some (.int .i64 t.T) := hb.cell ((row_facts ((heap_alloc_old _ _ (by simp <;> omega)).trans (new_row rfl))).1 1)
    have x2 : w1.cell? ⟨w.heap.size, 2, none⟩ = some (.slice a t.op.length c) := hb.cell ((row_facts ((heap_alloc_old _ _ (by simp <;> omega)).trans (new_row rfl))).1 2)
    have x3 : w1.cell? ⟨w.heap.size, 3, none⟩ = some (.slice wa t.ws.length wc) := hb.cell ((row_facts ((heap_alloc_old _ _ (by simp <;> omega)).trans (new_row rfl))).1 3)
    have k0 : w1.cell? ⟨w.heap.size + 1, 0, none⟩ = some (.int .i64 x.time) := hb.cell ((row_facts (new_row (by first | rfl | (simp; done)))).1 0)
    have k1 : w1.cell? ⟨w.heap.size + 1, 1, none⟩ = some (.int .i64 x.chamber) := hb.cell ((row_facts (new_row (by first | rfl | (simp; done)))).1 1)
    have k2 : w1.cell? ⟨w.heap.size + 1, 2, none⟩ = some (.int .i64 x.low) := hb.cell ((row_facts (new_row (by first | rfl | (simp; done)))).1 2)
    have k3 : w1.cell? ⟨w.heap.size + 1, 3, none⟩ = some (.int .i64 x.high) := hb.cell ((row_facts (new_row (by first | rfl | (simp; done)))).1 3)
    have hB1 : Bel w w1 := Bel.trans (by repeat (first | assumption | exact Bel.refl _ | refine Bel.drew ?_ | refine Bel.drewN ?_ _ | refine Bel.alloc ?_ _ | refine Bel.setCell ?_ (by simp <;> omega) _ | refine Bel.trans ?_ (by assumption))) hb
    have lx0 := cell_lt x0
    have lk0 := cell_lt k0
    replace HV := Lib.hid (HV.out.bel hB1)
    clear hb
    go_wp2_with fail
    refine (HCP.out _ (HV.out.bel (by repeat (first | assumption | exact Bel.refl _ | refine Bel.drew ?_ | refine Bel.drewN ?_ _ | refine Bel.alloc ?_ _ | refine Bel.setCell ?_ (by simp <;> omega) _ | refine Bel.trans ?_ (by assumption))))).mono ?_
    rintro e w2 ⟨v', rfl, hb, hO⟩
    have hk : Bel w1 w2 := Bel.trans (by repeat (first | assumption | exact Bel.refl _ | refine Bel.drew ?_ | refine Bel.drewN ?_ _ | refine Bel.alloc ?_ _ | refine Bel.setCell ?_ (by simp <;> omega) _ | refine Bel.trans ?_ (by assumption))) hb
    replace x0 := hk.cell x0
    replace x1 := hk.cell x1
    replace x2 := hk.cell x2
    replace x3 := hk.cell x3
    replace k0 := hk.cell k0
    replace k1 := hk.cell k1
    replace k2 := hk.cell k2
    replace k3 := hk.cell k3
    have lx0 := cell_lt x0
    have lk0 := cell_lt k0
    have hB2 : Bel w w2 := hB1.trans hk
    replace HV := Lib.hid (HV.out.bel hk)
    clear hb hk hB1
    have HO := Lib.hid hO
    obtain ⟨ov2, wv2, rfl, ⟨a2, c2, b2, off2, rv2, rfl, _⟩, ⟨wa2, wc2, wb2, woff2, rfl, _⟩⟩ := hO
    go_wp2_with fail
    refine (HP0.out (.agg #[.int .i64 t.C, .int .i64 t.T, .slice a2 t.op.length c2, .slice wa2 t.ws.length wc2]) _ (HO.out.bel (by repeat (first | assumption | exact Bel.refl _ | refine Bel.drew ?_ | refine Bel.drewN ?_ _ | refine Bel.alloc ?_ _ | refine Bel.setCell ?_ (by simp <;> omega) _ | refine Bel.trans ?_ (by assumption))))).mono ?_
    rintro e w3 ⟨rfl, hb⟩
    have y0 : w3.cell? ⟨w2.heap.size, 0, none⟩ = some (.int .i64 t.C) := hb.cell ((row_facts (new_row (by first | rfl | (simp; done)))).1 0)
    have y1 : w3.cell? ⟨w2.heap.size, 1, none⟩ = some (.int .i64 t.T) := hb.cell ((row_facts (new_row (by first | rfl | (simp; done)))).1 1)
    have y2 : w3.cell? ⟨w2.heap.size, 2, none⟩ = some (.slice a2 t.op.length c2) := hb.cell ((row_facts (new_row (by first | rfl | (simp; done)))).1 2)
    have y3 : w3.cell? ⟨w2.heap.size, 3, none⟩ = some (.slice wa2 t.ws.length wc2) := hb.cell ((row_facts (new_row (by first | rfl | (simp; done)))).1 3)
    have hk : Bel w2 w3 := Bel.trans (by repeat (first | assumption | exact Bel.refl _ | refine Bel.drew ?_ | refine Bel.drewN ?_ _ | refine Bel.alloc ?_ _ | refine Bel.setCell ?_ (by simp <;> omega) _ | refine Bel.trans ?_ (by assumption))) hb
    replace x0 := hk.cell x0
    replace x1 := hk.cell x1
    replace x2 := hk.cell x2
    replace x3 := hk.cell x3
    replace k0 := hk.cell k0
    replace k1 := hk.cell k1
    replace k2 := hk.cell k2
    replace k3 := hk.cell k3
    have lx0 := cell_lt x0
    have lk0 := cell_lt k0
    have ly0 := cell_lt y0
    have hB3 : Bel w w3 := hB2.trans hk
    replace HV := Lib.hid (HV.out.bel hk)
    replace HO := Lib.hid (HO.out.bel hk)
    clear hb hk hB2
    go_wp2_with fail
    refine (HR0.out _ (HV.out.bel (by repeat (first | assumption | exact Bel.refl _ | refine Bel.drew ?_ | refine Bel.drewN ?_ _ | refine Bel.alloc ?_ _ | refine Bel.setCell ?_ (by simp <;> omega) _ | refine Bel.trans ?_ (by assumption))))).mono ?_
    rintro e w4 ⟨rfl, hb⟩
    have hk : Bel w3 w4 := Bel.trans (by repeat (first | assumption | exact Bel.refl _ | refine Bel.drew ?_ | refine Bel.drewN ?_ _ | refine Bel.alloc ?_ _ | refine Bel.setCell ?_ (by simp <;> omega) _ | refine Bel.trans ?_ (by assumption))) hb
    replace x0 := hk.cell x0
    replace x1 := hk.cell x1
    replace x2 := hk.cell x2
    replace x3 := hk.cell x3
    replace k0 := hk.cell k0
    replace k1 := hk.cell k1
    replace k2 := hk.cell k2
    replace k3 := hk.cell k3
    replace y0 := hk.cell y0
    replace y1 := hk.cell y1
    replace y2 := hk.cell y2
    replace y3 := hk.cell y3
    have lx0 := cell_lt x0
    have lk0 := cell_lt k0
    have ly0 := cell_lt y0
    have hB4 : Bel w w4 := hB3.trans hk
    replace HV := Lib.hid (HV.out.bel hk)
    replace HO := Lib.hid (HO.out.bel hk)
    clear hb hk hB3
    go_wp2_with fail
    refine (HP1.out (.agg #[.int .i64 t.C, .int .i64 t.T, .slice a2 t.op.length c2, .slice wa2 t.ws.length wc2]) _ (HO.out.bel (by repeat (first | assumption | exact Bel.refl _ | refine Bel.drew ?_ | refine Bel.drewN ?_ _ | refine Bel.alloc ?_ _ | refine Bel.setCell ?_ (by simp <;> omega) _ | refine Bel.trans ?_ (by assumption))))).mono ?_
    rintro e w5 ⟨rfl, hb⟩
    have hk : Bel w4 w5 := Bel.trans (by repeat (first | assumption | exact Bel.refl _ | refine Bel.drew ?_ | refine Bel.drewN ?_ _ | refine Bel.alloc ?_ _ | refine Bel.setCell ?_ (by simp <;> omega) _ | refine Bel.trans ?_ (by assumption))) hb
    replace x0 := hk.cell x0
    replace x1 := hk.cell x1
    replace x2 := hk.cell x2
    replace x3 := hk.cell x3
    replace k0 := hk.cell k0
    replace k1 := hk.cell k1
    replace k2 := hk.cell k2
    replace k3 := hk.cell k3
    replace y0 := hk.cell y0
    replace y1 := hk.cell y1
    replace y2 := hk.cell y2
    replace y3 := hk.cell y3
    have lx0 := cell_lt x0
    have lk0 := cell_lt k0
    have ly0 := cell_lt y0
    have hB5 : Bel w w5 := hB4.trans hk
    replace HV := Lib.hid (HV.out.bel hk)
    replace HO := Lib.hid (HO.out.bel hk)
    clear hb hk hB4
    go_wp2_with fail
    refine (HR1.out _ (HV.out.bel (by repeat (first | assumption | exact Bel.refl _ | refine Bel.drew ?_ | refine Bel.drewN ?_ _ | refine Bel.alloc ?_ _ | refine Bel.setCell ?_ (by simp <;> omega) _ | refine Bel.trans ?_ (by assumption))))).mono ?_
    rintro e w6 ⟨rfl, hb⟩
    have u0 : w6.cell? ⟨w5.heap.size, 0, none⟩ = some (.int .i64 a1) := hb.cell ((row_facts (new_row (by first | rfl | (simp; done)))).1 0)
    have u1 : w6.cell? ⟨w5.heap.size, 1, none⟩ = some (.int .i64 b1) := hb.cell ((row_facts (new_row (by first | rfl | (simp; done)))).1 1)
    have hk : Bel w5 w6 := Bel.trans (by repeat (first | assumption | exact Bel.refl _ | refine Bel.drew ?_ | refine Bel.drewN ?_ _ | refine Bel.alloc ?_ _ | refine Bel.setCell ?_ (by simp <;> omega) _ | refine Bel.trans ?_ (by assumption))) hb
    replace x0 := hk.cell x0
    replace x1 := hk.cell x1
    replace x2 := hk.cell x2
    replace x3 := hk.cell x3
    replace k0 := hk.cell k0
    replace k1 := hk.cell k1
    replace k2 := hk.cell k2
    replace k3 := hk.cell k3
    replace y0 := hk.cell y0
    replace y1 := hk.cell y1
    replace y2 := hk.cell y2
    replace y3 := hk.cell y3
    have lx0 := cell_lt x0
    have lk0 := cell_lt k0
    have ly0 := cell_lt y0
    have lu0 := cell_lt u0
    have hB6 : Bel w w6 := hB5.trans hk
    replace HV := Lib.hid (HV.out.bel hk)
    replace HO := Lib.hid (HO.out.bel hk)
    clear hb hk hB5
    go_wp2_with fail
    refine (Same_eq _ _ t _ (HO.out.bel (by repeat (first | assumption | exact Bel.refl _ | refine Bel.drew ?_ | refine Bel.drewN ?_ _ | refine Bel.alloc ?_ _ | refine Bel.setCell ?_ (by simp <;> omega) _ | refine Bel.trans ?_ (by assumption)))) (HV.out.bel (by repeat (first | assumption | exact Bel.refl _ | refine Bel.drew ?_ | refine Bel.drewN ?_ _ | refine Bel.alloc ?_ _ | refine Bel.setCell ?_ (by simp <;> omega) _ | refine Bel.trans ?_ (by assumption))))).mono ?_
    rintro e w7 ⟨rfl, hb⟩
    have z0 : w7.cell? ⟨w6.heap.size, 0, none⟩ = some (.int .i64 a1) := hb.cell ((row_facts (new_row (by first | rfl | (simp; done)))).1 0)
    have z1 : w7.cell? ⟨w6.heap.size, 1, none⟩ = some (.int .i64 b1) := hb.cell ((row_facts (new_row (by first | rfl | (simp; done)))).1 1)
    have hk : Bel w6 w7 := Bel.trans (by repeat (first | assumption | exact Bel.refl _ | refine Bel.drew ?_ | refine Bel.drewN ?_ _ | refine Bel.alloc ?_ _ | refine Bel.setCell ?_ (by simp <;> omega) _ | refine Bel.trans ?_ (by assumption))) hb
    replace x0 := hk.cell x0
    replace x1 := hk.cell x1
    replace x2 := hk.cell x2
    replace x3 := hk.cell x3
    replace k0 := hk.cell k0
    replace k1 := hk.cell k1
    replace k2 := hk.cell k2
    replace k3 := hk.cell k3
    replace y0 := hk.cell y0
    replace y1 := hk.cell y1
    replace y2 := hk.cell y2
    replace y3 := hk.cell y3
    replace u0 := hk.cell u0
    replace u1 := hk.cell u1
    have lx0 := cell_lt x0
    have lk0 := cell_lt k0
    have ly0 := cell_lt y0
    have lu0 := cell_lt u0
    have lz0 := cell_lt z0
    have hB7 : Bel w w7 := hB6.trans hk
    replace HV := Lib.hid (HV.out.bel hk)
    replace HO := Lib.hid (HO.out.bel hk)
    clear hb hk hB6
    clear u0 u1 z0 z1 lu0 lz0 x0 x1 x2 x3 y0 y1 y2 y3 k0 k1 k2 k3 lk0 lx0 ly0 HP0 HR0 HP1 HR1
    go_wp2_with fail
    refine (works_any _).mono ?_
    rintro e w8 ⟨rfl, hb⟩
    have HB8 := Lib.hid (hB7.trans (Bel.trans (by repeat (first | assumption | exact Bel.refl _ | refine Bel.drew ?_ | refine Bel.drewN ?_ _ | refine Bel.alloc ?_ _ | refine Bel.setCell ?_ (by simp <;> omega) _ | refine Bel.trans ?_ (by assumption))) hb))
    clear hb hB7
    go_wp2
    go_ret
    exact ⟨rfl, HB8.out⟩
end Go.Proofs.Ytoiajjdhgffdaaa
