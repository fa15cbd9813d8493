/-
  beasts: the reference's small functions: within, IsDoor, IsChamber, Through, IsStep.
-/
import Derived.Test.YtogiidkofddhaaaDoorBGiven
import Derived.Test.YtogiidkofddhaaaDoorBPaid
namespace Go.Proofs.YtogiidkofddhaaaDoor
open Go Go.RowKit
set_option maxHeartbeats 4000000
set_option maxRecDepth 100000
theorem BTrapAt.open {w : World} {v : Value} {b : BT} (h : BTrapAt w v b) : ∃ da dc sa sc pa pc, v = .agg #[.int .i64 b.n, .slice da b.doors.length dc, .slice sa b.seen.length sc, .int .i64 b.look, .int .i64 b.eats, .slice pa b.places.length pc] ∧
    DoorsAt w (.slice da b.doors.length dc) b.doors ∧ IntsAt w (.slice sa b.seen.length sc) b.seen ∧ IntsAt w (.slice pa b.places.length pc) b.places := by
  obtain ⟨dv, sv, pv, rfl, hd, hs, hp⟩ := h
  have HD := hd
  have HS := hs
  have HP := hp
  obtain ⟨da, dc, _, _, rfl, _⟩ := hd
  obtain ⟨sa, sc, _, _, rfl, _⟩ := hs
  obtain ⟨pa, pc, _, _, rfl, _⟩ := hp
  exact ⟨da, dc, sa, sc, pa, pc, rfl, HD, HS, HP⟩
theorem DoorsAt.open {w : World} {a : Option Addr} {n c : Nat} {l : List BD} (h : DoorsAt w (.slice a n c) l) : ∃ b off, (0 < l.length → a = some ⟨b, off, none⟩) ∧ l.length ≤ 140737488355328 ∧ l.length ≤ c ∧
    ∀ i, i < l.length → w.cell? ⟨b, off + i * 3, none⟩ = some (.int .i64 (atD l i).a) ∧ w.cell? ⟨b, off + i * 3 + 1, none⟩ = some (.int .i64 (atD l i).b) ∧ w.cell? ⟨b, off + i * 3 + 2, none⟩ = some (.int .i64 (atD l i).cost) := by
  obtain ⟨a', c', b, off, e, h1, ⟨h2, h3⟩, h4⟩ := h
  injection e with e1 e2 e3
  subst e1 e3
  exact ⟨b, off, h1, h2, h3, h4⟩
theorem IntsAt.open {w : World} {a : Option Addr} {n c : Nat} {l : List Int} (h : IntsAt w (.slice a n c) l) : ∃ b off, (0 < l.length → a = some ⟨b, off, none⟩) ∧ l.length ≤ 140737488355328 ∧ l.length ≤ c ∧
    ∀ i, i < l.length → w.cell? ⟨b, off + i, none⟩ = some (.int .i64 (at0 l i)) := by
  obtain ⟨a', c', b, off, e, h1, ⟨h2, h3⟩, h4⟩ := h
  injection e with e1 e2 e3
  subst e1 e3
  exact ⟨b, off, h1, h2, h3, h4⟩
theorem R6within_any (n l h : Int) (w : World) : Calls Tryd.prog 74 #[.int .i64 n, .int .i64 l, .int .i64 h] w fun e w' => e = .returned (.bool (withinB n l h)) ∧ w = w' := by
  go_enter Tryd.func74, Tryd.ntmps74
  go_wp2_with (first | (go_at_call 51; refine (Within_any _ _ _ _).mono ?_; rintro e w' ⟨rfl, rfl⟩))
  go_ret
  exact ⟨rfl, rfl⟩
theorem R6IsDoor_any (b : BT) (n : Int) (v : Value) (w : World) (hv : BTrapAt w v b) : Calls Tryd.prog 25 #[v, .int .i64 n] w fun e w' => e = .returned (.bool (isDoorB b n)) ∧ Bel w w' := by
  obtain ⟨da, dc, sa, sc, pa, pc, rfl, hd, _, _⟩ := hv.open
  obtain ⟨_, _, _, hlen, _⟩ := hd.open
  have H := Lib.hid (show isDoorB b n = withinB n 0 ((b.doors.length : Int) - 1) from rfl)
  clear hd
  go_enter Tryd.func25, Tryd.ntmps25
  go_wp2_with (first | (go_at_call 74; refine (R6within_any _ _ _ _).mono ?_; rintro e w' ⟨rfl, rfl⟩))
  go_ret
  exact ⟨rb H.out, (by repeat (first | assumption | exact Bel.refl _ | refine Bel.drew ?_ | refine Bel.drewN ?_ _ | refine Bel.alloc ?_ _ | refine Bel.setCell ?_ (by simp <;> omega) _ | refine Bel.trans ?_ (by assumption)))⟩
theorem R6IsChamber_any (b : BT) (n : Int) (v : Value) (w : World) (hv : BTrapAt w v b) : Calls Tryd.prog 45 #[v, .int .i64 n] w fun e w' => e = .returned (.bool (chamB b.n n)) ∧ Bel w w' := by
  obtain ⟨da, dc, sa, sc, pa, pc, rfl, _, _, _⟩ := hv.open
  have H := Lib.hid (show chamB b.n n = withinB n 0 (wrap64 (b.n - 1)) from rfl)
  go_enter Tryd.func45, Tryd.ntmps45
  go_wp2_with (first | (go_at_call 74; refine (R6within_any _ _ _ _).mono ?_; rintro e w' ⟨rfl, rfl⟩))
  go_ret
  exact ⟨rb H.out, (by repeat (first | assumption | exact Bel.refl _ | refine Bel.drew ?_ | refine Bel.drewN ?_ _ | refine Bel.alloc ?_ _ | refine Bel.setCell ?_ (by simp <;> omega) _ | refine Bel.trans ?_ (by assumption)))⟩
theorem R6Through_any (d : BD) (p : Int) (w : World) : Calls Tryd.prog 82 #[.agg #[.int .i64 d.a, .int .i64 d.b, .int .i64 d.cost], .int .i64 p] w fun e w' => e = .returned (.int .i64 (thr d p)) ∧ Bel w w' := by
  have H := Lib.hid (show thr d p = if p = -1 then p else if p = d.a then d.b else if p = d.b then d.a else p from rfl)
  by_cases h1 : p = -1
  · rw [if_pos h1] at H
    have b1 : (p == -1) = true := by simpa using h1
    clear h1
    go_enter Tryd.func82, Tryd.ntmps82
    go_wp2
    go_ret
    exact ⟨ri H.out, (by repeat (first | assumption | exact Bel.refl _ | refine Bel.drew ?_ | refine Bel.drewN ?_ _ | refine Bel.alloc ?_ _ | refine Bel.setCell ?_ (by simp <;> omega) _ | refine Bel.trans ?_ (by assumption)))⟩
  rw [if_neg h1] at H
  have b1 : (p == -1) = false := by simpa using h1
  clear h1
  by_cases h2 : p = d.a
  · rw [if_pos h2] at H
    have b2 : (p == d.a) = true := by simpa using h2
    clear h2
    go_enter Tryd.func82, Tryd.ntmps82
    go_wp2
    go_ret
    exact ⟨ri H.out, (by repeat (first | assumption | exact Bel.refl _ | refine Bel.drew ?_ | refine Bel.drewN ?_ _ | refine Bel.alloc ?_ _ | refine Bel.setCell ?_ (by simp <;> omega) _ | refine Bel.trans ?_ (by assumption)))⟩
  rw [if_neg h2] at H
  have b2 : (p == d.a) = false := by simpa using h2
  clear h2
  by_cases h3 : p = d.b
  · rw [if_pos h3] at H
    have b3 : (p == d.b) = true := by simpa using h3
    clear h3
    go_enter Tryd.func82, Tryd.ntmps82
    go_wp2
    go_ret
    exact ⟨ri H.out, (by repeat (first | assumption | exact Bel.refl _ | refine Bel.drew ?_ | refine Bel.drewN ?_ _ | refine Bel.alloc ?_ _ | refine Bel.setCell ?_ (by simp <;> omega) _ | refine Bel.trans ?_ (by assumption)))⟩
  rw [if_neg h3] at H
  have b3 : (p == d.b) = false := by simpa using h3
  clear h3
  go_enter Tryd.func82, Tryd.ntmps82
  go_wp2
  go_ret
  exact ⟨ri H.out, (by repeat (first | assumption | exact Bel.refl _ | refine Bel.drew ?_ | refine Bel.drewN ?_ _ | refine Bel.alloc ?_ _ | refine Bel.setCell ?_ (by simp <;> omega) _ | refine Bel.trans ?_ (by assumption)))⟩
theorem R6IsStep_any (b : BT) (x : BS) (v : Value) (w : World) (hv : BTrapAt w v b) : Calls Tryd.prog 81 #[v, .agg #[.int .i64 x.k, .int .i64 x.x]] w fun e w' => e = .returned (.bool (rightB b x)) ∧ Bel w w' := by
  have HV := Lib.hid hv
  have HI := Lib.hid (fun wx hx => R6IsDoor_any b x.x v wx hx)
  have HR := Lib.hid (show rightB b x = if x.k = 1 then isDoorB b x.x else if x.k = 2 then inB b.seen x.x else false from rfl)
  obtain ⟨da, dc, sa, sc, pa, pc, rfl, hd, hs, hp⟩ := hv.open
  have HS := Lib.hid hs
  have HC := Lib.hid (fun wx hx => In_any (.slice sa b.seen.length sc) b.seen x.x wx hx)
  clear hd hs hp hv
  by_cases h1 : x.k = 1
  · rw [if_pos h1] at HR
    have b1 : (x.k == 1) = true := by simpa using h1
    clear h1
    go_enter Tryd.func81, Tryd.ntmps81
    go_wp2_with fail
    refine (HI.out _ (HV.out.bel (by repeat (first | assumption | exact Bel.refl _ | refine Bel.drew ?_ | refine Bel.drewN ?_ _ | refine Bel.alloc ?_ _ | refine Bel.setCell ?_ (by simp <;> omega) _ | refine Bel.trans ?_ (by assumption))))).mono ?_
    rintro e w1 ⟨rfl, hb⟩
    have HB := Lib.hid (show Bel w w1 from Bel.trans (by repeat (first | assumption | exact Bel.refl _ | refine Bel.drew ?_ | refine Bel.drewN ?_ _ | refine Bel.alloc ?_ _ | refine Bel.setCell ?_ (by simp <;> omega) _ | refine Bel.trans ?_ (by assumption))) hb)
    clear hb
    go_wp2
    go_ret
    exact ⟨rb HR.out, HB.out⟩
  rw [if_neg h1] at HR
  have b1 : (x.k == 1) = false := by simpa using h1
  clear h1
  by_cases h2 : x.k = 2
  · rw [if_pos h2] at HR
    have b2 : (x.k == 2) = true := by simpa using h2
    clear h2
    go_enter Tryd.func81, Tryd.ntmps81
    go_wp2_with fail
    refine (HC.out _ (HS.out.bel (by repeat (first | assumption | exact Bel.refl _ | refine Bel.drew ?_ | refine Bel.drewN ?_ _ | refine Bel.alloc ?_ _ | refine Bel.setCell ?_ (by simp <;> omega) _ | refine Bel.trans ?_ (by assumption))))).mono ?_
    rintro e w1 ⟨rfl, rfl⟩
    go_wp2
    go_ret
    exact ⟨rb HR.out, (by repeat (first | assumption | exact Bel.refl _ | refine Bel.drew ?_ | refine Bel.drewN ?_ _ | refine Bel.alloc ?_ _ | refine Bel.setCell ?_ (by simp <;> omega) _ | refine Bel.trans ?_ (by assumption)))⟩
  rw [if_neg h2] at HR
  have b2 : (x.k == 2) = false := by simpa using h2
  clear h2
  go_enter Tryd.func81, Tryd.ntmps81
  go_wp2
  go_ret
  exact ⟨rb HR.out, (by repeat (first | assumption | exact Bel.refl _ | refine Bel.drew ?_ | refine Bel.drewN ?_ _ | refine Bel.alloc ?_ _ | refine Bel.setCell ?_ (by simp <;> omega) _ | refine Bel.trans ?_ (by assumption)))⟩
end Go.Proofs.YtogiidkofddhaaaDoor
