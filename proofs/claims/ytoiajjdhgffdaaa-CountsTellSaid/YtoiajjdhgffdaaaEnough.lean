/-
  counts: Enough and its functions.
-/
import Derived.Test.YtoiajjdhgffdaaaJudge
namespace Go.Proofs.Ytoiajjdhgffdaaa
open Go Go.RowKit
set_option maxHeartbeats 1000000
set_option maxRecDepth 100000
theorem Enough2_any (lo hi fish : Int) (fb : Nat) (w : World) (h : w.cell? ⟨fb, 0, none⟩ = some (.int .i64 fish)) :
    Calls Try.prog 82 #[.agg #[.int .i64 lo, .int .i64 hi], .pointer (some ⟨fb, 0, none⟩)] w fun e w' => e = .returned (.bool (decide (fish ≤ hi))) ∧ Bel w w' := by
  have hlt := cell_lt h
  go_enter Try.func82, Try.ntmps82
  go_wp2
  go_ret
  exact ⟨rfl, (by repeat (first | assumption | exact Bel.refl _ | refine Bel.drew ?_ | refine Bel.drewN ?_ _ | refine Bel.alloc ?_ _ | refine Bel.setCell ?_ (by simp <;> omega) _ | refine Bel.trans ?_ (by assumption)))⟩
theorem Enough3_any (lo hi fish : Int) (fb : Nat) (w : World) (h : w.cell? ⟨fb, 0, none⟩ = some (.int .i64 fish)) :
    Calls Try.prog 83 #[.agg #[.int .i64 lo, .int .i64 hi], .pointer (some ⟨fb, 0, none⟩)] w fun e w' => e = .returned (.bool (decide (fish ≤ lo))) ∧ Bel w w' := by
  have hlt := cell_lt h
  go_enter Try.func83, Try.ntmps83
  go_wp2
  go_ret
  exact ⟨rfl, (by repeat (first | assumption | exact Bel.refl _ | refine Bel.drew ?_ | refine Bel.drewN ?_ _ | refine Bel.alloc ?_ _ | refine Bel.setCell ?_ (by simp <;> omega) _ | refine Bel.trans ?_ (by assumption)))⟩
/-- r is the first number below n of which f holds, or -1. -/
def IsFirst (n : Nat) (f : Nat → Bool) (r : Int) : Prop := (r = -1 ∧ ∀ j, j < n → f j = false) ∨ ∃ k, k < n ∧ r = k ∧ f k = true ∧ ∀ j, j < k → f j = false
def SomeFirst (n : Nat) (f : Nat → Bool) (w : World) (e : Ending) (w' : World) : Prop := ∃ r, IsFirst n f r ∧ e = .returned (.int .i64 r) ∧ Bel w w'
theorem Enough1_any2 (fb tb bt : Nat) (C T fish : Int) (ov wv : Value) (M : Nat → Nat → Int) (w : World) (hfb : w.cell? ⟨fb, 0, none⟩ = some (.int .i64 fish))
    (hb : w.cell? ⟨bt, 0, none⟩ = some (.pointer (some ⟨tb, 0, none⟩))) (ht : TrapP w tb C T ov wv M) (hS : Safe M) (h1 : 1 ≤ T) (h2 : T ≤ 5) (h3 : 1 ≤ C) (h5 : C ≤ 4) :
    Calls Try.prog 81 #[.func (.func 82) #[] #[.pointer (some ⟨fb, 0, none⟩)], .pointer (some ⟨bt, 0, none⟩)] w
      (SomeFirst T.toNat (fun i => decide (fish ≤ M (nd C i C) (nd C i (C - 1)))) w) := by
  have HFB := Lib.hid hfb
  have c0 := ht.c0
  have c1 := ht.c1
  have hlt := ht.lt
  have hbl := cell_lt hb
  clear hfb
  go_enter Try.func81, Try.ntmps81
  go_wp2
  go_loopw [10] (fun i wr => ∃ k : Nat, k ≤ T.toNat ∧ i = .int .i64 k ∧ Hid (∀ j : Nat, j < k → decide (fish ≤ M (nd C j C) (nd C j (C - 1))) = false) ∧ Bel w wr) (fun i _ => T.toNat - (intOf i).toNat)
  case atStart => exact ⟨0, by omega, rfl, fun j hj => absurd hj (by omega), Bel.refl _⟩
  case round =>
    obtain ⟨k, hk, rfl, hno, hw⟩ := hrel
    by_cases hlt2 : k < T.toNat
    · have hki : (k : Int) < T := by omega
      have hT := ht.bel hw
      have hb' := hw.cell hb
      have hc0 := hT.c0
      have hl' := hT.lt
      have hbl' := cell_lt hb'
      cases htest : decide (fish ≤ M (nd C k C) (nd C k (C - 1)))
      all_goals
        have HTE := Lib.hid htest
        clear htest
        go_wp2
        refine wp_region_mixB (Plan.seq [0, 1, 2, 3, 4, 5, 6, 7, 8, 1009, 1010] .nil) (by kernel_rfl) (by kernel_rfl) (fun hcur => ?_)
        simp only [Plan.seq, Plan.fill, List.getD_cons_zero, List.getD_cons_succ, Nat.reduceLT, ↓reduceIte, Nat.reduceSub]
        apply mix_pure _ rfl
        · intro w' hw'
          have hcr := hw'.cells
          go_simp
          rfl
        intro K hK
        go_simp
        refine hK _ ?_
        clear hK K
        apply mix_pure _ rfl
        · intro w' hw'
          have hcr := hw'.cells
          go_simp
          rfl
        intro K hK
        go_simp
        refine hK _ ?_
        clear hK K
        apply mix_pure _ rfl
        · intro w' hw'
          have hcr := hw'.cells
          go_simp
          rfl
        intro K hK
        go_simp
        refine hK _ ?_
        clear hK K
        apply mix_pure _ rfl
        · intro w' hw'
          have hcr := hw'.cells
          go_simp
          rfl
        intro K hK
        go_simp
        refine hK _ ?_
        clear hK K
        apply mix_pure _ rfl
        · intro w' hw'
          have hcr := hw'.cells
          go_simp
          rfl
        intro K hK
        go_simp
        refine hK _ ?_
        clear hK K
        apply mix_pure _ rfl
        · intro w' hw'
          have hcr := hw'.cells
          go_simp
          rfl
        intro K hK
        go_simp
        refine hK _ ?_
        clear hK K
        apply mix_pure _ rfl
        · intro w' hw'
          have hcr := hw'.cells
          go_simp
          rfl
        intro K hK
        go_simp
        refine hK _ ?_
        clear hK K
        apply mix_pure _ rfl
        · intro w' hw'
          have hcr := hw'.cells
          go_simp
          rfl
        intro K hK
        go_simp
        refine hK _ ?_
        clear hK K
        apply mix_pure _ rfl
        · intro w' hw'
          have hcr := hw'.cells
          go_simp
          first | (rw [IntWalk.i64_in]; all_goals first | omega | rfl) | rfl
        intro K hK
        go_simp
        refine hK _ ?_
        clear hK K
        refine mix_act rfl (fun K hK => ?_)
        go_simp
        refine (tfish_any _ _ _ _ _ _ _ _ _ (by first | assumption | exact TrapP.bel ‹_› (by repeat (first | assumption | exact Bel.refl _ | refine Bel.drew ?_ | refine Bel.drewN ?_ _ | refine Bel.alloc ?_ _ | refine Bel.setCell ?_ (by simp <;> omega) _ | refine Bel.trans ?_ (by assumption)))) ‹Safe _› (by omega) (by omega) (by omega) (by omega) (by omega)).mono ?_
        rintro e w' ⟨rfl, hb⟩
        have hcr := hb.cells
        have hfr := hb.frozens
        have hz := hb.szle
        (try simp only [World.size_drew] at hz)
        simp only []
        refine hK _ _ (hcur.trans hb) (fun hcur => ?_)
        clear hK K
        refine mix_act rfl (fun K hK => ?_)
        go_simp
        refine (Enough2_any _ _ fish fb _ (Bel.cell (hw.trans hcur) HFB.out)).mono ?_
        rintro e w' ⟨rfl, hbb⟩
        rw [HTE.out]
        simp only []
        refine hK _ _ (hcur.trans hbb) (fun hcur => ?_)
        clear hK K
        refine mix_nil ?_
        go_wp2
      · go_roundw
        case rel => exact ⟨k + 1, by omega, by go_num, fun j hj => by
          rcases Nat.lt_succ_iff_lt_or_eq.1 hj with h | h
          · exact hno.out j h
          · rw [h]; exact HTE.out, hw.trans hcur⟩
        case measure => simp [intOf]; omega
      · go_ret
        exact ⟨(k : Int), .inr ⟨k, hlt2, rfl, HTE.out, hno.out⟩, rfl, hw.trans hcur⟩
    · go_wp2
      go_ret
      exact ⟨-1, .inl ⟨rfl, fun j hj => hno.out j (by omega)⟩, rfl, hw⟩
theorem Enough1_any3 (fb tb bt : Nat) (C T fish : Int) (ov wv : Value) (M : Nat → Nat → Int) (w : World) (hfb : w.cell? ⟨fb, 0, none⟩ = some (.int .i64 fish))
    (hb : w.cell? ⟨bt, 0, none⟩ = some (.pointer (some ⟨tb, 0, none⟩))) (ht : TrapP w tb C T ov wv M) (hS : Safe M) (h1 : 1 ≤ T) (h2 : T ≤ 5) (h3 : 1 ≤ C) (h5 : C ≤ 4) :
    Calls Try.prog 81 #[.func (.func 83) #[] #[.pointer (some ⟨fb, 0, none⟩)], .pointer (some ⟨bt, 0, none⟩)] w
      (SomeFirst T.toNat (fun i => decide (fish ≤ -(M (nd C i (C - 1)) (nd C i C)))) w) := by
  have HFB := Lib.hid hfb
  have c0 := ht.c0
  have c1 := ht.c1
  have hlt := ht.lt
  have hbl := cell_lt hb
  clear hfb
  go_enter Try.func81, Try.ntmps81
  go_wp2
  go_loopw [10] (fun i wr => ∃ k : Nat, k ≤ T.toNat ∧ i = .int .i64 k ∧ Hid (∀ j : Nat, j < k → decide (fish ≤ -(M (nd C j (C - 1)) (nd C j C))) = false) ∧ Bel w wr) (fun i _ => T.toNat - (intOf i).toNat)
  case atStart => exact ⟨0, by omega, rfl, fun j hj => absurd hj (by omega), Bel.refl _⟩
  case round =>
    obtain ⟨k, hk, rfl, hno, hw⟩ := hrel
    by_cases hlt2 : k < T.toNat
    · have hki : (k : Int) < T := by omega
      have hT := ht.bel hw
      have hb' := hw.cell hb
      have hc0 := hT.c0
      have hl' := hT.lt
      have hbl' := cell_lt hb'
      cases htest : decide (fish ≤ -(M (nd C k (C - 1)) (nd C k C)))
      all_goals
        have HTE := Lib.hid htest
        clear htest
        go_wp2
        refine wp_region_mixB (Plan.seq [0, 1, 2, 3, 4, 5, 6, 7, 8, 1009, 1010] .nil) (by kernel_rfl) (by kernel_rfl) (fun hcur => ?_)
        simp only [Plan.seq, Plan.fill, List.getD_cons_zero, List.getD_cons_succ, Nat.reduceLT, ↓reduceIte, Nat.reduceSub]
        apply mix_pure _ rfl
        · intro w' hw'
          have hcr := hw'.cells
          go_simp
          rfl
        intro K hK
        go_simp
        refine hK _ ?_
        clear hK K
        apply mix_pure _ rfl
        · intro w' hw'
          have hcr := hw'.cells
          go_simp
          rfl
        intro K hK
        go_simp
        refine hK _ ?_
        clear hK K
        apply mix_pure _ rfl
        · intro w' hw'
          have hcr := hw'.cells
          go_simp
          rfl
        intro K hK
        go_simp
        refine hK _ ?_
        clear hK K
        apply mix_pure _ rfl
        · intro w' hw'
          have hcr := hw'.cells
          go_simp
          rfl
        intro K hK
        go_simp
        refine hK _ ?_
        clear hK K
        apply mix_pure _ rfl
        · intro w' hw'
          have hcr := hw'.cells
          go_simp
          rfl
        intro K hK
        go_simp
        refine hK _ ?_
        clear hK K
        apply mix_pure _ rfl
        · intro w' hw'
          have hcr := hw'.cells
          go_simp
          rfl
        intro K hK
        go_simp
        refine hK _ ?_
        clear hK K
        apply mix_pure _ rfl
        · intro w' hw'
          have hcr := hw'.cells
          go_simp
          rfl
        intro K hK
        go_simp
        refine hK _ ?_
        clear hK K
        apply mix_pure _ rfl
        · intro w' hw'
          have hcr := hw'.cells
          go_simp
          rfl
        intro K hK
        go_simp
        refine hK _ ?_
        clear hK K
        apply mix_pure _ rfl
        · intro w' hw'
          have hcr := hw'.cells
          go_simp
          first | (rw [IntWalk.i64_in]; all_goals first | omega | rfl) | rfl
        intro K hK
        go_simp
        refine hK _ ?_
        clear hK K
        refine mix_act rfl (fun K hK => ?_)
        go_simp
        refine (tfish_any _ _ _ _ _ _ _ _ _ (by first | assumption | exact TrapP.bel ‹_› (by repeat (first | assumption | exact Bel.refl _ | refine Bel.drew ?_ | refine Bel.drewN ?_ _ | refine Bel.alloc ?_ _ | refine Bel.setCell ?_ (by simp <;> omega) _ | refine Bel.trans ?_ (by assumption)))) ‹Safe _› (by omega) (by omega) (by omega) (by omega) (by omega)).mono ?_
        rintro e w' ⟨rfl, hb⟩
        have hcr := hb.cells
        have hfr := hb.frozens
        have hz := hb.szle
        (try simp only [World.size_drew] at hz)
        simp only []
        refine hK _ _ (hcur.trans hb) (fun hcur => ?_)
        clear hK K
        refine mix_act rfl (fun K hK => ?_)
        go_simp
        refine (Enough3_any _ _ fish fb _ (Bel.cell (hw.trans hcur) HFB.out)).mono ?_
        rintro e w' ⟨rfl, hbb⟩
        rw [HTE.out]
        simp only []
        refine hK _ _ (hcur.trans hbb) (fun hcur => ?_)
        clear hK K
        refine mix_nil ?_
        go_wp2
      · go_roundw
        case rel => exact ⟨k + 1, by omega, by go_num, fun j hj => by
          rcases Nat.lt_succ_iff_lt_or_eq.1 hj with h | h
          · exact hno.out j h
          · rw [h]; exact HTE.out, hw.trans hcur⟩
        case measure => simp [intOf]; omega
      · go_ret
        exact ⟨(k : Int), .inr ⟨k, hlt2, rfl, HTE.out, hno.out⟩, rfl, hw.trans hcur⟩
    · go_wp2
      go_ret
      exact ⟨-1, .inl ⟨rfl, fun j hj => hno.out j (by omega)⟩, rfl, hw⟩
end Go.Proofs.Ytoiajjdhgffdaaa
