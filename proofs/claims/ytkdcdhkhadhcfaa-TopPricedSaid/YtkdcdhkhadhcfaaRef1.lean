/-
  almadrabaref01: the small helpers.
-/
import Derived.Test.YtkdcdhkhadhcfaaProg
import Derived.Test.YtkdcdhkhadhcfaaRead
namespace Go.Proofs.Ytkdcdhkhadhcfaa
open Go Go.RowKit
theorem infoInt : ∃ i, Try.prog.info? 3 = some i := Option.isSome_iff_exists.1 (by kernel_rfl)
theorem cellsInt : Try.prog.cellsOf 3 = 1 := by kernel_rfl
theorem idxInts {a : Option Addr} {n c b off : Nat} (ha : 0 < n → a = some ⟨b, off, none⟩) :
    ∀ (w : World) (i : Nat), i < n → (Instr.indexAt 26 (.slice a n c) (.int .i64 i)).run Try.prog w = .ok (.pointer (some ⟨b, off + i, none⟩)) w := by
  obtain ⟨i0, hi0⟩ := infoInt
  have h := idxRule (P := Try.prog) 26 3 1 Try.underlying26 hi0 cellsInt (c := c) ha
  simpa using h

set_option maxHeartbeats 400000
set_option maxRecDepth 100000
theorem Within_any (n l h : Int) (w : World) :
    Calls Try.prog 20 #[.int .i64 n, .int .i64 l, .int .i64 h] w fun e w' => e = .returned (.bool (withinB n l h)) ∧ w = w' := by
  by_cases h1 : l ≤ n <;> by_cases h2 : n ≤ h
  all_goals
    have e : withinB n l h = (decide (l ≤ n) && decide (n ≤ h)) := rfl
    have H := Lib.hid e; clear e
    go_enter Try.func20, Try.ntmps20
    go_wp2
    go_ret
    refine ⟨?_, rfl⟩
    rw [H.out]
    simp [h1, h2]

/-- In: whether the number is in the list. -/
theorem In_any (v : Value) (l : List Int) (n : Int) (w : World) (hv : IntsAt w v l) :
    Calls Try.prog 34 #[v, .int .i64 n] w fun e w' => e = .returned (.bool (inB l n)) ∧ w = w' := by
  obtain ⟨a, c, b, off, rfl, ha, hlen, hc⟩ := hv
  have hix := idxInts (c := c) ha
  clear ha
  go_enter Try.func34, Try.ntmps34
  go_wp2
  go_loop [5] (fun i => ∃ k : Nat, k ≤ l.length ∧ i = .int .i64 k ∧ Hid (∀ j, j < k → at0 l j ≠ n)) (fun i => l.length - (intOf i).toNat)
  case atStart => exact ⟨0, by omega, rfl, fun j hj => absurd hj (by omega)⟩
  case round =>
    obtain ⟨k, hk, rfl, hno⟩ := hrel
    by_cases hlt : k < l.length
    · have hck := hc k hlt
      clear hc
      by_cases heq : at0 l k = n
      · have HI := Lib.hid (inB_of_at k hlt heq)
        have hb : (at0 l k == n) = true := by simp [heq]
        clear heq
        generalize at0 l k = x at *
        go_wp2
        go_ret
        exact ⟨rb HI.out, rfl⟩
      · have hb : (at0 l k == n) = false := by simpa using heq
        have HB := Lib.hid heq; clear heq
        generalize hx : at0 l k = x at *
        have HX := Lib.hid hx; clear hx
        go_wp2
        go_round
        case rel => exact ⟨k + 1, by omega, by go_num, fun j hj => by
          rcases Nat.lt_succ_iff_lt_or_eq.1 hj with h | h
          · exact hno.out j h
          · rw [h, HX.out]; exact HB.out⟩
        case measure => simp [intOf]; omega
    · have HI := Lib.hid (inB_of_none (l := l) (n := n) fun j hj => hno.out j (by omega))
      go_wp2
      go_ret
      exact ⟨rb HI.out, rfl⟩

/-- SameInts: whether two lists are equal. -/
theorem SameInts_any (v v2 : Value) (l l2 : List Int) (w : World) (hv : IntsAt w v l) (hv2 : IntsAt w v2 l2) :
    Calls Try.prog 39 #[v, v2] w fun e w' => e = .returned (.bool (sameB l l2)) ∧ Bel w w' := by
  obtain ⟨a, c, b, off, rfl, ha, hlen, hc⟩ := hv
  obtain ⟨a2, c2, b2, off2, rfl, ha2, hlen2, hc2⟩ := hv2
  have hix := idxInts (c := c) ha
  have hix2 := idxInts (c := c2) ha2
  clear ha ha2
  by_cases hne : l.length = l2.length
  · have HE := Lib.hid hne
    have hb1 : ((l.length : Int) != (l2.length : Int)) = false := by simp [hne]
    clear hne
    go_enter Try.func39, Try.ntmps39
    go_wp2
    go_loopw [5] (fun i wr => ∃ k : Nat, k ≤ l.length ∧ i = .int .i64 k ∧ Hid (∀ j, j < k → at0 l j = at0 l2 j) ∧ Bel w wr) (fun i _ => l.length - (intOf i).toNat)
    case atStart => exact ⟨0, by omega, rfl, fun j hj => absurd hj (by omega), Bel.refl _⟩
    case round =>
      obtain ⟨k, hk, rfl, hno, hw⟩ := hrel
      by_cases hlt : k < l.length
      · have hck := hw.cell (hc k hlt)
        have hlt2 : k < l2.length := by have := HE.out; omega
        have hck2 := hw.cell (hc2 k hlt2)
        clear hc hc2
        by_cases heq : at0 l k = at0 l2 k
        · have hb : (at0 l k != at0 l2 k) = false := by simpa using heq
          have HB := Lib.hid heq; clear heq
          go_wp2
          refine wp_region_mixD (Plan.seq [0, 1, 2, 3, 4, 5, 6, 7, 8] .nil) (by kernel_rfl) (by kernel_rfl) (fun hcur => ?_)
          simp only [Plan.seq, Plan.fill, List.getD_cons_zero, List.getD_cons_succ, Nat.reduceLT, ↓reduceIte]
          apply mix_pure _ rfl
          · intro w' hw'
            obtain ⟨n, rfl⟩ := hw'
            go_simp
            rfl
          intro K hK
          go_simp
          refine hK _ ?_
          clear hK K
          apply mix_pure _ rfl
          · intro w' hw'
            obtain ⟨n, rfl⟩ := hw'
            go_simp
            rfl
          intro K hK
          go_simp
          refine hK _ ?_
          clear hK K
          apply mix_pure _ rfl
          · intro w' hw'
            obtain ⟨n, rfl⟩ := hw'
            go_simp
            rfl
          intro K hK
          go_simp
          refine hK _ ?_
          clear hK K
          apply mix_pure _ rfl
          · intro w' hw'
            obtain ⟨n, rfl⟩ := hw'
            go_simp
            rfl
          intro K hK
          go_simp
          refine hK _ ?_
          clear hK K
          apply mix_pure _ rfl
          · intro w' hw'
            obtain ⟨n, rfl⟩ := hw'
            go_simp
            rfl
          intro K hK
          go_simp
          refine hK _ ?_
          clear hK K
          apply mix_pure _ rfl
          · intro w' hw'
            obtain ⟨n, rfl⟩ := hw'
            go_simp
            rfl
          intro K hK
          go_simp
          refine hK _ ?_
          clear hK K
          apply mix_pure _ rfl
          · intro w' hw'
            obtain ⟨n, rfl⟩ := hw'
            go_simp
            rfl
          intro K hK
          go_simp
          refine hK _ ?_
          clear hK K
          apply mix_pure _ rfl
          · intro w' hw'
            obtain ⟨n, rfl⟩ := hw'
            go_simp
            rfl
          intro K hK
          go_simp
          refine hK _ ?_
          clear hK K
          apply mix_pure _ rfl
          · intro w' hw'
            obtain ⟨n, rfl⟩ := hw'
            go_simp
            rfl
          intro K hK
          go_simp
          refine hK _ ?_
          clear hK K
          refine mix_nil ?_
          go_wp2
          go_roundw
          case rel => exact ⟨k + 1, by omega, by go_num, fun j hj => by
            rcases Nat.lt_succ_iff_lt_or_eq.1 hj with h | h
            · exact hno.out j h
            · rw [h]; exact HB.out, hw.drew⟩
          case measure => simp [intOf]; omega
        · have HI := Lib.hid (sameB_at k heq)
          have hb : (at0 l k != at0 l2 k) = true := by simpa using heq
          clear heq
          go_wp2
          refine wp_region_mixD (Plan.seq [0, 1, 2, 3, 4, 5, 6, 7, 8] .nil) (by kernel_rfl) (by kernel_rfl) (fun hcur => ?_)
          simp only [Plan.seq, Plan.fill, List.getD_cons_zero, List.getD_cons_succ, Nat.reduceLT, ↓reduceIte]
          apply mix_pure _ rfl
          · intro w' hw'
            obtain ⟨n, rfl⟩ := hw'
            go_simp
            rfl
          intro K hK
          go_simp
          refine hK _ ?_
          clear hK K
          apply mix_pure _ rfl
          · intro w' hw'
            obtain ⟨n, rfl⟩ := hw'
            go_simp
            rfl
          intro K hK
          go_simp
          refine hK _ ?_
          clear hK K
          apply mix_pure _ rfl
          · intro w' hw'
            obtain ⟨n, rfl⟩ := hw'
            go_simp
            rfl
          intro K hK
          go_simp
          refine hK _ ?_
          clear hK K
          apply mix_pure _ rfl
          · intro w' hw'
            obtain ⟨n, rfl⟩ := hw'
            go_simp
            rfl
          intro K hK
          go_simp
          refine hK _ ?_
          clear hK K
          apply mix_pure _ rfl
          · intro w' hw'
            obtain ⟨n, rfl⟩ := hw'
            go_simp
            rfl
          intro K hK
          go_simp
          refine hK _ ?_
          clear hK K
          apply mix_pure _ rfl
          · intro w' hw'
            obtain ⟨n, rfl⟩ := hw'
            go_simp
            rfl
          intro K hK
          go_simp
          refine hK _ ?_
          clear hK K
          apply mix_pure _ rfl
          · intro w' hw'
            obtain ⟨n, rfl⟩ := hw'
            go_simp
            rfl
          intro K hK
          go_simp
          refine hK _ ?_
          clear hK K
          apply mix_pure _ rfl
          · intro w' hw'
            obtain ⟨n, rfl⟩ := hw'
            go_simp
            rfl
          intro K hK
          go_simp
          refine hK _ ?_
          clear hK K
          apply mix_pure _ rfl
          · intro w' hw'
            obtain ⟨n, rfl⟩ := hw'
            go_simp
            rfl
          intro K hK
          go_simp
          refine hK _ ?_
          clear hK K
          refine mix_nil ?_
          go_wp2
          go_ret
          exact ⟨rb HI.out, hw.drew⟩
      · have HI := Lib.hid (sameB_all HE.out fun j hj => hno.out j (by omega))
        go_wp2
        go_ret
        exact ⟨rb HI.out, hw⟩
  · have HI := Lib.hid (sameB_len hne)
    have hb1 : ((l.length : Int) != (l2.length : Int)) = true := by rw [bne_iff_ne]; omega
    clear hne
    go_enter Try.func39, Try.ntmps39
    go_wp2
    go_ret
    exact ⟨rb HI.out, Bel.refl _⟩

/-- Sum. -/
theorem Sum_any (v : Value) (l : List Int) (w : World) (hv : IntsAt w v l) (hb : ∀ k, k ≤ l.length → -9000000000000000000 ≤ sumTo l k ∧ sumTo l k ≤ 9000000000000000000) :
    Calls Try.prog 74 #[v] w fun e w' => e = .returned (.int .i64 (sumTo l l.length)) ∧ w = w' := by
  obtain ⟨a, c, b, off, rfl, ha, hlen, hc⟩ := hv
  have hix := idxInts (c := c) ha
  clear ha
  go_enter Try.func74, Try.ntmps74
  go_wp2
  go_loop [3, 4] (fun s i => ∃ k : Nat, k ≤ l.length ∧ i = .int .i64 k ∧ s = .int .i64 (sumTo l k)) (fun _ i => l.length - (intOf i).toNat)
  case atStart => exact ⟨0, by omega, rfl, rfl⟩
  case round =>
    obtain ⟨k, hk, rfl, rfl⟩ := hrel
    by_cases hlt : k < l.length
    · have hck := hc k hlt
      obtain ⟨h1, h2⟩ := hb (k + 1) (by omega)
      have e : sumTo l (k + 1) = sumTo l k + at0 l k := rfl
      have HE := Lib.hid e
      rw [e] at h1 h2
      have w1 : IntKind.i64.wrap (sumTo l k + at0 l k) = sumTo l k + at0 l k := IntWalk.i64_in _ (by omega)
      clear hc hb e
      go_wp2
      go_round
      case rel => exact ⟨k + 1, by omega, by go_num, by rw [HE.out]⟩
      case measure => simp [intOf]; omega
    · have e : k = l.length := by omega
      subst e
      clear hc hb
      go_wp2
      go_ret
      exact ⟨rfl, rfl⟩

/-- Rising: whether the list is strictly ascending and within. -/
theorem Rising_any (v : Value) (l : List Int) (lo hi : Int) (w : World) (hv : IntsAt w v l) :
    Calls Try.prog 32 #[v, .int .i64 lo, .int .i64 hi] w fun e w' => e = .returned (.bool (risingB l lo hi)) ∧ Bel w w' := by
  obtain ⟨a, c, b, off, rfl, ha, hlen, hc⟩ := hv
  have hix := idxInts (c := c) ha
  clear ha
  go_enter Try.func32, Try.ntmps32
  go_wp2
  go_loopw [7] (fun i wr => ∃ k : Nat, k ≤ l.length ∧ i = .int .i64 k ∧ Hid (allB k (riseAt l lo hi) = true) ∧ Bel w wr) (fun i _ => l.length - (intOf i).toNat)
  case atStart => exact ⟨0, by omega, rfl, rfl, Bel.refl _⟩
  case round =>
    obtain ⟨k, hk, rfl, hno, hw⟩ := hrel
    by_cases hlt : k < l.length
    · have hck := hw.cell (hc k hlt)
      by_cases hwi : withinB (at0 l k) lo hi = true
      · by_cases h0 : k = 0
        · have HR := Lib.hid (allB_succ hno.out (show riseAt l lo hi k = true by unfold riseAt; rw [hwi, h0]; rfl))
          have d0 : decide (0 < (k : Int)) = false := by simp [h0]
          have dn : (!withinB (at0 l k) lo hi) = false := by simp [hwi]
          have d3 : ¬ 0 < k := by omega
          clear hc h0
          go_wp2
          refine wp_region_mixD (Plan.seq [0, 1, 2, 3, 4, 5, 1006, 7, 8, 9, 10, 11, 12, 13, 14, 15, 16, 17, 18, 19, 20, 21, 22, 23] .nil) (by kernel_rfl) (by kernel_rfl) (fun hcur => ?_)
          simp only [Plan.seq, Plan.fill, List.getD_cons_zero, List.getD_cons_succ, Nat.reduceLT, ↓reduceIte, Nat.reduceSub]
          apply mix_pure _ rfl
          · intro w' hw'
            obtain ⟨n, rfl⟩ := hw'
            go_simp
            rfl
          intro K hK
          go_simp
          refine hK _ ?_
          clear hK K
          apply mix_pure _ rfl
          · intro w' hw'
            obtain ⟨n, rfl⟩ := hw'
            go_simp
            rfl
          intro K hK
          go_simp
          refine hK _ ?_
          clear hK K
          apply mix_pure _ rfl
          · intro w' hw'
            obtain ⟨n, rfl⟩ := hw'
            go_simp
            rfl
          intro K hK
          go_simp
          refine hK _ ?_
          clear hK K
          apply mix_pure _ rfl
          · intro w' hw'
            obtain ⟨n, rfl⟩ := hw'
            go_simp
            rfl
          intro K hK
          go_simp
          refine hK _ ?_
          clear hK K
          apply mix_pure _ rfl
          · intro w' hw'
            obtain ⟨n, rfl⟩ := hw'
            go_simp
            rfl
          intro K hK
          go_simp
          refine hK _ ?_
          clear hK K
          apply mix_pure _ rfl
          · intro w' hw'
            obtain ⟨n, rfl⟩ := hw'
            go_simp
            rfl
          intro K hK
          go_simp
          refine hK _ ?_
          clear hK K
          refine mix_act rfl (fun K hK => ?_)
          go_simp
          refine (Within_any _ _ _ _).mono ?_
          rintro e w' ⟨rfl, rfl⟩
          simp only []
          refine hK _ _ hcur (fun hcur => ?_)
          clear hK K
          apply mix_pure _ rfl
          · intro w' hw'
            obtain ⟨n, rfl⟩ := hw'
            go_simp
            rfl
          intro K hK
          go_simp
          refine hK _ ?_
          clear hK K
          apply mix_pure _ rfl
          · intro w' hw'
            obtain ⟨n, rfl⟩ := hw'
            go_simp
            rfl
          intro K hK
          go_simp
          refine hK _ ?_
          clear hK K
          apply mix_pureG _ (by go_simp)
          · intro w' hw'
            obtain ⟨n, rfl⟩ := hw'
            go_simp
            rfl
          intro K hK
          go_simp
          refine hK _ ?_
          clear hK K
          apply mix_pureG _ (by go_simp)
          · intro w' hw'
            obtain ⟨n, rfl⟩ := hw'
            go_simp
            rfl
          intro K hK
          go_simp
          refine hK _ ?_
          clear hK K
          apply mix_pureG _ (by go_simp)
          · intro w' hw'
            obtain ⟨n, rfl⟩ := hw'
            go_simp
            rfl
          intro K hK
          go_simp
          refine hK _ ?_
          clear hK K
          refine mix_skip (by go_simp) ?_
          intro K hK
          go_simp
          refine hK _ ?_
          clear hK K
          refine mix_skip (by go_simp) ?_
          intro K hK
          go_simp
          refine hK _ ?_
          clear hK K
          refine mix_skip (by go_simp) ?_
          intro K hK
          go_simp
          refine hK _ ?_
          clear hK K
          refine mix_skip (by go_simp) ?_
          intro K hK
          go_simp
          refine hK _ ?_
          clear hK K
          refine mix_skip (by go_simp) ?_
          intro K hK
          go_simp
          refine hK _ ?_
          clear hK K
          refine mix_skip (by go_simp) ?_
          intro K hK
          go_simp
          refine hK _ ?_
          clear hK K
          refine mix_skip (by go_simp) ?_
          intro K hK
          go_simp
          refine hK _ ?_
          clear hK K
          refine mix_skip (by go_simp) ?_
          intro K hK
          go_simp
          refine hK _ ?_
          clear hK K
          refine mix_skip (by go_simp) ?_
          intro K hK
          go_simp
          refine hK _ ?_
          clear hK K
          refine mix_skip (by go_simp) ?_
          intro K hK
          go_simp
          refine hK _ ?_
          clear hK K
          apply mix_pureG _ (by go_simp)
          · intro w' hw'
            obtain ⟨n, rfl⟩ := hw'
            go_simp
            rfl
          intro K hK
          go_simp
          refine hK _ ?_
          clear hK K
          apply mix_pure _ rfl
          · intro w' hw'
            obtain ⟨n, rfl⟩ := hw'
            go_simp
            rfl
          intro K hK
          go_simp
          refine hK _ ?_
          clear hK K
          refine mix_nil ?_
          go_wp2
          go_roundw
          case rel => exact ⟨k + 1, by omega, by go_num, HR, hw.drew⟩
          case measure => simp [intOf]; omega
        · have d0 : decide (0 < (k : Int)) = true := by simp; omega
          have d1 : (0 : Int) < (k : Int) := by omega
          have d2 : 0 < k := by omega
          have dn : (!withinB (at0 l k) lo hi) = false := by simp [hwi]
          have hck1 := hw.cell (hc (k - 1) (by omega))
          have hk1 : k - 1 < l.length := by omega
          have ek : IntKind.i64.wrap ((k : Int) - 1) = ((k - 1 : Nat) : Int) := by rw [IntWalk.i64_in _ (by omega)]; omega
          by_cases hle : at0 l k ≤ at0 l (k - 1)
          · have HI := Lib.hid (show risingB l lo hi = false from allB_false k hlt (by unfold riseAt; simp [h0]; intro _; omega))
            clear hc
            go_wp2
            refine wp_region_mixD (Plan.seq [0, 1, 2, 3, 4, 5, 1006, 7, 8, 9, 10, 11, 12, 13, 14, 15, 16, 17, 18, 19, 20, 21, 22, 23] .nil) (by kernel_rfl) (by kernel_rfl) (fun hcur => ?_)
            simp only [Plan.seq, Plan.fill, List.getD_cons_zero, List.getD_cons_succ, Nat.reduceLT, ↓reduceIte, Nat.reduceSub]
            apply mix_pure _ rfl
            · intro w' hw'
              obtain ⟨n, rfl⟩ := hw'
              go_simp
              rfl
            intro K hK
            go_simp
            refine hK _ ?_
            clear hK K
            apply mix_pure _ rfl
            · intro w' hw'
              obtain ⟨n, rfl⟩ := hw'
              go_simp
              rfl
            intro K hK
            go_simp
            refine hK _ ?_
            clear hK K
            apply mix_pure _ rfl
            · intro w' hw'
              obtain ⟨n, rfl⟩ := hw'
              go_simp
              rfl
            intro K hK
            go_simp
            refine hK _ ?_
            clear hK K
            apply mix_pure _ rfl
            · intro w' hw'
              obtain ⟨n, rfl⟩ := hw'
              go_simp
              rfl
            intro K hK
            go_simp
            refine hK _ ?_
            clear hK K
            apply mix_pure _ rfl
            · intro w' hw'
              obtain ⟨n, rfl⟩ := hw'
              go_simp
              rfl
            intro K hK
            go_simp
            refine hK _ ?_
            clear hK K
            apply mix_pure _ rfl
            · intro w' hw'
              obtain ⟨n, rfl⟩ := hw'
              go_simp
              rfl
            intro K hK
            go_simp
            refine hK _ ?_
            clear hK K
            refine mix_act rfl (fun K hK => ?_)
            go_simp
            refine (Within_any _ _ _ _).mono ?_
            rintro e w' ⟨rfl, rfl⟩
            simp only []
            refine hK _ _ hcur (fun hcur => ?_)
            clear hK K
            apply mix_pure _ rfl
            · intro w' hw'
              obtain ⟨n, rfl⟩ := hw'
              go_simp
              rfl
            intro K hK
            go_simp
            refine hK _ ?_
            clear hK K
            apply mix_pure _ rfl
            · intro w' hw'
              obtain ⟨n, rfl⟩ := hw'
              go_simp
              rfl
            intro K hK
            go_simp
            refine hK _ ?_
            clear hK K
            apply mix_pureG _ (by go_simp)
            · intro w' hw'
              obtain ⟨n, rfl⟩ := hw'
              go_simp
              rfl
            intro K hK
            go_simp
            refine hK _ ?_
            clear hK K
            apply mix_pureG _ (by go_simp)
            · intro w' hw'
              obtain ⟨n, rfl⟩ := hw'
              go_simp
              rfl
            intro K hK
            go_simp
            refine hK _ ?_
            clear hK K
            apply mix_pureG _ (by go_simp)
            · intro w' hw'
              obtain ⟨n, rfl⟩ := hw'
              go_simp
              rfl
            intro K hK
            go_simp
            refine hK _ ?_
            clear hK K
            apply mix_pureG _ (by go_simp)
            · intro w' hw'
              obtain ⟨n, rfl⟩ := hw'
              go_simp
              rfl
            intro K hK
            go_simp
            refine hK _ ?_
            clear hK K
            apply mix_pureG _ (by go_simp)
            · intro w' hw'
              obtain ⟨n, rfl⟩ := hw'
              go_simp
              rfl
            intro K hK
            go_simp
            refine hK _ ?_
            clear hK K
            apply mix_pureG _ (by go_simp)
            · intro w' hw'
              obtain ⟨n, rfl⟩ := hw'
              go_simp
              rfl
            intro K hK
            go_simp
            refine hK _ ?_
            clear hK K
            apply mix_pureG _ (by go_simp)
            · intro w' hw'
              obtain ⟨n, rfl⟩ := hw'
              go_simp
              rfl
            intro K hK
            go_simp
            refine hK _ ?_
            clear hK K
            apply mix_pureG _ (by go_simp)
            · intro w' hw'
              obtain ⟨n, rfl⟩ := hw'
              go_simp
              rfl
            intro K hK
            go_simp
            refine hK _ ?_
            clear hK K
            apply mix_pureG _ (by go_simp)
            · intro w' hw'
              obtain ⟨n, rfl⟩ := hw'
              go_simp
              rfl
            intro K hK
            go_simp
            refine hK _ ?_
            clear hK K
            apply mix_pureG _ (by go_simp)
            · intro w' hw'
              obtain ⟨n, rfl⟩ := hw'
              go_simp
              first | (rw [IntWalk.i64_in]; all_goals first | omega | rfl) | rfl
            intro K hK
            go_simp
            refine hK _ ?_
            clear hK K
            apply mix_pureG _ (by go_simp)
            · intro w' hw'
              obtain ⟨n, rfl⟩ := hw'
              go_simp
              rfl
            intro K hK
            go_simp
            refine hK _ ?_
            clear hK K
            apply mix_pureG _ (by go_simp)
            · intro w' hw'
              obtain ⟨n, rfl⟩ := hw'
              go_simp
              rfl
            intro K hK
            go_simp
            refine hK _ ?_
            clear hK K
            apply mix_pureG _ (by go_simp)
            · intro w' hw'
              obtain ⟨n, rfl⟩ := hw'
              go_simp
              rfl
            intro K hK
            go_simp
            refine hK _ ?_
            clear hK K
            apply mix_pureG _ (by go_simp)
            · intro w' hw'
              obtain ⟨n, rfl⟩ := hw'
              go_simp
              rfl
            intro K hK
            go_simp
            refine hK _ ?_
            clear hK K
            apply mix_pure _ rfl
            · intro w' hw'
              obtain ⟨n, rfl⟩ := hw'
              go_simp
              rfl
            intro K hK
            go_simp
            refine hK _ ?_
            clear hK K
            refine mix_nil ?_
            go_wp2
            go_ret
            exact ⟨rb HI.out, hw.drew⟩
          · have HR := Lib.hid (allB_succ hno.out (show riseAt l lo hi k = true by unfold riseAt; rw [hwi]; simp; omega))
            have dle : decide (at0 l k ≤ at0 l (k - 1)) = false := by simp; omega
            clear hc
            go_wp2
            refine wp_region_mixD (Plan.seq [0, 1, 2, 3, 4, 5, 1006, 7, 8, 9, 10, 11, 12, 13, 14, 15, 16, 17, 18, 19, 20, 21, 22, 23] .nil) (by kernel_rfl) (by kernel_rfl) (fun hcur => ?_)
            simp only [Plan.seq, Plan.fill, List.getD_cons_zero, List.getD_cons_succ, Nat.reduceLT, ↓reduceIte, Nat.reduceSub]
            apply mix_pure _ rfl
            · intro w' hw'
              obtain ⟨n, rfl⟩ := hw'
              go_simp
              rfl
            intro K hK
            go_simp
            refine hK _ ?_
            clear hK K
            apply mix_pure _ rfl
            · intro w' hw'
              obtain ⟨n, rfl⟩ := hw'
              go_simp
              rfl
            intro K hK
            go_simp
            refine hK _ ?_
            clear hK K
            apply mix_pure _ rfl
            · intro w' hw'
              obtain ⟨n, rfl⟩ := hw'
              go_simp
              rfl
            intro K hK
            go_simp
            refine hK _ ?_
            clear hK K
            apply mix_pure _ rfl
            · intro w' hw'
              obtain ⟨n, rfl⟩ := hw'
              go_simp
              rfl
            intro K hK
            go_simp
            refine hK _ ?_
            clear hK K
            apply mix_pure _ rfl
            · intro w' hw'
              obtain ⟨n, rfl⟩ := hw'
              go_simp
              rfl
            intro K hK
            go_simp
            refine hK _ ?_
            clear hK K
            apply mix_pure _ rfl
            · intro w' hw'
              obtain ⟨n, rfl⟩ := hw'
              go_simp
              rfl
            intro K hK
            go_simp
            refine hK _ ?_
            clear hK K
            refine mix_act rfl (fun K hK => ?_)
            go_simp
            refine (Within_any _ _ _ _).mono ?_
            rintro e w' ⟨rfl, rfl⟩
            simp only []
            refine hK _ _ hcur (fun hcur => ?_)
            clear hK K
            apply mix_pure _ rfl
            · intro w' hw'
              obtain ⟨n, rfl⟩ := hw'
              go_simp
              rfl
            intro K hK
            go_simp
            refine hK _ ?_
            clear hK K
            apply mix_pure _ rfl
            · intro w' hw'
              obtain ⟨n, rfl⟩ := hw'
              go_simp
              rfl
            intro K hK
            go_simp
            refine hK _ ?_
            clear hK K
            apply mix_pureG _ (by go_simp)
            · intro w' hw'
              obtain ⟨n, rfl⟩ := hw'
              go_simp
              rfl
            intro K hK
            go_simp
            refine hK _ ?_
            clear hK K
            apply mix_pureG _ (by go_simp)
            · intro w' hw'
              obtain ⟨n, rfl⟩ := hw'
              go_simp
              rfl
            intro K hK
            go_simp
            refine hK _ ?_
            clear hK K
            apply mix_pureG _ (by go_simp)
            · intro w' hw'
              obtain ⟨n, rfl⟩ := hw'
              go_simp
              rfl
            intro K hK
            go_simp
            refine hK _ ?_
            clear hK K
            apply mix_pureG _ (by go_simp)
            · intro w' hw'
              obtain ⟨n, rfl⟩ := hw'
              go_simp
              rfl
            intro K hK
            go_simp
            refine hK _ ?_
            clear hK K
            apply mix_pureG _ (by go_simp)
            · intro w' hw'
              obtain ⟨n, rfl⟩ := hw'
              go_simp
              rfl
            intro K hK
            go_simp
            refine hK _ ?_
            clear hK K
            apply mix_pureG _ (by go_simp)
            · intro w' hw'
              obtain ⟨n, rfl⟩ := hw'
              go_simp
              rfl
            intro K hK
            go_simp
            refine hK _ ?_
            clear hK K
            apply mix_pureG _ (by go_simp)
            · intro w' hw'
              obtain ⟨n, rfl⟩ := hw'
              go_simp
              rfl
            intro K hK
            go_simp
            refine hK _ ?_
            clear hK K
            apply mix_pureG _ (by go_simp)
            · intro w' hw'
              obtain ⟨n, rfl⟩ := hw'
              go_simp
              rfl
            intro K hK
            go_simp
            refine hK _ ?_
            clear hK K
            apply mix_pureG _ (by go_simp)
            · intro w' hw'
              obtain ⟨n, rfl⟩ := hw'
              go_simp
              rfl
            intro K hK
            go_simp
            refine hK _ ?_
            clear hK K
            apply mix_pureG _ (by go_simp)
            · intro w' hw'
              obtain ⟨n, rfl⟩ := hw'
              go_simp
              first | (rw [IntWalk.i64_in]; all_goals first | omega | rfl) | rfl
            intro K hK
            go_simp
            refine hK _ ?_
            clear hK K
            apply mix_pureG _ (by go_simp)
            · intro w' hw'
              obtain ⟨n, rfl⟩ := hw'
              go_simp
              rfl
            intro K hK
            go_simp
            refine hK _ ?_
            clear hK K
            apply mix_pureG _ (by go_simp)
            · intro w' hw'
              obtain ⟨n, rfl⟩ := hw'
              go_simp
              rfl
            intro K hK
            go_simp
            refine hK _ ?_
            clear hK K
            apply mix_pureG _ (by go_simp)
            · intro w' hw'
              obtain ⟨n, rfl⟩ := hw'
              go_simp
              rfl
            intro K hK
            go_simp
            refine hK _ ?_
            clear hK K
            apply mix_pureG _ (by go_simp)
            · intro w' hw'
              obtain ⟨n, rfl⟩ := hw'
              go_simp
              rfl
            intro K hK
            go_simp
            refine hK _ ?_
            clear hK K
            apply mix_pure _ rfl
            · intro w' hw'
              obtain ⟨n, rfl⟩ := hw'
              go_simp
              rfl
            intro K hK
            go_simp
            refine hK _ ?_
            clear hK K
            refine mix_nil ?_
            go_wp2
            go_roundw
            case rel => exact ⟨k + 1, by omega, by go_num, HR, hw.drew⟩
            case measure => simp [intOf]; omega
      · have hwf : withinB (at0 l k) lo hi = false := by simpa using hwi
        have HI := Lib.hid (show risingB l lo hi = false from allB_false k hlt (by unfold riseAt; rw [hwf]; rfl))
        have dn : (!withinB (at0 l k) lo hi) = true := by simp [hwf]
        clear hc hwi
        go_wp2
        refine wp_region_mixD (Plan.seq [0, 1, 2, 3, 4, 5, 1006, 7, 8, 9, 10, 11, 12, 13, 14, 15, 16, 17, 18, 19, 20, 21, 22, 23] .nil) (by kernel_rfl) (by kernel_rfl) (fun hcur => ?_)
        simp only [Plan.seq, Plan.fill, List.getD_cons_zero, List.getD_cons_succ, Nat.reduceLT, ↓reduceIte, Nat.reduceSub]
        apply mix_pure _ rfl
        · intro w' hw'
          obtain ⟨n, rfl⟩ := hw'
          go_simp
          rfl
        intro K hK
        go_simp
        refine hK _ ?_
        clear hK K
        apply mix_pure _ rfl
        · intro w' hw'
          obtain ⟨n, rfl⟩ := hw'
          go_simp
          rfl
        intro K hK
        go_simp
        refine hK _ ?_
        clear hK K
        apply mix_pure _ rfl
        · intro w' hw'
          obtain ⟨n, rfl⟩ := hw'
          go_simp
          rfl
        intro K hK
        go_simp
        refine hK _ ?_
        clear hK K
        apply mix_pure _ rfl
        · intro w' hw'
          obtain ⟨n, rfl⟩ := hw'
          go_simp
          rfl
        intro K hK
        go_simp
        refine hK _ ?_
        clear hK K
        apply mix_pure _ rfl
        · intro w' hw'
          obtain ⟨n, rfl⟩ := hw'
          go_simp
          rfl
        intro K hK
        go_simp
        refine hK _ ?_
        clear hK K
        apply mix_pure _ rfl
        · intro w' hw'
          obtain ⟨n, rfl⟩ := hw'
          go_simp
          rfl
        intro K hK
        go_simp
        refine hK _ ?_
        clear hK K
        refine mix_act rfl (fun K hK => ?_)
        go_simp
        refine (Within_any _ _ _ _).mono ?_
        rintro e w' ⟨rfl, rfl⟩
        simp only []
        refine hK _ _ hcur (fun hcur => ?_)
        clear hK K
        apply mix_pure _ rfl
        · intro w' hw'
          obtain ⟨n, rfl⟩ := hw'
          go_simp
          rfl
        intro K hK
        go_simp
        refine hK _ ?_
        clear hK K
        apply mix_pure _ rfl
        · intro w' hw'
          obtain ⟨n, rfl⟩ := hw'
          go_simp
          rfl
        intro K hK
        go_simp
        refine hK _ ?_
        clear hK K
        refine mix_skip (by go_simp) ?_
        intro K hK
        go_simp
        refine hK _ ?_
        clear hK K
        refine mix_skip (by go_simp) ?_
        intro K hK
        go_simp
        refine hK _ ?_
        clear hK K
        refine mix_skip (by go_simp) ?_
        intro K hK
        go_simp
        refine hK _ ?_
        clear hK K
        refine mix_skip (by go_simp; simp [undef]) ?_
        intro K hK
        go_simp
        refine hK _ ?_
        clear hK K
        refine mix_skip (by go_simp; simp [undef]) ?_
        intro K hK
        go_simp
        refine hK _ ?_
        clear hK K
        refine mix_skip (by go_simp; simp [undef]) ?_
        intro K hK
        go_simp
        refine hK _ ?_
        clear hK K
        refine mix_skip (by go_simp; simp [undef]) ?_
        intro K hK
        go_simp
        refine hK _ ?_
        clear hK K
        refine mix_skip (by go_simp; simp [undef]) ?_
        intro K hK
        go_simp
        refine hK _ ?_
        clear hK K
        refine mix_skip (by go_simp; simp [undef]) ?_
        intro K hK
        go_simp
        refine hK _ ?_
        clear hK K
        refine mix_skip (by go_simp; simp [undef]) ?_
        intro K hK
        go_simp
        refine hK _ ?_
        clear hK K
        refine mix_skip (by go_simp; simp [undef]) ?_
        intro K hK
        go_simp
        refine hK _ ?_
        clear hK K
        refine mix_skip (by go_simp; simp [undef]) ?_
        intro K hK
        go_simp
        refine hK _ ?_
        clear hK K
        refine mix_skip (by go_simp; simp [undef]) ?_
        intro K hK
        go_simp
        refine hK _ ?_
        clear hK K
        refine mix_skip (by go_simp) ?_
        intro K hK
        go_simp
        refine hK _ ?_
        clear hK K
        apply mix_pure _ rfl
        · intro w' hw'
          obtain ⟨n, rfl⟩ := hw'
          go_simp
          rfl
        intro K hK
        go_simp
        refine hK _ ?_
        clear hK K
        refine mix_nil ?_
        go_wp2
        go_ret
        exact ⟨rb HI.out, hw.drew⟩
    · have e : k = l.length := by omega
      have HI := Lib.hid (show risingB l lo hi = true by unfold risingB; rw [← e]; exact hno.out)
      clear e
      go_wp2
      go_ret
      exact ⟨rb HI.out, hw⟩
end Go.Proofs.Ytkdcdhkhadhcfaa
