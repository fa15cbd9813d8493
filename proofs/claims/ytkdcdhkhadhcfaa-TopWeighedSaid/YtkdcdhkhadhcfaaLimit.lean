/-
  counts: limit, in place.
-/
import Derived.Test.YtkdcdhkhadhcfaaProg
import Derived.Test.YtkdcdhkhadhcfaaMem
namespace Go.Proofs.Ytkdcdhkhadhcfaa
set_option linter.unusedVariables false
open Go Go.RowKit
/-- One place of the matrix made anew. -/
def mn (a b : Int) : Int := if b < a then b else a
def upd (f t : Nat) (m : Int) (M : Nat → Nat → Int) (n : Nat) : Nat → Nat → Int :=
  setM M (n / 21) (n % 21) (mn (M (n / 21) (n % 21)) (M (n / 21) f + m + M t (n % 21)))
def updTo (f t : Nat) (m : Int) (M : Nat → Nat → Int) : Nat → Nat → Nat → Int
  | 0 => M
  | n + 1 => upd f t m (updTo f t m M n) n
theorem updTo_at (f t : Nat) (m : Int) (M : Nat → Nat → Int) (i k : Nat) (hk : k < 21) :
    updTo f t m M (i * 21 + (k + 1)) = setM (updTo f t m M (i * 21 + k)) i k (mn (updTo f t m M (i * 21 + k) i k) (updTo f t m M (i * 21 + k) i f + m + updTo f t m M (i * 21 + k) t k)) := by
  have e1 : (i * 21 + k) / 21 = i := by omega
  have e2 : (i * 21 + k) % 21 = k := by omega
  show upd f t m (updTo f t m M (i * 21 + k)) (i * 21 + k) = _
  unfold upd
  rw [e1, e2]
def lim (f t : Nat) (m : Int) (M : Nat → Nat → Int) : Nat → Nat → Int := if M f t ≤ m then M else updTo f t m M 441

/-- How far the entries can fall in one limit. -/
theorem updTo_low (f t : Nat) (m L : Int) (M : Nat → Nat → Int) (hL : 0 ≤ L) (hm1 : -1000 ≤ m) (ht : t < 21) (hf : f < 21)
    (hM : ∀ i k, -L ≤ M i k) : ∀ n, n ≤ 441 →
      (∀ r c, n ≤ r * 21 + c → c < 21 → updTo f t m M n r c = M r c) ∧
      (∀ c, c < 21 → -(3 * L + 2000) ≤ updTo f t m M n t c) ∧ -(2 * L + 1000) ≤ updTo f t m M n t f ∧
      (∀ r, -(4 * L + 3000) ≤ updTo f t m M n r f) ∧ (∀ r c, -(7 * L + 6000) ≤ updTo f t m M n r c) := by
  intro n
  induction n with
  | zero =>
    intro _
    refine ⟨fun _ _ _ _ => rfl, fun c _ => ?_, ?_, fun r => ?_, fun r c => ?_⟩
    · have := hM t c; show _ ≤ M t c; omega
    · have := hM t f; show _ ≤ M t f; omega
    · have := hM r f; show _ ≤ M r f; omega
    · have := hM r c; show _ ≤ M r c; omega
  | succ n ih =>
    intro hn
    obtain ⟨h1, h2, h3, h4, h5⟩ := ih (by omega)
    have ek : n % 21 < 21 := Nat.mod_lt _ (by omega)
    have ei : n / 21 * 21 + n % 21 = n := by omega
    have hz : updTo f t m M (n + 1) = setM (updTo f t m M n) (n / 21) (n % 21) (mn (updTo f t m M n (n / 21) (n % 21)) (updTo f t m M n (n / 21) f + m + updTo f t m M n t (n % 21))) := rfl
    rw [hz]
    generalize n / 21 = i at *
    generalize n % 21 = k at *
    have o := h1 i k (by omega) ek
    have of1 : k ≤ f → updTo f t m M n i f = M i f := fun h => h1 i f (by omega) hf
    have ot : i = t → k ≤ 21 → updTo f t m M n t k = M t k := fun h _ => h ▸ o
    generalize updTo f t m M n = U at *
    have b0 := hM i k
    have b1 := hM i f
    have b2 := hM t k
    have c1 := h2 k ek
    have c4 := h4 i
    have key : ∀ x, x = mn (U i k) (U i f + m + U t k) →
        -(7 * L + 6000) ≤ x ∧ (k = f → -(4 * L + 3000) ≤ x) ∧ (i = t → -(3 * L + 2000) ≤ x) ∧ (i = t → k = f → -(2 * L + 1000) ≤ x) := by
      intro x hx
      have hmn : x = U i k ∨ x = U i f + m + U t k := by rw [hx]; unfold mn; split <;> simp
      rcases hmn with e | e
      · rw [e, o]; omega
      · rw [e]
        refine ⟨by omega, fun hkf => ?_, fun hit => ?_, fun hit hkf => ?_⟩
        · have := of1 (by omega); omega
        · have q := ot hit (by omega)
          rw [q, hit]
          omega
        · have q := ot hit (by omega)
          have q2 := of1 (by omega)
          rw [q, q2]; omega
    obtain ⟨k1, k2, k3, k4⟩ := key _ rfl
    generalize mn (U i k) (U i f + m + U t k) = x at *
    refine ⟨fun r c hr hc => ?_, fun c hc => ?_, ?_, fun r => ?_, fun r c => ?_⟩
    · unfold setM
      rw [if_neg (by intro q; omega)]
      exact h1 r c (by omega) hc
    · unfold setM; split
      · rename_i q; exact k3 q.1.symm
      · exact h2 c hc
    · unfold setM; split
      · rename_i q; exact k4 q.1.symm q.2.symm
      · exact h3
    · unfold setM; split
      · rename_i q; exact k2 q.2.symm
      · exact h4 r
    · unfold setM; split
      · exact k1
      · exact h5 r c
theorem updTo_le (f t : Nat) (m : Int) (M : Nat → Nat → Int) : ∀ n r c, updTo f t m M n r c ≤ M r c := by
  intro n
  induction n with
  | zero => intro r c; exact Int.le_refl _
  | succ n ih =>
    intro r c
    show setM (updTo f t m M n) (n / 21) (n % 21) _ r c ≤ _
    unfold setM; split
    · rename_i q
      rw [q.1, q.2]
      have := ih (n / 21) (n % 21)
      unfold mn; split <;> omega
    · exact ih r c
/-- The range in which the walk of limit is safe. -/
def Safe (M : Nat → Nat → Int) : Prop := ∀ i k, -144115188075855872 ≤ M i k ∧ M i k ≤ 1048576
theorem Safe.upd {f t : Nat} {m : Int} {M : Nat → Nat → Int} (h : Safe M) (hm1 : -1000 ≤ m) (ht : t < 21) (hf : f < 21) (n : Nat) (hn : n ≤ 441) (i k : Nat) :
    -1152921504606846976 ≤ updTo f t m M n i k ∧ updTo f t m M n i k ≤ 1152921504606846976 := by
  have := (updTo_low f t m 144115188075855872 M (by omega) hm1 ht hf (fun i k => (h i k).1) n hn).2.2.2.2 i k
  have := updTo_le f t m M n i k
  have := (h i k).2
  omega

set_option maxRecDepth 100000
set_option maxHeartbeats 1000000 in
theorem limit_any (b off f t : Nat) (m : Int) (M : Nat → Nat → Int) (w : World) (hf : f < 21) (ht : t < 21) (hm1 : -1000 ≤ m) (hm2 : m ≤ 1000)
    (hS : Safe M)
    (hM : MatAt w b off M) (hfz : ∀ o, w.frozen? ⟨b, o, none⟩ = false) :
    Calls Try.prog 121 #[.pointer (some ⟨b, off, none⟩), .int .i64 f, .int .i64 t, .int .i64 m] w fun e w' =>
      e = .returned (.tuple #[]) ∧ Only b off (off + 441) w w' ∧ MatAt w' b off (lim f t m M) := by
  have hB := fun n hn => Safe.upd (m := m) hS hm1 ht hf n hn
  clear hS
  have hfi : (f : Int) < 21 := by omega
  have hti : (t : Int) < 21 := by omega
  have h0 : w.cell? ⟨b, off + f * 21 + t, none⟩ = some (.int .i64 (M f t)) := hM f hf t ht
  by_cases hle : M f t ≤ m
  · go_enter Try.func121, Try.ntmps121
    go_wp2
    refine bodyPost_ret (results_none rfl _ _ _) rfl ⟨rfl, Only.refl _ _ _ _, ?_⟩
    unfold lim
    rw [if_pos hle]
    exact hM
  · have hdec : decide (M f t ≤ m) = false := by simp; omega
    have hlim : lim f t m M = updTo f t m M 441 := by unfold lim; rw [if_neg hle]
    have HL := Lib.hid hlim; clear hlim
    go_enter Try.func121, Try.ntmps121
    go_wp2
    clear h0
    go_loopw [8, 9, 19] (fun s8 s9 s19 wr => ∃ i : Nat, i ≤ 21 ∧ s19 = .int .i64 i ∧ Only b off (off + 441) w wr ∧ MatAt wr b off (updTo f t m M (i * 21))) (fun _ _ s19 _ => 21 - (intOf s19).toNat)
    case atStart => exact ⟨0, by omega, rfl, Only.refl _ _ _ _, hM⟩
    case round =>
      obtain ⟨i, hi, rfl, hO, hR⟩ := hrel
      by_cases hlt : i < 21
      · have hii : (i : Int) < 21 := by omega
        go_wp2
        go_loopw [9, 22] (fun s9 s22 wq => ∃ k : Nat, k ≤ 21 ∧ s22 = .int .i64 k ∧ Only b off (off + 441) w wq ∧ MatAt wq b off (updTo f t m M (i * 21 + k))) (fun _ s22 _ => 21 - (intOf s22).toNat)
        case atStart => exact ⟨0, by omega, rfl, hO, hR⟩
        case round =>
          obtain ⟨k, hk, rfl, hO1, hR1⟩ := hrel
          clear hO hR
          by_cases hltk : k < 21
          · have hki : (k : Int) < 21 := by omega
            have HU := Lib.hid (updTo_at f t m M i k hltk)
            obtain ⟨e1, e1'⟩ := hB (i * 21 + k) (by omega) i f
            obtain ⟨e2, e2'⟩ := hB (i * 21 + k) (by omega) t k
            obtain ⟨e3, e3'⟩ := hB (i * 21 + k) (by omega) i k
            have c1 := hR1 i hlt f hf
            have c2 := hR1 t ht k hltk
            have c3 := hR1 i hlt k hltk
            have cf : wr.frozen? ⟨b, off + i * 21 + k, none⟩ = false := by rw [hO1.frozen]; exact hfz _
            have HS := Lib.hid (hR1.setCell hlt hltk (mn (updTo f t m M (i * 21 + k) i k) (updTo f t m M (i * 21 + k) i f + m + updTo f t m M (i * 21 + k) t k)))
            have HO := Lib.hid (hO1.setCell (o := off + i * 21 + k) (by omega) (by omega) (.int .i64 (mn (updTo f t m M (i * 21 + k) i k) (updTo f t m M (i * 21 + k) i f + m + updTo f t m M (i * 21 + k) t k))))
            clear hB hM hfz hR1 hO1
            generalize updTo f t m M (i * 21 + k) = U at *
            have w1 : IntKind.i64.wrap (U i f + m) = U i f + m := IntWalk.i64_in _ (by omega)
            have w2 : IntKind.i64.wrap (U i f + m + U t k) = U i f + m + U t k := IntWalk.i64_in _ (by omega)
            go_wp2
            refine wp_region_mixTD (Plan.seq [0, 1, 2, 3, 4, 5, 6, 7, 8, 9, 10, 11, 12, 13, 14, 15, 16, 17, 18, 19, 20, 21, 22, 23, 24, 25, 26, 27, 28, 29, 30] .nil) (by kernel_rfl) (by kernel_rfl) (fun hcur => ?_)
            simp only [Plan.seq, Plan.fill, List.getD_cons_zero, List.getD_cons_succ, Nat.reduceLT, ↓reduceIte]
            apply mix_pure _ rfl
            · intro w' hw'
              obtain ⟨n, rfl⟩ := hw'
              go_simp
              rfl
            intro K hK
            go_simp
            refine hK _ ?_
            clear hK K
            apply mix_pure _ rfl
            · intro w' hw'
              obtain ⟨n, rfl⟩ := hw'
              go_simp
              rfl
            intro K hK
            go_simp
            refine hK _ ?_
            clear hK K
            apply mix_pure _ rfl
            · intro w' hw'
              obtain ⟨n, rfl⟩ := hw'
              go_simp
              rfl
            intro K hK
            go_simp
            refine hK _ ?_
            clear hK K
            apply mix_pure _ rfl
            · intro w' hw'
              obtain ⟨n, rfl⟩ := hw'
              go_simp
              rfl
            intro K hK
            go_simp
            refine hK _ ?_
            clear hK K
            apply mix_pure _ rfl
            · intro w' hw'
              obtain ⟨n, rfl⟩ := hw'
              go_simp
              rfl
            intro K hK
            go_simp
            refine hK _ ?_
            clear hK K
            apply mix_pure _ rfl
            · intro w' hw'
              obtain ⟨n, rfl⟩ := hw'
              go_simp
              rfl
            intro K hK
            go_simp
            refine hK _ ?_
            clear hK K
            apply mix_pure _ rfl
            · intro w' hw'
              obtain ⟨n, rfl⟩ := hw'
              go_simp
              rfl
            intro K hK
            go_simp
            refine hK _ ?_
            clear hK K
            apply mix_pure _ rfl
            · intro w' hw'
              obtain ⟨n, rfl⟩ := hw'
              go_simp
              rfl
            intro K hK
            go_simp
            refine hK _ ?_
            clear hK K
            apply mix_pure _ rfl
            · intro w' hw'
              obtain ⟨n, rfl⟩ := hw'
              go_simp
              rfl
            intro K hK
            go_simp
            refine hK _ ?_
            clear hK K
            apply mix_pure _ rfl
            · intro w' hw'
              obtain ⟨n, rfl⟩ := hw'
              go_simp
              rfl
            intro K hK
            go_simp
            refine hK _ ?_
            clear hK K
            apply mix_pure _ rfl
            · intro w' hw'
              obtain ⟨n, rfl⟩ := hw'
              go_simp
              rfl
            intro K hK
            go_simp
            refine hK _ ?_
            clear hK K
            apply mix_pure _ rfl
            · intro w' hw'
              obtain ⟨n, rfl⟩ := hw'
              go_simp
              rfl
            intro K hK
            go_simp
            refine hK _ ?_
            clear hK K
            apply mix_pure _ rfl
            · intro w' hw'
              obtain ⟨n, rfl⟩ := hw'
              go_simp
              rfl
            intro K hK
            go_simp
            refine hK _ ?_
            clear hK K
            apply mix_pure _ rfl
            · intro w' hw'
              obtain ⟨n, rfl⟩ := hw'
              go_simp
              rfl
            intro K hK
            go_simp
            refine hK _ ?_
            clear hK K
            apply mix_pure _ rfl
            · intro w' hw'
              obtain ⟨n, rfl⟩ := hw'
              go_simp
              rfl
            intro K hK
            go_simp
            refine hK _ ?_
            clear hK K
            apply mix_pure _ rfl
            · intro w' hw'
              obtain ⟨n, rfl⟩ := hw'
              go_simp
              rfl
            intro K hK
            go_simp
            refine hK _ ?_
            clear hK K
            apply mix_pure _ rfl
            · intro w' hw'
              obtain ⟨n, rfl⟩ := hw'
              go_simp
              rfl
            intro K hK
            go_simp
            refine hK _ ?_
            clear hK K
            apply mix_pure _ rfl
            · intro w' hw'
              obtain ⟨n, rfl⟩ := hw'
              go_simp
              rfl
            intro K hK
            go_simp
            refine hK _ ?_
            clear hK K
            apply mix_pure _ rfl
            · intro w' hw'
              obtain ⟨n, rfl⟩ := hw'
              go_simp
              first | (rw [IntWalk.i64_in]; all_goals first | omega | rfl) | rfl
            intro K hK
            go_simp
            refine hK _ ?_
            clear hK K
            apply mix_pure _ rfl
            · intro w' hw'
              obtain ⟨n, rfl⟩ := hw'
              go_simp
              rfl
            intro K hK
            go_simp
            refine hK _ ?_
            clear hK K
            apply mix_pure _ rfl
            · intro w' hw'
              obtain ⟨n, rfl⟩ := hw'
              go_simp
              rfl
            intro K hK
            go_simp
            refine hK _ ?_
            clear hK K
            apply mix_pure _ rfl
            · intro w' hw'
              obtain ⟨n, rfl⟩ := hw'
              go_simp
              rfl
            intro K hK
            go_simp
            refine hK _ ?_
            clear hK K
            apply mix_pure _ rfl
            · intro w' hw'
              obtain ⟨n, rfl⟩ := hw'
              go_simp
              rfl
            intro K hK
            go_simp
            refine hK _ ?_
            clear hK K
            apply mix_pure _ rfl
            · intro w' hw'
              obtain ⟨n, rfl⟩ := hw'
              go_simp
              rfl
            intro K hK
            go_simp
            refine hK _ ?_
            clear hK K
            apply mix_pure _ rfl
            · intro w' hw'
              obtain ⟨n, rfl⟩ := hw'
              go_simp
              rfl
            intro K hK
            go_simp
            refine hK _ ?_
            clear hK K
            apply mix_pure _ rfl
            · intro w' hw'
              obtain ⟨n, rfl⟩ := hw'
              go_simp
              rfl
            intro K hK
            go_simp
            refine hK _ ?_
            clear hK K
            apply mix_pure _ rfl
            · intro w' hw'
              obtain ⟨n, rfl⟩ := hw'
              go_simp
              first | (rw [IntWalk.i64_in]; all_goals first | omega | rfl) | rfl
            intro K hK
            go_simp
            refine hK _ ?_
            clear hK K
            apply mix_pure _ rfl
            · intro w' hw'
              obtain ⟨n, rfl⟩ := hw'
              go_simp
              exact (show _ = Value.int .i64 (mn (U i k) (U i f + m + U t k)) from rfl)
            intro K hK
            go_simp
            refine hK _ ?_
            clear hK K
            apply mix_pure _ rfl
            · intro w' hw'
              obtain ⟨n, rfl⟩ := hw'
              go_simp
              rfl
            intro K hK
            go_simp
            refine hK _ ?_
            clear hK K
            apply mix_pure _ rfl
            · intro w' hw'
              obtain ⟨n, rfl⟩ := hw'
              go_simp
              rfl
            intro K hK
            go_simp
            refine hK _ ?_
            clear hK K
            apply mix_pure _ rfl
            · intro w' hw'
              obtain ⟨n, rfl⟩ := hw'
              go_simp
              rfl
            intro K hK
            go_simp
            refine hK _ ?_
            clear hK K
            refine mix_tailK rfl (fun K hK => ?_)
            go_simp
            refine hK _ _ ?_
            clear hK K
            go_wp2
            go_roundw
            case rel => exact ⟨k + 1, by omega, by go_num, (HO.out).drew, by rw [HU.out]; exact HS.out⟩
            case measure => simp [intOf]; omega
          · go_wp2
            go_roundw
            case rel => exact ⟨i + 1, by omega, by go_num, hO1, by have e : k = 21 := by omega
                                                                   rw [e] at hR1; rw [show (i + 1) * 21 = i * 21 + 21 by omega]; exact hR1⟩
            case measure => simp [intOf]; omega
      · go_wp2
        have e : i = 21 := by omega
        rw [e] at hR
        go_end0
        refine ⟨rfl, hO, ?_⟩
        rw [HL.out]
        exact hR
end Go.Proofs.Ytkdcdhkhadhcfaa
