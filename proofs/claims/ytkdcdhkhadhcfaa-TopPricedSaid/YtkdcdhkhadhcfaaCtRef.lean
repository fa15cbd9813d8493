/-
  cuts: the reference: CanCut, LostOf, IsParting, ChangeOf, IsTruth, IsCut, IsSold, Pays.
-/
import Derived.Test.YtkdcdhkhadhcfaaCtMem
namespace Go.Proofs.Ytkdcdhkhadhcfaa
open Go Go.RowKit
set_option maxHeartbeats 4000000
set_option maxRecDepth 100000
theorem run_max_int3 {P : Program} (w : World) (ts : Array TypeId) (t : TypeId) (k k1 k2 : IntKind) (x y z : Int) : (Builtin.max_ ts t #[.int k x, .int k1 y, .int k2 z]).run P w = .ok (.int k (max (max x y) z)) w := by
  have e : ∀ a b : Int, (if a < b then b else a) = max a b := by intro a b; split <;> omega
  simp [Builtin.max_, Builtin.max2, e]
attribute [local go_sem high] run_max_int3
theorem R7CanCut_any (t : List CP) (m : Int) (v : Value) (w : World) (hv : CtAt w v t) : Calls Try.prog 33 #[v, .int .i64 m] w fun e w' => e = .returned (.bool (cutB t m)) ∧ w = w' := by
  obtain ⟨a, c, b, off, rfl, ha, ⟨hl, _⟩, hc⟩ := hv
  have hix := idxCP (c := c) ha
  have HC := Lib.hid hc
  have HT := Lib.hid (fun i (hi : i < t.length) (h : (atC t i).of = m) => show cutB t m = true from cutB_true.2 ⟨i, hi, h⟩)
  have HF := Lib.hid (fun (h : allB t.length (fun i => !decide ((atC t i).of = m)) = true) => show cutB t m = false by unfold cutB; rw [h]; rfl)
  clear ha hc
  generalize hG : t.length = G at *
  clear hG
  go_enter Try.func33, Try.ntmps33
  go_wp2
  go_loopw [5] (fun i wr => ∃ k : Nat, k ≤ G ∧ i = .int .i64 k ∧ Hid (allB k (fun i => !decide ((atC t i).of = m)) = true) ∧ w = wr) (fun i _ => G - (intOf i).toNat)
  case atStart => exact ⟨0, by omega, rfl, Lib.hid rfl, rfl⟩
  case round =>
    obtain ⟨k, hk, rfl, hno, rfl⟩ := hrel
    by_cases hlt : k < G
    · have hlti : (k : Int) < (G : Int) := by omega
      have k0 := (HC.out k hlt).1
      have lk := cell_lt k0
      have HN := Lib.hid (fun (h : (!decide ((atC t k).of = m)) = true) => allB_succ hno.out (f := fun i => !decide ((atC t i).of = m)) h)
      have HR := Lib.hid (HT.out k hlt)
      clear HT HF HC hno
      generalize (atC t k).of = x at *
      by_cases e : x = m
      · have b1 : (x == m) = true := by simpa using e
        have HR2 := Lib.hid (HR.out e)
        clear HR HN e
        go_wp2
        go_ret
        exact ⟨rb (by rw [HR2.out]), rfl⟩
      · have b1 : (x == m) = false := by simpa using e
        have HN2 := Lib.hid (HN.out (by simp [e]))
        clear HR HN e
        go_wp2
        go_roundw
        case rel => exact ⟨k + 1, by omega, by go_num, HN2, by trivial⟩
        case measure => simp [intOf]; omega
    · have hlti : ¬ (k : Int) < (G : Int) := by omega
      obtain rfl : k = G := by omega
      have HR2 := Lib.hid (HF.out hno.out)
      clear HT HF HC hno
      go_wp2
      go_ret
      exact ⟨rb (by rw [HR2.out]), rfl⟩
def lostTo (t : List CP) (y : List Int) (m : Int) : Nat → Int
  | 0 => at0 y m.toNat
  | k + 1 => if (atC t k).of = m then lostTo t y m k - at0 y k else lostTo t y m k
def YOk (t : List CP) (y : List Int) : Prop := y.length = t.length ∧ ∀ i, i < y.length → 0 ≤ at0 y i ∧ at0 y i ≤ 30
theorem lost_in {t : List CP} {y : List Int} (hy : YOk t y) {m : Nat} (hm : m < t.length) : ∀ k, k ≤ t.length → lostTo t y m k ≤ 30 ∧ -(30 * k : Int) ≤ lostTo t y m k
  | 0, _ => by have := hy.2 m (by rw [hy.1]; exact hm); show at0 y (m : Int).toNat ≤ 30 ∧ _ ≤ at0 y (m : Int).toNat; rw [Int.toNat_natCast]; omega
  | k + 1, hk => by
    have ih := lost_in hy hm k (by omega)
    have := hy.2 k (by rw [hy.1]; omega)
    unfold lostTo
    by_cases e : (atC t k).of = (m : Int)
    · rw [if_pos e]; omega
    · rw [if_neg e]; omega
theorem R7LostOf_any (t : List CP) (y : List Int) (m : Nat) (v vy : Value) (w : World) (hv : CtAt w v t) (hyv : IntsAt w vy y) (hy : YOk t y) (h8 : t.length ≤ 8) (hm : m < t.length) :
    Calls Try.prog 61 #[v, vy, .int .i64 m] w fun e w' => e = .returned (.int .i64 (lostTo t y m t.length)) ∧ w = w' := by
  obtain ⟨a, c, b, off, rfl, ha, ⟨hl, _⟩, hc⟩ := hv
  obtain ⟨ya, yc, yb, yo, rfl, hya, ⟨hyl, _⟩, hyc⟩ := hyv
  have hix := idxCP (c := c) ha
  have hiy := idxInts (c := yc) hya
  have HC := Lib.hid hc
  have HY := Lib.hid hyc
  have HL := Lib.hid (fun k hk => lost_in hy hm k hk)
  have HYB := Lib.hid hy.2
  have h0 : lostTo t y m 0 = at0 y m := by show at0 y (m : Int).toNat = _; rw [Int.toNat_natCast]
  have HS := Lib.hid (fun k => show lostTo t y m (k + 1) = if (atC t k).of = (m : Int) then lostTo t y m k - at0 y k else lostTo t y m k from rfl)
  have H0 := Lib.hid h0
  have hle := hy.1
  rw [hle] at hiy hya hyl HYB HY ⊢
  have m0 := HY.out m hm
  have lm := cell_lt m0
  rw [← h0] at m0
  clear ha hc hya hyc hy hle h0
  generalize hG : t.length = G at *
  clear hG
  have hmi : (m : Int) < (G : Int) := by omega
  go_enter Try.func61, Try.ntmps61
  go_wp2
  go_loopw [7, 8] (fun n i wr => ∃ k : Nat, k ≤ G ∧ i = .int .i64 k ∧ n = .int .i64 (lostTo t y m k) ∧ w = wr) (fun _ i _ => G - (intOf i).toNat)
  case atStart => exact ⟨0, by omega, rfl, rfl, rfl⟩
  case round =>
    obtain ⟨k, hk, rfl, rfl, rfl⟩ := hrel
    by_cases hlt : k < G
    · have hlti : (k : Int) < (G : Int) := by omega
      have k0 := (HC.out k hlt).1
      have lk := cell_lt k0
      have y0 := HY.out k hlt
      have ly := cell_lt y0
      have q1 := HL.out k hk
      have q2 := HYB.out k hlt
      have HSK := Lib.hid (HS.out k)
      clear HC HY HL HYB HS m0 lm H0
      generalize lostTo t y m k = n at *
      generalize at0 y k = yk at *
      generalize (atC t k).of = x at *
      by_cases e : x = (m : Int)
      · have b1 : (x == (m : Int)) = true := by simpa using e
        have HR := Lib.hid (HSK.out.trans (if_pos e))
        clear HSK e
        go_wp2
        go_roundw
        case rel => exact ⟨k + 1, by omega, by go_num, by rw [HR.out], by trivial⟩
        case measure => simp [intOf]; omega
      · have b1 : (x == (m : Int)) = false := by simpa using e
        have HR := Lib.hid (HSK.out.trans (if_neg e))
        clear HSK e
        go_wp2
        go_roundw
        case rel => exact ⟨k + 1, by omega, by go_num, by rw [HR.out], by trivial⟩
        case measure => simp [intOf]; omega
    · have hlti : ¬ (k : Int) < (G : Int) := by omega
      obtain rfl : k = G := by omega
      go_wp2
      go_ret
      exact ⟨rfl, rfl⟩
def awayV (lo hi x : Int) : Int := max 0 (max (lo - x) (x - hi))
theorem R7away_any (lo hi x : Int) (w : World) (h1 : 0 ≤ lo ∧ lo ≤ 30) (h2 : 0 ≤ hi ∧ hi ≤ 30) (h3 : 0 ≤ x ∧ x ≤ 30) : Calls Try.prog 62 #[.agg #[.int .i64 lo, .int .i64 hi], .int .i64 x] w fun e w' => e = .returned (.int .i64 (awayV lo hi x)) ∧ Bel w w' := by
  go_enter Try.func62, Try.ntmps62
  go_wp2
  go_ret
  exact ⟨rfl, (by repeat (first | assumption | exact Bel.refl _ | refine Bel.drew ?_ | refine Bel.drewN ?_ _ | refine Bel.alloc ?_ _ | refine Bel.setCell ?_ (by simp <;> omega) _ | refine Bel.trans ?_ (by assumption)))⟩
def chgTo (t : List CP) (y : List Int) : Nat → Int
  | 0 => 0
  | k + 1 => chgTo t y k + awayV (atC t k).wlo (atC t k).whi (at0 y k)
theorem chg_in {t : List CP} {y : List Int} (ht : CtOk t) (hy : YOk t y) : ∀ k, k ≤ t.length → 0 ≤ chgTo t y k ∧ chgTo t y k ≤ 30 * k ∧ (chgTo t y k = 0 → ∀ i, i < k → (atC t i).wlo ≤ at0 y i ∧ at0 y i ≤ (atC t i).whi)
  | 0, _ => ⟨Int.le_refl _, by show (0 : Int) ≤ _; omega, fun _ i hi => by omega⟩
  | k + 1, hk => by
    obtain ⟨h1, h2, h3⟩ := chg_in ht hy k (by omega)
    have hw := ht.w k (by omega)
    have hyk := hy.2 k (by rw [hy.1]; omega)
    have ha : awayV (atC t k).wlo (atC t k).whi (at0 y k) = max 0 (max ((atC t k).wlo - at0 y k) (at0 y k - (atC t k).whi)) := rfl
    have e : chgTo t y (k + 1) = chgTo t y k + awayV (atC t k).wlo (atC t k).whi (at0 y k) := rfl
    rw [e]
    generalize awayV (atC t k).wlo (atC t k).whi (at0 y k) = d at *
    refine ⟨by omega, by omega, fun h0 i hi => ?_⟩
    by_cases q : i = k
    · subst q; omega
    · exact h3 (by omega) i (by omega)
theorem R7ChangeOf_any (t : List CP) (y : List Int) (v vy : Value) (w : World) (ht : CtOk t) (hy : YOk t y) (hv : CtAt w v t) (hyv : IntsAt w vy y) :
    Calls Try.prog 31 #[v, vy] w fun e w' => e = .returned (.int .i64 (chgTo t y t.length)) ∧ Bel w w' := by
  obtain ⟨a, c, b, off, rfl, ha, ⟨hl, _⟩, hc⟩ := hv
  obtain ⟨ya, yc, yb, yo, rfl, hya, ⟨hyl, _⟩, hyc⟩ := hyv
  have hix := idxCP (c := c) ha
  have hiy := idxInts (c := yc) hya
  have HC := Lib.hid hc
  have HY := Lib.hid hyc
  have HB := Lib.hid (fun k hk => chg_in ht hy k hk)
  have HW := Lib.hid ht.w
  have HYB := Lib.hid hy.2
  have HS := Lib.hid (fun k => show chgTo t y (k + 1) = chgTo t y k + awayV (atC t k).wlo (atC t k).whi (at0 y k) from rfl)
  have hle := hy.1
  have h8 := ht.l8
  rw [hle] at hiy hya hyl HYB HY ⊢
  clear ha hc hya hyc hy hle ht
  generalize hG : t.length = G at *
  clear hG
  go_enter Try.func31, Try.ntmps31
  go_wp2
  go_loopw [5, 6] (fun n i wr => ∃ k : Nat, k ≤ G ∧ i = .int .i64 k ∧ n = .int .i64 (chgTo t y k) ∧ Hid (Bel w wr)) (fun _ i _ => G - (intOf i).toNat)
  case atStart => exact ⟨0, by omega, rfl, rfl, Lib.hid (Bel.refl _)⟩
  case round =>
    obtain ⟨k, hk, rfl, rfl, hbr⟩ := hrel
    by_cases hlt : k < G
    · have hlti : (k : Int) < (G : Int) := by omega
      obtain ⟨_, q1, q2, _, _, _⟩ := HC.out k hlt
      have k1 := hbr.out.cell q1
      have k2 := hbr.out.cell q2
      have y0 := hbr.out.cell (HY.out k hlt)
      have lk := cell_lt k1
      have ly := cell_lt y0
      obtain ⟨r1, r2, _⟩ := HB.out k hk
      have w1 := HW.out k hlt
      have w2 := HYB.out k hlt
      have HSK := Lib.hid (HS.out k)
      have HA := Lib.hid (fun wx => R7away_any (atC t k).wlo (atC t k).whi (at0 y k) wx (by omega) (by omega) (by omega))
      have ha : 0 ≤ awayV (atC t k).wlo (atC t k).whi (at0 y k) ∧ awayV (atC t k).wlo (atC t k).whi (at0 y k) ≤ 30 := by unfold awayV; omega
      clear q1 q2 HC HY HB HW HYB HS w1 w2
      generalize chgTo t y k = n at *
      generalize awayV (atC t k).wlo (atC t k).whi (at0 y k) = d at *
      generalize at0 y k = yk at *
      generalize (atC t k).wlo = lo at *
      generalize (atC t k).whi = hi at *
      go_wp2_with fail
      refine wp_region_mixB (Plan.seq [0, 1, 2, 3, 4, 5, 6, 7, 8, 9, 1010, 11, 12] .nil) (by kernel_rfl) (by kernel_rfl) (fun hcur => ?_)
      simp only [Plan.seq, Plan.fill, List.getD_cons_zero, List.getD_cons_succ, Nat.reduceLT, ↓reduceIte, Nat.reduceSub]
      apply mix_pure _ rfl
      · intro w' hw'
        have hcr := hw'.cells
        go_simp
        rfl
      intro K hK
      go_simp
      refine hK _ ?_
      clear hK K
      apply mix_pure _ rfl
      · intro w' hw'
        have hcr := hw'.cells
        go_simp
        rfl
      intro K hK
      go_simp
      refine hK _ ?_
      clear hK K
      apply mix_pure _ rfl
      · intro w' hw'
        have hcr := hw'.cells
        go_simp
        rfl
      intro K hK
      go_simp
      refine hK _ ?_
      clear hK K
      apply mix_pure _ rfl
      · intro w' hw'
        have hcr := hw'.cells
        go_simp
        rfl
      intro K hK
      go_simp
      refine hK _ ?_
      clear hK K
      apply mix_pure _ rfl
      · intro w' hw'
        have hcr := hw'.cells
        go_simp
        rfl
      intro K hK
      go_simp
      refine hK _ ?_
      clear hK K
      apply mix_pure _ rfl
      · intro w' hw'
        have hcr := hw'.cells
        go_simp
        rfl
      intro K hK
      go_simp
      refine hK _ ?_
      clear hK K
      apply mix_pure _ rfl
      · intro w' hw'
        have hcr := hw'.cells
        go_simp
        rfl
      intro K hK
      go_simp
      refine hK _ ?_
      clear hK K
      apply mix_pure _ rfl
      · intro w' hw'
        have hcr := hw'.cells
        go_simp
        rfl
      intro K hK
      go_simp
      refine hK _ ?_
      clear hK K
      apply mix_pure _ rfl
      · intro w' hw'
        have hcr := hw'.cells
        go_simp
        rfl
      intro K hK
      go_simp
      refine hK _ ?_
      clear hK K
      apply mix_pure _ rfl
      · intro w' hw'
        have hcr := hw'.cells
        go_simp
        rfl
      intro K hK
      go_simp
      refine hK _ ?_
      clear hK K
      refine mix_act rfl (fun K hK => ?_)
      go_simp
      refine (HA.out _).mono ?_
      rintro e w5 ⟨rfl, hb⟩
      simp only []
      refine hK _ _ (hcur.trans hb) (fun hcur => ?_)
      clear hK K hb
      apply mix_pure _ rfl
      · intro w' hw'
        have hcr := hw'.cells
        go_simp
        first | (rw [IntWalk.i64_in]; all_goals first | omega | rfl) | rfl
      intro K hK
      go_simp
      refine hK _ ?_
      clear hK K
      apply mix_pure _ rfl
      · intro w' hw'
        have hcr := hw'.cells
        go_simp
        rfl
      intro K hK
      go_simp
      refine hK _ ?_
      clear hK K
      refine mix_nil ?_
      have HBR := Lib.hid (hbr.out.trans hcur)
      clear hcur
      go_wp2
      go_roundw
      case rel => exact ⟨k + 1, by omega, by go_num, by rw [HSK.out], HBR⟩
      case measure => simp [intOf]; omega
    · have hlti : ¬ (k : Int) < (G : Int) := by omega
      obtain rfl : k = G := by omega
      go_wp2
      go_ret
      exact ⟨rfl, hbr.out⟩
/-- An answer that is right if it is yes. -/
def Yes (P : Prop) (w : World) (e : Ending) (w' : World) : Prop := ∃ b, e = .returned (.bool b) ∧ (b = true → P) ∧ Bel w w'
/-- What a parting is. -/
structure PartOk (t : List CP) (y : List Int) : Prop where
  ok : YOk t y
  lost : ∀ i, i < t.length → cutB t (i : Int) = true → (atC t i).slo ≤ lostTo t y i t.length ∧ lostTo t y i t.length ≤ (atC t i).shi
theorem R7IsParting_any (t : List CP) (y : List Int) (v vy : Value) (w : World) (ht : CtOk t) (hv : CtAt w v t) (hyv : IntsAt w vy y) (h40 : y.length ≤ 40) :
    Calls Try.prog 30 #[v, vy] w fun e w' => Yes (PartOk t y) w e w' := by
  have HV := Lib.hid hv
  have HYV := Lib.hid hyv
  obtain ⟨a, c, b, off, rfl, ha, ⟨hl, _⟩, hc⟩ := hv
  obtain ⟨ya, yc, yb, yo, rfl, hya, ⟨hyl, _⟩, hyc⟩ := hyv
  have hix := idxCP (c := c) ha
  have hiy := idxInts (c := yc) hya
  have HC := Lib.hid hc
  have HY := Lib.hid hyc
  have h8 := ht.l8
  have HST := Lib.hid ht.s
  clear ha hc hya hyc ht
  by_cases hle : y.length = t.length
  · have HLE := Lib.hid hle
    have HLO := Lib.hid (fun (hy : YOk t y) i (hi : i < t.length) wx hv hyv => R7LostOf_any t y i (.slice a t.length c) (.slice ya y.length yc) wx hv hyv hy h8 hi)
    have HCC := Lib.hid (fun (i : Nat) wx hv => R7CanCut_any t i (.slice a t.length c) wx hv)
    have HPO := Lib.hid (fun (h1 : YOk t y) h2 => show PartOk t y from ⟨h1, h2⟩)
    have HYO := Lib.hid (fun (h : allB y.length (fun i => withinB (at0 y i) 0 30) = true) => show YOk t y from ⟨hle, fun i hi => withinB_true.1 (allB_iff.1 h i hi)⟩)
    have HLB := Lib.hid (fun (hy : YOk t y) i hi => lost_in hy (m := i) hi t.length (Nat.le_refl _))
    have b0 : ((y.length : Int) != (t.length : Int)) = false := by rw [hle]; simp
    clear hle
    generalize hG : t.length = G at *
    generalize hL : y.length = L at *
    have HG := Lib.hid hG
    clear hG hL
    go_enter Try.func30, Try.ntmps30
    go_wp2
    go_loopw [5] (fun i wr => ∃ k : Nat, k ≤ L ∧ i = .int .i64 k ∧ Hid (allB k (fun i => withinB (at0 y i) 0 30) = true) ∧ wr = w) (fun i _ => L - (intOf i).toNat)
    case atStart => exact ⟨0, by omega, rfl, Lib.hid rfl, rfl⟩
    case round =>
      obtain ⟨k, hk, rfl, hno, rfl⟩ := hrel
      by_cases hlt : k < L
      · have hlti : (k : Int) < (L : Int) := by omega
        have y0 := HY.out k hlt
        have ly := cell_lt y0
        have HN := Lib.hid (fun (h : withinB (at0 y k) 0 30 = true) => allB_succ hno.out (f := fun i => withinB (at0 y i) 0 30) h)
        clear hno HY HC HLO HCC HPO HYO HLB HST
        generalize at0 y k = yk at *
        cases h1 : withinB yk 0 30
        · skip
          go_wp2_with (first | (go_at_call 28; refine (R7within_any _ _ _ _).mono ?_; rintro e w' ⟨rfl, rfl⟩))
          go_ret
          exact ⟨false, rfl, (fun h => by cases h), Bel.refl _⟩
        · have HN2 := Lib.hid (HN.out h1)
          go_wp2_with (first | (go_at_call 28; refine (R7within_any _ _ _ _).mono ?_; rintro e w' ⟨rfl, rfl⟩))
          go_roundw
          case rel => exact ⟨k + 1, by omega, by go_num, HN2, by trivial⟩
          case measure => simp [intOf]; omega
      · have hlti : ¬ (k : Int) < (L : Int) := by omega
        obtain rfl : k = L := by omega
        have HYK := Lib.hid (HYO.out hno.out)
        clear hno HYO
        go_wp2_with fail
        go_loopw [6] (fun i wq => ∃ j : Nat, j ≤ G ∧ i = .int .i64 j ∧ Hid (∀ i, i < j → cutB t (i : Int) = true → (atC t i).slo ≤ lostTo t y i G ∧ lostTo t y i G ≤ (atC t i).shi) ∧ Hid (Bel wr wq)) (fun i _ => G - (intOf i).toNat)
        case atStart => exact ⟨0, by omega, rfl, Lib.hid (fun i hi => by omega), Lib.hid (Bel.refl _)⟩
        case round =>
          obtain ⟨j, hj, rfl, hall, hbq⟩ := hrel
          by_cases hlt : j < G
          · have hlti : (j : Int) < (G : Int) := by omega
            have HVQ := Lib.hid (HV.out.bel hbq.out)
            have HYQ := Lib.hid (HYV.out.bel hbq.out)
            obtain ⟨_, _, _, q3, q4, _⟩ := HC.out j hlt
            have k3 := hbq.out.cell q3
            have k4 := hbq.out.cell q4
            have lk := cell_lt k3
            have HCJ := Lib.hid (fun wx hx => HCC.out j wx (HVQ.out.bel hx))
            have HLJ := Lib.hid (fun wx hx => HLO.out HYK.out j hlt wx (HVQ.out.bel hx) (HYQ.out.bel hx))
            obtain ⟨lb1, lb2⟩ := HLB.out HYK.out j hlt
            have sb := HST.out j hlt
            have HNX := Lib.hid (fun (h : cutB t (j : Int) = true → (atC t j).slo ≤ lostTo t y j G ∧ lostTo t y j G ≤ (atC t j).shi) => show ∀ i, i < j + 1 → cutB t (i : Int) = true → (atC t i).slo ≤ lostTo t y i G ∧ lostTo t y i G ≤ (atC t i).shi from fun i hi hci => by
              by_cases e : i = j
              · subst e; exact h hci
              · exact hall.out i (by omega) hci)
            clear q3 q4 hall HC HY HCC HLO HLB HST HVQ HYQ HPO HV HYV
            generalize hX : lostTo t y j G = X at *
            generalize (atC t j).slo = lo at *
            generalize (atC t j).shi = hi at *
            clear hX
            cases hcut : cutB t (j : Int)
            · rw [hcut] at HCJ HNX
              have HN2 := Lib.hid (HNX.out (fun h => by cases h))
              clear hcut HNX
              go_wp2_with fail
              refine wp_region_mixB (Plan.seq [0, 1, 1002, 3, 4, 5, 6, 8, 9, 10, 11, 12, 13, 14, 15, 16, 17, 18, 19, 1007, 1020, 21, 22] .nil) (by kernel_rfl) (by kernel_rfl) (fun hcur => ?_)
              simp only [Plan.seq, Plan.fill, List.getD_cons_zero, List.getD_cons_succ, Nat.reduceLT, ↓reduceIte, Nat.reduceSub]
              apply mix_pure _ rfl
              · intro w' hw'
                have hcr := hw'.cells
                go_simp
                rfl
              intro K hK
              go_simp
              refine hK _ ?_
              clear hK K
              apply mix_pure _ rfl
              · intro w' hw'
                have hcr := hw'.cells
                go_simp
                rfl
              intro K hK
              go_simp
              refine hK _ ?_
              clear hK K
              refine mix_act rfl (fun K hK => ?_)
              go_simp
              refine (HCJ.out _ hcur).mono ?_
              rintro e w5 ⟨rfl, rfl⟩
              simp only []
              refine hK _ _ hcur (fun hcur => ?_)
              clear hK K
              apply mix_pure _ rfl
              · intro w' hw'
                have hcr := hw'.cells
                go_simp
                rfl
              intro K hK
              go_simp
              refine hK _ ?_
              clear hK K
              refine mix_skip (by go_simp) ?_
              intro K hK
              go_simp
              refine hK _ ?_
              clear hK K
              refine mix_skip (by go_simp) ?_
              intro K hK
              go_simp
              refine hK _ ?_
              clear hK K
              refine mix_skip (by go_simp) ?_
              intro K hK
              go_simp
              refine hK _ ?_
              clear hK K
              refine mix_skip (by go_simp) ?_
              intro K hK
              go_simp
              refine hK _ ?_
              clear hK K
              refine mix_skip (by go_simp) ?_
              intro K hK
              go_simp
              refine hK _ ?_
              clear hK K
              refine mix_skip (by go_simp) ?_
              intro K hK
              go_simp
              refine hK _ ?_
              clear hK K
              refine mix_skip (by go_simp) ?_
              intro K hK
              go_simp
              refine hK _ ?_
              clear hK K
              refine mix_skip (by go_simp) ?_
              intro K hK
              go_simp
              refine hK _ ?_
              clear hK K
              refine mix_skip (by go_simp) ?_
              intro K hK
              go_simp
              refine hK _ ?_
              clear hK K
              refine mix_skip (by go_simp) ?_
              intro K hK
              go_simp
              refine hK _ ?_
              clear hK K
              refine mix_skip (by go_simp) ?_
              intro K hK
              go_simp
              refine hK _ ?_
              clear hK K
              refine mix_skip (by go_simp) ?_
              intro K hK
              go_simp
              refine hK _ ?_
              clear hK K
              refine mix_skip (by go_simp) ?_
              intro K hK
              go_simp
              refine hK _ ?_
              clear hK K
              refine mix_skip (by go_simp) ?_
              intro K hK
              go_simp
              refine hK _ ?_
              clear hK K
              refine mix_skip (by go_simp) ?_
              intro K hK
              go_simp
              refine hK _ ?_
              clear hK K
              refine mix_askip (by go_simp) ?_
              intro K hK
              go_simp
              refine hK _ ?_
              clear hK K
              refine mix_askip (by go_simp) ?_
              intro K hK
              go_simp
              refine hK _ ?_
              clear hK K
              refine mix_skip (by go_simp) ?_
              intro K hK
              go_simp
              refine hK _ ?_
              clear hK K
              apply mix_pure _ rfl
              · intro w' hw'
                have hcr := hw'.cells
                go_simp
                rfl
              intro K hK
              go_simp
              refine hK _ ?_
              clear hK K
              refine mix_nil ?_
              have HBQ := Lib.hid (hbq.out.trans hcur)
              clear hcur
              go_wp2
              go_roundw
              case rel => exact ⟨j + 1, by omega, by go_num, HN2, HBQ⟩
              case measure => simp [intOf]; omega
            · rw [hcut] at HCJ HNX
              clear hcut
              cases hw : withinB X lo hi
              · have HW := Lib.hid (fun wx => R7within_any X lo hi wx)
                rw [hw] at HW
                clear hw
                go_wp2_with fail
                refine wp_region_mixB (Plan.seq [0, 1, 1002, 3, 4, 5, 6, 8, 9, 10, 11, 12, 13, 14, 15, 16, 17, 18, 19, 1007, 1020, 21, 22] .nil) (by kernel_rfl) (by kernel_rfl) (fun hcur => ?_)
                simp only [Plan.seq, Plan.fill, List.getD_cons_zero, List.getD_cons_succ, Nat.reduceLT, ↓reduceIte, Nat.reduceSub]
                apply mix_pure _ rfl
                · intro w' hw'
                  have hcr := hw'.cells
                  go_simp
                  rfl
                intro K hK
                go_simp
                refine hK _ ?_
                clear hK K
                apply mix_pure _ rfl
                · intro w' hw'
                  have hcr := hw'.cells
                  go_simp
                  rfl
                intro K hK
                go_simp
                refine hK _ ?_
                clear hK K
                refine mix_act rfl (fun K hK => ?_)
                go_simp
                refine (HCJ.out _ hcur).mono ?_
                rintro e w5 ⟨rfl, rfl⟩
                simp only []
                refine hK _ _ hcur (fun hcur => ?_)
                clear hK K
                apply mix_pure _ rfl
                · intro w' hw'
                  have hcr := hw'.cells
                  go_simp
                  rfl
                intro K hK
                go_simp
                refine hK _ ?_
                clear hK K
                apply mix_pureG _ (by go_simp)
                · intro w' hw'
                  have hcr := hw'.cells
                  go_simp
                  rfl
                intro K hK
                go_simp
                refine hK _ ?_
                clear hK K
                apply mix_pureG _ (by go_simp)
                · intro w' hw'
                  have hcr := hw'.cells
                  go_simp
                  rfl
                intro K hK
                go_simp
                refine hK _ ?_
                clear hK K
                apply mix_pureG _ (by go_simp)
                · intro w' hw'
                  have hcr := hw'.cells
                  go_simp
                  rfl
                intro K hK
                go_simp
                refine hK _ ?_
                clear hK K
                apply mix_pureG _ (by go_simp)
                · intro w' hw'
                  have hcr := hw'.cells
                  go_simp
                  rfl
                intro K hK
                go_simp
                refine hK _ ?_
                clear hK K
                apply mix_pureG _ (by go_simp)
                · intro w' hw'
                  have hcr := hw'.cells
                  go_simp
                  rfl
                intro K hK
                go_simp
                refine hK _ ?_
                clear hK K
                apply mix_pureG _ (by go_simp)
                · intro w' hw'
                  have hcr := hw'.cells
                  go_simp
                  rfl
                intro K hK
                go_simp
                refine hK _ ?_
                clear hK K
                apply mix_pureG _ (by go_simp)
                · intro w' hw'
                  have hcr := hw'.cells
                  go_simp
                  rfl
                intro K hK
                go_simp
                refine hK _ ?_
                clear hK K
                apply mix_pureG _ (by go_simp)
                · intro w' hw'
                  have hcr := hw'.cells
                  go_simp
                  rfl
                intro K hK
                go_simp
                refine hK _ ?_
                clear hK K
                apply mix_pureG _ (by go_simp)
                · intro w' hw'
                  have hcr := hw'.cells
                  go_simp
                  rfl
                intro K hK
                go_simp
                refine hK _ ?_
                clear hK K
                apply mix_pureG _ (by go_simp)
                · intro w' hw'
                  have hcr := hw'.cells
                  go_simp
                  rfl
                intro K hK
                go_simp
                refine hK _ ?_
                clear hK K
                apply mix_pureG _ (by go_simp)
                · intro w' hw'
                  have hcr := hw'.cells
                  go_simp
                  rfl
                intro K hK
                go_simp
                refine hK _ ?_
                clear hK K
                apply mix_pureG _ (by go_simp)
                · intro w' hw'
                  have hcr := hw'.cells
                  go_simp
                  rfl
                intro K hK
                go_simp
                refine hK _ ?_
                clear hK K
                apply mix_pureG _ (by go_simp)
                · intro w' hw'
                  have hcr := hw'.cells
                  go_simp
                  rfl
                intro K hK
                go_simp
                refine hK _ ?_
                clear hK K
                apply mix_pureG _ (by go_simp)
                · intro w' hw'
                  have hcr := hw'.cells
                  go_simp
                  rfl
                intro K hK
                go_simp
                refine hK _ ?_
                clear hK K
                apply mix_pureG _ (by go_simp)
                · intro w' hw'
                  have hcr := hw'.cells
                  go_simp
                  rfl
                intro K hK
                go_simp
                refine hK _ ?_
                clear hK K
                refine mix_actG (by go_simp) (fun K hK => ?_)
                go_simp
                refine (HLJ.out _ hcur).mono ?_
                rintro e w5 ⟨rfl, rfl⟩
                simp only []
                refine hK _ _ hcur (fun hcur => ?_)
                clear hK K
                refine mix_actG (by go_simp) (fun K hK => ?_)
                go_simp
                refine (HW.out _).mono ?_
                rintro e w5 ⟨rfl, rfl⟩
                simp only []
                refine hK _ _ hcur (fun hcur => ?_)
                clear hK K
                apply mix_pureG _ (by go_simp)
                · intro w' hw'
                  have hcr := hw'.cells
                  go_simp
                  rfl
                intro K hK
                go_simp
                refine hK _ ?_
                clear hK K
                apply mix_pure _ rfl
                · intro w' hw'
                  have hcr := hw'.cells
                  go_simp
                  rfl
                intro K hK
                go_simp
                refine hK _ ?_
                clear hK K
                refine mix_nil ?_
                have HBQ := Lib.hid (hbq.out.trans hcur)
                clear hcur
                go_wp2
                go_ret
                exact ⟨false, rfl, (fun h => by cases h), HBQ.out⟩
              · have HW := Lib.hid (fun wx => R7within_any X lo hi wx)
                rw [hw] at HW
                have HN2 := Lib.hid (HNX.out (fun _ => withinB_true.1 hw))
                clear hw HNX
                go_wp2_with fail
                refine wp_region_mixB (Plan.seq [0, 1, 1002, 3, 4, 5, 6, 8, 9, 10, 11, 12, 13, 14, 15, 16, 17, 18, 19, 1007, 1020, 21, 22] .nil) (by kernel_rfl) (by kernel_rfl) (fun hcur => ?_)
                simp only [Plan.seq, Plan.fill, List.getD_cons_zero, List.getD_cons_succ, Nat.reduceLT, ↓reduceIte, Nat.reduceSub]
                apply mix_pure _ rfl
                · intro w' hw'
                  have hcr := hw'.cells
                  go_simp
                  rfl
                intro K hK
                go_simp
                refine hK _ ?_
                clear hK K
                apply mix_pure _ rfl
                · intro w' hw'
                  have hcr := hw'.cells
                  go_simp
                  rfl
                intro K hK
                go_simp
                refine hK _ ?_
                clear hK K
                refine mix_act rfl (fun K hK => ?_)
                go_simp
                refine (HCJ.out _ hcur).mono ?_
                rintro e w5 ⟨rfl, rfl⟩
                simp only []
                refine hK _ _ hcur (fun hcur => ?_)
                clear hK K
                apply mix_pure _ rfl
                · intro w' hw'
                  have hcr := hw'.cells
                  go_simp
                  rfl
                intro K hK
                go_simp
                refine hK _ ?_
                clear hK K
                apply mix_pureG _ (by go_simp)
                · intro w' hw'
                  have hcr := hw'.cells
                  go_simp
                  rfl
                intro K hK
                go_simp
                refine hK _ ?_
                clear hK K
                apply mix_pureG _ (by go_simp)
                · intro w' hw'
                  have hcr := hw'.cells
                  go_simp
                  rfl
                intro K hK
                go_simp
                refine hK _ ?_
                clear hK K
                apply mix_pureG _ (by go_simp)
                · intro w' hw'
                  have hcr := hw'.cells
                  go_simp
                  rfl
                intro K hK
                go_simp
                refine hK _ ?_
                clear hK K
                apply mix_pureG _ (by go_simp)
                · intro w' hw'
                  have hcr := hw'.cells
                  go_simp
                  rfl
                intro K hK
                go_simp
                refine hK _ ?_
                clear hK K
                apply mix_pureG _ (by go_simp)
                · intro w' hw'
                  have hcr := hw'.cells
                  go_simp
                  rfl
                intro K hK
                go_simp
                refine hK _ ?_
                clear hK K
                apply mix_pureG _ (by go_simp)
                · intro w' hw'
                  have hcr := hw'.cells
                  go_simp
                  rfl
                intro K hK
                go_simp
                refine hK _ ?_
                clear hK K
                apply mix_pureG _ (by go_simp)
                · intro w' hw'
                  have hcr := hw'.cells
                  go_simp
                  rfl
                intro K hK
                go_simp
                refine hK _ ?_
                clear hK K
                apply mix_pureG _ (by go_simp)
                · intro w' hw'
                  have hcr := hw'.cells
                  go_simp
                  rfl
                intro K hK
                go_simp
                refine hK _ ?_
                clear hK K
                apply mix_pureG _ (by go_simp)
                · intro w' hw'
                  have hcr := hw'.cells
                  go_simp
                  rfl
                intro K hK
                go_simp
                refine hK _ ?_
                clear hK K
                apply mix_pureG _ (by go_simp)
                · intro w' hw'
                  have hcr := hw'.cells
                  go_simp
                  rfl
                intro K hK
                go_simp
                refine hK _ ?_
                clear hK K
                apply mix_pureG _ (by go_simp)
                · intro w' hw'
                  have hcr := hw'.cells
                  go_simp
                  rfl
                intro K hK
                go_simp
                refine hK _ ?_
                clear hK K
                apply mix_pureG _ (by go_simp)
                · intro w' hw'
                  have hcr := hw'.cells
                  go_simp
                  rfl
                intro K hK
                go_simp
                refine hK _ ?_
                clear hK K
                apply mix_pureG _ (by go_simp)
                · intro w' hw'
                  have hcr := hw'.cells
                  go_simp
                  rfl
                intro K hK
                go_simp
                refine hK _ ?_
                clear hK K
                apply mix_pureG _ (by go_simp)
                · intro w' hw'
                  have hcr := hw'.cells
                  go_simp
                  rfl
                intro K hK
                go_simp
                refine hK _ ?_
                clear hK K
                apply mix_pureG _ (by go_simp)
                · intro w' hw'
                  have hcr := hw'.cells
                  go_simp
                  rfl
                intro K hK
                go_simp
                refine hK _ ?_
                clear hK K
                refine mix_actG (by go_simp) (fun K hK => ?_)
                go_simp
                refine (HLJ.out _ hcur).mono ?_
                rintro e w5 ⟨rfl, rfl⟩
                simp only []
                refine hK _ _ hcur (fun hcur => ?_)
                clear hK K
                refine mix_actG (by go_simp) (fun K hK => ?_)
                go_simp
                refine (HW.out _).mono ?_
                rintro e w5 ⟨rfl, rfl⟩
                simp only []
                refine hK _ _ hcur (fun hcur => ?_)
                clear hK K
                apply mix_pureG _ (by go_simp)
                · intro w' hw'
                  have hcr := hw'.cells
                  go_simp
                  rfl
                intro K hK
                go_simp
                refine hK _ ?_
                clear hK K
                apply mix_pure _ rfl
                · intro w' hw'
                  have hcr := hw'.cells
                  go_simp
                  rfl
                intro K hK
                go_simp
                refine hK _ ?_
                clear hK K
                refine mix_nil ?_
                have HBQ := Lib.hid (hbq.out.trans hcur)
                clear hcur
                go_wp2
                go_roundw
                case rel => exact ⟨j + 1, by omega, by go_num, HN2, HBQ⟩
                case measure => simp [intOf]; omega
          · have hlti : ¬ (j : Int) < (G : Int) := by omega
            obtain rfl : j = G := by omega
            have HR := Lib.hid (HPO.out HYK.out hall.out)
            clear HPO HYK hall
            go_wp2
            go_ret
            exact ⟨true, rfl, (fun _ => HR.out), hbq.out⟩
  · have b0 : ((y.length : Int) != (t.length : Int)) = true := by simp; omega
    clear hle
    go_enter Try.func30, Try.ntmps30
    go_wp2
    go_ret
    exact ⟨false, rfl, (fun h => by cases h), Bel.refl _⟩
/-- What a truth is. -/
structure TrOk (t : List CP) (y : List Int) : Prop where
  p : PartOk t y
  w : ∀ i, i < t.length → (atC t i).wlo ≤ at0 y i ∧ at0 y i ≤ (atC t i).whi
theorem R7IsTruth_any (t : List CP) (y : List Int) (v vy : Value) (w : World) (ht : CtOk t) (hv : CtAt w v t) (hyv : IntsAt w vy y) (h40 : y.length ≤ 40) :
    Calls Try.prog 6 #[v, vy] w fun e w' => Yes (TrOk t y) w e w' := by
  have HP := Lib.hid (R7IsParting_any t y v vy w ht hv hyv h40)
  have HC := Lib.hid (fun (hp : PartOk t y) wx (hb : Bel w wx) => R7ChangeOf_any t y v vy wx ht hp.ok (hv.bel hb) (hyv.bel hb))
  have HT := Lib.hid (fun (hp : PartOk t y) (h0 : chgTo t y t.length = 0) => show TrOk t y from ⟨hp, fun i hi => (chg_in ht hp.ok t.length (Nat.le_refl _)).2.2 h0 i hi⟩)
  have hsv : ∃ a c, v = .slice a t.length c := by obtain ⟨a, c, _, _, rfl, _⟩ := hv; exact ⟨a, c, rfl⟩
  have hsy : ∃ a c, vy = .slice a y.length c := by obtain ⟨a, c, _, _, rfl, _⟩ := hyv; exact ⟨a, c, rfl⟩
  obtain ⟨a, c, rfl⟩ := hsv
  obtain ⟨ya, yc, rfl⟩ := hsy
  clear hv hyv ht
  go_enter Try.func6, Try.ntmps6
  go_wp2_with fail
  refine HP.out.mono ?_
  rintro e w1 ⟨b, rfl, hb1, hb⟩
  have HB := Lib.hid hb
  have HB1 := Lib.hid hb1
  clear hb hb1
  cases b
  · clear HB1 HC HT
    go_wp2
    go_ret
    exact ⟨false, rfl, (fun h => by cases h), HB.out⟩
  · have HPK := Lib.hid (HB1.out rfl)
    have HCK := Lib.hid (HC.out HPK.out)
    have HTK := Lib.hid (HT.out HPK.out)
    clear HB1 HC HT HP
    generalize chgTo t y t.length = X at *
    go_wp2_with (go_at_call 31; refine (HCK.out _ HB.out).mono ?_; rintro e w2 ⟨rfl, hb⟩; replace HB := Lib.hid (HB.out.trans hb); clear hb)
    go_ret
    exact ⟨X == 0, rfl, (fun h => HTK.out (by simpa using h)), HB.out⟩
end Go.Proofs.Ytkdcdhkhadhcfaa
