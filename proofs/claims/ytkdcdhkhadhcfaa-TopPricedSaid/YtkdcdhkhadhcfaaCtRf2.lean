/-
  cuts: the reference: IsCut, IsSold, Pays.
-/
import Derived.Test.YtkdcdhkhadhcfaaCtRef
namespace Go.Proofs.Ytkdcdhkhadhcfaa
open Go Go.RowKit
set_option maxHeartbeats 4000000
set_option maxRecDepth 100000
/-- What a cut is. -/
structure CutOk (t : List CP) (c : List Int) : Prop where
  rise : risingB c 0 ((t.length : Int) - 1) = true
  at_ : ∀ i, i < c.length → cutB t (at0 c i) = true ∧ ((atC t (at0 c i).toNat).of = -1 ∨ inB c (atC t (at0 c i).toNat).of = true)
theorem CutOk.within {t : List CP} {c : List Int} (h : CutOk t c) {i : Nat} (hi : i < c.length) : 0 ≤ at0 c i ∧ at0 c i < t.length := by
  have := h.rise
  unfold risingB at this
  have := allB_iff.1 this i hi
  unfold riseAt at this
  rw [Bool.and_eq_true, withinB_true] at this
  omega
theorem CutOk.asc {t : List CP} {c : List Int} (h : CutOk t c) {i : Nat} (hi : i < c.length) (h0 : 0 < i) : at0 c (i - 1) < at0 c i := by
  have := h.rise
  unfold risingB at this
  have := allB_iff.1 this i hi
  unfold riseAt at this
  rw [Bool.and_eq_true, Bool.or_eq_true, decide_eq_true_eq, decide_eq_true_eq] at this
  rcases this.2 with q | q
  · omega
  · exact q
theorem CutOk.lt {t : List CP} {c : List Int} (h : CutOk t c) {i : Nat} : ∀ j, i < j → j < c.length → at0 c i < at0 c j
  | 0, h1, _ => by omega
  | j + 1, h1, h2 => by
    have := h.asc (i := j + 1) h2 (by omega)
    rw [Nat.add_sub_cancel] at this
    by_cases e : i = j
    · rw [e]; exact this
    · have := h.lt (i := i) j (by omega) (by omega); omega
theorem R7IsCut_any (t : List CP) (c : List Int) (v vc : Value) (w : World) (h8 : t.length ≤ 8) (hv : CtAt w v t) (hcv : IntsAt w vc c) (h40 : c.length ≤ 40) :
    Calls Try.prog 7 #[v, vc] w fun e w' => Yes (CutOk t c) w e w' := by
  have HV := Lib.hid hv
  have HCV := Lib.hid hcv
  have HRI := Lib.hid (Rising_any vc c 0 ((t.length : Int) - 1) w hcv)
  obtain ⟨a, cc, b, off, rfl, ha, ⟨hl, _⟩, hc⟩ := hv
  obtain ⟨ya, yc, yb, yo, rfl, hya, ⟨hyl, _⟩, hyc⟩ := hcv
  have hix := idxCP (c := cc) ha
  have hiy := idxInts (c := yc) hya
  have HC := Lib.hid hc
  have HY := Lib.hid hyc
  have HOK := Lib.hid (fun (h1 : risingB c 0 ((t.length : Int) - 1) = true) h2 => show CutOk t c from ⟨h1, h2⟩)
  have HIN := Lib.hid (fun (h1 : risingB c 0 ((t.length : Int) - 1) = true) i (hi : i < c.length) => show 0 ≤ at0 c i ∧ at0 c i < t.length by
    unfold risingB at h1
    have := allB_iff.1 h1 i hi
    unfold riseAt at this
    rw [Bool.and_eq_true, withinB_true] at this
    omega)
  clear ha hc hya hyc
  generalize hG : t.length = G at *
  generalize hL : c.length = L at *
  clear hG hL
  cases hr : risingB c 0 ((G : Int) - 1)
  · rw [hr] at HRI
    clear HOK HIN hr
    go_enter Try.func7, Try.ntmps7
    go_wp2_with (go_at_call 32; refine HRI.out.mono ?_; rintro e w2 ⟨rfl, hb⟩; have HB := Lib.hid hb; clear hb)
    go_ret
    exact ⟨false, rfl, (fun h => by cases h), HB.out⟩
  · rw [hr] at HRI
    have HO := Lib.hid (HOK.out hr)
    have HI := Lib.hid (HIN.out hr)
    clear HOK HIN hr
    go_enter Try.func7, Try.ntmps7
    go_wp2_with (first | (go_at_call 32; refine HRI.out.mono ?_; rintro e w2 ⟨rfl, hb⟩; have HB := Lib.hid hb; clear hb) | fail)
    go_loopw [5] (fun i wr => ∃ k : Nat, k ≤ L ∧ i = .int .i64 k ∧ Hid (∀ i, i < k → cutB t (at0 c i) = true ∧ ((atC t (at0 c i).toNat).of = -1 ∨ inB c (atC t (at0 c i).toNat).of = true)) ∧ wr = w2) (fun i _ => L - (intOf i).toNat)
    case atStart => exact ⟨0, by omega, rfl, Lib.hid (fun i hi => by omega), rfl⟩
    case round =>
      obtain ⟨k, hk, rfl, hall, rfl⟩ := hrel
      by_cases hlt : k < L
      · have hlti : (k : Int) < (L : Int) := by omega
        have y0 := HB.out.cell (HY.out k hlt)
        have ly := cell_lt y0
        obtain ⟨g1, g2⟩ := HI.out k hlt
        obtain ⟨m, hm⟩ : ∃ m : Nat, at0 c k = (m : Int) := ⟨(at0 c k).toNat, by omega⟩
        have hmG : m < G := by omega
        have hmi : (m : Int) < (G : Int) := by omega
        have k0 := HB.out.cell (HC.out m hmG).1
        have lk := cell_lt k0
        have HCC := Lib.hid (R7CanCut_any t m _ wr (HV.out.bel HB.out))
        have HIC := Lib.hid (fun n => In_any _ c n wr (HCV.out.bel HB.out))
        have HNX := Lib.hid (fun (h : cutB t (m : Int) = true ∧ ((atC t m).of = -1 ∨ inB c (atC t m).of = true)) => show ∀ i, i < k + 1 → cutB t (at0 c i) = true ∧ ((atC t (at0 c i).toNat).of = -1 ∨ inB c (atC t (at0 c i).toNat).of = true) from fun i hi => by
          by_cases e : i = k
          · subst e; rw [hm, Int.toNat_natCast]; exact h
          · exact hall.out i (by omega))
        rw [hm] at y0
        clear hm g1 g2 hall HC HY HI HO HV HCV HRI
        generalize (atC t m).of = x at *
        cases hcut : cutB t (m : Int)
        · rw [hcut] at HCC HNX
          clear hcut HNX
          go_wp2_with (first | (go_at_call 33; refine HCC.out.mono ?_; rintro e w' ⟨rfl, rfl⟩) | fail)
          go_ret
          exact ⟨false, rfl, (fun h => by cases h), HB.out⟩
        · rw [hcut] at HCC HNX
          clear hcut
          by_cases hx : x = -1
          · subst hx
            have HN2 := Lib.hid (HNX.out ⟨rfl, .inl rfl⟩)
            clear HNX
            go_wp2_with (first | (go_at_call 33; refine HCC.out.mono ?_; rintro e w' ⟨rfl, rfl⟩) | fail)
            go_roundw
            case rel => exact ⟨k + 1, by omega, by go_num, HN2, by trivial⟩
            case measure => simp [intOf]; omega
          · have b1 : (x != -1) = true := by simpa using hx
            clear hx
            replace HIC := Lib.hid (HIC.out x)
            cases hin : inB c x
            · rw [hin] at HIC
              clear hin HNX
              go_wp2_with (first | (go_at_call 33; refine HCC.out.mono ?_; rintro e w' ⟨rfl, rfl⟩) | (go_at_call 34; refine HIC.out.mono ?_; rintro e w' ⟨rfl, rfl⟩) | fail)
              go_ret
              exact ⟨false, rfl, (fun h => by cases h), HB.out⟩
            · rw [hin] at HIC
              have HN2 := Lib.hid (HNX.out ⟨rfl, .inr hin⟩)
              clear hin HNX
              go_wp2_with (first | (go_at_call 33; refine HCC.out.mono ?_; rintro e w' ⟨rfl, rfl⟩) | (go_at_call 34; refine HIC.out.mono ?_; rintro e w' ⟨rfl, rfl⟩) | fail)
              go_roundw
              case rel => exact ⟨k + 1, by omega, by go_num, HN2, by trivial⟩
              case measure => simp [intOf]; omega
      · have hlti : ¬ (k : Int) < (L : Int) := by omega
        obtain rfl : k = L := by omega
        have HR := Lib.hid (HO.out hall.out)
        clear HO hall
        go_wp2
        go_ret
        exact ⟨true, rfl, (fun _ => HR.out), HB.out⟩
/-- Whether a part is sold. -/
def soldB (t : List CP) (c : List Int) (i : Nat) : Bool := !inB c (i : Int) && (decide ((atC t i).of = -1) || inB c (atC t i).of)
theorem R7IsSold_any (t : List CP) (c : List Int) (i : Nat) (v vc : Value) (w : World) (hi : i < t.length) (hv : CtAt w v t) (hcv : IntsAt w vc c) :
    Calls Try.prog 44 #[v, vc, .int .i64 i] w fun e w' => e = .returned (.bool (soldB t c i)) ∧ w = w' := by
  have HI := Lib.hid (fun n => In_any vc c n w hcv)
  have HX := Lib.hid (show soldB t c i = (!inB c (i : Int) && (decide ((atC t i).of = -1) || inB c (atC t i).of)) from rfl)
  obtain ⟨a, cc, b, off, rfl, ha, ⟨hl, _⟩, hc⟩ := hv
  obtain ⟨ya, yc, yb, yo, rfl, hya, ⟨hyl, _⟩, hyc⟩ := hcv
  have hix := idxCP (c := cc) ha
  have k0 := (hc i hi).1
  have lk := cell_lt k0
  have hii : (i : Int) < (t.length : Int) := by omega
  clear ha hc hya hyc
  generalize soldB t c i = S at *
  generalize (atC t i).of = x at *
  have HI1 := Lib.hid (HI.out (i : Int))
  have HI2 := Lib.hid (HI.out x)
  clear HI
  cases h1 : inB c (i : Int)
  · rw [h1] at HI1 HX
    clear h1
    by_cases hx : x = -1
    · subst hx
      clear HI2
      go_enter Try.func44, Try.ntmps44
      go_wp2_with (first | (go_at_call 34; refine HI1.out.mono ?_; rintro e w' ⟨rfl, rfl⟩) | fail)
      go_ret
      exact ⟨rb (by rw [HX.out]; rfl), rfl⟩
    · have b1 : (x == -1) = false := by simpa using hx
      have d1 : decide (x = -1) = false := decide_eq_false hx
      rw [d1] at HX
      clear hx d1
      cases h2 : inB c x
      all_goals
        rw [h2] at HI2 HX
        clear h2
        go_enter Try.func44, Try.ntmps44
        go_wp2_with fail
        refine HI1.out.mono ?_
        rintro e w' ⟨rfl, rfl⟩
        go_wp2_with (first | (go_at_call 34; refine HI2.out.mono ?_; rintro e w' ⟨rfl, rfl⟩) | fail)
        go_ret
        exact ⟨rb (by rw [HX.out]; rfl), rfl⟩
  · rw [h1] at HI1 HX
    clear h1 HI2
    go_enter Try.func44, Try.ntmps44
    go_wp2_with (first | (go_at_call 34; refine HI1.out.mono ?_; rintro e w' ⟨rfl, rfl⟩) | fail)
    go_ret
    exact ⟨rb (by rw [HX.out]; rfl), rfl⟩
theorem run_make_ints (n : Nat) (hn : n ≤ 1000000) (w : World) :
    (Instr.makeSlice 26 (.int .i64 (n : Int)) (.int .i64 (n : Int))).run Try.prog w = .ok (.slice (some ⟨w.heap.size, 0, none⟩) n n) (w.alloc (.cells (List.replicate n (Value.int .i64 0)).toArray 3)) := by
  obtain ⟨i1, hi1, hz1, hs1, hb1⟩ := info_parts mkInt
  have h := run_makeSlice (P := Try.prog) w 26 3 i1 (.int .i64 0) Try.underlying26 hi1 hz1 .i64 .i64 n n (by omega) (by omega) (by rw [hs1]; simp; omega) (by rw [hb1]; omega) (by omega)
  rw [h, hs1]
  have e : (madeCells (Value.int .i64 0).cells ((n : Int).toNat * 1)) = (List.replicate n (Value.int .i64 0)).toArray := by
    rw [Nat.mul_one, Int.toNat_natCast, ← toList_madeCells_one, Array.toArray_toList]; rfl
  rw [e, Int.toNat_natCast]
theorem map_rep (n : Nat) : List.replicate n (Value.int .i64 0) = (List.replicate n (0 : Int)).map (Value.int .i64) := by simp
theorem bx_at0 {w : World} {g : Nat} {l : List Int} (h : Bx w g (l.map (Value.int .i64))) (i : Nat) (hi : i < l.length) : w.cell? ⟨g, i, none⟩ = some (.int .i64 (at0 l i)) :=
  h.c i _ (by rw [List.getElem?_map, List.getElem?_eq_getElem hi]; unfold at0; rw [getD_lt l i 0 hi]; rfl)
theorem bx_ints {w : World} {g : Nat} {l : List Int} (h : Bx w g (l.map (Value.int .i64))) (hl : l.length ≤ 1000) : IntsAt w (.slice (some ⟨g, 0, none⟩) l.length l.length) l :=
  ⟨some ⟨g, 0, none⟩, l.length, g, 0, rfl, fun _ => rfl, ⟨by omega, Nat.le_refl _⟩, fun i hi => by rw [Nat.zero_add]; exact bx_at0 h i hi⟩
def paysTo (t : List CP) (c : List Int) : Nat → List Int
  | 0 => List.replicate t.length 0
  | k + 1 => if soldB t c k then (paysTo t c k).set k (atC t k).pe else paysTo t c k
theorem paysTo_len (t : List CP) (c : List Int) : ∀ k, (paysTo t c k).length = t.length
  | 0 => by unfold paysTo; rw [List.length_replicate]
  | k + 1 => by
    unfold paysTo
    by_cases h : soldB t c k = true
    · rw [if_pos h, List.length_set, paysTo_len t c k]
    · rw [if_neg h, paysTo_len t c k]
/-- What is paid for a pound. -/
def eachV (t : List CP) (c : List Int) (i : Nat) : Int := if soldB t c i then (atC t i).pe else 0
theorem paysTo_at (t : List CP) (c : List Int) {i : Nat} (hi : i < t.length) : ∀ k, k ≤ t.length → at0 (paysTo t c k) i = if i < k then eachV t c i else 0
  | 0, _ => by
    rw [if_neg (by omega)]
    unfold paysTo at0
    rw [List.getD, List.getElem?_replicate, if_pos hi]; rfl
  | k + 1, hk => by
    have ih := paysTo_at t c hi k (by omega)
    have hl := paysTo_len t c k
    unfold paysTo
    by_cases h : soldB t c k = true
    · rw [if_pos h, at0_set (by rw [hl]; omega)]
      by_cases e : k = i
      · subst e; rw [if_pos rfl, if_pos (show k < k + 1 by omega)]; unfold eachV; rw [if_pos h]
      · rw [if_neg e, ih]
        by_cases g : i < k
        · rw [if_pos g, if_pos (show i < k + 1 by omega)]
        · rw [if_neg g, if_neg (show ¬ i < k + 1 by omega)]
    · rw [if_neg h, ih]
      by_cases e : k = i
      · subst e; rw [if_neg (show ¬ k < k by omega), if_pos (show k < k + 1 by omega)]; unfold eachV; rw [if_neg h]
      · by_cases g : i < k
        · rw [if_pos g, if_pos (show i < k + 1 by omega)]
        · rw [if_neg g, if_neg (show ¬ i < k + 1 by omega)]
theorem R7Pays_any (t : List CP) (c : List Int) (v vc : Value) (w : World) (h8 : t.length ≤ 8) (hv : CtAt w v t) (hcv : IntsAt w vc c) :
    Calls Try.prog 13 #[v, vc] w fun e w' => ∃ V, e = .returned V ∧ IntsAt w' V (paysTo t c t.length) ∧ Bel w w' := by
  have HV := Lib.hid hv
  have HSO := Lib.hid (fun i hi wx (hb : Bel w wx) => R7IsSold_any t c i v vc wx hi (hv.bel hb) (hcv.bel hb))
  obtain ⟨a, cc, b, off, rfl, ha, ⟨hl, _⟩, hc⟩ := hv
  obtain ⟨ya, yc, yb, yo, rfl, hya, ⟨hyl, _⟩, hyc⟩ := hcv
  have hix := idxCP (c := cc) ha
  have HC := Lib.hid hc
  have hmk := run_make_ints t.length (by omega)
  have HL := Lib.hid (paysTo_len t c)
  have HS := Lib.hid (fun k => show paysTo t c (k + 1) = if soldB t c k then (paysTo t c k).set k (atC t k).pe else paysTo t c k from rfl)
  have H0 := Lib.hid (show paysTo t c 0 = List.replicate t.length 0 from rfl)
  clear ha hc hya hyc
  generalize hG : t.length = G at *
  clear hG
  go_enter Try.func13, Try.ntmps13
  go_wp2_with fail
  generalize hW : World.alloc _ _ = W0
  have HB0 : Hid (Bx W0 w.heap.size ((paysTo t c 0).map (Value.int .i64))) := Lib.hid (by rw [← hW, H0.out, ← map_rep]; exact Bx.new rfl)
  have hb0 : Hid (Bel w W0) := Lib.hid (by rw [← hW]; exact (Bel.refl w).alloc _)
  clear hW hmk
  have hixo := idxInts (n := G) (c := G) (b := w.heap.size) (off := 0) (a := some ⟨w.heap.size, 0, none⟩) (fun _ => rfl)
  go_loopw [6] (fun i wr => ∃ k : Nat, k ≤ G ∧ i = .int .i64 k ∧ Hid (Bx wr w.heap.size ((paysTo t c k).map (Value.int .i64))) ∧ Hid (Bel w wr)) (fun i _ => G - (intOf i).toNat)
  case atStart => exact ⟨0, by omega, rfl, HB0, hb0⟩
  case round =>
    obtain ⟨k, hk, rfl, HB, hbr⟩ := hrel
    by_cases hlt : k < G
    · have hlti : (k : Int) < (G : Int) := by omega
      have HSK := Lib.hid (HSO.out k hlt wr hbr.out)
      have HN := Lib.hid (HS.out k)
      have HLK := Lib.hid (HL.out k)
      obtain ⟨_, _, _, _, _, q5⟩ := HC.out k hlt
      have k5 := hbr.out.cell q5
      have lk := cell_lt k5
      clear q5 HSO HS HL HC HB0 hb0 H0
      generalize paysTo t c k = P at *
      generalize (atC t k).pe = pe at *
      cases hs : soldB t c k
      · rw [hs] at HSK HN
        clear hs
        go_wp2_with (first | (go_at_call 44; refine HSK.out.mono ?_; rintro e w' ⟨rfl, rfl⟩) | fail)
        go_roundw
        case rel => exact ⟨k + 1, by omega, by go_num, by rw [HN.out]; exact HB, hbr⟩
        case measure => simp [intOf]; omega
      · rw [hs] at HSK HN
        clear hs
        have z0 := bx_at0 HB.out k (by rw [HLK.out]; exact hlt)
        have zf := HB.out.f
        have lz := HB.out.lt
        go_wp2_with (first | (go_at_call 44; refine HSK.out.mono ?_; rintro e w' ⟨rfl, rfl⟩) | fail)
        have HS2 : Hid (Bx (wr.setCell ⟨w.heap.size, k, none⟩ (.int .i64 pe)) w.heap.size ((P.set k pe).map (Value.int .i64))) := Lib.hid (by
          rw [List.map_set]
          exact HB.out.set (by rw [List.length_map, HLK.out]; exact hlt) _)
        have HB2 : Hid (Bel w (wr.setCell ⟨w.heap.size, k, none⟩ (.int .i64 pe))) := Lib.hid (hbr.out.setCell (p := ⟨w.heap.size, k, none⟩) (Nat.le_refl _) _)
        go_roundw
        case rel => exact ⟨k + 1, by omega, by go_num, by rw [HN.out]; exact HS2, HB2⟩
        case measure => simp [intOf]; omega
    · have hlti : ¬ (k : Int) < (G : Int) := by omega
      obtain rfl : k = G := by omega
      go_wp2
      go_ret
      exact ⟨_, rfl, by have := bx_ints HB.out (by rw [HL.out]; omega); rw [HL.out] at this; exact this, hbr.out⟩
end Go.Proofs.Ytkdcdhkhadhcfaa
