/-
  beasts: the reference's After.
-/
import Derived.Test.YtogiidkofddhaaaDoorBRef4
namespace Go.Proofs.YtogiidkofddhaaaDoor
open Go Go.RowKit Go.Shelf
set_option maxHeartbeats 4000000
set_option maxRecDepth 100000
/-- Whether the beast can be at a place behind steps, from one of the first k places. -/
def canTo (b : BT) (l : List BS) (ans : List Int) (p : Int) : Nat → Bool
  | 0 => false
  | k + 1 => canTo b l ans p k || (decide ((ranTo b l (at0 b.places k) l.length).1 = p) && sameB (ranTo b l (at0 b.places k) l.length).2 ans)
theorem canTo_iff {b : BT} {l : List BS} {ans : List Int} {p : Int} : ∀ k, canTo b l ans p k = true ↔ ∃ j, j < k ∧ (ranTo b l (at0 b.places j) l.length).1 = p ∧ (ranTo b l (at0 b.places j) l.length).2 = ans
  | 0 => by simp [canTo]
  | k + 1 => by
    unfold canTo
    rw [Bool.or_eq_true, canTo_iff k, Bool.and_eq_true, decide_eq_true_eq]
    unfold sameB
    rw [decide_eq_true_eq]
    constructor
    · rintro (⟨j, h1, h2⟩ | h)
      · exact ⟨j, by omega, h2⟩
      · exact ⟨k, by omega, h⟩
    · rintro ⟨j, h1, h2⟩
      by_cases e : j = k
      · exact .inr (by rw [← e]; exact h2)
      · exact .inl ⟨j, by omega, h2⟩
theorem can_bit {b : BT} (hb : Okb b) {l : List BS} (hl : stepsB b l = true) {ans : List Int} (ha : answersB l ans = true) (q : Nat) :
    canTo b l ans ((q : Int) - 1) b.places.length = (aftTo b l ans l.length).testBit q := by
  have hst := stepsB_iff.1 hl
  obtain ⟨h1, h2⟩ := Bool.and_eq_true_iff.1 (show (bitsB ans && decide (looksTo l l.length = ans.length)) = true from ha)
  have hlen := of_decide_eq_true h2
  have h := aft_iff hb hst (bits_01 h1) l.length (Nat.le_refl _) (by omega) ((q : Int) - 1) (by omega)
  rw [hlen, List.take_length] at h
  have hq : hasP (aftTo b l ans l.length) ((q : Int) - 1) = (aftTo b l ans l.length).testBit q := by unfold hasP; rw [show ((q : Int) - 1 + 1).toNat = q by omega]
  rw [← hq, Bool.eq_iff_iff, canTo_iff, h]
  constructor
  · rintro ⟨j, j1, j2, j3⟩; exact ⟨at0 b.places j, getD_mem b.places j 0 j1, j2, j3⟩
  · rintro ⟨p, p1, p2, p3⟩
    obtain ⟨k, hk, e⟩ := mem_getD b.places p 0 p1
    exact ⟨k, hk, by unfold at0; rw [e]; exact p2, by unfold at0; rw [e]; exact p3⟩
theorem plTo_zero {k : Nat} : plTo 0 k = [] := by
  induction k with
  | zero => rfl
  | succ k ih => rw [plTo_no (by simp), ih]
theorem plOf_len0 {m : Nat} (hm : m < 256) : (plOf m).length = 0 ↔ m = 0 := by
  constructor
  · intro h
    rcases Nat.eq_zero_or_pos m with e | e
    · exact e
    · obtain ⟨i, hi⟩ := ex_bit (show m ≠ 0 by omega)
      have : (i : Int) - 1 ∈ plOf m := mem_plTo.2 ⟨i, bit_lt (k := 8) hm hi, hi, rfl⟩
      have := List.length_pos_of_mem this
      omega
  · intro h; subst h; exact congrArg List.length (plTo_zero (k := 8))
theorem R6After_any (b : BT) (l : List BS) (ans : List Int) (v lv av : Value) (w : World) (hv : BTrapAt w v b) (hlv : StepsAt w lv l) (hav : IntsAt w av ans) :
    Calls Tryd.prog 60 #[v, lv, av] w (AftPost b l ans w) := by
  have HV := Lib.hid hv
  have HL := Lib.hid hlv
  have HA := Lib.hid hav
  have HG := Lib.hid (fun wx hx => R6given_any b l v lv wx (hv.bel (w' := wx) hx) (hlv.bel hx))
  have HE := Lib.hid (show aftE b l ans = if givenE b l true = 0 then (if answersB l ans then (if aftTo b l ans l.length = 0 then 3 else 0) else 1) else givenE b l true from rfl)
  obtain ⟨da, dc, sa, sc, pa, pc, rfl, _, _, hp⟩ := hv.open
  obtain ⟨pb, poff, hpa, hpl, _, hpc⟩ := hp.open
  have hixp := idxInts (c := pc) hpa
  have HPC := Lib.hid hpc
  have HBX := Lib.hid (fun wx hx => (BoxB.new (w := w) (b := b) (dv := .slice da b.doors.length dc) (sv := .slice sa b.seen.length sc) (pv := .slice pa b.places.length pc) (T := 25)).bel (w' := wx) hx)
  unfold AftPost aftL
  clear hv hp hpa hpc
  by_cases hE : givenE b l true = 0
  rotate_left
  · have HE2 := Lib.hid (HE.out.trans (if_neg hE))
    rw [HE2.out, if_neg hE]
    have hb1 : (givenE b l true != 0) = true := by simpa using hE
    clear hE HE HE2
    generalize givenE b l true = er at *
    obtain ⟨la, lc, lb, loff, rfl, -⟩ := hlv
    go_enter Tryd.func60, Tryd.ntmps60
    go_wp2_with fail
    refine (HG.out _ (by repeat (first | assumption | exact Bel.refl _ | refine Bel.drew ?_ | refine Bel.drewN ?_ _ | refine Bel.alloc ?_ _ | refine Bel.setCell ?_ (by simp <;> omega) _ | refine Bel.trans ?_ (by assumption)))).mono ?_
    rintro e w1 ⟨rfl, hb⟩
    have HB := Lib.hid (show Bel w w1 from Bel.trans (by repeat (first | assumption | exact Bel.refl _ | refine Bel.drew ?_ | refine Bel.drewN ?_ _ | refine Bel.alloc ?_ _ | refine Bel.setCell ?_ (by simp <;> omega) _ | refine Bel.trans ?_ (by assumption))) hb)
    clear hb
    go_wp2
    exact bodyPost_ret (v := .tuple #[.slice none 0 0, .int .i64 er]) (by simp [results, Tryd.results60, go_sem, *]) rfl ⟨_, rfl, IntsAt.nil _, HB.out⟩
  have HE2 := Lib.hid (HE.out.trans (if_pos hE))
  obtain ⟨hval, h12, hst⟩ := givenE_zero hE
  have hok := okb_iff.1 hval
  rw [hE] at HG
  have HAA := Lib.hid (fun wx hx => R6AreAnswers_any l ans lv av wx (HL.out.bel (w' := wx) hx) (HA.out.bel hx) (by omega))
  rw [HE2.out]
  cases hans : answersB l ans
  · have hfx : (if (false : Bool) = true then (if aftTo b l ans l.length = 0 then (3 : Int) else 0) else 1) = 1 := rfl
    rw [hans] at HAA
    rw [hfx, if_neg (by omega)]
    clear hE HE HE2 hval hst hok hans hfx
    obtain ⟨la, lc, lb, loff, rfl, -⟩ := hlv
    obtain ⟨aa, ac, ab, aoff, rfl, -⟩ := hav
    go_enter Tryd.func60, Tryd.ntmps60
    go_wp2_with fail
    refine (HG.out _ (by repeat (first | assumption | exact Bel.refl _ | refine Bel.drew ?_ | refine Bel.drewN ?_ _ | refine Bel.alloc ?_ _ | refine Bel.setCell ?_ (by simp <;> omega) _ | refine Bel.trans ?_ (by assumption)))).mono ?_
    rintro e w1 ⟨rfl, hb⟩
    have HB := Lib.hid (show Bel w w1 from Bel.trans (by repeat (first | assumption | exact Bel.refl _ | refine Bel.drew ?_ | refine Bel.drewN ?_ _ | refine Bel.alloc ?_ _ | refine Bel.setCell ?_ (by simp <;> omega) _ | refine Bel.trans ?_ (by assumption))) hb)
    clear hb
    go_wp2_with fail
    refine (HAA.out _ HB.out).mono ?_
    rintro e w2 ⟨rfl, hb⟩
    have HB2 := Lib.hid (HB.out.trans hb)
    clear hb
    go_wp2
    exact bodyPost_ret (v := .tuple #[.slice none 0 0, .int .i64 1]) (by simp [results, Tryd.results60, go_sem]) rfl ⟨_, rfl, IntsAt.nil _, HB2.out⟩
  have hfx : (if (true : Bool) = true then (if aftTo b l ans l.length = 0 then (3 : Int) else 0) else 1) = (if aftTo b l ans l.length = 0 then 3 else 0) := rfl
  have HBIT := Lib.hid (fun q => can_bit hok hst hans q)
  have hm := aft_dom hok (ans := ans) (stepsB_iff.1 hst) l.length (Nat.le_refl _)
  have hpw := hok.pow
  have n1 := hok.n1
  have n2 := hok.n2
  have HRAN := Lib.hid (fun k wx hx => R6Ran_any b l hst (by omega) (at0 b.places k) _ lv wx (HV.out.bel (w' := wx) hx) (HL.out.bel hx))
  rw [hans] at HAA
  have HPL := Lib.hid (plOf_to hm (by omega))
  have HZ := Lib.hid (plOf_len0 (m := aftTo b l ans l.length) (by omega))
  rw [HPL.out] at HZ
  have HSD := Lib.hid (fun p k => show canTo b l ans p (k + 1) = (canTo b l ans p k || (decide ((ranTo b l (at0 b.places k) l.length).1 = p) && sameB (ranTo b l (at0 b.places k) l.length).2 ans)) from rfl)
  have HS0 := Lib.hid (fun p => show canTo b l ans p 0 = false from rfl)
  have HSA := Lib.hid (fun r V wx (h1 : IntsAt wx V r) (h2 : Bel w wx) => SameInts_any V av r ans wx h1 (HA.out.bel h2))
  obtain ⟨i1, hi1, hz1, hs1, hb1⟩ := info_parts mkInt
  have HI1 := Lib.hid hi1
  have HZ1 := Lib.hid hz1
  obtain ⟨la, lc, lb, loff, rfl, -⟩ := hlv
  obtain ⟨aa, ac, ab, aoff, rfl, -⟩ := hav
  rw [hfx, HPL.out]
  generalize aftTo b l ans l.length = m at *
  generalize hEr : (if m = 0 then (3 : Int) else 0) = er
  generalize hLs : (if er = 0 then plTo m (b.n.toNat + 1) else []) = Ls
  have HER := Lib.hid hEr
  have HLS := Lib.hid hLs
  clear hE HE HE2 hval hst hok hans hfx hm HPL hi1 hz1 hEr hLs hpw
  go_enter Tryd.func60, Tryd.ntmps60
  go_wp2_with fail
  refine (HG.out _ (by repeat (first | assumption | exact Bel.refl _ | refine Bel.drew ?_ | refine Bel.drewN ?_ _ | refine Bel.alloc ?_ _ | refine Bel.setCell ?_ (by simp <;> omega) _ | refine Bel.trans ?_ (by assumption)))).mono ?_
  rintro e w1 ⟨rfl, hb⟩
  have HB := Lib.hid (show Bel w w1 from Bel.trans (by repeat (first | assumption | exact Bel.refl _ | refine Bel.drew ?_ | refine Bel.drewN ?_ _ | refine Bel.alloc ?_ _ | refine Bel.setCell ?_ (by simp <;> omega) _ | refine Bel.trans ?_ (by assumption))) hb)
  have HY := Lib.hid (HBX.out _ hb)
  clear hb HBX
  go_wp2_with fail
  refine (HAA.out _ HB.out).mono ?_
  rintro e w2 ⟨rfl, hb⟩
  have HB2 := Lib.hid (HB.out.trans hb)
  have HY2 := Lib.hid (HY.out.bel hb)
  clear hb HAA HG
  go_wp2
  go_loopw [9, 10] (fun V vp wr => ∃ q : Nat, q ≤ b.n.toNat + 1 ∧ vp = .int .i64 ((q : Int) - 1) ∧ IntSt (plTo m q) w2 V wr) (fun _ vp _ => (b.n + 1 - intOf vp).toNat)
  case atStart => exact ⟨0, by omega, rfl, IntSt.start w2⟩
  case round =>
    obtain ⟨q, hq, rfl, hst⟩ := hrel
    have HS := Lib.hid hst
    have HBR := Lib.hid hst.bel
    obtain ⟨y0, y1, y2, y3, y4, y5⟩ := HY2.out.bel hst.bel
    have ly := cell_lt y0
    by_cases hlt : q < b.n.toNat + 1
    · have hlti : (q : Int) - 1 < b.n := by omega
      have hpl := plTo_len (m := m) q
      clear hst
      go_wp2
      clear y0 y1 y2 y3 y4 y5 ly
      go_loopw [11, 12] (fun vb vi wx => ∃ k : Nat, k ≤ b.places.length ∧ vi = .int .i64 k ∧ vb = .bool (canTo b l ans ((q : Int) - 1) k) ∧ Bel wr wx) (fun _ vi _ => b.places.length - (intOf vi).toNat)
      case atStart => exact ⟨0, by omega, rfl, by rw [HS0.out], Bel.refl _⟩
      case round =>
        obtain ⟨k, hk, rfl, rfl, hBx⟩ := hrel
        have HBX := Lib.hid hBx
        obtain ⟨y0, y1, y2, y3, y4, y5⟩ := HY2.out.bel (HBR.out.trans hBx)
        have ly := cell_lt y0
        by_cases hltk : k < b.places.length
        · have hlki : (k : Int) < (b.places.length : Int) := by omega
          have HBW := Lib.hid (HB2.out.trans (HBR.out.trans hBx))
          have q0 := HBW.out.cell (HPC.out k hltk)
          have lq := cell_lt q0
          have HSK := Lib.hid (HSD.out ((q : Int) - 1) k)
          have HRK := Lib.hid (fun wx hx => HRAN.out k wx hx)
          unfold RanPost at HRK
          clear hBx
          generalize at0 b.places k = x at *
          generalize ranTo b l x l.length = r at *
          go_wp2
          refine wp_region_mixB (Plan.seq [0, 1, 2, 3, 4, 5, 6, 1007, 8, 9, 10, 11, 12] .nil) (by kernel_rfl) (by kernel_rfl) (fun hcur => ?_)
          simp only [Plan.seq, Plan.fill, List.getD_cons_zero, List.getD_cons_succ, Nat.reduceLT, ↓reduceIte, Nat.reduceSub]
          apply mix_pure _ rfl
          · intro w' hw'
            have hcr := hw'.cells
            go_simp
            rfl
          intro K hK
          go_simp
          refine hK _ ?_
          clear hK K
          apply mix_pure _ rfl
          · intro w' hw'
            have hcr := hw'.cells
            go_simp
            rfl
          intro K hK
          go_simp
          refine hK _ ?_
          clear hK K
          apply mix_pure _ rfl
          · intro w' hw'
            have hcr := hw'.cells
            go_simp
            rfl
          intro K hK
          go_simp
          refine hK _ ?_
          clear hK K
          apply mix_pure _ rfl
          · intro w' hw'
            have hcr := hw'.cells
            go_simp
            rfl
          intro K hK
          go_simp
          refine hK _ ?_
          clear hK K
          apply mix_pure _ rfl
          · intro w' hw'
            have hcr := hw'.cells
            go_simp
            rfl
          intro K hK
          go_simp
          refine hK _ ?_
          clear hK K
          apply mix_pure _ rfl
          · intro w' hw'
            have hcr := hw'.cells
            go_simp
            rfl
          intro K hK
          go_simp
          refine hK _ ?_
          clear hK K
          apply mix_pure _ rfl
          · intro w' hw'
            have hcr := hw'.cells
            go_simp
            rfl
          intro K hK
          go_simp
          refine hK _ ?_
          clear hK K
          refine mix_act rfl (fun K hK => ?_)
          go_simp
          refine (HRK.out _ (HBW.out.trans hcur)).mono ?_
          rintro e w3 ⟨V3, rfl, hV3, hb⟩
          have HV3 := Lib.hid hV3
          simp only []
          refine hK _ _ (hcur.trans hb) (fun hcur => ?_)
          clear hK K hb hV3
          apply mix_pure _ rfl
          · intro w' hw'
            have hcr := hw'.cells
            go_simp
            rfl
          intro K hK
          go_simp
          refine hK _ ?_
          clear hK K
          apply mix_pure _ rfl
          · intro w' hw'
            have hcr := hw'.cells
            go_simp
            rfl
          intro K hK
          go_simp
          refine hK _ ?_
          clear hK K
          apply mix_pure _ rfl
          · intro w' hw'
            have hcr := hw'.cells
            go_simp
            rfl
          intro K hK
          go_simp
          refine hK _ ?_
          clear hK K
          apply mix_pure _ rfl
          · intro w' hw'
            have hcr := hw'.cells
            go_simp
            rfl
          intro K hK
          go_simp
          refine hK _ ?_
          clear hK K
          apply mix_pure _ rfl
          · intro w' hw'
            have hcr := hw'.cells
            go_simp
            rfl
          intro K hK
          go_simp
          refine hK _ ?_
          clear hK K
          refine mix_nil ?_
          have HB3 := Lib.hid (HBX.out.trans hcur)
          have HW3 := Lib.hid (HBW.out.trans hcur)
          clear hcur q0 lq y0 y1 y2 y3 y4 y5 ly
          cases hh : canTo b l ans ((q : Int) - 1) k
          · cases h1 : decide (r.1 = (q : Int) - 1)
            · have HN := Lib.hid (show canTo b l ans ((q : Int) - 1) (k + 1) = false by rw [HSK.out, hh, h1]; rfl)
              have hb3 : (r.1 == (q : Int) - 1) = false := by simpa using h1
              clear hh h1 HSK
              go_wp2
              go_roundw
              case rel => exact ⟨k + 1, by omega, by go_num, by rw [HN.out], HB3.out⟩
              case measure => simp [intOf]; omega
            · have HN := Lib.hid (show canTo b l ans ((q : Int) - 1) (k + 1) = sameB r.2 ans by rw [HSK.out, hh, h1]; rfl)
              have hb3 : (r.1 == (q : Int) - 1) = true := by simpa using h1
              clear hh h1 HSK
              go_wp2_with fail
              refine (HSA.out _ _ _ HV3.out HW3.out).mono ?_
              rintro e w4 ⟨rfl, hb⟩
              have HB4 := Lib.hid (HB3.out.trans hb)
              clear hb
              go_wp2
              go_roundw
              case rel => exact ⟨k + 1, by omega, by go_num, by rw [HN.out], HB4.out⟩
              case measure => simp [intOf]; omega
          · have HN := Lib.hid (show canTo b l ans ((q : Int) - 1) (k + 1) = true by rw [HSK.out, hh]; rfl)
            clear hh HSK
            go_wp2
            go_roundw
            case rel => exact ⟨k + 1, by omega, by go_num, by rw [HN.out], HB3.out⟩
            case measure => simp [intOf]; omega
        · obtain rfl : k = b.places.length := by omega
          have HBQ := Lib.hid (HBIT.out q)
          have HSx := Lib.hid (HS.out.keep hBx)
          clear hBx
          cases hm : m.testBit q
          · rw [hm] at HBQ
            have hh := HBQ.out
            have HN := Lib.hid (plTo_no hm)
            rw [hh]
            clear hm HBQ hh
            go_wp2
            go_roundw
            case rel => exact ⟨q + 1, by omega, by congr 1; omega, by rw [HN.out]; exact HSx.out⟩
            case measure => simp [intOf]; omega
          · rw [hm] at HBQ
            have hh := HBQ.out
            have HN := Lib.hid (plTo_yes hm)
            rw [hh]
            clear hm HBQ hh
            go_wp2_with (at_builtin; refine wpList_append_where rfl _ _ 23 rfl 3 i1 (.int .i64 0) 1 8 Tryd.underlying23 HI1.out HZ1.out hs1 hb1 rfl (by decide) _ (plTo m q).length ((plTo m q).map (Value.int .i64)) rfl (ownsRow_bel HSx.out.own ((Bel.refl wr).alloc _)) ⟨wr.heap.size, 0, none⟩ 1 1 [.int .i64 _] rfl rfl (cell_one_new _ _ _) (fun y hy => by simp at hy; subst hy; rfl) (by unfold maxLen; omega) (by omega) ?_; intro V' w7 hown hgrow hwhere)
            have HS7 := Lib.hid ((HSx.out.keep ((Bel.refl wr).alloc _)).next hown hgrow hwhere)
            clear hown hgrow hwhere
            go_wp2
            go_roundw
            case rel => exact ⟨q + 1, by omega, by congr 1; omega, by rw [HN.out]; exact HS7.out⟩
            case measure => simp [intOf]; omega
    · obtain rfl : q = b.n.toNat + 1 := by omega
      have hlti : ¬ (((b.n.toNat + 1 : Nat) : Int) - 1 < b.n) := by omega
      have hpl := plTo_len (m := m) (b.n.toNat + 1)
      have HVS := Lib.hid (show ∃ a c, u9 = .slice a (plTo m (b.n.toNat + 1)).length c by
        rcases HS.out.own.2 with ⟨h1, e⟩ | ⟨g, cap, cur, h1, _⟩
        · exact ⟨none, 0, by rw [h1, ← e]⟩
        · exact ⟨_, _, h1⟩)
      obtain ⟨ua, uc, rfl⟩ := HVS.out
      have HRD := Lib.hid (ownInts (by omega) HS.out.own)
      clear hst
      by_cases hz : m = 0
      · have hz2 := HZ.out.2 hz
        have HI := Lib.hid (show er = 3 by rw [← HER.out, if_pos hz])
        have HI2 := Lib.hid (show Ls = [] by rw [← HLS.out, if_neg (by rw [HI.out]; omega)])
        rw [hz2]
        clear hz hz2
        go_wp2
        exact bodyPost_ret (v := .tuple #[.slice none 0 0, .int .i64 3]) (by simp [results, Tryd.results60, go_sem]) rfl ⟨_, rvL HI.out, by rw [HI2.out]; exact IntsAt.nil _, HB2.out.trans HBR.out⟩
      · have hz2 : ¬ (plTo m (b.n.toNat + 1)).length = 0 := fun q => hz (HZ.out.1 q)
        have hz3 : (((plTo m (b.n.toNat + 1)).length : Int) == 0) = false := by rw [beq_eq_false_iff_ne]; omega
        have HI := Lib.hid (show er = 0 by rw [← HER.out, if_neg hz])
        have HI2 := Lib.hid (show Ls = plTo m (b.n.toNat + 1) by rw [← HLS.out, if_pos HI.out])
        clear hz
        go_wp2
        exact bodyPost_ret (v := .tuple #[.slice ua (plTo m (b.n.toNat + 1)).length uc, .int .i64 0]) (by simp [results, Tryd.results60, go_sem]) rfl ⟨_, rvL HI.out, by rw [HI2.out]; exact HRD.out, HB2.out.trans HBR.out⟩
end Go.Proofs.YtogiidkofddhaaaDoor
