/-
  the top law: TopPriced: the price that is shared, for every table, custom, cut, weights and node: the call returns true and changes nothing that was there.
-/
import Derived.Test.YtkdcdhkhadhcfaaPriced
import Derived.Test.YtkdcdhkhadhcfaaShRef
namespace Go.Proofs.Ytkdcdhkhadhcfaa
open Go Go.RowKit
set_option maxHeartbeats 8000000
set_option maxRecDepth 100000
theorem pen_small {t : List CP} {c y : List Int} (ht : CtOk t) (hy : TrOk t y) : ∀ k, k ≤ t.length → 0 ≤ penTo (paysTo t c t.length) y k ∧ penTo (paysTo t c t.length) y k ≤ 2970 * k
  | 0, _ => by show (0 : Int) ≤ 0 ∧ (0 : Int) ≤ _; omega
  | k + 1, hk => by
    have ih := pen_small (c := c) ht hy k (by omega)
    have h2 := hy.p.ok.2 k (by rw [hy.p.ok.1]; omega)
    have hm := each_mul ht c k (at0 y k).toNat (by omega)
    rw [show (((at0 y k).toNat : Nat) : Int) = at0 y k by omega] at hm
    have e : at0 (paysTo t c t.length) k = eachV t c k := by rw [paysTo_at t c (by omega) t.length (Nat.le_refl _), if_pos (by omega)]
    show 0 ≤ penTo _ _ k + at0 (paysTo t c t.length) k * at0 y k ∧ penTo _ _ k + at0 (paysTo t c t.length) k * at0 y k ≤ _
    rw [e]
    omega
theorem pay_mul {t : List CP} {c y : List Int} (ht : CtOk t) (hy : TrOk t y) {k : Nat} (hk : k < t.length) : 0 ≤ at0 (paysTo t c t.length) k * at0 y k ∧ at0 (paysTo t c t.length) k * at0 y k ≤ 2970 := by
  have h2 := hy.p.ok.2 k (by rw [hy.p.ok.1]; omega)
  have hm := each_mul ht c k (at0 y k).toNat (by omega)
  rw [show (((at0 y k).toNat : Nat) : Int) = at0 y k by omega] at hm
  have e : at0 (paysTo t c t.length) k = eachV t c k := by rw [paysTo_at t c hk t.length (Nat.le_refl _), if_pos hk]
  rw [e]; exact hm
theorem TopPriced_any (t : List CP) (l : List SNd) (cu y : List Int) (nd : Int) (v vc vcu vy : Value) (w : World) (hv : CtAt w v t) (hc : CusAt w vc l) (hcu : IntsAt w vcu cu) (hy : IntsAt w vy y) :
    Calls Try.prog 3 #[v, vc, .agg #[vcu, vy, .int .i64 nd]] w fun e w' => e = .returned (.bool true) ∧ Bel w w' := by
  have HCK := Lib.hid (fun wx (hb : Bel w wx) => R7Check_any t v wx (hv.bel hb))
  have HIT := Lib.hid (fun (ht : CtOk t) (h40 : y.length ≤ 40) wx (hb : Bel w wx) => R7IsTruth_any t y v vy wx ht (hv.bel hb) (hy.bel hb) h40)
  have HIC := Lib.hid (fun (ht : CtOk t) (h40 : cu.length ≤ 40) wx (hb : Bel w wx) => R7IsCut_any t cu v vcu wx ht.l8 (hv.bel hb) (hcu.bel hb) h40)
  have HFA := Lib.hid (fun wx (hb : Bel w wx) => Far10_any l vc wx (hc.bel hb))
  have HC1 := Lib.hid (fun wx (hb : Bel w wx) => R10Check_any l vc wx (hc.bel hb))
  have HIN := Lib.hid (fun wx (hb : Bel w wx) => R10IsNode_any l nd vc wx (hc.bel hb))
  have HPA := Lib.hid (fun (hk : CusOk l) (n : Nat) (hn : n < l.length) (p : Int) (hp : 0 ≤ p ∧ p ≤ 400) wx (hb : Bel w wx) => part10_any l n p vc wx hk hn hp (hc.bel hb))
  have HFI := Lib.hid (fun (hk : CusOk l) (n : Nat) (hn : n < l.length) wx (hb : Bel w wx) => IsFirst_any l n vc wx hk hn (hc.bel hb))
  have HPY := Lib.hid (fun (ht : CtOk t) wx (hb : Bel w wx) => R7Pays_any t cu v vcu wx ht.l8 (hv.bel hb) (hcu.bel hb))
  have HPR := Lib.hid (fun (ht : CtOk t) (hcut : CutOk t cu) (h40 : cu.length ≤ 40) (hp : PrOk t cu) va wx (hb : Bel w wx) hva => Price7_any t cu v va wx ht hcut h40 hp (hv.bel hb) hva)
  obtain ⟨i1, hi1, hz1, hs1, hb1⟩ := info_parts mkInt
  have HI1 := Lib.hid hi1
  have HZ1 := Lib.hid hz1
  clear hi1 hz1
  obtain ⟨a, cc, b, off, rfl, _, ⟨hl7, _⟩, _⟩ := hv
  obtain ⟨s, rfl, a2, cc2, b2, off2, rfl, _, ⟨hl10, _⟩, _⟩ := hc
  obtain ⟨ca, cac, cb, coff, rfl, hca, ⟨hclen, _⟩, hcc⟩ := hcu
  have HSRC := Lib.hid (fun wx (hb : Bel w wx) => ints_from (w := wx) hca (fun i hi => hb.cell (hcc i hi)))
  obtain ⟨ya, yac, yb, yoff, rfl, hya, ⟨hylen, _⟩, hyc⟩ := hy
  have hiy := idxInts (c := yac) hya
  have HYC := Lib.hid hyc
  clear hca hcc hya hyc
  go_enter Try.func3, Try.ntmps3
  by_cases hA : 40 < t.length
  · have hAi : (40 : Int) < (t.length : Int) := by omega
    have hAd : decide ((40 : Int) < (t.length : Int)) = true := decide_eq_true hAi
    go_upto_region 1 with fail
    generalize hW : World.alloc _ _ = w0
    have HB : Hid (Bel w w0) := Lib.hid (by rw [← hW]; exact ((Bel.refl w).alloc _).alloc _)
    clear hW
    go_wp2_with fail
    refine (priced_any _).mono ?_
    rintro e wz ⟨rfl, hb⟩
    have HBZ := Lib.hid (HB.out.trans hb)
    clear hb
    go_wp2
    go_ret
    exact ⟨rfl, HBZ.out⟩
  · have hAi : ¬ (40 : Int) < (t.length : Int) := by omega
    have hAd : decide ((40 : Int) < (t.length : Int)) = false := decide_eq_false hAi
    go_wp2_with fail
    generalize hW : World.alloc _ _ = w0
    have HB : Hid (Bel w w0) := Lib.hid (by rw [← hW]; exact ((Bel.refl w).alloc _).alloc _)
    have HXC : Hid (Bx w0 w.heap.size [.slice a2 l.length cc2]) := Lib.hid (by rw [← hW]; exact (Bx.new rfl).bel ((Bel.refl _).alloc _))
    have HXX : Hid (Bx w0 (w.heap.size + 1) [.slice ca cu.length cac, .slice ya y.length yac, .int .i64 nd]) := Lib.hid (by rw [← hW]; exact Bx.new (by simp))
    clear hW
    refine (HCK.out _ HB.out).mono ?_
    rintro e w1 ⟨r, rfl, hr, hb⟩
    replace HXC := Lib.hid (HXC.out.bel hb)
    replace HXX := Lib.hid (HXX.out.bel hb)
    replace HB := Lib.hid (HB.out.trans hb)
    clear hb
    by_cases hr0 : r = 0
    case neg =>
      have hrd : (r != 0) = true := by simpa using hr0
      clear hr hr0
      go_wp2_with fail
      refine (priced_any _).mono ?_
      rintro e wz ⟨rfl, hb⟩
      have HBZ := Lib.hid (HB.out.trans hb)
      clear hb
      go_wp2
      go_ret
      exact ⟨rfl, HBZ.out⟩
    have ht := hr hr0
    subst hr0
    clear hr
    by_cases hY : 40 < y.length
    case pos =>
      have hYi : (40 : Int) < (y.length : Int) := by omega
      have hYd : decide ((40 : Int) < (y.length : Int)) = true := decide_eq_true hYi
      have xx0 := HXX.out.c 0 _ rfl
      have xx1 := HXX.out.c 1 _ rfl
      have xx2 := HXX.out.c 2 _ rfl
      have lxx := cell_lt xx0
      go_wp2_with fail
      refine (priced_any _).mono ?_
      rintro e wz ⟨rfl, hb⟩
      have HBZ := Lib.hid (HB.out.trans hb)
      clear hb
      go_wp2
      go_ret
      exact ⟨rfl, HBZ.out⟩
    have hYi : ¬ (40 : Int) < (y.length : Int) := by omega
    have hYd : decide ((40 : Int) < (y.length : Int)) = false := decide_eq_false hYi
    by_cases hC : 40 < cu.length
    case pos =>
      have hCi : (40 : Int) < (cu.length : Int) := by omega
      have hCd : decide ((40 : Int) < (cu.length : Int)) = true := decide_eq_true hCi
      have xx0 := HXX.out.c 0 _ rfl
      have xx1 := HXX.out.c 1 _ rfl
      have xx2 := HXX.out.c 2 _ rfl
      have lxx := cell_lt xx0
      go_wp2_with fail
      refine (priced_any _).mono ?_
      rintro e wz ⟨rfl, hb⟩
      have HBZ := Lib.hid (HB.out.trans hb)
      clear hb
      go_wp2
      go_ret
      exact ⟨rfl, HBZ.out⟩
    have hCi : ¬ (40 : Int) < (cu.length : Int) := by omega
    have hCd : decide ((40 : Int) < (cu.length : Int)) = false := decide_eq_false hCi
    have xc0 := HXC.out.c 0 _ rfl
    have lxc := cell_lt xc0
    have xx0 := HXX.out.c 0 _ rfl
    have xx1 := HXX.out.c 1 _ rfl
    have xx2 := HXX.out.c 2 _ rfl
    have lxx := cell_lt xx0
    have HTO := Lib.hid ht
    have h8 := ht.l8
    clear ht
    go_wp2_with fail
    refine (HIT.out HTO.out (by omega) _ HB.out).mono ?_
    rintro e w2 ⟨bt, rfl, hbt, hb⟩
    replace HXC := Lib.hid (HXC.out.bel hb)
    replace HXX := Lib.hid (HXX.out.bel hb)
    replace HB := Lib.hid (HB.out.trans hb)
    clear hb
    clear xc0 lxc xx0 xx1 xx2 lxx
    have HBT := Lib.hid hbt
    clear hbt
    cases bt
    case false =>
      clear HBT
      go_wp2_with fail
      refine (priced_any _).mono ?_
      rintro e wz ⟨rfl, hb⟩
      have HBZ := Lib.hid (HB.out.trans hb)
      clear hb
      go_wp2
      go_ret
      exact ⟨rfl, HBZ.out⟩
    have HTR := Lib.hid (HBT.out rfl)
    clear HBT
    have xc0 := HXC.out.c 0 _ rfl
    have lxc := cell_lt xc0
    have xx0 := HXX.out.c 0 _ rfl
    have xx1 := HXX.out.c 1 _ rfl
    have xx2 := HXX.out.c 2 _ rfl
    have lxx := cell_lt xx0
    go_wp2_with fail
    refine (HIC.out HTO.out (by omega) _ HB.out).mono ?_
    rintro e w3 ⟨bt, rfl, hbt, hb⟩
    replace HXC := Lib.hid (HXC.out.bel hb)
    replace HXX := Lib.hid (HXX.out.bel hb)
    replace HB := Lib.hid (HB.out.trans hb)
    clear hb
    clear xc0 lxc xx0 xx1 xx2 lxx
    have HBT := Lib.hid hbt
    clear hbt
    cases bt
    case false =>
      clear HBT
      go_wp2_with fail
      refine (priced_any _).mono ?_
      rintro e wz ⟨rfl, hb⟩
      have HBZ := Lib.hid (HB.out.trans hb)
      clear hb
      go_wp2
      go_ret
      exact ⟨rfl, HBZ.out⟩
    have HCT := Lib.hid (HBT.out rfl)
    clear HBT
    have xc0 := HXC.out.c 0 _ rfl
    have lxc := cell_lt xc0
    have xx0 := HXX.out.c 0 _ rfl
    have xx1 := HXX.out.c 1 _ rfl
    have xx2 := HXX.out.c 2 _ rfl
    have lxx := cell_lt xx0
    go_wp2_with fail
    refine (HFA.out _ HB.out).mono ?_
    rintro e w4 ⟨rfl, hb⟩
    replace HXC := Lib.hid (HXC.out.bel hb)
    replace HXX := Lib.hid (HXX.out.bel hb)
    replace HB := Lib.hid (HB.out.trans hb)
    clear hb
    clear xc0 lxc xx0 xx1 xx2 lxx
    cases hF : decide ((40 : Int) < (l.length : Int))
    case true =>
      skip
      go_wp2_with fail
      refine (priced_any _).mono ?_
      rintro e wz ⟨rfl, hb⟩
      have HBZ := Lib.hid (HB.out.trans hb)
      clear hb
      go_wp2
      go_ret
      exact ⟨rfl, HBZ.out⟩
    have xc0 := HXC.out.c 0 _ rfl
    have lxc := cell_lt xc0
    have xx0 := HXX.out.c 0 _ rfl
    have xx1 := HXX.out.c 1 _ rfl
    have xx2 := HXX.out.c 2 _ rfl
    have lxx := cell_lt xx0
    go_wp2_with fail
    refine (HC1.out _ HB.out).mono ?_
    rintro e w5 ⟨r, rfl, hr, hb⟩
    replace HXC := Lib.hid (HXC.out.bel hb)
    replace HXX := Lib.hid (HXX.out.bel hb)
    replace HB := Lib.hid (HB.out.trans hb)
    clear hb
    clear xc0 lxc xx0 xx1 xx2 lxx
    by_cases hr0 : r = 0
    case neg =>
      have hrd : (r != 0) = true := by simpa using hr0
      clear hr hr0
      go_wp2_with fail
      refine (priced_any _).mono ?_
      rintro e wz ⟨rfl, hb⟩
      have HBZ := Lib.hid (HB.out.trans hb)
      clear hb
      go_wp2
      go_ret
      exact ⟨rfl, HBZ.out⟩
    have HK := Lib.hid (hr hr0)
    subst hr0
    clear hr
    have xc0 := HXC.out.c 0 _ rfl
    have lxc := cell_lt xc0
    have xx0 := HXX.out.c 0 _ rfl
    have xx1 := HXX.out.c 1 _ rfl
    have xx2 := HXX.out.c 2 _ rfl
    have lxx := cell_lt xx0
    go_wp2_with fail
    refine (HIN.out _ HB.out).mono ?_
    rintro e w6 ⟨rfl, hb⟩
    replace HXC := Lib.hid (HXC.out.bel hb)
    replace HXX := Lib.hid (HXX.out.bel hb)
    replace HB := Lib.hid (HB.out.trans hb)
    clear hb
    clear xc0 lxc xx0 xx1 xx2 lxx
    cases hnd : withinB nd 0 ((l.length : Int) - 1)
    case false =>
      skip
      go_wp2_with fail
      refine (priced_any _).mono ?_
      rintro e wz ⟨rfl, hb⟩
      have HBZ := Lib.hid (HB.out.trans hb)
      clear hb
      go_wp2
      go_ret
      exact ⟨rfl, HBZ.out⟩
    obtain ⟨hn0, hn1⟩ := withinB_true.1 hnd
    obtain ⟨n, rfl⟩ : ∃ n : Nat, nd = (n : Int) := ⟨nd.toNat, by omega⟩
    have hnl : n < l.length := by omega
    have HPL := Lib.hid (price_law (c := cu) HTO.out HTR.out)
    have HSL := Lib.hid (fun a p b (h0 : 0 ≤ a) (h1 : a ≤ p) (h2 : p ≤ b) => shares_law HK.out h0 h1 h2 hnl)
    clear HCK HIT HIC HFA HC1 HIN hnd hn0 hn1 hF hl7 hl10 hAi hAd hA
    have xc0 := HXC.out.c 0 _ rfl
    have lxc := cell_lt xc0
    have xx0 := HXX.out.c 0 _ rfl
    have xx1 := HXX.out.c 1 _ rfl
    have xx2 := HXX.out.c 2 _ rfl
    have lxx := cell_lt xx0
    have HFR : Hid ((w6.alloc (.cells #[] 3)).ownsRow 0 3 1 (.slice (some ⟨w6.heap.size, 0, none⟩) 0 0) 0 []) := Lib.hid (fresh_at (new_row rfl))
    have hcl40 : cu.length ≤ 40 := by omega
    go_wp2_with (first | (at_builtin; refine wpList_append_opt rfl _ _ 26 rfl 3 i1 (.int .i64 0) 1 8 Try.underlying26 HI1.out HZ1.out hs1 hb1 rfl (by decide) _ 0 [] rfl HFR.out ca cu.length cac (cu.map (Value.int .i64)) rfl (by simp) (HSRC.out _ (HB.out.alloc _)) (ints_one cu) (by unfold maxLen; omega) (by omega) ?_; intro V w7 hown hgrow hwhere; obtain ⟨g7, c7, rfl, hg7, lg7, HK7, HR7⟩ := stage hown hgrow hwhere; have HV7 := Lib.hid (ownInts (by omega) HR7.out); clear hown hgrow hwhere) | fail)
    refine (HPR.out HTO.out HCT.out hcl40 HPL.out.pr _ _ (HB.out.trans HK7.out) HV7.out).mono ?_
    rintro e w8 ⟨rfl, hb8⟩
    have hb := HK7.out.trans hb8
    clear hb8 HK7 HR7 HV7 hg7 lg7 HFR
    replace HXC := Lib.hid (HXC.out.bel hb)
    replace HXX := Lib.hid (HXX.out.bel hb)
    replace HB := Lib.hid (HB.out.trans hb)
    clear hb
    clear xc0 lxc xx0 xx1 xx2 lxx
    clear HPR HSRC HCT hclen
    have hp1 := HPL.out.nn
    have hp2 := HPL.out.le
    have hp3 := HPL.out.ge
    have hp4 := HPL.out.up
    clear HPL
    generalize priceLo t cu = lo at *
    generalize priceHi t cu = hi at *
    go_upto_region 4 with fail
    generalize hW : World.alloc _ _ = W9
    have HSX : Hid (Bx W9 w8.heap.size [.int .i64 lo, .int .i64 hi]) := Lib.hid (by rw [← hW]; exact Bx.new rfl)
    have hb : Bel w8 W9 := by rw [← hW]; exact (Bel.refl w8).alloc _
    generalize w8.heap.size = gs at *
    clear hW
    replace HXC := Lib.hid (HXC.out.bel hb)
    replace HXX := Lib.hid (HXX.out.bel hb)
    replace HB := Lib.hid (HB.out.trans hb)
    clear hb
    have xc0 := HXC.out.c 0 _ rfl
    have lxc := cell_lt xc0
    have xx0 := HXX.out.c 0 _ rfl
    have xx1 := HXX.out.c 1 _ rfl
    have xx2 := HXX.out.c 2 _ rfl
    have lxx := cell_lt xx0
    go_wp2_with fail
    refine (HPY.out HTO.out _ HB.out).mono ?_
    rintro e w10 ⟨V, rfl, hpv, hb⟩
    replace HXC := Lib.hid (HXC.out.bel hb)
    replace HXX := Lib.hid (HXX.out.bel hb)
    replace HSX := Lib.hid (HSX.out.bel hb)
    replace HB := Lib.hid (HB.out.trans hb)
    clear hb
    clear xc0 lxc xx0 xx1 xx2 lxx
    have HPS := Lib.hid (fun k hk => pen_small (c := cu) (k := k) HTO.out HTR.out hk)
    have HPM := Lib.hid (fun k hk => pay_mul (c := cu) (k := k) HTO.out HTR.out hk)
    have HPN := Lib.hid (fun (p : List Int) k => show penTo p y (k + 1) = penTo p y k + at0 p k * at0 y k from rfl)
    have HP0 := Lib.hid (fun (p : List Int) => show penTo p y 0 = 0 from rfl)
    have hyl := HTR.out.p.ok.1
    have hpl := paysTo_len t cu t.length
    generalize paysTo t cu t.length = P at *
    obtain ⟨pa, pc, pb, po, rfl, hpa, _, hpc⟩ := hpv
    rw [hpl] at hpa hpc ⊢
    have hip := idxInts (c := pc) hpa
    have HPC := Lib.hid hpc
    clear HPY HTR HTO hpa hpc hYi hYd hY hCi hCd hC
    have HYL := Lib.hid hyl
    rw [hyl] at hiy
    clear hyl hpl
    go_wp2_with fail
    go_loopw [9, 11] (fun pe i wr => ∃ k : Nat, k ≤ t.length ∧ i = .int .i64 k ∧ pe = .int .i64 (penTo P y k) ∧ Hid (Bel w10 wr)) (fun _ i _ => t.length - (intOf i).toNat)
    case atStart => exact ⟨0, by omega, rfl, by rw [HP0.out], Lib.hid (Bel.refl _)⟩
    case round =>
      obtain ⟨k, hk, rfl, rfl, HBR⟩ := hrel
      by_cases hlt : k < t.length
      · have hlti : (k : Int) < (t.length : Int) := by omega
        have p0 := HBR.out.cell (HPC.out k hlt)
        have lp := cell_lt p0
        have y0 := HBR.out.cell (HB.out.cell (HYC.out k (by rw [HYL.out]; exact hlt)))
        have ly := cell_lt y0
        have xx1 := HBR.out.cell (HXX.out.c 1 _ rfl)
        have lxx := cell_lt xx1
        have hs := HPS.out k hk
        have hm := HPM.out k hlt
        have HN := Lib.hid (HPN.out P k)
        clear HPS HPM HPN HPC HYC hp2 hp3
        generalize penTo P y k = pen at *
        generalize at0 P k = pk at *
        generalize at0 y k = yk at *
        generalize hmm : pk * yk = mm at *
        have hYL2 := HYL.out
        rw [hYL2] at xx1
        clear hYL2
        go_wp2
        go_quiet (fail)
        go_wp2
        go_roundw
        case rel => exact ⟨k + 1, by omega, by go_num, by rw [HN.out], Lib.hid (HBR.out.drewN _)⟩
        case measure => simp [intOf]; omega
      · obtain rfl : k = t.length := by omega
        have hlti : ¬ (t.length : Int) < (t.length : Int) := by omega
        have hs := HPS.out t.length (Nat.le_refl _)
        generalize penTo P y t.length = pen at *
        have hb := HBR.out
        clear HPS HPM HPN HPC HYC HP0 HBR
        replace HXC := Lib.hid (HXC.out.bel hb)
        replace HXX := Lib.hid (HXX.out.bel hb)
        replace HSX := Lib.hid (HSX.out.bel hb)
        replace HB := Lib.hid (HB.out.trans hb)
        clear hb
        have d1 : decide (lo < 0) = false := decide_eq_false (by omega)
        have d2 : decide (pen < lo) = false := decide_eq_false (by omega)
        have d3 : decide (hi < pen) = false := decide_eq_false (by omega)
        have e1 : ¬ lo < 0 := by omega
        have e2 : ¬ pen < lo := by omega
        have e3 : ¬ hi < pen := by omega
        have xc0 := HXC.out.c 0 _ rfl
        have lxc := cell_lt xc0
        have xx0 := HXX.out.c 0 _ rfl
        have xx1 := HXX.out.c 1 _ rfl
        have xx2 := HXX.out.c 2 _ rfl
        have lxx := cell_lt xx0
        have s0 := HSX.out.c 0 _ rfl
        have s1 := HSX.out.c 1 _ rfl
        have ls := HSX.out.lt
        by_cases h4 : 400 < hi
        case pos =>
          have d4 : decide (400 < hi) = true := decide_eq_true h4
          go_wp2_with fail
          refine (priced_any _).mono ?_
          rintro e wz ⟨rfl, hb⟩
          have HBZ := Lib.hid (HB.out.trans hb)
          clear hb
          go_wp2
          go_ret
          exact ⟨rfl, HBZ.out⟩
        have d4 : decide (400 < hi) = false := decide_eq_false h4
        have HLW := Lib.hid (HSL.out lo pen hi hp1 hp2 hp3)
        have HGB := Lib.hid (fun p (hp : 0 ≤ p) => g_nn HK.out hp n n (Nat.le_refl _) hnl)
        have hl8 := HK.out.l8
        clear HSL
        go_wp2_with fail
        refine (HPA.out HK.out n hnl lo ⟨by omega, by omega⟩ _ HB.out).mono ?_
        rintro e w12 ⟨rfl, hb⟩
        replace HXC := Lib.hid (HXC.out.bel hb)
        replace HXX := Lib.hid (HXX.out.bel hb)
        replace HSX := Lib.hid (HSX.out.bel hb)
        replace HB := Lib.hid (HB.out.trans hb)
        clear hb
        clear xc0 lxc xx0 xx1 xx2 lxx
        clear s0 s1 ls
        have xc0 := HXC.out.c 0 _ rfl
        have lxc := cell_lt xc0
        have xx0 := HXX.out.c 0 _ rfl
        have xx1 := HXX.out.c 1 _ rfl
        have xx2 := HXX.out.c 2 _ rfl
        have lxx := cell_lt xx0
        have s0 := HSX.out.c 0 _ rfl
        have s1 := HSX.out.c 1 _ rfl
        have ls := HSX.out.lt
        go_wp2_with fail
        refine (HPA.out HK.out n hnl pen ⟨by omega, by omega⟩ _ HB.out).mono ?_
        rintro e w13 ⟨rfl, hb⟩
        replace HXC := Lib.hid (HXC.out.bel hb)
        replace HXX := Lib.hid (HXX.out.bel hb)
        replace HSX := Lib.hid (HSX.out.bel hb)
        replace HB := Lib.hid (HB.out.trans hb)
        clear hb
        clear xc0 lxc xx0 xx1 xx2 lxx
        clear s0 s1 ls
        have xc0 := HXC.out.c 0 _ rfl
        have lxc := cell_lt xc0
        have xx0 := HXX.out.c 0 _ rfl
        have xx1 := HXX.out.c 1 _ rfl
        have xx2 := HXX.out.c 2 _ rfl
        have lxx := cell_lt xx0
        have s0 := HSX.out.c 0 _ rfl
        have s1 := HSX.out.c 1 _ rfl
        have ls := HSX.out.lt
        go_wp2_with fail
        refine (HPA.out HK.out n hnl hi ⟨by omega, by omega⟩ _ HB.out).mono ?_
        rintro e w14 ⟨rfl, hb⟩
        replace HXC := Lib.hid (HXC.out.bel hb)
        replace HXX := Lib.hid (HXX.out.bel hb)
        replace HSX := Lib.hid (HSX.out.bel hb)
        replace HB := Lib.hid (HB.out.trans hb)
        clear hb
        clear xc0 lxc xx0 xx1 xx2 lxx
        clear s0 s1 ls
        have xc0 := HXC.out.c 0 _ rfl
        have lxc := cell_lt xc0
        have xx0 := HXX.out.c 0 _ rfl
        have xx1 := HXX.out.c 1 _ rfl
        have xx2 := HXX.out.c 2 _ rfl
        have lxx := cell_lt xx0
        have s0 := HSX.out.c 0 _ rfl
        have s1 := HSX.out.c 1 _ rfl
        have ls := HSX.out.lt
        go_wp2_with fail
        refine (HFI.out HK.out n hnl _ HB.out).mono ?_
        rintro e w15 ⟨rfl, hb⟩
        replace HXC := Lib.hid (HXC.out.bel hb)
        replace HXX := Lib.hid (HXX.out.bel hb)
        replace HSX := Lib.hid (HSX.out.bel hb)
        replace HB := Lib.hid (HB.out.trans hb)
        clear hb
        clear xc0 lxc xx0 xx1 xx2 lxx
        clear s0 s1 ls
        have xc0 := HXC.out.c 0 _ rfl
        have lxc := cell_lt xc0
        have xx0 := HXX.out.c 0 _ rfl
        have xx1 := HXX.out.c 1 _ rfl
        have xx2 := HXX.out.c 2 _ rfl
        have lxx := cell_lt xx0
        have s0 := HSX.out.c 0 _ rfl
        have s1 := HSX.out.c 1 _ rfl
        have ls := HSX.out.lt
        have hgm := HGB.out pen (by omega)
        have hlw := HLW.out
        have HPX := Lib.hid (fun (h : pen ≠ 400) wx hb => HPA.out HK.out n hnl (pen + 1) ⟨by omega, by omega⟩ wx hb)
        clear HLW HGB HPA HFI
        generalize gV l lo n = A at *
        generalize gV l pen n = M at *
        generalize gV l hi n = H at *
        generalize gV l (pen + 1) n = X at *
        obtain ⟨hfst, hx1, hx2⟩ := hlw
        obtain ⟨hm0, hm1⟩ := hgm
        have hm2 : M ≤ 1000 := by omega
        have g1 : decide (X ≤ M + 1) = true := decide_eq_true hx1
        have g2 : decide (M - 1 ≤ X) = true := decide_eq_true hx2
        cases hfv : firstV l n
        case false =>
          clear hfst
          by_cases hpe : pen = 400
          · have d5 : (pen == 400) = true := by simpa using hpe
            clear HPX
            go_wp2_with fail
            refine (priced_any _).mono ?_
            rintro e wz ⟨rfl, hb⟩
            have HBZ := Lib.hid (HB.out.trans hb)
            clear hb
            go_wp2
            go_ret
            exact ⟨rfl, HBZ.out⟩
          · have d5 : (pen == 400) = false := by simpa using hpe
            go_wp2_with fail
            refine (HPX.out hpe _ HB.out).mono ?_
            rintro e w16 ⟨rfl, hb⟩
            replace HXC := Lib.hid (HXC.out.bel hb)
            replace HXX := Lib.hid (HXX.out.bel hb)
            replace HSX := Lib.hid (HSX.out.bel hb)
            replace HB := Lib.hid (HB.out.trans hb)
            clear hb
            clear xc0 lxc xx0 xx1 xx2 lxx
            clear s0 s1 ls
            clear HPX
            go_wp2_with fail
            refine (priced_any _).mono ?_
            rintro e wz ⟨rfl, hb⟩
            have HBZ := Lib.hid (HB.out.trans hb)
            clear hb
            go_wp2
            go_ret
            exact ⟨rfl, HBZ.out⟩
        case true =>
          obtain ⟨hf1, hf2⟩ := hfst hfv
          have d6 : decide (M < A) = false := decide_eq_false (by omega)
          have d7 : decide (H < M) = false := decide_eq_false (by omega)
          have e6 : ¬ M < A := by omega
          have e7 : ¬ H < M := by omega
          clear hfst
          by_cases hpe : pen = 400
          · have d5 : (pen == 400) = true := by simpa using hpe
            clear HPX
            go_wp2_with fail
            refine (priced_any _).mono ?_
            rintro e wz ⟨rfl, hb⟩
            have HBZ := Lib.hid (HB.out.trans hb)
            clear hb
            go_wp2
            go_ret
            exact ⟨rfl, HBZ.out⟩
          · have d5 : (pen == 400) = false := by simpa using hpe
            go_wp2_with fail
            refine (HPX.out hpe _ HB.out).mono ?_
            rintro e w16 ⟨rfl, hb⟩
            replace HXC := Lib.hid (HXC.out.bel hb)
            replace HXX := Lib.hid (HXX.out.bel hb)
            replace HSX := Lib.hid (HSX.out.bel hb)
            replace HB := Lib.hid (HB.out.trans hb)
            clear hb
            clear xc0 lxc xx0 xx1 xx2 lxx
            clear s0 s1 ls
            clear HPX
            go_wp2_with fail
            refine (priced_any _).mono ?_
            rintro e wz ⟨rfl, hb⟩
            have HBZ := Lib.hid (HB.out.trans hb)
            clear hb
            go_wp2
            go_ret
            exact ⟨rfl, HBZ.out⟩
end Go.Proofs.Ytkdcdhkhadhcfaa
