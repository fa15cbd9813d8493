/-
  beasts: After.
-/
import Derived.Test.YtogiidkofddhaaaDoorBRef3
import Derived.Test.YtogiidkofddhaaaDoorBMove3
import Derived.Test.YtogiidkofddhaaaDoorBWorks
namespace Go.Proofs.YtogiidkofddhaaaDoor
open Go Go.RowKit Go.Shelf
set_option maxHeartbeats 4000000
set_option maxRecDepth 100000
theorem aft1_any (n : Int) (w : World) : Calls Tryd.prog 102 #[.int .i64 n] w fun e w' => e = .returned (.bool (!withinB n 0 1)) ∧ w = w' := by
  go_enter Tryd.func102, Tryd.ntmps102
  go_wp2_with (go_at_call 97; refine (bwithin_any _ _ _ _).mono ?_; rintro e w' ⟨rfl, rfl⟩)
  go_ret
  exact ⟨rfl, rfl⟩
def bitsB (l : List Int) : Bool := allB l.length fun i => withinB (at0 l i) 0 1
theorem idxFi_any (v : Value) (l : List Int) (w : World) (hv : IntsAt w v l) :
    Calls Tryd.prog 112 #[v, .func (.func 102) #[] #[]] w (SomeIdx (!bitsB l) w) := by
  obtain ⟨a, c, b, off, rfl, ha, ⟨hlen, _⟩, hc⟩ := hv
  have hix := idxInts (c := c) ha
  have HC := Lib.hid hc
  clear ha hc
  go_enter Tryd.func112, Tryd.ntmps112
  go_wp2
  go_loop [8] (fun i => ∃ k : Nat, k ≤ l.length ∧ i = .int .i64 k ∧ Hid (allB k (fun i => withinB (at0 l i) 0 1) = true)) (fun i => l.length - (intOf i).toNat)
  case atStart => exact ⟨0, by omega, rfl, rfl⟩
  case round =>
    obtain ⟨k, hk, rfl, hno⟩ := hrel
    by_cases hlt : k < l.length
    · have hlti : (k : Int) < (l.length : Int) := by omega
      have k0 := HC.out k hlt
      have HCK := Lib.hid (fun wx => aft1_any (at0 l k) wx)
      cases hwk : withinB (at0 l k) 0 1
      · have HI := Lib.hid (show bitsB l = false from allB_false k hlt hwk)
        rw [hwk] at HCK
        clear hwk
        generalize at0 l k = d at *
        go_wp2_with fail
        refine (HCK.out _).mono ?_
        rintro e w2 ⟨rfl, rfl⟩
        go_wp2
        go_ret
        exact ⟨(k : Int), rfl, by rw [HI.out]; simp, Bel.refl _⟩
      · have HR := Lib.hid (allB_succ hno.out (f := fun i => withinB (at0 l i) 0 1) hwk)
        rw [hwk] at HCK
        clear hwk
        generalize at0 l k = d at *
        go_wp2_with fail
        refine (HCK.out _).mono ?_
        rintro e w2 ⟨rfl, rfl⟩
        go_wp2
        go_round
        case rel => exact ⟨k + 1, by omega, by go_num, HR⟩
        case measure => simp [intOf]; omega
    · have HI := Lib.hid (show bitsB l = true by unfold bitsB; rw [show l.length = k by omega]; exact hno.out)
      go_wp2
      go_ret
      exact ⟨-1, rfl, by rw [HI.out]; rfl, Bel.refl _⟩
theorem conFi_any (v : Value) (l : List Int) (w : World) (hv : IntsAt w v l) :
    Calls Tryd.prog 101 #[v, .func (.func 102) #[] #[]] w fun e w' => e = .returned (.bool (!bitsB l)) ∧ Bel w w' := by
  have HC := Lib.hid (idxFi_any v l w hv)
  obtain ⟨a, c, bb, off, rfl, ha, ⟨hlen, _⟩, hc⟩ := hv
  clear ha hc
  go_enter Tryd.func101, Tryd.ntmps101
  go_wp2_with fail
  refine HC.out.mono ?_
  rintro e w' ⟨r, rfl, hr, hb⟩
  have HR := Lib.hid hr
  clear hr
  go_wp2
  go_ret
  exact ⟨rb (by rw [← HR.out]), hb⟩
def aftE (b : BT) (l : List BS) (ans : List Int) : Int := if givenE b l true = 0 then (if answersB l ans then (if aftTo b l ans l.length = 0 then 3 else 0) else 1) else givenE b l true
def aftL (b : BT) (l : List BS) (ans : List Int) : List Int := if aftE b l ans = 0 then plOf (aftTo b l ans l.length) else []
theorem answers_bits {l : List BS} {ans : List Int} : answersB l ans = (bitsB ans && decide (looksTo l l.length = ans.length)) := rfl
theorem bits_01 {ans : List Int} (h : bitsB ans = true) : ∀ a, a ∈ ans → a = 0 ∨ a = 1 := fun a ha => by
  obtain ⟨k, hk, e⟩ := mem_getD ans a 0 ha
  have := withinB_true.1 (allB_iff.1 h k hk)
  unfold at0 at this
  omega
theorem drop_at {l : List Int} {j k : Nat} : at0 (l.drop j) k = at0 l (j + k) := by unfold at0; simp [List.getD]
theorem IntsAt.rest {w : World} {b off c : Nat} {l : List Int} (h : IntsAt w (.slice (some ⟨b, off, none⟩) l.length c) l) (h1 : 1 < c) : IntsAt w (.slice (some ⟨b, off + 1, none⟩) (l.length - 1) (c - 1)) (l.drop 1) := by
  obtain ⟨b', off', e, h2, h3, h4⟩ := h.open
  by_cases h0 : 0 < l.length
  · have := e h0
    injection this with this
    injection this with e1 e2
    subst e1 e2
    refine ⟨_, c - 1, b, off + 1, by rw [List.length_drop], fun _ => rfl, ⟨by rw [List.length_drop]; omega, by rw [List.length_drop]; omega⟩, fun i hi => ?_⟩
    rw [List.length_drop] at hi
    rw [drop_at, show off + 1 + i = off + (1 + i) by omega]
    exact h4 _ (by omega)
  · have hz : l = [] := List.eq_nil_of_length_eq_zero (by omega)
    subst hz
    exact ⟨_, c - 1, b, off + 1, rfl, fun _ => rfl, ⟨by simp, by simp⟩, fun i hi => absurd hi (by simp)⟩
theorem IntsAt.none1 {w : World} {a : Option Addr} {c : Nat} {l : List Int} (h : l.length = 1) : IntsAt w (.slice a 0 c) (l.drop 1) := by
  have hz : l.drop 1 = [] := List.eq_nil_of_length_eq_zero (by rw [List.length_drop]; omega)
  rw [hz]
  exact ⟨a, c, 0, 0, rfl, fun q => absurd q (by simp), ⟨by simp, by simp⟩, fun i hi => absurd hi (by simp)⟩
theorem one_intsG {w : World} {g : Nat} {p : Int} {T : TypeId} (hg : g = w.heap.size) : IntsAt (w.alloc (.cells #[.int .i64 p] T)) (.slice (some ⟨g, 0, none⟩) 1 1) [p] := by subst hg; exact one_ints
def AftPost (b : BT) (l : List BS) (ans : List Int) (w : World) (e : Ending) (w' : World) : Prop :=
  ∃ V, e = .returned (.tuple #[V, .int .i64 (aftE b l ans)]) ∧ IntsAt w' V (aftL b l ans) ∧ Bel w w'
theorem aft_step {b : BT} {l : List BS} {ans : List Int} {k : Nat} : aftTo b l ans (k + 1) = if (atS l k).k = 1 then mvB (atD b.doors (atS l k).x.toNat) (aftTo b l ans k) else
      if at0 ans (looksTo l k) = 1 then aftTo b l ans k &&& bitP (atS l k).x else aftTo b l ans k ^^^ (aftTo b l ans k &&& bitP (atS l k).x) := rfl
theorem After_any (b : BT) (l : List BS) (ans : List Int) (v lv av : Value) (w : World) (hv : BTrapAt w v b) (hlv : StepsAt w lv l) (hav : IntsAt w av ans) :
    Calls Tryd.prog 59 #[v, lv, av] w (AftPost b l ans w) := by
  have HV := Lib.hid hv
  have HL := Lib.hid hlv
  have HG := Lib.hid (fun wx hx => given_any b l true v lv wx (hv.bel (w' := wx) hx) (hlv.bel hx))
  have HCF := Lib.hid (fun wx hx => conFi_any av ans wx (hav.bel (w' := wx) hx))
  have HE := Lib.hid (show aftE b l ans = if givenE b l true = 0 then (if answersB l ans then (if aftTo b l ans l.length = 0 then 3 else 0) else 1) else givenE b l true from rfl)
  have HAV := Lib.hid hav
  obtain ⟨da, dc, sa, sc, pa, pc, rfl, hd, _, hp⟩ := hv.open
  obtain ⟨db, doff, hda, hdl, _, hdc⟩ := hd.open
  obtain ⟨la, lc, lb, loff, rfl, hla, ⟨hll, _⟩, hlc⟩ := hlv
  obtain ⟨aa, ac, ab, aoff, rfl, haa, ⟨hal, _⟩, hac⟩ := hav
  have hixl := idxSteps (c := lc) hla
  have hixd := idxDoors (c := dc) hda
  have HLC := Lib.hid hlc
  have HDC := Lib.hid hdc
  have HP := Lib.hid hp
  have HBX := Lib.hid (fun wx hx => (BoxB.new (w := w) (b := b) (dv := .slice da b.doors.length dc) (sv := .slice sa b.seen.length sc) (pv := .slice pa b.places.length pc) (T := 25)).bel (w' := wx) hx)
  unfold AftPost aftL
  clear hv hd hla hlc hda hdc haa hac hp
  by_cases hE : givenE b l true = 0
  rotate_left
  · have HE2 := Lib.hid (HE.out.trans (if_neg hE))
    rw [HE2.out, if_neg hE]
    have hb1 : (givenE b l true != 0) = true := by simpa using hE
    clear hE HE HE2
    generalize givenE b l true = er at *
    go_enter Tryd.func59, Tryd.ntmps59
    go_wp2_with fail
    refine (HG.out _ (by repeat (first | assumption | exact Bel.refl _ | refine Bel.drew ?_ | refine Bel.drewN ?_ _ | refine Bel.alloc ?_ _ | refine Bel.setCell ?_ (by simp <;> omega) _ | refine Bel.trans ?_ (by assumption)))).mono ?_
    rintro e w1 ⟨rfl, hb⟩
    have HB := Lib.hid (show Bel w w1 from Bel.trans (by repeat (first | assumption | exact Bel.refl _ | refine Bel.drew ?_ | refine Bel.drewN ?_ _ | refine Bel.alloc ?_ _ | refine Bel.setCell ?_ (by simp <;> omega) _ | refine Bel.trans ?_ (by assumption))) hb)
    clear hb
    go_wp2
    exact bodyPost_ret (v := .tuple #[.slice none 0 0, .int .i64 er]) (by simp [results, Tryd.results59, go_sem, *]) rfl ⟨_, rfl, IntsAt.nil _, HB.out⟩
  have HE2 := Lib.hid (HE.out.trans (if_pos hE))
  obtain ⟨hval, h12, hst⟩ := givenE_zero hE
  have hok := okb_iff.1 hval
  have HST := Lib.hid (stepsB_iff.1 hst)
  rw [hE] at HG
  rw [HE2.out]
  generalize hEr : (if answersB l ans = true then (if aftTo b l ans l.length = 0 then (3 : Int) else 0) else 1) = er
  generalize hLs : (if er = 0 then plOf (aftTo b l ans l.length) else []) = Ls
  have HER := Lib.hid hEr
  have HLS := Lib.hid hLs
  clear hE HE HE2 hEr hLs
  go_enter Tryd.func59, Tryd.ntmps59
  go_wp2_with fail
  refine (HG.out _ (by repeat (first | assumption | exact Bel.refl _ | refine Bel.drew ?_ | refine Bel.drewN ?_ _ | refine Bel.alloc ?_ _ | refine Bel.setCell ?_ (by simp <;> omega) _ | refine Bel.trans ?_ (by assumption)))).mono ?_
  rintro e w1 ⟨rfl, hb⟩
  have HY := Lib.hid (HBX.out _ hb)
  have HB := Lib.hid (show Bel w w1 from Bel.trans (by repeat (first | assumption | exact Bel.refl _ | refine Bel.drew ?_ | refine Bel.drewN ?_ _ | refine Bel.alloc ?_ _ | refine Bel.setCell ?_ (by simp <;> omega) _ | refine Bel.trans ?_ (by assumption))) hb)
  clear hb HBX HG
  go_wp2
  go_loopw [9, 23] (fun n i wr => ∃ k : Nat, k ≤ l.length ∧ i = .int .i64 k ∧ n = .int .i64 (looksTo l k : Int) ∧ Bel w1 wr) (fun _ i _ => l.length - (intOf i).toNat)
  case atStart => exact ⟨0, by omega, rfl, rfl, Bel.refl _⟩
  case round =>
    obtain ⟨k, hk, rfl, rfl, hB⟩ := hrel
    have HBR := Lib.hid hB
    by_cases hlt : k < l.length
    · have hlti : (k : Int) < (l.length : Int) := by omega
      obtain ⟨k0, k1⟩ := HLC.out k hlt
      replace k0 := (HB.out.trans hB).cell k0
      replace k1 := (HB.out.trans hB).cell k1
      have lk := cell_lt k0
      have hlook := looksTo_le l k
      have HN := Lib.hid (show looksTo l (k + 1) = if (atS l k).k = 2 then looksTo l k + 1 else looksTo l k from rfl)
      clear hB
      generalize looksTo l k = n at *
      generalize atS l k = x at *
      by_cases e : x.k = 2
      · have b1 : (x.k == 2) = true := by simpa using e
        have HN2 := Lib.hid (HN.out.trans (if_pos e))
        clear e HN
        go_wp2
        go_roundw
        case rel => exact ⟨k + 1, by omega, by go_num, by rw [HN2.out]; go_num, HBR.out.trans (by repeat (first | assumption | exact Bel.refl _ | refine Bel.drew ?_ | refine Bel.drewN ?_ _ | refine Bel.alloc ?_ _ | refine Bel.setCell ?_ (by simp <;> omega) _ | refine Bel.trans ?_ (by assumption)))⟩
        case measure => simp [intOf]; omega
      · have b1 : (x.k == 2) = false := by simpa using e
        have HN2 := Lib.hid (HN.out.trans (if_neg e))
        clear e HN
        go_wp2
        go_roundw
        case rel => exact ⟨k + 1, by omega, by go_num, by rw [HN2.out], HBR.out.trans (by repeat (first | assumption | exact Bel.refl _ | refine Bel.drew ?_ | refine Bel.drewN ?_ _ | refine Bel.alloc ?_ _ | refine Bel.setCell ?_ (by simp <;> omega) _ | refine Bel.trans ?_ (by assumption)))⟩
        case measure => simp [intOf]; omega
    · obtain rfl : k = l.length := by omega
      have HBW := Lib.hid (HB.out.trans hB)
      have HYW := Lib.hid (HY.out.bel hB)
      clear hB hlt HB HY
      have HA := Lib.hid (answers_bits (l := l) (ans := ans))
      by_cases hlen : looksTo l l.length = ans.length
      rotate_left
      · have hb1 : ((ans.length : Int) != (looksTo l l.length : Int)) = true := by rw [bne_iff_ne]; omega
        have HI := Lib.hid (show er = 1 by rw [← HER.out, show answersB l ans = false by rw [HA.out, decide_eq_false hlen]; simp]; rfl)
        have HI2 := Lib.hid (show Ls = [] by rw [← HLS.out, if_neg (by rw [HI.out]; omega)])
        clear hlen HA
        go_wp2
        exact bodyPost_ret (v := .tuple #[.slice none 0 0, .int .i64 1]) (by simp [results, Tryd.results59, go_sem]) rfl ⟨_, rvL HI.out, by rw [HI2.out]; exact IntsAt.nil _, HBW.out⟩
      have hb1 : ((ans.length : Int) != (looksTo l l.length : Int)) = false := by rw [bne_eq_false_iff_eq]; omega
      cases hbits : bitsB ans
      · rw [hbits] at HCF
        have HI := Lib.hid (show er = 1 by rw [← HER.out, show answersB l ans = false by rw [HA.out, hbits]; rfl]; rfl)
        have HI2 := Lib.hid (show Ls = [] by rw [← HLS.out, if_neg (by rw [HI.out]; omega)])
        clear hlen HA hbits
        go_wp2_with fail
        refine (HCF.out _ HBW.out).mono ?_
        rintro e w2 ⟨rfl, hb⟩
        have HB2 := Lib.hid (HBW.out.trans hb)
        clear hb
        go_wp2
        exact bodyPost_ret (v := .tuple #[.slice none 0 0, .int .i64 1]) (by simp [results, Tryd.results59, go_sem]) rfl ⟨_, rvL HI.out, by rw [HI2.out]; exact IntsAt.nil _, HB2.out⟩
      have H01 := Lib.hid (bits_01 hbits)
      rw [hbits] at HCF
      have HER2 := Lib.hid (show (if aftTo b l ans l.length = 0 then (3 : Int) else 0) = er by rw [← HER.out, show answersB l ans = true by rw [HA.out, hbits, decide_eq_true hlen]; rfl]; rfl)
      have HLEN := Lib.hid hlen
      have HOF := Lib.hid (fun wx hx => of_any (.slice pa b.places.length pc) b.places wx (HP.out.bel (w' := wx) hx) (places_in6 hok))
      have n1 := hok.n1
      have n2 := hok.n2
      have HOK := Lib.hid hok
      have HDOM := Lib.hid (fun k hk => aft_dom hok (l := l) (ans := ans) HST.out k hk)
      clear hlen HA hbits hok
      go_wp2_with fail
      refine (HCF.out _ HBW.out).mono ?_
      rintro e w2 ⟨rfl, hb⟩
      have HB2 := Lib.hid (HBW.out.trans hb)
      have HY2 := Lib.hid (HYW.out.bel hb)
      obtain ⟨y0, y1, y2, y3, y4, y5⟩ := HY2.out
      have ly := cell_lt y0
      clear hb HCF
      go_wp2_with fail
      refine (HOF.out _ HB2.out).mono ?_
      rintro e w3 ⟨rfl, hb⟩
      have HB3 := Lib.hid (HB2.out.trans hb)
      have HY3 := Lib.hid (HY2.out.bel hb)
      clear hb HOF y0 y1 y2 y3 y4 y5 ly
      go_wp2
      go_loopw [2, 12, 46] (fun va vs vi wr => ∃ k : Nat, k ≤ l.length ∧ vi = .int .i64 k ∧ vs = .int .u8 (aftTo b l ans k : Int) ∧ Hid (IntsAt wr va (ans.drop (looksTo l k))) ∧ Bel w3 wr) (fun _ _ vi _ => l.length - (intOf vi).toNat)
      case atStart => exact ⟨0, by omega, rfl, rfl, Lib.hid (HAV.out.bel HB3.out), Bel.refl _⟩
      case round =>
        obtain ⟨k, hk, rfl, rfl, hrest, hB⟩ := hrel
        have HBR := Lib.hid hB
        by_cases hlt : k < l.length
        · have hlti : (k : Int) < (l.length : Int) := by omega
          have HBW := Lib.hid (HB3.out.trans hB)
          obtain ⟨k0, k1⟩ := HLC.out k hlt
          replace k0 := HBW.out.cell k0
          replace k1 := HBW.out.cell k1
          have lk := cell_lt k0
          obtain ⟨y0, y1, y2, y3, y4, y5⟩ := HY3.out.bel hB
          have ly := cell_lt y0
          have hx := HST.out k hlt
          have hm := HDOM.out k hk
          have HS := Lib.hid (aft_step (b := b) (l := l) (ans := ans) (k := k))
          have hlk : looksTo l (k + 1) ≤ ans.length := by rw [← HLEN.out]; have := looksTo_mono l (l.length - (k + 1)) (k + 1); rw [show k + 1 + (l.length - (k + 1)) = l.length by omega] at this; exact this
          rw [show looksTo l (k + 1) = if (atS l k).k = 2 then looksTo l k + 1 else looksTo l k from rfl] at hlk
          have HLN := Lib.hid (show looksTo l (k + 1) = if (atS l k).k = 2 then looksTo l k + 1 else looksTo l k from rfl)
          have hpow := HOK.out.pow
          have hm256 : aftTo b l ans k < 256 := by omega
          clear hB
          generalize aftTo b l ans k = m at *
          generalize atS l k = x at *
          rcases hx with ⟨e, g1, g2⟩ | ⟨e, g⟩
          · have b1 : (x.k == 1) = true := by simpa using e
            have HSU := Lib.hid (HS.out.trans (if_pos e))
            have HLN2 := Lib.hid (HLN.out.trans (if_neg (by omega)))
            obtain ⟨j, hj⟩ : ∃ j : Nat, x.x = j := ⟨x.x.toNat, by omega⟩
            have hj2 : j < b.doors.length := by omega
            have hj3 : (j : Int) < (b.doors.length : Int) := by omega
            have hokd := HOK.out.dk j hj2
            rw [show b.n = ((b.n.toNat : Nat) : Int) by omega] at hokd
            have HT := Lib.hid (fun wx => bmove_any (atD b.doors j) m b.n.toNat (by omega) hokd hm wx)
            rw [hj] at k1 HSU
            simp only [Int.toNat_natCast] at HSU
            obtain ⟨d0, d1, d2⟩ := HDC.out j hj2
            replace d0 := HBW.out.cell d0
            replace d1 := HBW.out.cell d1
            replace d2 := HBW.out.cell d2
            have ld := cell_lt d0
            generalize atD b.doors j = d at *
            clear e g1 g2 hj hokd HS HLN hm hpow hlk
            go_wp2_with fail
            refine (HT.out _).mono ?_
            rintro e w6 ⟨rfl, hb⟩
            have HK := Lib.hid (show Bel wr w6 from Bel.trans (by repeat (first | assumption | exact Bel.refl _ | refine Bel.drew ?_ | refine Bel.drewN ?_ _ | refine Bel.alloc ?_ _ | refine Bel.setCell ?_ (by simp <;> omega) _ | refine Bel.trans ?_ (by assumption))) hb)
            clear hb k0 k1 lk y0 y1 y2 y3 y4 y5 ly d0 d1 d2 ld
            go_wp2
            go_roundw
            case rel => exact ⟨k + 1, by omega, by go_num, by rw [HSU.out], by rw [HLN2.out]; exact Lib.hid (hrest.out.bel HK.out), HBR.out.trans HK.out⟩
            case measure => simp [intOf]; omega
          · have b1 : (x.k == 1) = false := by rw [beq_eq_false_iff_ne]; omega
            have HSU := Lib.hid (HS.out.trans (if_neg (by omega)))
            have HLN2 := Lib.hid (HLN.out.trans (if_pos e))
            rw [if_pos e] at hlk
            have hsi := HOK.out.si x.x g
            have hbp : bitP x.x < 256 := bitP_lt (by omega)
            have hdl : (ans.drop (looksTo l k)).length = ans.length - looksTo l k := by simp
            have HD1 := Lib.hid (show (ans.drop (looksTo l k)).drop 1 = ans.drop (looksTo l k + 1) by rw [List.drop_drop])
            have hval := H01.out (at0 ans (looksTo l k)) (getD_mem ans _ 0 (by omega))
            have HA0 := Lib.hid (show at0 (ans.drop (looksTo l k)) 0 = at0 ans (looksTo l k) by rw [drop_at]; rfl)
            rw [← HA0.out] at hval HSU
            generalize looksTo l k = lo at *
            generalize ans.drop lo = rest at *
            obtain ⟨ra, rc, rb_, roff, rfl, hra, ⟨_, hrl⟩, hrc⟩ := hrest.out
            have hr0 : 0 < rest.length := by omega
            obtain rfl := hra hr0
            have r0 := hrc 0 hr0
            rw [Nat.add_zero] at r0
            have lr := cell_lt r0
            have hixr := idxInts (n := rest.length) (c := rc) (a := some ⟨rb_, roff, none⟩) (b := rb_) (off := roff) (fun _ => rfl)
            have HIX := Lib.hid (fun wx => hixr wx 0 hr0)
            have HOF1 := Lib.hid (fun vx wx (hx : IntsAt wx vx [x.x]) => (of_any vx [x.x] wx hx (fun j hj => by
              have : j = 0 := by simp at hj; omega
              subst this
              show -1 ≤ x.x ∧ x.x ≤ 6
              omega)).mono (R' := fun e w' => e = .returned (.int .u8 (bitP x.x : Int)) ∧ Bel wx w') fun e w' h => ⟨by rw [h.1, ofL_one], h.2⟩)
            clear e g HS HLN hm hpow hsi hra hrc hixr hdl hlk
            have hixr0 := HIX.out wr
            have hnl : (1 : Int) ≤ (rest.length : Int) := by omega
            have hnn : 1 ≤ rest.length := hr0
            have hcase : (1 < rc ∧ ¬ 1 = rc) ∨ (rc = 1 ∧ rest.length = 1) := by omega
            rcases hcase with ⟨hc1, hnc⟩ | ⟨rfl, hrl1⟩
            · have HNX := Lib.hid (fun wx hx => (hrest.out.bel (w' := wx) hx).rest hc1)
              clear hrest
              rcases hval with ha | ha
              · rw [if_neg (by omega)] at HSU
                have b2 : (at0 rest 0 == 1) = false := by rw [beq_eq_false_iff_ne]; omega
                have hu := u8not hm256 hbp
                clear ha
                generalize at0 rest 0 = a at *
                generalize bitP x.x = bx at *
                go_wp2_with fail
                refine (HOF1.out _ _ (one_intsG (by simp))).mono ?_
                rintro e w6 ⟨rfl, hb⟩
                have HK := Lib.hid (show Bel wr w6 from Bel.trans (by repeat (first | assumption | exact Bel.refl _ | refine Bel.drew ?_ | refine Bel.drewN ?_ _ | refine Bel.alloc ?_ _ | refine Bel.setCell ?_ (by simp <;> omega) _ | refine Bel.trans ?_ (by assumption))) hb)
                clear hb k0 k1 lk y0 y1 y2 y3 y4 y5 ly r0 lr
                go_wp2
                go_roundw
                case rel => exact ⟨k + 1, by omega, by go_num, by rw [HSU.out, ← hu], by rw [HLN2.out, ← HD1.out]; exact Lib.hid (HNX.out _ HK.out), HBR.out.trans HK.out⟩
                case measure => simp [intOf]; omega
              · rw [if_pos ha] at HSU
                have b2 : (at0 rest 0 == 1) = true := by rw [beq_iff_eq]; omega
                have hu := u8and hm256 hbp
                clear ha
                generalize at0 rest 0 = a at *
                generalize bitP x.x = bx at *
                go_wp2_with fail
                refine (HOF1.out _ _ (one_intsG (by simp))).mono ?_
                rintro e w6 ⟨rfl, hb⟩
                have HK := Lib.hid (show Bel wr w6 from Bel.trans (by repeat (first | assumption | exact Bel.refl _ | refine Bel.drew ?_ | refine Bel.drewN ?_ _ | refine Bel.alloc ?_ _ | refine Bel.setCell ?_ (by simp <;> omega) _ | refine Bel.trans ?_ (by assumption))) hb)
                clear hb k0 k1 lk y0 y1 y2 y3 y4 y5 ly r0 lr
                go_wp2
                go_roundw
                case rel => exact ⟨k + 1, by omega, by go_num, by rw [HSU.out, ← hu], by rw [HLN2.out, ← HD1.out]; exact Lib.hid (HNX.out _ HK.out), HBR.out.trans HK.out⟩
                case measure => simp [intOf]; omega
            · have HNX := Lib.hid (fun wx => IntsAt.none1 (w := wx) (a := some ⟨rb_, roff, none⟩) (c := 0) (l := rest) hrl1)
              clear hrest
              rcases hval with ha | ha
              · rw [if_neg (by omega)] at HSU
                have b2 : (at0 rest 0 == 1) = false := by rw [beq_eq_false_iff_ne]; omega
                have hu := u8not hm256 hbp
                clear ha
                generalize at0 rest 0 = a at *
                generalize bitP x.x = bx at *
                go_wp2_with fail
                refine (HOF1.out _ _ (one_intsG (by simp))).mono ?_
                rintro e w6 ⟨rfl, hb⟩
                have HK := Lib.hid (show Bel wr w6 from Bel.trans (by repeat (first | assumption | exact Bel.refl _ | refine Bel.drew ?_ | refine Bel.drewN ?_ _ | refine Bel.alloc ?_ _ | refine Bel.setCell ?_ (by simp <;> omega) _ | refine Bel.trans ?_ (by assumption))) hb)
                clear hb k0 k1 lk y0 y1 y2 y3 y4 y5 ly r0 lr
                go_wp2

                go_roundw
                case rel => exact ⟨k + 1, by omega, by go_num, by rw [HSU.out, ← hu], by rw [HLN2.out, ← HD1.out]; exact Lib.hid (HNX.out _), HBR.out.trans HK.out⟩
                case measure => simp [intOf]; omega
              · rw [if_pos ha] at HSU
                have b2 : (at0 rest 0 == 1) = true := by rw [beq_iff_eq]; omega
                have hu := u8and hm256 hbp
                clear ha
                generalize at0 rest 0 = a at *
                generalize bitP x.x = bx at *
                go_wp2_with fail
                refine (HOF1.out _ _ (one_intsG (by simp))).mono ?_
                rintro e w6 ⟨rfl, hb⟩
                have HK := Lib.hid (show Bel wr w6 from Bel.trans (by repeat (first | assumption | exact Bel.refl _ | refine Bel.drew ?_ | refine Bel.drewN ?_ _ | refine Bel.alloc ?_ _ | refine Bel.setCell ?_ (by simp <;> omega) _ | refine Bel.trans ?_ (by assumption))) hb)
                clear hb k0 k1 lk y0 y1 y2 y3 y4 y5 ly r0 lr
                go_wp2
                go_roundw
                case rel => exact ⟨k + 1, by omega, by go_num, by rw [HSU.out, ← hu], by rw [HLN2.out, ← HD1.out]; exact Lib.hid (HNX.out _), HBR.out.trans HK.out⟩
                case measure => simp [intOf]; omega
        · obtain rfl : k = l.length := by omega
          have hm := HDOM.out l.length (Nat.le_refl _)
          have hpow := HOK.out.pow
          have hm256 : aftTo b l ans l.length < 256 := by omega
          have HPL := Lib.hid (fun wx => places_any (aftTo b l ans l.length) hm256 wx)
          by_cases hz : aftTo b l ans l.length = 0
          · have HI := Lib.hid (show er = 3 by rw [← HER2.out, if_pos hz])
            have HI2 := Lib.hid (show Ls = [] by rw [← HLS.out, if_neg (by rw [HI.out]; omega)])
            have hb2 : ((aftTo b l ans l.length : Int) == 0) = true := by rw [hz]; rfl
            clear hB hz hm
            go_wp2
            exact bodyPost_ret (v := .tuple #[.slice none 0 0, .int .i64 3]) (by simp [results, Tryd.results59, go_sem]) rfl ⟨_, rvL HI.out, by rw [HI2.out]; exact IntsAt.nil _, HB3.out.trans HBR.out⟩
          · have HI := Lib.hid (show er = 0 by rw [← HER2.out, if_neg hz])
            have HI2 := Lib.hid (show Ls = plOf (aftTo b l ans l.length) by rw [← HLS.out, if_pos HI.out])
            have hb2 : ((aftTo b l ans l.length : Int) == 0) = false := by rw [beq_eq_false_iff_ne]; omega
            clear hB hz hm
            go_wp2_with fail
            refine (HPL.out _).mono ?_
            rintro e w6 ⟨V, rfl, hV, hb⟩
            have HV6 := Lib.hid hV
            have HB6 := Lib.hid (HBR.out.trans hb)
            clear hb hV
            go_wp2
            exact bodyPost_ret (v := .tuple #[V, .int .i64 0]) (by simp [results, Tryd.results59, go_sem]) rfl ⟨_, rvL HI.out, by rw [HI2.out]; exact HV6.out, HB3.out.trans HB6.out⟩
end Go.Proofs.YtogiidkofddhaaaDoor
