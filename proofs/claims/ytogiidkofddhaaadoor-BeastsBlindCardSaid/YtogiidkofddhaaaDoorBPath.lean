/-
  beasts: Path.
-/
import Derived.Test.YtogiidkofddhaaaDoorBScript
namespace Go.Proofs.YtogiidkofddhaaaDoor
open Go Go.RowKit Go.Shelf
set_option maxHeartbeats 4000000
set_option maxRecDepth 100000
/-- what an index says of a test -/
def SomeIdx (b : Bool) (w : World) (e : Ending) (w' : World) : Prop := ∃ r : Int, e = .returned (.int .i64 r) ∧ decide (0 ≤ r) = b ∧ Bel w w'
theorem Index_any (v : Value) (l : List Int) (n : Int) (w : World) (hv : IntsAt w v l) :
    Calls Tryd.prog 103 #[v, .int .i64 n] w (SomeIdx (inB l n) w) := by
  obtain ⟨a, c, b, off, rfl, ha, hlen, hc⟩ := hv
  have hix := idxInts (c := c) ha
  clear ha
  go_enter Tryd.func103, Tryd.ntmps103
  go_wp2
  go_loop [8] (fun i => ∃ k : Nat, k ≤ l.length ∧ i = .int .i64 k ∧ Hid (∀ j, j < k → at0 l j ≠ n)) (fun i => l.length - (intOf i).toNat)
  case atStart => exact ⟨0, by omega, rfl, fun j hj => absurd hj (by omega)⟩
  case round =>
    obtain ⟨k, hk, rfl, hno⟩ := hrel
    by_cases hlt : k < l.length
    · have hck := hc k hlt
      clear hc
      by_cases heq : at0 l k = n
      · have HI := Lib.hid (inB_of_at k hlt heq)
        have hb : (n == at0 l k) = true := by simp [heq]
        clear heq
        go_wp2
        go_ret
        exact ⟨(k : Int), rfl, by rw [HI.out]; simp, Bel.refl _⟩
      · have hb : (n == at0 l k) = false := by simpa using fun h => heq h.symm
        have HB := Lib.hid heq; clear heq
        go_wp2
        go_round
        case rel => exact ⟨k + 1, by omega, by go_num, fun j hj => by
          rcases Nat.lt_succ_iff_lt_or_eq.1 hj with h | h
          · exact hno.out j h
          · rw [h]; exact HB.out⟩
        case measure => simp [intOf]; omega
    · have HI := Lib.hid (inB_of_none (l := l) (n := n) fun j hj => hno.out j (by omega))
      go_wp2
      go_ret
      exact ⟨-1, rfl, by rw [HI.out]; rfl, Bel.refl _⟩
theorem Contains_any (v : Value) (l : List Int) (n : Int) (w : World) (hv : IntsAt w v l) :
    Calls Tryd.prog 63 #[v, .int .i64 n] w fun e w' => e = .returned (.bool (inB l n)) ∧ Bel w w' := by
  have HC := fun w => Index_any v l n w
  go_enter Tryd.func63, Tryd.ntmps63
  go_wp2_with (go_at_call 103; refine (Index_any _ _ _ _ hv).mono ?_; rintro e w' ⟨r, rfl, hr, hb⟩; have HR := Lib.hid hr; clear hr)
  go_ret
  exact ⟨rb (by rw [← HR.out]), hb⟩

theorem inB_mem {l : List Int} {n : Int} (h : inB l n = true) : n ∈ l := by simpa [inB] using h
theorem and_has {m : Nat} {p : Int} (hm : m < 256) (hp : p ≤ 6) : (bits BinOp.and IntKind.u8 (m : Int) (bitP p : Int) != 0) = hasP m p := by
  have hb : bitP p < 256 := bitP_lt hp
  rw [u8and hm hb]
  have hy := yes_bit m p
  unfold hasP
  cases hbt : m.testBit (p + 1).toNat
  · have e : m &&& bitP p = 0 := Nat.eq_of_testBit_eq fun i => by
      rw [hy, Nat.zero_testBit]
      by_cases g : i = (p + 1).toNat
      · rw [g, hbt]; rfl
      · rw [decide_eq_false g, Bool.and_false]
    rw [e]; rfl
  · have e : m &&& bitP p ≠ 0 := fun e => by
      have := hy (p + 1).toNat
      rw [e, hbt] at this
      simp at this
    rw [bne_iff_ne]
    omega
/-- The answer of Path. -/
noncomputable def pathA (b : BT) (c : Int) : List BS := if validT b then (if inB b.places c then (if (opt b true 1 0 (ofL b.places)).isSome then pathF b 2000 (ofL b.places) c else []) else []) else []
noncomputable def pathE (b : BT) (c : Int) : Int := if validT b then (if inB b.places c then optE b true b.places else 1) else 60
/-- The rounds of Path. -/
def PathI (b : BT) (S : Nat) (c0 : Int) (w3 : World) (va V vs : Value) (wr : World) : Prop := ∃ (l : List BS) (s : Nat) (v p : Int), vs = .int .u8 (s : Int) ∧ va = .int .i64 p ∧ Dom b s ∧ opt b true 1 0 s = some v ∧ 0 ≤ v ∧ (l.length : Int) + v ≤ 1999 ∧ -1 ≤ p ∧ p < b.n ∧ hasP s p = true ∧
  l ++ pathF b 2000 s p = pathF b 2000 S c0 ∧ StepSt l w3 V wr
noncomputable def muP (b : BT) (vs : Value) : Nat := ((opt b true 1 0 (intOf vs).toNat).getD 0).toNat
theorem muP_eq {b : BT} {s : Nat} {v : Int} (h : opt b true 1 0 s = some v) : muP b (.int .u8 (s : Int)) = v.toNat := by
  unfold muP
  rw [show (intOf (.int .u8 (s : Int))).toNat = s by simp [intOf], h]
  rfl
theorem path_done {b : BT} {p : Int} : pathF b 2000 1 p = [] := by
  have e : pathF b 2000 1 p = if 1 = 1 then [] else (nextS b 1).1 :: pathF b 1999 (leftOf (nextS b 1).2 (towS b (nextS b 1).1 p) 1) (towS b (nextS b 1).1 p) := rfl
  rw [e, if_pos rfl]
theorem path_more {b : BT} (hok : Okb b) {s : Nat} (hs : Dom b s) (h1 : s ≠ 1) {v p : Int} (h : opt b true 1 0 s = some v) (hv : v ≤ 1999) (hp : -1 ≤ p) (hp2 : p < b.n) (hbit : hasP s p = true) :
    pathF b 2000 s p = (nextS b s).1 :: pathF b 2000 (leftOf (nextS b s).2 (towS b (nextS b s).1 p) s) (towS b (nextS b s).1 p) := by
  have e : pathF b 2000 s p = if s = 1 then [] else (nextS b s).1 :: pathF b 1999 (leftOf (nextS b s).2 (towS b (nextS b s).1 p) s) (towS b (nextS b s).1 p) := rfl
  obtain ⟨_, _, g3, g4, g5, g6, c1, u, u1, u0, u2⟩ := path_step hok hs h1 h hp hp2 hbit
  rw [e, if_neg h1, path_fuel hok 1999 2000 _ u _ g3 u1 g5 g6 g4 (by omega) (by omega)]
def leftTo (l : List Nat) (q : Int) (s : Nat) (k : Nat) : Nat := leftOf (l.take k) q s
theorem leftTo_succ {l : List Nat} {q : Int} {s k : Nat} (h : k < l.length) : leftTo l q s (k + 1) = if hasP (atN l k) q then atN l k else leftTo l q s k := by
  unfold leftTo leftOf
  rw [List.take_succ_eq_append_getElem h, List.foldl_append]
  unfold atN
  rw [getD_lt l k 0 h]
  rfl
theorem leftTo_all {l : List Nat} {q : Int} {s : Nat} : leftTo l q s l.length = leftOf l q s := by unfold leftTo; rw [List.take_length]
theorem Path_any (b : BT) (v : Value) (c : Int) (w : World) (hf : FarAt w) (hv : BTrapAt w v b) :
    Calls Tryd.prog 18 #[v, .int .i64 c] w fun e w' => ∃ V, e = .returned (.tuple #[V, .int .i64 (pathE b c)]) ∧ StepsAt w' V (pathA b c) ∧ Bel w w' := by
  have HV := Lib.hid hv
  have HC := Lib.hid (fun wx (hx : Bel w wx) => bCheck_any b v wx (hv.bel hx))
  obtain ⟨dv, sv, pv, rfl, hd, hs, hp⟩ := hv
  have HASK0 := Lib.hid (fun hval wx (hx : Bel w wx) => ask_none b hval dv sv pv true b.places pv wx (hf.bel hx) (HV.out.bel hx) (hp.bel hx) (places_in6 (okb_iff.1 hval)) (dom_places (okb_iff.1 hval)))
  have HASK1 := Lib.hid (fun hval wx (hx : Bel w wx) => ask_some b hval dv sv pv true b.places pv wx (hf.bel hx) (HV.out.bel hx) (hp.bel hx) (places_in6 (okb_iff.1 hval)) (dom_places (okb_iff.1 hval)))
  have HOFF := Lib.hid (fun hval wx (hx : Bel w wx) => of_any pv b.places wx (hp.bel hx) (places_in6 (okb_iff.1 hval)))
  have HIN := Lib.hid (fun wx (hx : Bel w wx) => Contains_any pv b.places c wx (hp.bel hx))
  have HFR := Lib.hid (fun wx (hx : Bel w wx) => hf.bel hx)
  obtain ⟨pa, pc, pb, poff, rfl, _, ⟨hpl, _⟩, _⟩ := hp
  have hsv : ∃ sa sn sc, sv = .slice sa sn sc := by obtain ⟨sa, sc, sb, soff, rfl, _⟩ := hs; exact ⟨_, _, _, rfl⟩
  obtain ⟨sa, sn, sc, rfl⟩ := hsv
  obtain ⟨da, dc, db, doff, rfl, hda, ⟨hdl, _⟩, hdc⟩ := hd
  have hixd := idxDoors (c := dc) hda
  have HDC := Lib.hid hdc
  have HBX := Lib.hid (fun wx hx => (BoxB.new (w := w) (b := b) (dv := .slice da b.doors.length dc) (sv := .slice sa sn sc) (pv := .slice pa b.places.length pc) (T := 25)).bel (w' := wx) hx)
  clear hda hdc hs hf
  cases hval : validT b
  · have E1 := Lib.hid (show pathA b c = [] by unfold pathA; rw [hval]; rfl)
    have E2 := Lib.hid (show pathE b c = 60 by unfold pathE; rw [hval]; rfl)
    rw [chkT_false hval] at HC
    clear hval
    go_enter Tryd.func18, Tryd.ntmps18
    go_wp2_with (go_at_call 54; refine (HC.out _ (by repeat (first | assumption | exact Bel.refl _ | refine Bel.drew ?_ | refine Bel.drewN ?_ _ | refine Bel.alloc ?_ _ | refine Bel.setCell ?_ (by simp <;> omega) _ | refine Bel.trans ?_ (by assumption)))).mono ?_; rintro e w1 ⟨rfl, hb⟩)
    exact bodyPost_ret (v := .tuple #[.slice none 0 0, .int .i64 60]) (by simp [results, Tryd.results18, go_sem]) rfl ⟨_, rvL E2.out, by rw [E1.out]; exact StepsAt.nil _, (by repeat (first | assumption | exact Bel.refl _ | refine Bel.drew ?_ | refine Bel.drewN ?_ _ | refine Bel.alloc ?_ _ | refine Bel.setCell ?_ (by simp <;> omega) _ | refine Bel.trans ?_ (by assumption)))⟩
  rw [chkT_true hval] at HC
  have hok := okb_iff.1 hval
  cases hin : inB b.places c
  · have E1 := Lib.hid (show pathA b c = [] by unfold pathA; rw [hval, hin]; rfl)
    have E2 := Lib.hid (show pathE b c = 1 by unfold pathE; rw [hval, hin]; rfl)
    rw [hin] at HIN
    clear hval hin hok HASK0 HASK1 HOFF
    go_enter Tryd.func18, Tryd.ntmps18
    go_wp2_with (first
      | (go_at_call 54; refine (HC.out _ (by repeat (first | assumption | exact Bel.refl _ | refine Bel.drew ?_ | refine Bel.drewN ?_ _ | refine Bel.alloc ?_ _ | refine Bel.setCell ?_ (by simp <;> omega) _ | refine Bel.trans ?_ (by assumption)))).mono ?_; rintro e w1 ⟨rfl, hb⟩; have HBB := Lib.hid hb; have y := HBX.out _ hb; obtain ⟨x0, x1, x2, x3, x4, x5⟩ := y; have l0 := cell_lt x0; have HB1 := Lib.hid (show Bel w w1 from Bel.trans (by repeat (first | assumption | exact Bel.refl _ | refine Bel.drew ?_ | refine Bel.drewN ?_ _ | refine Bel.alloc ?_ _ | refine Bel.setCell ?_ (by simp <;> omega) _ | refine Bel.trans ?_ (by assumption))) hb); clear hb)
      | (go_at_call 63; refine (HIN.out _ HB1.out).mono ?_; rintro e w3 ⟨rfl, hb3⟩; replace x0 := hb3.cell x0; replace x1 := hb3.cell x1; replace x2 := hb3.cell x2; replace x3 := hb3.cell x3; replace x4 := hb3.cell x4; replace x5 := hb3.cell x5; have l0 := cell_lt x0; have HB3 := Lib.hid (HB1.out.trans hb3); clear hb3))
    have hB3 := HB3.out
    exact bodyPost_ret (v := .tuple #[.slice none 0 0, .int .i64 1]) (by simp [results, Tryd.results18, go_sem]) rfl ⟨_, rvL E2.out, by rw [E1.out]; exact StepsAt.nil _, (by repeat (first | assumption | exact Bel.refl _ | refine Bel.drew ?_ | refine Bel.drewN ?_ _ | refine Bel.alloc ?_ _ | refine Bel.setCell ?_ (by simp <;> omega) _ | refine Bel.trans ?_ (by assumption)))⟩
  rw [hin] at HIN
  have hcm := inB_mem hin
  have hcp := hok.pi c hcm
  have hcb : hasP (ofL b.places) c = true := (ofL_bit b.places (c + 1).toNat).2 ⟨c, hcm, rfl⟩
  cases ho : opt b true 1048576 1 (ofL b.places) with
  | none =>
    obtain ⟨o1, o2⟩ := opt_none_P hok (dom_places hok) ho
    obtain ⟨o3, o4⟩ := optVE_none o2
    have E1 := Lib.hid (show pathA b c = [] by unfold pathA; rw [hval, hin, o2]; rfl)
    have E2 := Lib.hid (show pathE b c = 3 by unfold pathE; rw [hval, hin, o4]; rfl)
    have HASK := Lib.hid (fun wx hx => HASK0.out hval wx hx o1)
    clear hval hin ho o1 o2 o3 o4 hok HASK0 HASK1 HOFF hcm hcp hcb
    go_enter Tryd.func18, Tryd.ntmps18
    go_wp2_with (first
      | (go_at_call 54; refine (HC.out _ (by repeat (first | assumption | exact Bel.refl _ | refine Bel.drew ?_ | refine Bel.drewN ?_ _ | refine Bel.alloc ?_ _ | refine Bel.setCell ?_ (by simp <;> omega) _ | refine Bel.trans ?_ (by assumption)))).mono ?_; rintro e w1 ⟨rfl, hb⟩; have HBB := Lib.hid hb; have y := HBX.out _ hb; obtain ⟨x0, x1, x2, x3, x4, x5⟩ := y; have l0 := cell_lt x0; have HB1 := Lib.hid (show Bel w w1 from Bel.trans (by repeat (first | assumption | exact Bel.refl _ | refine Bel.drew ?_ | refine Bel.drewN ?_ _ | refine Bel.alloc ?_ _ | refine Bel.setCell ?_ (by simp <;> omega) _ | refine Bel.trans ?_ (by assumption))) hb); clear hb)
      | (go_at_call 63; refine (HIN.out _ HB1.out).mono ?_; rintro e w3 ⟨rfl, hb3⟩; replace x0 := hb3.cell x0; replace x1 := hb3.cell x1; replace x2 := hb3.cell x2; replace x3 := hb3.cell x3; replace x4 := hb3.cell x4; replace x5 := hb3.cell x5; have l0 := cell_lt x0; have HB3 := Lib.hid (HB1.out.trans hb3); clear hb3)
      | (go_at_call 64; refine (HASK.out _ HB3.out).mono ?_; rintro e w2 ⟨rfl, hb2⟩; have HB2 := Lib.hid (HB3.out.trans hb2); clear hb2))
    have hB2 := HB2.out
    exact bodyPost_ret (v := .tuple #[.slice none 0 0, .int .i64 3]) (by simp [results, Tryd.results18, go_sem]) rfl ⟨_, rvL E2.out, by rw [E1.out]; exact StepsAt.nil _, (by repeat (first | assumption | exact Bel.refl _ | refine Bel.drew ?_ | refine Bel.drewN ?_ _ | refine Bel.alloc ?_ _ | refine Bel.setCell ?_ (by simp <;> omega) _ | refine Bel.trans ?_ (by assumption)))⟩
  | some u =>
    obtain ⟨o1, o2⟩ := opt_some_P hok (dom_places hok) ho
    obtain ⟨o3, o4⟩ := optVE_some o2
    have E1 := Lib.hid (show pathA b c = pathF b 2000 (ofL b.places) c by unfold pathA; rw [hval, hin, o2]; rfl)
    have E2 := Lib.hid (show pathE b c = 0 by unfold pathE; rw [hval, hin, o4]; rfl)
    have HNEXT := Lib.hid (fun hb mb pr hpr s hs x hx wx h1 h2 h3 (h4 : Bel w wx) => hnext_cheap hb mb s b hval hs (.slice da b.doors.length dc) (.slice sa sn sc) (.slice pa b.places.length pc) true pr hpr x hx wx h1 h2 h3 (HV.out.bel h4))
    have HOF := Lib.hid (fun wx hx => HOFF.out hval wx hx)
    have HS0 := Lib.hid (And.intro (dom_places hok) (And.intro o2 (And.intro (opt_nonneg hok way_1 (dom_places hok) o2) hcb)))
    generalize decP u = p at *
    have HASK := Lib.hid (fun wx hx => HASK1.out hval wx hx p o1)
    have HO1 := Lib.hid o1
    have HDP := Lib.hid (dom_places hok)
    obtain ⟨i1, hi1, hz1, hs1, hb1⟩ := info_parts mkStep
    have HI1 := Lib.hid hi1
    have HZ1 := Lib.hid hz1
    have HOK := Lib.hid hok
    clear hval hin ho o1 o2 o3 o4 HASK0 HASK1 HOFF hok hi1 hz1 hcm hcb
    generalize ofL b.places = S at *
    go_enter Tryd.func18, Tryd.ntmps18
    go_wp2_with (first
      | (go_at_call 54; refine (HC.out _ (by repeat (first | assumption | exact Bel.refl _ | refine Bel.drew ?_ | refine Bel.drewN ?_ _ | refine Bel.alloc ?_ _ | refine Bel.setCell ?_ (by simp <;> omega) _ | refine Bel.trans ?_ (by assumption)))).mono ?_; rintro e w1 ⟨rfl, hb⟩; have HBB := Lib.hid hb; have y := HBX.out _ hb; obtain ⟨x0, x1, x2, x3, x4, x5⟩ := y; have l0 := cell_lt x0; have HB1 := Lib.hid (show Bel w w1 from Bel.trans (by repeat (first | assumption | exact Bel.refl _ | refine Bel.drew ?_ | refine Bel.drewN ?_ _ | refine Bel.alloc ?_ _ | refine Bel.setCell ?_ (by simp <;> omega) _ | refine Bel.trans ?_ (by assumption))) hb); clear hb)
      | (go_at_call 63; refine (HIN.out _ HB1.out).mono ?_; rintro e w3 ⟨rfl, hb3⟩; replace x0 := hb3.cell x0; replace x1 := hb3.cell x1; replace x2 := hb3.cell x2; replace x3 := hb3.cell x3; replace x4 := hb3.cell x4; replace x5 := hb3.cell x5; have l0 := cell_lt x0; have HB3 := Lib.hid (HB1.out.trans hb3); clear hb3)
      | (go_at_call 64; refine (HASK.out _ HB3.out).mono ?_; rintro e w2 ⟨hb, mb, pr, rfl, hh, hm, hi, hfx, hb2⟩; have HH := Lib.hid hh; have HM := Lib.hid hm; have HI := Lib.hid hi; have HX := Lib.hid hfx; have hp56 := (hi.small ((pr_opt HOK.out hi hfx HDP.out).trans HO1.out)); replace x0 := hb2.cell x0; replace x1 := hb2.cell x1; replace x2 := hb2.cell x2; replace x3 := hb2.cell x3; replace x4 := hb2.cell x4; replace x5 := hb2.cell x5; have l0 := cell_lt x0; have HB2 := Lib.hid (HB3.out.trans hb2); clear hb2 hh hm hi hfx)
      | (go_at_call 65; refine (HOF.out _ (HB2.out.alloc _)).mono ?_; rintro e w4 ⟨rfl, hb3⟩; have HB4 := Lib.hid (show Bel w2 w4 from Bel.trans ((Bel.refl _).alloc _) hb3); replace x0 := HB4.out.cell x0; replace x1 := HB4.out.cell x1; have l0 := cell_lt x0; clear hb3))
    clear x2 x3 x4 x5
    have HX0 := Lib.hid (And.intro x0 x1)
    have hp1856 := hp56.2.2
    clear x0 x1 l0 hp56
    go_loopw [1, 10, 11] (fun va V vs wr => PathI b S c w4 va V vs wr) (fun _ _ vs _ => muP b vs)
    case atStart => exact ⟨[], S, p.1, c, rfl, rfl, HS0.out.1, HS0.out.2.1, HS0.out.2.2.1, by simp; omega, by omega, by omega, HS0.out.2.2.2, rfl, StepSt.start w4⟩
    case round =>
      obtain ⟨l, s, v, q, rfl, rfl, hd, ho, h1, h2, h3, h4, h5, h6, hst⟩ := hrel
      have hl64 : l.length ≤ 1999 := by omega
      have HST := Lib.hid hst
      have HMU := Lib.hid (muP_eq ho)
      by_cases e1 : s = 1
      · subst e1
        have HL := Lib.hid (show l = pathF b 2000 S c by rw [← h6, path_done, List.append_nil])
        clear hd ho h1 h2 h3 hst
        go_wp2
        have hB2 := HB2.out
        exact bodyPost_ret (v := .tuple #[u10, .int .i64 0]) (by simp [results, Tryd.results18, go_sem]) rfl ⟨_, rvL E2.out, by rw [E1.out, ← HL.out]; exact HST.out.read (by omega), (HB2.out.trans HB4.out).trans HST.out.bel⟩
      · have hs64 := Dom.lt HOK.out hd
        obtain ⟨uK, huK⟩ := opt_K_some HOK.out hd ho
        obtain ⟨g1, g2, g3, g4, g5, g6, g7, uu, g8, g9, g10⟩ := path_step HOK.out hd e1 ho h3 h4 h5
        have hnx := (nextS_spec HOK.out hd e1 ho).1
        have HN := Lib.hid (HNEXT.out hb mb pr (fun t => HI.out.ofP_in t) s hd.2 (nextS b s) ((nextP_cheap HOK.out HI.out HX.out hd huK).trans hnx) wr (HFR.out _ (HB2.out.trans (HB4.out.trans hst.bel))) (HH.out.bel (HB4.out.trans hst.bel)) (HM.out.bel (HB4.out.trans hst.bel)) (HB2.out.trans (HB4.out.trans hst.bel)))
        have HG := Lib.hid (show l ++ [(nextS b s).1] ++ pathF b 2000 (leftOf (nextS b s).2 (towS b (nextS b s).1 q) s) (towS b (nextS b s).1 q) = pathF b 2000 S c by rw [← h6, path_more HOK.out hd e1 ho (by omega) h3 h4 h5]; simp)
        have HG2 := Lib.hid (And.intro g3 (And.intro g8 (And.intro g9 (And.intro g5 (And.intro g6 g4)))))
        have hisp := steps_stp g1
        have hxn : ∀ t, t ∈ (nextS b s).2 → Dom b t := (steps_dom HOK.out hd g1).2
        have HXN := Lib.hid (fun k (hk : k < (nextS b s).2.length) => Dom.lt HOK.out (hxn _ (getD_mem (nextS b s).2 k 0 hk)))
        have hne : ((s : Int) != 1) = true := by rw [bne_iff_ne]; omega
        have hv2 : uu < v ∧ (l.length : Int) + 1 + uu ≤ 1999 := by omega
        clear hd ho h1 h2 h3 h4 h5 h6 hst g1 g2 g3 g4 g5 g6 g8 hnx huK hxn
        generalize nextS b s = ns at *
        obtain ⟨xs, xn⟩ := ns
        simp only [] at HN HG HG2 HXN hisp g7 g10 ⊢
        obtain ⟨xk, xx⟩ := xs
        simp only [] at hisp HN HG HG2
        have hqq : -1 ≤ towS b ⟨xk, xx⟩ q ∧ towS b ⟨xk, xx⟩ q ≤ 6 := by
          obtain ⟨_, _, _, g5, g6, _⟩ := HG2.out
          have := HOK.out.n2
          omega
        have HOF1 := Lib.hid (fun vx wx (hx : IntsAt wx vx [towS b ⟨xk, xx⟩ q]) => (of_any vx [towS b ⟨xk, xx⟩ q] wx hx (fun j hj => by
          have : j = 0 := by simp at hj; omega
          subst this
          exact hqq)).mono (R' := fun e w' => e = .returned (.int .u8 (bitP (towS b ⟨xk, xx⟩ q) : Int)) ∧ Bel wx w') fun e w' h => ⟨by rw [h.1, ofL_one], h.2⟩)
        rcases hisp with ⟨hk1, hx1, hx2⟩ | ⟨hk1, hx1⟩
        · simp only [] at hk1 hx1 hx2
          subst hk1
          obtain ⟨i, rfl⟩ : ∃ i : Nat, xx = (i : Int) := ⟨xx.toNat, by omega⟩
          have hi : i < b.doors.length := by omega
          have htw : towS b ⟨1, (i : Int)⟩ q = thr (atD b.doors i) q := by unfold towS; simp
          obtain ⟨d0, d1, d2⟩ := HDC.out i hi
          have HDD := Lib.hid (And.intro d0 (And.intro d1 d2))
          have hidx := fun wz => hixd wz i hi
          have HTH := Lib.hid (fun wx => through_any (atD b.doors i) q wx)
          rw [← htw] at HTH
          generalize towS b ⟨1, (i : Int)⟩ q = qv at *
          generalize atD b.doors i = d at *
          clear htw d0 d1 d2
          go_wp2_with (first
            | (go_at_call 66; refine HN.out.mono ?_; rintro e w5 ⟨nv, rfl, ⟨ba, bc, bg, bo, rfl, k2, k3, k4⟩, hb5, hfr⟩; have HK := Lib.hid (And.intro k2 (And.intro k3 (And.intro k4 hfr))); have HB5 := Lib.hid hb5; clear k2 k3 k4 hfr hb5)
            | (at_builtin
               refine wpList_append_where rfl _ _ 29 rfl 50 i1 (.agg #[.int .i64 0, .int .i64 0]) 2 16 Tryd.underlying29 HI1.out HZ1.out hs1 hb1 rfl (by decide) _ l.length (stepCells l) rfl (ownsRow_bel HST.out.own (HB5.out.trans (((Bel.refl w5).alloc _).alloc _))) ⟨w5.heap.size + 1, 0, none⟩ 1 1 [.int .i64 1, .int .i64 (i : Int)] rfl rfl (fun j u hu => by rw [addr_off, (row_facts (new_row (by simp))).1]; simpa using hu) (fun y hy => by simp at hy; rcases hy with rfl | rfl <;> rfl) (by unfold maxLen; omega) (by omega) ?_
               intro V' w6 hown hgrow hwhere
               obtain ⟨k2, k3, k4, hfr⟩ := HK.out
               have hz5 := HB5.out.szle
               have hzo : ∀ g, u10.ownBlock = some g → g < wr.heap.size := fun g q => own_lt HST.out.own q
               have t0 : w6.cell? ⟨w5.heap.size, 0, none⟩ = some (.int .i64 1) := grown_cell hgrow (fun g q => by have := hzo g q; omega) (((Bel.refl _).alloc _).cell ((row_facts (new_row rfl)).1 0))
               have t1 : w6.cell? ⟨w5.heap.size, 1, none⟩ = some (.int .i64 (i : Int)) := grown_cell hgrow (fun g q => by have := hzo g q; omega) (((Bel.refl _).alloc _).cell ((row_facts (new_row rfl)).1 1))
               have HNV := Lib.hid (show ∀ j, j < xn.length → w6.cell? ⟨bg, bo + j, none⟩ = some (.int .u8 (atN xn j : Int)) from fun j hj => grown_cell hgrow (fun g q => by
                 have := hzo g q
                 have h9 := hfr ⟨bg, bo, none⟩ xn.length bc (by rw [k2 (by omega)])
                 simp only [] at h9
                 omega) ((((Bel.refl w5).alloc _).alloc _).cell (k4 j hj)))
               have hst6 := ((HST.out.keep (HB5.out.trans (((Bel.refl w5).alloc _).alloc _))).next (x := ⟨1, (i : Int)⟩) hown hgrow hwhere)
               have HST6 := Lib.hid hst6
               have hix := idxBels (c := bc) k2
               have x0 := hst6.bel.cell HX0.out.1
               have x1 := hst6.bel.cell HX0.out.2
               have l0 := cell_lt x0
               have lt := cell_lt t0
               have HW6 := Lib.hid (HB2.out.trans (HB4.out.trans hst6.bel))
               have hxl := k3.1
               obtain ⟨d0, d1, d2⟩ := HDD.out
               replace d0 := HW6.out.cell d0
               replace d1 := HW6.out.cell d1
               replace d2 := HW6.out.cell d2
               have ld := cell_lt d0
               clear hown hgrow hwhere hst6 k2 k3 k4 hfr hzo HK)
            | (go_at_call 68; refine (HTH.out _).mono ?_; rintro e w7 ⟨rfl, hb7⟩; have HB7 := Lib.hid hb7; have HNX := Lib.hid (fun j hj => hb7.cell (HNV.out j hj)); clear hb7 t0 t1 x0 x1 l0 lt HNV))
          go_loopw [11, 65] (fun vs vi wi => ∃ k : Nat, k ≤ xn.length ∧ vi = .int .i64 k ∧ vs = .int .u8 (leftTo xn qv s k : Int) ∧ Bel w7 wi) (fun _ vi _ => xn.length - (intOf vi).toNat)
          case atStart => exact ⟨0, by omega, rfl, rfl, Bel.refl _⟩
          case round =>
            obtain ⟨k, hk, rfl, rfl, hB⟩ := hrel
            have HB := Lib.hid hB
            by_cases hlt : k < xn.length
            · have hlti : (k : Int) < (xn.length : Int) := by omega
              have hck := hB.cell (HNX.out k hlt)
              have lck := cell_lt hck
              have ho64 : atN xn k < 256 := by have := HXN.out k hlt; unfold atN; omega
              have HS := Lib.hid (leftTo_succ (q := qv) (s := s) hlt)
              have HAND := Lib.hid (and_has (m := atN xn k) (p := qv) ho64 (by omega))
              generalize atN xn k = o at *
              clear hB
              go_wp2_with (go_at_call 65; refine (HOF1.out _ _ one_ints).mono ?_; rintro e w8 ⟨rfl, hb8⟩; have HB8 := Lib.hid (HB.out.trans (Bel.trans ((Bel.refl _).alloc _) hb8)); clear hb8)
              all_goals
                rename_i hcnd
              · go_roundw
                case rel => exact ⟨k + 1, by omega, by go_num, by rw [HS.out, if_pos (HAND.out.symm.trans hcnd)], HB8.out⟩
                case measure => simp [intOf]; omega
              · go_roundw
                case rel => exact ⟨k + 1, by omega, by go_num, by rw [HS.out, if_neg (by rw [← HAND.out, hcnd]; simp)], HB8.out⟩
                case measure => simp [intOf]; omega
            · have hkk : k = xn.length := by omega
              subst hkk
              clear hB
              go_wp2
              go_roundw
              case rel =>
                obtain ⟨g3, g8, g9, g5, g6, g4⟩ := HG2.out
                exact ⟨l ++ [⟨1, (i : Int)⟩], leftTo xn qv s xn.length, uu, qv, rfl, rfl, by rw [leftTo_all]; exact g3, by rw [leftTo_all]; exact g8, g9, by simp; omega, g5, g6, by rw [leftTo_all]; exact g4, by rw [leftTo_all]; exact HG.out, HST6.out.keep (Bel.trans HB7.out HB.out)⟩
              case measure =>
                obtain ⟨g3, g8, g9, g5, g6, g4⟩ := HG2.out
                rw [HMU.out, muP_eq (by rw [leftTo_all]; exact g8)]
                omega
        · simp only [] at hk1
          subst hk1
          have htw : towS b ⟨2, xx⟩ q = q := by unfold towS; simp
          rw [htw] at HG HG2 HOF1 hqq
          obtain ⟨qv, hqv⟩ : ∃ qv, qv = q := ⟨_, rfl⟩
          subst hqv
          clear htw
          go_wp2_with (first
            | (go_at_call 66; refine HN.out.mono ?_; rintro e w5 ⟨nv, rfl, ⟨ba, bc, bg, bo, rfl, k2, k3, k4⟩, hb5, hfr⟩; have HK := Lib.hid (And.intro k2 (And.intro k3 (And.intro k4 hfr))); have HB5 := Lib.hid hb5; clear k2 k3 k4 hfr hb5)
            | (at_builtin
               refine wpList_append_where rfl _ _ 29 rfl 50 i1 (.agg #[.int .i64 0, .int .i64 0]) 2 16 Tryd.underlying29 HI1.out HZ1.out hs1 hb1 rfl (by decide) _ l.length (stepCells l) rfl (ownsRow_bel HST.out.own (HB5.out.trans (((Bel.refl w5).alloc _).alloc _))) ⟨w5.heap.size + 1, 0, none⟩ 1 1 [.int .i64 2, .int .i64 xx] rfl rfl (fun j u hu => by rw [addr_off, (row_facts (new_row (by simp))).1]; simpa using hu) (fun y hy => by simp at hy; rcases hy with rfl | rfl <;> rfl) (by unfold maxLen; omega) (by omega) ?_
               intro V' w6 hown hgrow hwhere
               obtain ⟨k2, k3, k4, hfr⟩ := HK.out
               have hz5 := HB5.out.szle
               have hzo : ∀ g, u10.ownBlock = some g → g < wr.heap.size := fun g q => own_lt HST.out.own q
               have t0 : w6.cell? ⟨w5.heap.size, 0, none⟩ = some (.int .i64 2) := grown_cell hgrow (fun g q => by have := hzo g q; omega) (((Bel.refl _).alloc _).cell ((row_facts (new_row rfl)).1 0))
               have t1 : w6.cell? ⟨w5.heap.size, 1, none⟩ = some (.int .i64 xx) := grown_cell hgrow (fun g q => by have := hzo g q; omega) (((Bel.refl _).alloc _).cell ((row_facts (new_row rfl)).1 1))
               have HNV := Lib.hid (show ∀ j, j < xn.length → w6.cell? ⟨bg, bo + j, none⟩ = some (.int .u8 (atN xn j : Int)) from fun j hj => grown_cell hgrow (fun g q => by
                 have := hzo g q
                 have h9 := hfr ⟨bg, bo, none⟩ xn.length bc (by rw [k2 (by omega)])
                 simp only [] at h9
                 omega) ((((Bel.refl w5).alloc _).alloc _).cell (k4 j hj)))
               have hst6 := ((HST.out.keep (HB5.out.trans (((Bel.refl w5).alloc _).alloc _))).next (x := ⟨2, xx⟩) hown hgrow hwhere)
               have HST6 := Lib.hid hst6
               have hix := idxBels (c := bc) k2
               have x0 := hst6.bel.cell HX0.out.1
               have x1 := hst6.bel.cell HX0.out.2
               have l0 := cell_lt x0
               have lt := cell_lt t0
               have HNX := HNV
               have HW6 := Lib.hid (HB2.out.trans (HB4.out.trans hst6.bel))
               have hxl := k3.1
               clear hown hgrow hwhere hst6 k2 k3 k4 hfr hzo HK))
          go_loopw [11, 65] (fun vs vi wi => ∃ k : Nat, k ≤ xn.length ∧ vi = .int .i64 k ∧ vs = .int .u8 (leftTo xn qv s k : Int) ∧ Bel w6 wi) (fun _ vi _ => xn.length - (intOf vi).toNat)
          case atStart => exact ⟨0, by omega, rfl, rfl, Bel.refl _⟩
          case round =>
            obtain ⟨k, hk, rfl, rfl, hB⟩ := hrel
            have HB := Lib.hid hB
            by_cases hlt : k < xn.length
            · have hlti : (k : Int) < (xn.length : Int) := by omega
              have hck := hB.cell (HNX.out k hlt)
              have lck := cell_lt hck
              have ho64 : atN xn k < 256 := by have := HXN.out k hlt; unfold atN; omega
              have HS := Lib.hid (leftTo_succ (q := qv) (s := s) hlt)
              have HAND := Lib.hid (and_has (m := atN xn k) (p := qv) ho64 (by omega))
              generalize atN xn k = o at *
              clear hB
              go_wp2_with (go_at_call 65; refine (HOF1.out _ _ one_ints).mono ?_; rintro e w8 ⟨rfl, hb8⟩; have HB8 := Lib.hid (HB.out.trans (Bel.trans ((Bel.refl _).alloc _) hb8)); clear hb8)
              all_goals
                rename_i hcnd
              · go_roundw
                case rel => exact ⟨k + 1, by omega, by go_num, by rw [HS.out, if_pos (HAND.out.symm.trans hcnd)], HB8.out⟩
                case measure => simp [intOf]; omega
              · go_roundw
                case rel => exact ⟨k + 1, by omega, by go_num, by rw [HS.out, if_neg (by rw [← HAND.out, hcnd]; simp)], HB8.out⟩
                case measure => simp [intOf]; omega
            · have hkk : k = xn.length := by omega
              subst hkk
              clear hB
              go_wp2
              go_roundw
              case rel =>
                obtain ⟨g3, g8, g9, g5, g6, g4⟩ := HG2.out
                exact ⟨l ++ [⟨2, xx⟩], leftTo xn qv s xn.length, uu, qv, rfl, rfl, by rw [leftTo_all]; exact g3, by rw [leftTo_all]; exact g8, g9, by simp; omega, g5, g6, by rw [leftTo_all]; exact g4, by rw [leftTo_all]; exact HG.out, HST6.out.keep (Bel.trans (Bel.refl w6) HB.out)⟩
              case measure =>
                obtain ⟨g3, g8, g9, g5, g6, g4⟩ := HG2.out
                rw [HMU.out, muP_eq (by rw [leftTo_all]; exact g8)]
                omega
end Go.Proofs.YtogiidkofddhaaaDoor
