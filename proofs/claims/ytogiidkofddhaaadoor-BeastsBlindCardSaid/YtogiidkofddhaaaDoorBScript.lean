/-
  beasts: Script.
-/
import Derived.Test.YtogiidkofddhaaaDoorBNx
import Derived.Test.YtogiidkofddhaaaDoorBRows
namespace Go.Proofs.YtogiidkofddhaaaDoor
open Go Go.RowKit Go.Shelf
set_option maxHeartbeats 4000000
set_option maxRecDepth 100000
theorem own_lt {w : World} {e : TypeId} {sz n g : Nat} {V : Value} {xs : List Value} (h : w.ownsRow 0 e sz V n xs) (q : V.ownBlock = some g) : g < w.heap.size := by
  rcases h.2 with ⟨rfl, _⟩ | ⟨g', cap, cur, rfl, _, hh, _⟩
  · simp [Value.ownBlock] at q
  · simp [Value.ownBlock] at q
    subst q
    exact lt_of_block hh
theorem grown_cell {w w' : World} {V : Value} {r o : Nat} {v : Value} (h : w.grownBy w' V.ownBlock) (hr : ∀ g, V.ownBlock = some g → g ≠ r) (hc : w.cell? ⟨r, o, none⟩ = some v) : w'.cell? ⟨r, o, none⟩ = some v :=
  (World.cell?_of_block (by exact h.block r (cell_lt hc) (fun q => hr r q.symm rfl))).trans hc
/-- The answer of Script. -/
noncomputable def scriptA (b : BT) : List BS := if validT b then (if (opt b false 1 0 (ofL b.places)).isSome then scriptF b 64 (ofL b.places) else []) else []
/-- The rounds of Script. -/
def ScrI (b : BT) (S : Nat) (w3 : World) (V vs : Value) (wr : World) : Prop := ∃ (l : List BS) (s : Nat) (c n : Int), vs = .int .u8 (s : Int) ∧ Dom b s ∧ opt b false 1048576 1 s = some (c * 1048576 + n) ∧ 0 ≤ n ∧ (l.length : Int) + n ≤ 64 ∧
  l ++ scriptF b 64 s = scriptF b 64 S ∧ StepSt l w3 V wr
noncomputable def muS (b : BT) (vs : Value) : Nat := ((opt b false 1048576 1 (intOf vs).toNat).getD 0 % 1048576).toNat
theorem muS_eq {b : BT} {s : Nat} {c n : Int} (h : opt b false 1048576 1 s = some (c * 1048576 + n)) (h1 : 0 ≤ n) (h2 : n ≤ 64) : muS b (.int .u8 (s : Int)) = n.toNat := by
  unfold muS
  rw [show (intOf (.int .u8 (s : Int))).toNat = s by simp [intOf], h]
  show ((c * 1048576 + n) % 1048576).toNat = _
  omega
theorem scr_step {b : BT} (hok : Okb b) {s : Nat} (hs : Dom b s) (h1 : s ≠ 1) {c n : Int} (h : opt b false 1048576 1 s = some (c * 1048576 + n)) (hn : 0 ≤ n) (hn2 : n ≤ 64) :
    ∃ (i t : Nat), nextB b s = (⟨1, (i : Int)⟩, [t]) ∧ t < 256 ∧ nextV b false 1048576 1 (opt b false 1048576 1) s = some (nextB b s) ∧ Dom b t ∧ (∃ d m : Int, opt b false 1048576 1 t = some (d * 1048576 + m) ∧ 0 ≤ m ∧ n = m + 1) ∧ scriptF b 64 s = ⟨1, (i : Int)⟩ :: scriptF b 64 t := by
  obtain ⟨i, hi, hx, hnv, hd, d, m, q1, q2, q3, q4, q5⟩ := blind_step hok hs h1 h hn hn2
  refine ⟨i, _, hx, by have := Dom.lt hok hd; omega, hnv, hd, ⟨d, m, q1, q2, q4⟩, ?_⟩
  have e : scriptF b 64 s = if s = 1 then [] else (nextB b s).1 :: scriptF b 63 ((nextB b s).2.headD 0) := rfl
  rw [e, if_neg h1, hx]
  show _ :: scriptF b 63 (mvB (atD b.doors i) s) = _
  rw [script_fuel hok 63 64 _ d m hd q1 q2 q3 (by omega) (by omega)]
theorem scr_done {b : BT} : scriptF b 64 1 = [] := by
  have e : scriptF b 64 1 = if 1 = 1 then [] else (nextB b 1).1 :: scriptF b 63 ((nextB b 1).2.headD 0) := rfl
  rw [e, if_pos rfl]
theorem rvL {V : Value} {y y' : Int} (h2 : y' = y) : Ending.returned (.tuple #[V, .int .i64 y]) = .returned (.tuple #[V, .int .i64 y']) := by rw [h2]
theorem Script_any (b : BT) (v : Value) (w : World) (hf : FarAt w) (hv : BTrapAt w v b) :
    Calls Tryd.prog 38 #[v] w fun e w' => ∃ V, e = .returned (.tuple #[V, .int .i64 (leastE b false)]) ∧ StepsAt w' V (scriptA b) ∧ Bel w w' := by
  have HV := Lib.hid hv
  have HC := Lib.hid (fun wx (hx : Bel w wx) => bCheck_any b v wx (hv.bel hx))
  obtain ⟨dv, sv, pv, rfl, hd, hs, hp⟩ := hv
  have HASK0 := Lib.hid (fun hval wx (hx : Bel w wx) => ask_none b hval dv sv pv false b.places pv wx (hf.bel hx) (HV.out.bel hx) (hp.bel hx) (places_in6 (okb_iff.1 hval)) (dom_places (okb_iff.1 hval)))
  have HASK1 := Lib.hid (fun hval wx (hx : Bel w wx) => ask_some b hval dv sv pv false b.places pv wx (hf.bel hx) (HV.out.bel hx) (hp.bel hx) (places_in6 (okb_iff.1 hval)) (dom_places (okb_iff.1 hval)))
  have HOFF := Lib.hid (fun hval wx (hx : Bel w wx) => of_any pv b.places wx (hp.bel hx) (places_in6 (okb_iff.1 hval)))
  have HFR := Lib.hid (fun wx (hx : Bel w wx) => hf.bel hx)
  obtain ⟨pa, pc, pb, poff, rfl, _, ⟨hpl, _⟩, _⟩ := hp
  have hdv : ∃ da dn dc, dv = .slice da dn dc := by obtain ⟨da, dc, db, doff, rfl, _⟩ := hd; exact ⟨_, _, _, rfl⟩
  have hsv : ∃ sa sn sc, sv = .slice sa sn sc := by obtain ⟨sa, sc, sb, soff, rfl, _⟩ := hs; exact ⟨_, _, _, rfl⟩
  obtain ⟨da, dn, dc, rfl⟩ := hdv
  obtain ⟨sa, sn, sc, rfl⟩ := hsv
  have HBX := Lib.hid (fun wx hx => (BoxB.new (w := w) (b := b) (dv := .slice da dn dc) (sv := .slice sa sn sc) (pv := .slice pa b.places.length pc) (T := 25)).bel (w' := wx) hx)
  clear hd hs hf
  cases hval : validT b
  · have E1 := Lib.hid (show scriptA b = [] by unfold scriptA; rw [hval]; rfl)
    have E2 := Lib.hid (least_bad (looks := false) hval).2
    rw [chkT_false hval] at HC
    clear hval
    go_enter Tryd.func38, Tryd.ntmps38
    go_wp2_with (go_at_call 54; refine (HC.out _ (by repeat (first | assumption | exact Bel.refl _ | refine Bel.drew ?_ | refine Bel.drewN ?_ _ | refine Bel.alloc ?_ _ | refine Bel.setCell ?_ (by simp <;> omega) _ | refine Bel.trans ?_ (by assumption)))).mono ?_; rintro e w1 ⟨rfl, hb⟩)
    exact bodyPost_ret (v := .tuple #[.slice none 0 0, .int .i64 60]) (by simp [results, Tryd.results38, go_sem]) rfl ⟨_, rvL E2.out, by rw [E1.out]; exact StepsAt.nil _, (by repeat (first | assumption | exact Bel.refl _ | refine Bel.drew ?_ | refine Bel.drewN ?_ _ | refine Bel.alloc ?_ _ | refine Bel.setCell ?_ (by simp <;> omega) _ | refine Bel.trans ?_ (by assumption)))⟩
  have e2 := (least_good (looks := false) hval).2
  rw [chkT_true hval] at HC
  have hok := okb_iff.1 hval
  cases ho : opt b false 1048576 1 (ofL b.places) with
  | none =>
    obtain ⟨o1, o2⟩ := opt_none_P hok (dom_places hok) ho
    obtain ⟨o3, o4⟩ := optVE_none o2
    have E1 := Lib.hid (show scriptA b = [] by unfold scriptA; rw [hval, o2]; rfl)
    have E2 := Lib.hid (e2.trans o4)
    have HASK := Lib.hid (fun wx hx => HASK0.out hval wx hx o1)
    clear hval e2 ho o1 o2 o3 o4 hok HASK0 HASK1 HOFF
    go_enter Tryd.func38, Tryd.ntmps38
    go_wp2_with (first
      | (go_at_call 54; refine (HC.out _ (by repeat (first | assumption | exact Bel.refl _ | refine Bel.drew ?_ | refine Bel.drewN ?_ _ | refine Bel.alloc ?_ _ | refine Bel.setCell ?_ (by simp <;> omega) _ | refine Bel.trans ?_ (by assumption)))).mono ?_; rintro e w1 ⟨rfl, hb⟩; have HBB := Lib.hid hb; have y := HBX.out _ hb; obtain ⟨x0, x1, x2, x3, x4, x5⟩ := y; have l0 := cell_lt x0; have HB1 := Lib.hid (show Bel w w1 from Bel.trans (by repeat (first | assumption | exact Bel.refl _ | refine Bel.drew ?_ | refine Bel.drewN ?_ _ | refine Bel.alloc ?_ _ | refine Bel.setCell ?_ (by simp <;> omega) _ | refine Bel.trans ?_ (by assumption))) hb); clear hb)
      | (go_at_call 64; refine (HASK.out _ HB1.out).mono ?_; rintro e w2 ⟨rfl, hb2⟩; have HB2 := Lib.hid (HB1.out.trans hb2); clear hb2))
    have hB2 := HB2.out
    exact bodyPost_ret (v := .tuple #[.slice none 0 0, .int .i64 3]) (by simp [results, Tryd.results38, go_sem]) rfl ⟨_, rvL E2.out, by rw [E1.out]; exact StepsAt.nil _, (by repeat (first | assumption | exact Bel.refl _ | refine Bel.drew ?_ | refine Bel.drewN ?_ _ | refine Bel.alloc ?_ _ | refine Bel.setCell ?_ (by simp <;> omega) _ | refine Bel.trans ?_ (by assumption)))⟩
  | some u =>
    obtain ⟨o1, o2⟩ := opt_some_P hok (dom_places hok) ho
    obtain ⟨o3, o4⟩ := optVE_some o2
    obtain ⟨c0, n0, r0, r1, r2, r3, r4⟩ := opt_shp hok (dom_places hok) ho
    have E1 := Lib.hid (show scriptA b = scriptF b 64 (ofL b.places) by unfold scriptA; rw [hval, o2]; rfl)
    have E2 := Lib.hid (e2.trans o4)
    have HNEXT := Lib.hid (fun hb mb pr hpr s hs x hx wx h1 h2 h3 (h4 : Bel w wx) => hnext_same hb mb s b hval hs (.slice da dn dc) (.slice sa sn sc) (.slice pa b.places.length pc) false pr hpr x hx wx h1 h2 h3 (HV.out.bel h4))
    have HOF := Lib.hid (fun wx hx => HOFF.out hval wx hx)
    have HS0 := Lib.hid (show Dom b (ofL b.places) ∧ opt b false 1048576 1 (ofL b.places) = some (c0 * 1048576 + n0) ∧ 0 ≤ n0 ∧ n0 ≤ 64 from ⟨dom_places hok, by rw [ho, r0], r1, by omega⟩)
    generalize decP u = p at *
    have HASK := Lib.hid (fun wx hx => HASK1.out hval wx hx p o1)
    obtain ⟨i1, hi1, hz1, hs1, hb1⟩ := info_parts mkStep
    have HI1 := Lib.hid hi1
    have HZ1 := Lib.hid hz1
    have HOK := Lib.hid hok
    clear hval e2 ho o1 o2 o3 o4 HASK0 HASK1 HOFF r0 r1 r2 r3 r4 hok hi1 hz1
    generalize ofL b.places = S at *
    go_enter Tryd.func38, Tryd.ntmps38
    go_wp2_with (first
      | (go_at_call 54; refine (HC.out _ (by repeat (first | assumption | exact Bel.refl _ | refine Bel.drew ?_ | refine Bel.drewN ?_ _ | refine Bel.alloc ?_ _ | refine Bel.setCell ?_ (by simp <;> omega) _ | refine Bel.trans ?_ (by assumption)))).mono ?_; rintro e w1 ⟨rfl, hb⟩; have HBB := Lib.hid hb; have y := HBX.out _ hb; obtain ⟨x0, x1, x2, x3, x4, x5⟩ := y; have l0 := cell_lt x0; have HB1 := Lib.hid (show Bel w w1 from Bel.trans (by repeat (first | assumption | exact Bel.refl _ | refine Bel.drew ?_ | refine Bel.drewN ?_ _ | refine Bel.alloc ?_ _ | refine Bel.setCell ?_ (by simp <;> omega) _ | refine Bel.trans ?_ (by assumption))) hb); clear hb)
      | (go_at_call 64; refine (HASK.out _ HB1.out).mono ?_; rintro e w2 ⟨hb, mb, pr, rfl, hh, hm, hi, hfx, hb2⟩; have HH := Lib.hid hh; have HM := Lib.hid hm; have HI := Lib.hid hi; have HX := Lib.hid hfx; replace x0 := hb2.cell x0; replace x1 := hb2.cell x1; replace x2 := hb2.cell x2; replace x3 := hb2.cell x3; replace x4 := hb2.cell x4; replace x5 := hb2.cell x5; have l0 := cell_lt x0; have HB2 := Lib.hid (HB1.out.trans hb2); clear hb2 hh hm hi hfx)
      | (go_at_call 65; refine (HOF.out _ (HB2.out.alloc _)).mono ?_; rintro e w3 ⟨rfl, hb3⟩; have HB3 := Lib.hid (show Bel w2 w3 from Bel.trans ((Bel.refl _).alloc _) hb3); clear hb3))
    clear x0 x1 x2 x3 x4 x5 l0
    go_loopw [8, 9] (fun V vs wr => ScrI b S w3 V vs wr) (fun _ vs _ => muS b vs)
    case atStart => exact ⟨[], S, c0, n0, rfl, HS0.out.1, HS0.out.2.1, HS0.out.2.2.1, by have := HS0.out.2.2.2; simp; omega, rfl, StepSt.start w3⟩
    case round =>
      obtain ⟨l, s, c, n, rfl, hd, ho, h1, h2, h3, hst⟩ := hrel
      have hl64 : l.length ≤ 64 := by omega
      have HST := Lib.hid hst
      have HMU := Lib.hid (muS_eq ho h1 (by omega))
      by_cases e1 : s = 1
      · subst e1
        have HL := Lib.hid (show l = scriptF b 64 S by rw [← h3, scr_done, List.append_nil])
        clear hd ho h1 h2 h3 hst
        go_wp2
        have hB2 := HB2.out
        exact bodyPost_ret (v := .tuple #[u8, .int .i64 0]) (by simp [results, Tryd.results38, go_sem]) rfl ⟨_, rvL E2.out, by rw [E1.out, ← HL.out]; exact HST.out.read (by omega), (HB2.out.trans HB3.out).trans HST.out.bel⟩
      · obtain ⟨i, t, g1, g2, g3, g4, ⟨d, m, g5, g6, g7⟩, g8⟩ := scr_step HOK.out hd e1 ho h1 (by omega)
        have hs64 := Dom.lt HOK.out hd
        have HN := Lib.hid (HNEXT.out hb mb pr (fun t => HI.out.ofP_in t) s hd.2 (nextB b s) ((nextP_same HOK.out HI.out HX.out hd ho).trans g3) wr (HFR.out _ (HB2.out.trans (HB3.out.trans hst.bel))) (HH.out.bel (HB3.out.trans hst.bel)) (HM.out.bel (HB3.out.trans hst.bel)) (HB2.out.trans (HB3.out.trans hst.bel)))
        rw [g1] at HN
        have HG := Lib.hid (And.intro g4 (And.intro g5 (And.intro g6 (And.intro g7 (And.intro g8 (And.intro h2 h3))))))
        have hne : ((s : Int) != 1) = true := by rw [bne_iff_ne]; omega
        clear hd ho h1 h2 h3 hst g1 g3 g4 g5 g6 g7 g8
        go_wp2_with (go_at_call 66; refine HN.out.mono ?_; rintro e w4 ⟨nv, rfl, ⟨ba, bc, bg, bo, rfl, k2, k3, k4⟩, hb4, hfr⟩)
        simp only [List.length_cons, List.length_nil, Nat.zero_add] at k2 k4 ⊢
        obtain rfl := k2 (by omega)
        have k40 : w4.cell? ⟨bg, bo, none⟩ = some (.int .u8 (t : Int)) := k4 0 (by omega)
        have hbg : wr.heap.size ≤ bg := hfr _ _ _ rfl
        have hix0 : ∀ wz : World, (Instr.indexAt 85 (.slice (some ⟨bg, bo, none⟩) 1 bc) (.int .i64 0)).run Tryd.prog wz = .ok (.pointer (some ⟨bg, bo, none⟩)) wz := fun wz => by
          have := idxBels (a := some ⟨bg, bo, none⟩) (n := 1) (c := bc) (b := bg) (off := bo) (fun _ => rfl) wz 0 (by omega)
          simpa using this
        generalize hW5 : World.alloc w4 _ = W5
        have hb5 : Bel w4 W5 := by rw [← hW5]; exact (Bel.refl _).alloc _
        have p0 : W5.cell? ⟨w4.heap.size, 0, none⟩ = some (.int .i64 1) := by rw [← hW5]; exact (row_facts (new_row rfl)).1 0
        have p1 : W5.cell? ⟨w4.heap.size, 1, none⟩ = some (.int .i64 (i : Int)) := by rw [← hW5]; exact (row_facts (new_row rfl)).1 1
        have k50 := hb5.cell k40
        have HCLS : Hid (∀ wx, Bel W5 wx → wx.cell? ⟨w4.heap.size, 0, none⟩ = some (.int .i64 1) ∧ wx.cell? ⟨w4.heap.size, 1, none⟩ = some (.int .i64 (i : Int)) ∧ wx.cell? ⟨bg, bo, none⟩ = some (.int .u8 (t : Int))) := Lib.hid (fun wx hx => ⟨hx.cell p0, hx.cell p1, hx.cell k50⟩)
        have HB5 := Lib.hid (hb4.trans hb5)
        have hz4 := hb4.szle
        have hl4 := cell_lt k40
        have HZ5 : Hid (∀ g, u8.ownBlock = some g → g ≠ w4.heap.size ∧ g ≠ bg) := Lib.hid (fun g q => by have := own_lt HST.out.own q; exact ⟨by omega, by omega⟩)
        clear hW5 hb5 hb4 k2 k3 k4 k40 hfr hbg p0 p1 k50
        refine wp_region_mixC (Plan.seq [0, 1, 4, 5, 6, 1002, 1003, 7, 8] .nil) (fun q => q.cell? ⟨w4.heap.size, 0, none⟩ = some (.int .i64 1) ∧ q.cell? ⟨w4.heap.size, 1, none⟩ = some (.int .i64 (i : Int)) ∧ q.cell? ⟨bg, bo, none⟩ = some (.int .u8 (t : Int))) (by kernel_rfl) (by kernel_rfl) (HCLS.out _ ((Bel.refl _).drew)) (fun hcur => ?_)
        simp only [Plan.seq, Plan.fill, List.getD_cons_zero, List.getD_cons_succ, Nat.reduceLT, ↓reduceIte, Nat.reduceSub]
        apply mix_pure _ rfl
        · intro w' hw'
          obtain ⟨e0, e1, e2⟩ := hw'
          go_simp
          rfl
        intro K hK
        go_simp
        refine hK _ ?_
        clear hK K
        apply mix_pure _ rfl
        · intro w' hw'
          obtain ⟨e0, e1, e2⟩ := hw'
          go_simp
          rfl
        intro K hK
        go_simp
        refine hK _ ?_
        clear hK K
        apply mix_pure _ rfl
        · intro w' hw'
          obtain ⟨e0, e1, e2⟩ := hw'
          go_simp
          rfl
        intro K hK
        go_simp
        refine hK _ ?_
        clear hK K
        apply mix_pure _ rfl
        · intro w' hw'
          obtain ⟨e0, e1, e2⟩ := hw'
          go_simp
          rfl
        intro K hK
        go_simp
        refine hK _ ?_
        clear hK K
        apply mix_pure _ rfl
        · intro w' hw'
          obtain ⟨e0, e1, e2⟩ := hw'
          go_simp
          rfl
        intro K hK
        go_simp
        refine hK _ ?_
        clear hK K
        refine mix_act rfl (fun K hK => ?_)
        go_simp
        refine hK _ _ (HCLS.out _ (by repeat (first | assumption | exact Bel.refl _ | refine Bel.drew ?_ | refine Bel.drewN ?_ _ | refine Bel.alloc ?_ _ | refine Bel.setCell ?_ (by simp <;> omega) _ | refine Bel.trans ?_ (by assumption)))) (fun hcur => ?_)
        clear hK K
        refine mix_act rfl (fun K hK => ?_)
        refine wp_append_where _ _ 29 rfl 50 i1 (.agg #[.int .i64 0, .int .i64 0]) 2 16 Tryd.underlying29 HI1.out HZ1.out hs1 hb1 rfl (by decide) _ l.length (stepCells l) rfl (ownsRow_bel HST.out.own (HB5.out.trans (((Bel.refl _).alloc _).drew))) ⟨W5.heap.size, 0, none⟩ 1 1 [.int .i64 1, .int .i64 (i : Int)] rfl rfl (fun j u hu => by rw [addr_off]; exact ((Bel.refl _).drew).cell (by rw [(row_facts (new_row rfl)).1]; simpa using hu)) (fun y hy => by simp at hy; rcases hy with rfl | rfl <;> rfl) (by unfold maxLen; omega) (by omega) ?_
        intro V' w6 hown hgrow hwhere
        have HZ6 := HZ5.out
        refine hK _ _ ⟨grown_cell hgrow (fun g q => (HZ6 g q).1) hcur.1, grown_cell hgrow (fun g q => (HZ6 g q).1) hcur.2.1, grown_cell hgrow (fun g q => (HZ6 g q).2) hcur.2.2⟩ (fun hcur => ?_)
        clear hK K
        apply mix_pure _ rfl
        · intro w' hw'
          obtain ⟨e0, e1, e2⟩ := hw'
          go_simp
          rfl
        intro K hK
        go_simp
        refine hK _ ?_
        clear hK K
        apply mix_pure _ rfl
        · intro w' hw'
          obtain ⟨e0, e1, e2⟩ := hw'
          go_simp
          rfl
        intro K hK
        go_simp
        refine hK _ ?_
        clear hK K
        refine mix_nil ?_
        have HST6 := Lib.hid ((HST.out.keep (HB5.out.trans (((Bel.refl _).alloc _).drew))).next (x := ⟨1, (i : Int)⟩) hown hgrow hwhere)
        clear hcur hown hgrow hwhere
        go_wp2
        go_roundw
        case rel =>
          obtain ⟨g4, g5, g6, g7, g8, h2, h3⟩ := HG.out
          exact ⟨l ++ [⟨1, (i : Int)⟩], t, d, m, rfl, g4, g5, g6, by simp; omega, by rw [List.append_assoc, ← h3, g8]; rfl, HST6.out⟩
        case measure =>
          obtain ⟨g4, g5, g6, g7, g8, h2, h3⟩ := HG.out
          rw [HMU.out, muS_eq g5 g6 (by omega)]
          omega
end Go.Proofs.YtogiidkofddhaaaDoor
