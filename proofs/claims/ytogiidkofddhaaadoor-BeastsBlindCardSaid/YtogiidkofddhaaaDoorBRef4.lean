/-
  beasts: the reference's MoveOf, Move, After.
-/
import Derived.Test.YtogiidkofddhaaaDoorBAft
import Derived.Test.YtogiidkofddhaaaDoorBBackV
namespace Go.Proofs.YtogiidkofddhaaaDoor
open Go Go.RowKit Go.Shelf
set_option maxHeartbeats 4000000
set_option maxRecDepth 100000
theorem IntSt.before {l : List Int} {w W0 wr : World} {V : Value} (h : IntSt l W0 V wr) (k : Bel w W0) : IntSt l w V wr := ⟨h.own, fun g hg => Nat.le_trans k.szle (h.far g hg), k.trans h.bel⟩
def hitTo (d : BD) (ps : List Int) (p : Int) : Nat → Bool
  | 0 => false
  | k + 1 => hitTo d ps p k || decide (thr d (at0 ps k) = p)
theorem hitTo_iff {d : BD} {ps : List Int} {p : Int} : ∀ k, hitTo d ps p k = true ↔ ∃ j, j < k ∧ thr d (at0 ps j) = p
  | 0 => by simp [hitTo]
  | k + 1 => by
    unfold hitTo
    rw [Bool.or_eq_true, hitTo_iff k, decide_eq_true_eq]
    constructor
    · rintro (⟨j, h1, h2⟩ | h)
      · exact ⟨j, by omega, h2⟩
      · exact ⟨k, by omega, h⟩
    · rintro ⟨j, h1, h2⟩
      by_cases e : j = k
      · exact .inr (by rw [← e]; exact h2)
      · exact .inl ⟨j, by omega, h2⟩
theorem hit_bit {b : BT} (hb : Okb b) {i : Nat} (hi : i < b.doors.length) {ps : List Int} (hin : ∀ p, p ∈ ps → -1 ≤ p ∧ p ≤ b.n - 1) (q : Nat) :
    hitTo (atD b.doors i) ps ((q : Int) - 1) ps.length = (mvB (atD b.doors i) (ofL ps)).testBit q := by
  have hn := hb.n1
  have hd := hb.dk i hi
  have hpw := hb.pow
  have ho : ofL ps < 2 ^ (b.n.toNat + 1) := ofL_lt (n := b.n.toNat) fun p hp => by have := hin p hp; omega
  rw [Bool.eq_iff_iff, hitTo_iff, mvB_bit' (by omega)]
  constructor
  · rintro ⟨j, h1, h2⟩
    have hm := getD_mem ps j 0 h1
    have := hin _ hm
    refine ⟨(at0 ps j + 1).toNat, (ofL_bit _ _).2 ⟨_, hm, rfl⟩, ?_⟩
    have e : (((at0 ps j + 1).toNat : Nat) : Int) - 1 = at0 ps j := by unfold at0; omega
    rw [e, h2]
    omega
  · rintro ⟨j, j1, j2⟩
    obtain ⟨p, hp, e⟩ := (ofL_bit _ _).1 j1
    have := hin p hp
    obtain ⟨k, hk, e2⟩ := mem_getD ps p 0 hp
    refine ⟨k, hk, ?_⟩
    have h2 := thr_in hd (p := p) this.1 (by omega)
    rw [show (j : Int) - 1 = p by omega] at j2
    unfold at0
    rw [e2]
    omega
theorem plTo_yes {m q : Nat} (h : m.testBit q = true) : plTo m (q + 1) = plTo m q ++ [(q : Int) - 1] := by show (if _ then _ else _) = _; rw [if_pos h]
theorem plTo_no {m q : Nat} (h : m.testBit q = false) : plTo m (q + 1) = plTo m q := by show (if _ then _ else _) = _; rw [if_neg (by rw [h]; simp)]
theorem plTo_len {m : Nat} : ∀ k, (plTo m k).length ≤ k
  | 0 => Nat.le_refl _
  | k + 1 => by
    have := plTo_len (m := m) k
    cases h : m.testBit k
    · rw [plTo_no h]; omega
    · rw [plTo_yes h]; simp; omega
theorem R6MoveOf_any (b : BT) (hval : validT b = true) (ps : List Int) (hin : ∀ p, p ∈ ps → -1 ≤ p ∧ p ≤ b.n - 1) (i : Nat) (hi : i < b.doors.length) (v pv : Value) (w : World) (hv : BTrapAt w v b) (hp : IntsAt w pv ps) :
    Calls Tryd.prog 92 #[v, pv, .int .i64 i] w fun e w' => ∃ V, e = .returned V ∧ IntSt (plOf (mvB (atD b.doors i) (ofL ps))) w V w' := by
  have hok := okb_iff.1 hval
  have n1 := hok.n1
  have n2 := hok.n2
  have hni : ((b.n.toNat : Nat) : Int) = b.n := by omega
  have HBIT := Lib.hid (fun q => hit_bit hok hi hin q)
  have hmv : mvB (atD b.doors i) (ofL ps) < 2 ^ (b.n.toNat + 1) := mvB_lt (by rw [hni]; exact hok.dk i hi) (ofL_lt (n := b.n.toNat) fun p hp => by have := hin p hp; omega)
  have HPL := Lib.hid (plOf_to hmv (by omega))
  obtain ⟨da, dc, sa, sc, pa, pc, rfl, hd, _, _⟩ := hv.open
  obtain ⟨db, doff, hda, hdl, _, hdc⟩ := hd.open
  have hixd := idxDoors (c := dc) hda
  obtain ⟨qa, qc, qb, qoff, rfl, hqa, ⟨hql, _⟩, hqc⟩ := hp
  have hixq := idxInts (c := qc) hqa
  have hii : (i : Int) < (b.doors.length : Int) := by omega
  have HD := Lib.hid (hdc i hi)
  have HQ := Lib.hid hqc
  have HBX := Lib.hid (fun wx hx => (BoxB.new (w := w) (b := b) (dv := .slice da b.doors.length dc) (sv := .slice sa b.seen.length sc) (pv := .slice pa b.places.length pc) (T := 25)).bel (w' := wx) hx)
  have HT := Lib.hid (fun k wx => R6Through_any (atD b.doors i) (at0 ps k) wx)
  obtain ⟨i1, hi1, hz1, hs1, hb1⟩ := info_parts mkInt
  have HI1 := Lib.hid hi1
  have HZ1 := Lib.hid hz1
  have HST := Lib.hid (fun p k => show hitTo (atD b.doors i) ps p (k + 1) = (hitTo (atD b.doors i) ps p k || decide (thr (atD b.doors i) (at0 ps k) = p)) from rfl)
  have HS0 := Lib.hid (fun p => show hitTo (atD b.doors i) ps p 0 = false from rfl)
  rw [HPL.out]
  generalize atD b.doors i = d at *
  generalize mvB d (ofL ps) = m at *
  clear hv hd hda hdc hqa hqc hi1 hz1 hval hok hin hmv HPL
  go_enter Tryd.func92, Tryd.ntmps92
  go_wp2
  generalize hW0 : World.alloc _ _ = W0
  have HB := Lib.hid (show Bel w W0 by rw [← hW0]; exact (Bel.refl w).alloc _)
  have HY := Lib.hid (HBX.out W0 (by rw [← hW0]; exact Bel.refl _))
  clear hW0 HBX
  go_loopw [7, 8] (fun V vp wr => ∃ q : Nat, q ≤ b.n.toNat + 1 ∧ vp = .int .i64 ((q : Int) - 1) ∧ IntSt (plTo m q) W0 V wr) (fun _ vp _ => (b.n + 1 - intOf vp).toNat)
  case atStart => exact ⟨0, by omega, rfl, IntSt.start W0⟩
  case round =>
    obtain ⟨q, hq, rfl, hst⟩ := hrel
    have hB := hst.bel
    have HS := Lib.hid hst
    have HBR := Lib.hid hB
    obtain ⟨y0, y1, y2, y3, y4, y5⟩ := HY.out.bel hB
    have ly := cell_lt y0
    by_cases hlt : q < b.n.toNat + 1
    · have hlti : (q : Int) - 1 < b.n := by omega
      have hpl := plTo_len (m := m) q
      clear hst hB
      go_wp2
      clear y0 y1 y2 y3 y4 y5 ly
      go_loopw [9, 10] (fun vb vi wx => ∃ k : Nat, k ≤ ps.length ∧ vi = .int .i64 k ∧ vb = .bool (hitTo d ps ((q : Int) - 1) k) ∧ Bel wr wx) (fun _ vi _ => ps.length - (intOf vi).toNat)
      case atStart => exact ⟨0, by omega, rfl, by rw [HS0.out], Bel.refl _⟩
      case round =>
        obtain ⟨k, hk, rfl, rfl, hBx⟩ := hrel
        have HBX := Lib.hid hBx
        obtain ⟨y0, y1, y2, y3, y4, y5⟩ := HY.out.bel (HBR.out.trans hBx)
        have ly := cell_lt y0
        by_cases hltk : k < ps.length
        · have hlki : (k : Int) < (ps.length : Int) := by omega
          have HBW := Lib.hid (HB.out.trans (HBR.out.trans hBx))
          obtain ⟨d0, d1, d2⟩ := HD.out
          replace d0 := HBW.out.cell d0
          replace d1 := HBW.out.cell d1
          replace d2 := HBW.out.cell d2
          have ld := cell_lt d0
          have q0 := HBW.out.cell (HQ.out k hltk)
          have lq := cell_lt q0
          have HSK := Lib.hid (HST.out ((q : Int) - 1) k)
          have HTK := Lib.hid (fun wx => HT.out k wx)
          clear hBx
          cases hh : hitTo d ps ((q : Int) - 1) k
          · have HN := Lib.hid (show hitTo d ps ((q : Int) - 1) (k + 1) = decide (thr d (at0 ps k) = (q : Int) - 1) by rw [HSK.out, hh]; rfl)
            clear hh HSK
            generalize at0 ps k = x at *
            generalize thr d x = y at *
            go_wp2
            refine wp_region_mixB (Plan.seq [0, 1, 2, 3, 4, 5, 6, 7, 8, 9, 10, 12, 1011, 13, 14, 15] .nil) (by kernel_rfl) (by kernel_rfl) (fun hcur => ?_)
            simp only [Plan.seq, Plan.fill, List.getD_cons_zero, List.getD_cons_succ, Nat.reduceLT, ↓reduceIte, Nat.reduceSub]
            apply mix_pure _ rfl
            · intro w' hw'
              have hcr := hw'.cells
              go_simp
              rfl
            intro K hK
            go_simp
            refine hK _ ?_
            clear hK K
            apply mix_pure _ rfl
            · intro w' hw'
              have hcr := hw'.cells
              go_simp
              rfl
            intro K hK
            go_simp
            refine hK _ ?_
            clear hK K
            apply mix_pureG _ (by go_simp)
            · intro w' hw'
              have hcr := hw'.cells
              go_simp
              rfl
            intro K hK
            go_simp
            refine hK _ ?_
            clear hK K
            apply mix_pureG _ (by go_simp)
            · intro w' hw'
              have hcr := hw'.cells
              go_simp
              rfl
            intro K hK
            go_simp
            refine hK _ ?_
            clear hK K
            apply mix_pureG _ (by go_simp)
            · intro w' hw'
              have hcr := hw'.cells
              go_simp
              rfl
            intro K hK
            go_simp
            refine hK _ ?_
            clear hK K
            apply mix_pureG _ (by go_simp)
            · intro w' hw'
              have hcr := hw'.cells
              go_simp
              rfl
            intro K hK
            go_simp
            refine hK _ ?_
            clear hK K
            apply mix_pureG _ (by go_simp)
            · intro w' hw'
              have hcr := hw'.cells
              go_simp
              rfl
            intro K hK
            go_simp
            refine hK _ ?_
            clear hK K
            apply mix_pureG _ (by go_simp)
            · intro w' hw'
              have hcr := hw'.cells
              go_simp
              rfl
            intro K hK
            go_simp
            refine hK _ ?_
            clear hK K
            apply mix_pureG _ (by go_simp)
            · intro w' hw'
              have hcr := hw'.cells
              go_simp
              rfl
            intro K hK
            go_simp
            refine hK _ ?_
            clear hK K
            apply mix_pureG _ (by go_simp)
            · intro w' hw'
              have hcr := hw'.cells
              go_simp
              rfl
            intro K hK
            go_simp
            refine hK _ ?_
            clear hK K
            apply mix_pureG _ (by go_simp)
            · intro w' hw'
              have hcr := hw'.cells
              go_simp
              rfl
            intro K hK
            go_simp
            refine hK _ ?_
            clear hK K
            apply mix_pureG _ (by go_simp)
            · intro w' hw'
              have hcr := hw'.cells
              go_simp
              rfl
            intro K hK
            go_simp
            refine hK _ ?_
            clear hK K
            refine mix_actG (by go_simp) (fun K hK => ?_)
            go_simp
            refine (HTK.out _).mono ?_
            rintro e w3 ⟨rfl, hb⟩
            simp only []
            refine hK _ _ (hcur.trans hb) (fun hcur => ?_)
            clear hK K hb
            apply mix_pureG _ (by go_simp)
            · intro w' hw'
              have hcr := hw'.cells
              go_simp
              rfl
            intro K hK
            go_simp
            refine hK _ ?_
            clear hK K
            apply mix_pure _ rfl
            · intro w' hw'
              have hcr := hw'.cells
              go_simp
              rfl
            intro K hK
            go_simp
            refine hK _ ?_
            clear hK K
            apply mix_pure _ rfl
            · intro w' hw'
              have hcr := hw'.cells
              go_simp
              rfl
            intro K hK
            go_simp
            refine hK _ ?_
            clear hK K
            refine mix_nil ?_
            have HF := Lib.hid (HBX.out.trans hcur)
            clear hcur d0 d1 d2 ld q0 lq y0 y1 y2 y3 y4 y5 ly
            go_wp2
            go_roundw
            case rel => exact ⟨k + 1, by omega, by go_num, by rw [HN.out]; rfl, HF.out⟩
            case measure => simp [intOf]; omega
          · have HN := Lib.hid (show hitTo d ps ((q : Int) - 1) (k + 1) = true by rw [HSK.out, hh]; rfl)
            clear hh HSK
            go_wp2
            refine wp_region_mixB (Plan.seq [0, 1, 2, 3, 4, 5, 6, 7, 8, 9, 10, 12, 1011, 13, 14, 15] .nil) (by kernel_rfl) (by kernel_rfl) (fun hcur => ?_)
            simp only [Plan.seq, Plan.fill, List.getD_cons_zero, List.getD_cons_succ, Nat.reduceLT, ↓reduceIte, Nat.reduceSub]
            apply mix_pure _ rfl
            · intro w' hw'
              have hcr := hw'.cells
              go_simp
              rfl
            intro K hK
            go_simp
            refine hK _ ?_
            clear hK K
            apply mix_pure _ rfl
            · intro w' hw'
              have hcr := hw'.cells
              go_simp
              rfl
            intro K hK
            go_simp
            refine hK _ ?_
            clear hK K
            refine mix_skip (by go_simp) ?_
            intro K hK
            go_simp
            refine hK _ ?_
            clear hK K
            refine mix_skip (by go_simp) ?_
            intro K hK
            go_simp
            refine hK _ ?_
            clear hK K
            refine mix_skip (by go_simp) ?_
            intro K hK
            go_simp
            refine hK _ ?_
            clear hK K
            refine mix_skip (by go_simp) ?_
            intro K hK
            go_simp
            refine hK _ ?_
            clear hK K
            refine mix_skip (by go_simp) ?_
            intro K hK
            go_simp
            refine hK _ ?_
            clear hK K
            refine mix_skip (by go_simp) ?_
            intro K hK
            go_simp
            refine hK _ ?_
            clear hK K
            refine mix_skip (by go_simp) ?_
            intro K hK
            go_simp
            refine hK _ ?_
            clear hK K
            refine mix_skip (by go_simp) ?_
            intro K hK
            go_simp
            refine hK _ ?_
            clear hK K
            refine mix_skip (by go_simp) ?_
            intro K hK
            go_simp
            refine hK _ ?_
            clear hK K
            refine mix_skip (by go_simp) ?_
            intro K hK
            go_simp
            refine hK _ ?_
            clear hK K
            refine mix_askip (by go_simp) ?_
            intro K hK
            go_simp
            refine hK _ ?_
            clear hK K
            refine mix_skip (by go_simp) ?_
            intro K hK
            go_simp
            refine hK _ ?_
            clear hK K
            apply mix_pure _ rfl
            · intro w' hw'
              have hcr := hw'.cells
              go_simp
              rfl
            intro K hK
            go_simp
            refine hK _ ?_
            clear hK K
            apply mix_pure _ rfl
            · intro w' hw'
              have hcr := hw'.cells
              go_simp
              rfl
            intro K hK
            go_simp
            refine hK _ ?_
            clear hK K
            refine mix_nil ?_
            have HF := Lib.hid (HBX.out.trans hcur)
            clear hcur d0 d1 d2 ld q0 lq y0 y1 y2 y3 y4 y5 ly
            go_wp2
            go_roundw
            case rel => exact ⟨k + 1, by omega, by go_num, by rw [HN.out], HF.out⟩
            case measure => simp [intOf]; omega
        · obtain rfl : k = ps.length := by omega
          have HBQ := Lib.hid (HBIT.out q)
          have HSx := Lib.hid (HS.out.keep hBx)
          have HBRx := Lib.hid (HBR.out.trans hBx)
          clear hBx y0 y1 y2 y3 y4 y5 ly
          cases hm : m.testBit q
          · rw [hm] at HBQ
            have hh := HBQ.out
            have HN := Lib.hid (plTo_no hm)
            rw [hh]
            clear hm HBQ hh
            go_wp2
            go_roundw
            case rel => exact ⟨q + 1, by omega, by congr 1; omega, by rw [HN.out]; exact HSx.out⟩
            case measure => simp [intOf]; omega
          · rw [hm] at HBQ
            have hh := HBQ.out
            have HN := Lib.hid (plTo_yes hm)
            rw [hh]
            clear hm HBQ hh
            go_wp2_with (at_builtin; refine wpList_append_where rfl _ _ 23 rfl 3 i1 (.int .i64 0) 1 8 Tryd.underlying23 HI1.out HZ1.out hs1 hb1 rfl (by decide) _ (plTo m q).length ((plTo m q).map (Value.int .i64)) rfl (ownsRow_bel HSx.out.own ((Bel.refl wr).alloc _)) ⟨wr.heap.size, 0, none⟩ 1 1 [.int .i64 _] rfl rfl (cell_one_new _ _ _) (fun y hy => by simp at hy; subst hy; rfl) (by unfold maxLen; omega) (by omega) ?_; intro V' w7 hown hgrow hwhere)
            have HS7 := Lib.hid ((HSx.out.keep ((Bel.refl wr).alloc _)).next hown hgrow hwhere)
            clear hown hgrow hwhere
            go_wp2
            go_roundw
            case rel => exact ⟨q + 1, by omega, by congr 1; omega, by rw [HN.out]; exact HS7.out⟩
            case measure => simp [intOf]; omega
    · obtain rfl : q = b.n.toNat + 1 := by omega
      have hlti : ¬ (((b.n.toNat + 1 : Nat) : Int) - 1 < b.n) := by omega
      clear hst hB
      go_wp2
      exact bodyPost_ret (v := u7) (by simp [results, Tryd.results92, go_sem]) rfl ⟨_, rfl, HS.out.before HB.out⟩
theorem R6Move_any (b : BT) (v pv : Value) (ps : List Int) (n : Int) (w : World) (hv : BTrapAt w v b) (hp : IntsAt w pv ps) :
    Calls Tryd.prog 56 #[v, pv, .int .i64 n] w (LErr (moveE b ps n) (moveL b ps n) w) := by
  have HAS := Lib.hid (fun is wx hx => R6ask_any b is v wx (hv.bel (w' := wx) hx))
  have HID := Lib.hid (fun wx hx => R6IsDoor_any b n v wx (hv.bel (w' := wx) hx))
  have HRI := Lib.hid (fun lo hi wx hx => Rising_any pv ps lo hi wx (hp.bel (w' := wx) hx))
  have HE := Lib.hid (show moveE b ps n = if validT b then (if isDoorB b n && risingB ps (-1) (b.n - 1) then 0 else 1) else 60 from rfl)
  have HAE := Lib.hid (show askT b (isDoorB b n) = if validT b then (if isDoorB b n then 0 else 1) else 60 from rfl)
  have HL := Lib.hid (show moveL b ps n = if moveE b ps n = 0 then plOf (mvB (atD b.doors n.toNat) (ofL ps)) else [] from rfl)
  have HMO := Lib.hid (fun (h1 : validT b = true) (i : Nat) hi hin wx hx => R6MoveOf_any b h1 ps hin i hi v pv wx (hv.bel (w' := wx) hx) (hp.bel (w' := wx) hx))
  obtain ⟨da, dc, sa, sc, pa, pc, rfl, hd, _, _⟩ := hv.open
  have HBX := Lib.hid (fun wx hx => (BoxB.new (w := w) (b := b) (dv := .slice da b.doors.length dc) (sv := .slice sa b.seen.length sc) (pv := .slice pa b.places.length pc) (T := 25)).bel (w' := wx) hx)
  obtain ⟨qa, qc, qb, qoff, rfl, hqa, ⟨hql, _⟩, hqc⟩ := hp
  clear hv hd hqa hqc
  have hcase : (∃ er, er ≠ 0 ∧ askT b (isDoorB b n) = er ∧ moveE b ps n = er) ∨ (validT b = true ∧ isDoorB b n = true) := by
    rw [HAE.out, HE.out]
    cases h1 : validT b
    · exact .inl ⟨60, by omega, rfl, rfl⟩
    · cases h2 : isDoorB b n
      · exact .inl ⟨1, by omega, rfl, rfl⟩
      · exact .inr ⟨rfl, rfl⟩
  rcases hcase with ⟨er, h0, h1, h2⟩ | ⟨hval, his⟩
  · rw [HL.out, h2, if_neg h0]
    have hb1 : (er != 0) = true := by simpa using h0
    have HAS1 := Lib.hid (HAS.out (isDoorB b n))
    rw [h1] at HAS1
    clear h0 h1 h2 HE HAE HL HMO HAS
    go_enter Tryd.func56, Tryd.ntmps56
    go_wp2
    refine wp_region_mixB (Plan.seq [0, 1, 2, 1003, 1004, 5] .nil) (by kernel_rfl) (by kernel_rfl) (fun hcur => ?_)
    simp only [Plan.seq, Plan.fill, List.getD_cons_zero, List.getD_cons_succ, Nat.reduceLT, ↓reduceIte, Nat.reduceSub]
    apply mix_pure _ rfl
    · intro w' hw'
      have hcr := hw'.cells
      go_simp
      rfl
    intro K hK
    go_simp
    refine hK _ ?_
    clear hK K
    apply mix_pure _ rfl
    · intro w' hw'
      have hcr := hw'.cells
      go_simp
      rfl
    intro K hK
    go_simp
    refine hK _ ?_
    clear hK K
    apply mix_pure _ rfl
    · intro w' hw'
      have hcr := hw'.cells
      go_simp
      rfl
    intro K hK
    go_simp
    refine hK _ ?_
    clear hK K
    refine mix_act rfl (fun K hK => ?_)
    go_simp
    refine (HID.out _ (Bel.trans (by repeat (first | assumption | exact Bel.refl _ | refine Bel.drew ?_ | refine Bel.drewN ?_ _ | refine Bel.alloc ?_ _ | refine Bel.setCell ?_ (by simp <;> omega) _ | refine Bel.trans ?_ (by assumption))) hcur)).mono ?_
    rintro e w4 ⟨rfl, hb⟩
    have hcr4 := hb.cells
    simp only []
    refine hK _ _ (hcur.trans hb) (fun hcur => ?_)
    clear hK K hb
    refine mix_act rfl (fun K hK => ?_)
    go_simp
    refine (HAS1.out _ (Bel.trans (by repeat (first | assumption | exact Bel.refl _ | refine Bel.drew ?_ | refine Bel.drewN ?_ _ | refine Bel.alloc ?_ _ | refine Bel.setCell ?_ (by simp <;> omega) _ | refine Bel.trans ?_ (by assumption))) hcur)).mono ?_
    rintro e w5 ⟨rfl, hb⟩
    simp only []
    refine hK _ _ (hcur.trans hb) (fun hcur => ?_)
    clear hK K hb
    apply mix_pure _ rfl
    · intro w' hw'
      have hcr := hw'.cells
      go_simp
      rfl
    intro K hK
    go_simp
    refine hK _ ?_
    clear hK K
    refine mix_nil ?_
    have HF := Lib.hid (show Bel w w5 from Bel.trans (by repeat (first | assumption | exact Bel.refl _ | refine Bel.drew ?_ | refine Bel.drewN ?_ _ | refine Bel.alloc ?_ _ | refine Bel.setCell ?_ (by simp <;> omega) _ | refine Bel.trans ?_ (by assumption))) hcur)
    clear hcur
    go_wp2
    exact bodyPost_ret (v := .tuple #[.slice none 0 0, .int .i64 er]) (by simp [results, Tryd.results56, go_sem, *]) rfl ⟨_, rfl, IntsAt.nil _, HF.out⟩
  have hok := okb_iff.1 hval
  have n1 := hok.n1
  have n2 := hok.n2
  have HAS1 := Lib.hid (HAS.out true)
  rw [show askT b true = 0 by unfold askT; rw [hval]; rfl] at HAS1
  rw [his] at HID
  have HE2 := Lib.hid (HE.out.trans (show _ = if risingB ps (-1) (b.n - 1) then 0 else 1 by rw [hval, his]; rfl))
  have HRI1 := Lib.hid (HRI.out (-1) (b.n - 1))
  obtain ⟨g1, g2⟩ := withinB_true.1 (show withinB n 0 ((b.doors.length : Int) - 1) = true from his)
  obtain ⟨i, rfl⟩ : ∃ i : Nat, n = i := ⟨n.toNat, by omega⟩
  have HMO1 := Lib.hid (HMO.out hval i (by omega))
  simp only [Int.toNat_natCast] at HL
  clear HE HAE HMO HAS HRI hval his
  cases hr : risingB ps (-1) (b.n - 1)
  · rw [hr] at HRI1 HE2
    rw [HL.out, HE2.out]
    clear HE2 HL hr HMO1
    go_enter Tryd.func56, Tryd.ntmps56
    go_wp2
    refine wp_region_mixB (Plan.seq [0, 1, 2, 1003, 1004, 5] .nil) (by kernel_rfl) (by kernel_rfl) (fun hcur => ?_)
    simp only [Plan.seq, Plan.fill, List.getD_cons_zero, List.getD_cons_succ, Nat.reduceLT, ↓reduceIte, Nat.reduceSub]
    apply mix_pure _ rfl
    · intro w' hw'
      have hcr := hw'.cells
      go_simp
      rfl
    intro K hK
    go_simp
    refine hK _ ?_
    clear hK K
    apply mix_pure _ rfl
    · intro w' hw'
      have hcr := hw'.cells
      go_simp
      rfl
    intro K hK
    go_simp
    refine hK _ ?_
    clear hK K
    apply mix_pure _ rfl
    · intro w' hw'
      have hcr := hw'.cells
      go_simp
      rfl
    intro K hK
    go_simp
    refine hK _ ?_
    clear hK K
    refine mix_act rfl (fun K hK => ?_)
    go_simp
    refine (HID.out _ (Bel.trans (by repeat (first | assumption | exact Bel.refl _ | refine Bel.drew ?_ | refine Bel.drewN ?_ _ | refine Bel.alloc ?_ _ | refine Bel.setCell ?_ (by simp <;> omega) _ | refine Bel.trans ?_ (by assumption))) hcur)).mono ?_
    rintro e w4 ⟨rfl, hb⟩
    have hcr4 := hb.cells
    simp only []
    refine hK _ _ (hcur.trans hb) (fun hcur => ?_)
    clear hK K hb
    refine mix_act rfl (fun K hK => ?_)
    go_simp
    refine (HAS1.out _ (Bel.trans (by repeat (first | assumption | exact Bel.refl _ | refine Bel.drew ?_ | refine Bel.drewN ?_ _ | refine Bel.alloc ?_ _ | refine Bel.setCell ?_ (by simp <;> omega) _ | refine Bel.trans ?_ (by assumption))) hcur)).mono ?_
    rintro e w5 ⟨rfl, hb⟩
    simp only []
    refine hK _ _ (hcur.trans hb) (fun hcur => ?_)
    clear hK K hb
    apply mix_pure _ rfl
    · intro w' hw'
      have hcr := hw'.cells
      go_simp
      rfl
    intro K hK
    go_simp
    refine hK _ ?_
    clear hK K
    refine mix_nil ?_
    have HY := Lib.hid (HBX.out _ hcur)
    obtain ⟨y0, y1, y2, y3, y4, y5⟩ := HY.out
    have ly := cell_lt y0
    have HF := Lib.hid (show Bel w w5 from Bel.trans (by repeat (first | assumption | exact Bel.refl _ | refine Bel.drew ?_ | refine Bel.drewN ?_ _ | refine Bel.alloc ?_ _ | refine Bel.setCell ?_ (by simp <;> omega) _ | refine Bel.trans ?_ (by assumption))) hcur)
    clear hcur
    go_wp2_with fail
    refine (HRI1.out _ HF.out).mono ?_
    rintro e w6 ⟨rfl, hb⟩
    have HF6 := Lib.hid (HF.out.trans hb)
    clear hb
    go_wp2
    exact bodyPost_ret (v := .tuple #[.slice none 0 0, .int .i64 1]) (by simp [results, Tryd.results56, go_sem]) rfl ⟨_, rfl, IntsAt.nil _, HF6.out⟩
  · have HMO2 := Lib.hid (HMO1.out (rising_asc hr).2)
    rw [hr] at HRI1 HE2
    rw [HL.out, HE2.out]
    have hlen : (plOf (mvB (atD b.doors i) (ofL ps))).length ≤ 8 := plTo_len 8
    clear HE2 HL hr HMO1
    go_enter Tryd.func56, Tryd.ntmps56
    go_wp2
    refine wp_region_mixB (Plan.seq [0, 1, 2, 1003, 1004, 5] .nil) (by kernel_rfl) (by kernel_rfl) (fun hcur => ?_)
    simp only [Plan.seq, Plan.fill, List.getD_cons_zero, List.getD_cons_succ, Nat.reduceLT, ↓reduceIte, Nat.reduceSub]
    apply mix_pure _ rfl
    · intro w' hw'
      have hcr := hw'.cells
      go_simp
      rfl
    intro K hK
    go_simp
    refine hK _ ?_
    clear hK K
    apply mix_pure _ rfl
    · intro w' hw'
      have hcr := hw'.cells
      go_simp
      rfl
    intro K hK
    go_simp
    refine hK _ ?_
    clear hK K
    apply mix_pure _ rfl
    · intro w' hw'
      have hcr := hw'.cells
      go_simp
      rfl
    intro K hK
    go_simp
    refine hK _ ?_
    clear hK K
    refine mix_act rfl (fun K hK => ?_)
    go_simp
    refine (HID.out _ (Bel.trans (by repeat (first | assumption | exact Bel.refl _ | refine Bel.drew ?_ | refine Bel.drewN ?_ _ | refine Bel.alloc ?_ _ | refine Bel.setCell ?_ (by simp <;> omega) _ | refine Bel.trans ?_ (by assumption))) hcur)).mono ?_
    rintro e w4 ⟨rfl, hb⟩
    have hcr4 := hb.cells
    simp only []
    refine hK _ _ (hcur.trans hb) (fun hcur => ?_)
    clear hK K hb
    refine mix_act rfl (fun K hK => ?_)
    go_simp
    refine (HAS1.out _ (Bel.trans (by repeat (first | assumption | exact Bel.refl _ | refine Bel.drew ?_ | refine Bel.drewN ?_ _ | refine Bel.alloc ?_ _ | refine Bel.setCell ?_ (by simp <;> omega) _ | refine Bel.trans ?_ (by assumption))) hcur)).mono ?_
    rintro e w5 ⟨rfl, hb⟩
    simp only []
    refine hK _ _ (hcur.trans hb) (fun hcur => ?_)
    clear hK K hb
    apply mix_pure _ rfl
    · intro w' hw'
      have hcr := hw'.cells
      go_simp
      rfl
    intro K hK
    go_simp
    refine hK _ ?_
    clear hK K
    refine mix_nil ?_
    have HY := Lib.hid (HBX.out _ hcur)
    obtain ⟨y0, y1, y2, y3, y4, y5⟩ := HY.out
    have ly := cell_lt y0
    have HF := Lib.hid (show Bel w w5 from Bel.trans (by repeat (first | assumption | exact Bel.refl _ | refine Bel.drew ?_ | refine Bel.drewN ?_ _ | refine Bel.alloc ?_ _ | refine Bel.setCell ?_ (by simp <;> omega) _ | refine Bel.trans ?_ (by assumption))) hcur)
    clear hcur
    go_wp2_with fail
    refine (HRI1.out _ HF.out).mono ?_
    rintro e w6 ⟨rfl, hb⟩
    have HF6 := Lib.hid (HF.out.trans hb)
    clear y0 y1 y2 y3 y4 y5 ly
    obtain ⟨y0, y1, y2, y3, y4, y5⟩ := HY.out.bel hb
    have ly := cell_lt y0
    clear hb
    go_wp2_with fail
    refine (HMO2.out _ HF6.out).mono ?_
    rintro e w7 ⟨V, rfl, hst⟩
    have HS := Lib.hid hst
    have HB7 := Lib.hid (HF6.out.trans hst.bel)
    clear hst y0 y1 y2 y3 y4 y5 ly
    go_wp2
    exact bodyPost_ret (v := .tuple #[V, .int .i64 0]) (by simp [results, Tryd.results56, go_sem]) rfl ⟨_, rfl, ownInts (by omega) HS.out.own, HB7.out⟩
end Go.Proofs.YtogiidkofddhaaaDoor
