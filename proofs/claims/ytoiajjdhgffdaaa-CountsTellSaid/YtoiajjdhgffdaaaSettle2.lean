/-
  reference: settle, the walk.
-/
import Derived.Test.YtoiajjdhgffdaaaSettle
import Derived.Test.YtoiajjdhgffdaaaTold
namespace Go.Proofs.Ytoiajjdhgffdaaa
open Go Go.RowKit
set_option maxHeartbeats 2000000
set_option maxRecDepth 100000
/-- The spans at work: w1 is the world at the start. -/
structure SM (w0 w1 : World) (base ob T n : Nat) (rb : Nat → Nat) (wr : World) (lo hi : Nat → Nat → Int) : Prop where
  sp : SpP wr base ob T n rb lo hi
  bel : Bel w0 wr
  sz : w1.heap.size ≤ wr.heap.size
  keep : ∀ k, k < w1.heap.size → (∀ q, q < T → k ≠ rb q) → wr.heap[k]? = w1.heap[k]?
theorem SM.drop {w0 w1 : World} {base ob T n : Nat} {rb : Nat → Nat} {wr wx : World} {lo hi : Nat → Nat → Int} (h : SM w0 w1 base ob T n rb wr lo hi) (k : Bel wr wx) : SM w0 w1 base ob T n rb wx lo hi :=
  ⟨h.sp.bel k, h.bel.trans k, Nat.le_trans h.sz k.szle, fun j hj hq => (k.below.block j (Nat.lt_of_lt_of_le hj h.sz)).trans (h.keep j hj hq)⟩
theorem SM.cell {w0 w1 : World} {base ob T n : Nat} {rb : Nat → Nat} {wr : World} {lo hi : Nat → Nat → Int} (h : SM w0 w1 base ob T n rb wr lo hi) {b o : Nat} {u : Value} (hp : b < w1.heap.size) (hq : ∀ q, q < T → b ≠ rb q) (hc : w1.cell? ⟨b, o, none⟩ = some u) : wr.cell? ⟨b, o, none⟩ = some u :=
  (World.cell?_of_block (h.keep b hp hq)).trans hc
theorem diff_sm {w0 w1 : World} {base ob cap T n : Nat} {rb : Nat → Nat} {wr : World} {lo hi : Nat → Nat → Int} (hb : w0.heap.size ≤ base) (q : DQ) (hq : q.Ok T n) (h : SM w0 w1 base ob T n rb wr lo hi)
    (hbd : ∀ a b, (0 ≤ lo a b ∧ lo a b ≤ 5000) ∧ -5000 ≤ hi a b ∧ hi a b ≤ 40) {vi vc vj vd vl vh : Int} (e1 : vi = q.i) (e2 : vc = q.c) (e3 : vj = q.j) (e4 : vd = q.d) (e5 : vl = q.low) (e6 : vh = q.high) :
    Calls Try.prog 99 #[.slice (some ⟨ob, 0, none⟩) T cap, .int .i64 vi, .int .i64 vc, .int .i64 vj, .int .i64 vd, .int .i64 vl, .int .i64 vh] wr fun e w' =>
      e = .returned (.bool (q.ch lo hi)) ∧ SM w0 w1 base ob T n rb w' (q.lo lo) (q.hi hi) ∧ wr.heap.size ≤ w'.heap.size := by
  subst e1 e2 e3 e4 e5 e6
  have a1 := hbd q.i q.c
  have a2 := hbd q.j q.d
  have := hq.l0
  have := hq.l1
  have := hq.h0
  have := hq.h1
  refine (differ_any wr w0 base ob cap T n rb lo hi q.i q.c q.j q.d q.low q.high h.sp hq.hi hq.hc hq.hj hq.hd hq.ne h.bel hb (by omega) (by omega) (by omega) (by omega) (by omega) (by omega)).mono ?_
  rintro e w' ⟨rfl, hB, hS, hsz, hk⟩
  exact ⟨rfl, ⟨hS, hB, Nat.le_trans h.sz hsz, fun k hk1 hk2 => (hk k (Nat.lt_of_lt_of_le hk1 h.sz) (hk2 _ hq.hi) (hk2 _ hq.hj)).trans (h.keep k hk1 hk2)⟩, hsz⟩
def roomW (T n : Nat) (rb : Nat → Nat) (w : World) : Int := room T n (fun a b => intOf ((w.cell? ⟨rb a, b * 2, none⟩).getD undef)) (fun a b => intOf ((w.cell? ⟨rb a, b * 2 + 1, none⟩).getD undef))
theorem roomW_eq {w : World} {base ob T n : Nat} {rb : Nat → Nat} {lo hi : Nat → Nat → Int} (h : SpP w base ob T n rb lo hi) : roomW T n rb w = room T n lo hi := by
  unfold roomW room
  refine sumF_congr fun a ha => sumF_congr fun b hb => ?_
  show intOf ((w.cell? ⟨rb a, b * 2 + 1, none⟩).getD undef) - intOf ((w.cell? ⟨rb a, b * 2, none⟩).getD undef) = _
  rw [(h.row a ha).lo b hb, (h.row a ha).hi b hb]
  rfl
def flagN (v : Value) : Nat := match v with
  | .bool true => 1
  | _ => 0
theorem settle_any (t : CT) (v : Value) (w w0 : World) (base ob cap : Nat) (rb : Nat → Nat) (l0 h0 : Nat → Nat → Int) (hv : TrapAt w0 v t) (hB : Bel w0 w) (hbase : w0.heap.size ≤ base) (hf : Fit t) (h8 : t.ws.length ≤ 9)
    (hS : SpP w base ob t.T.toNat (t.C.toNat + 1) rb l0 h0) (hbox : BoxOk t.C.toNat l0 h0) :
    Calls Try.prog 77 #[v, .slice (some ⟨ob, 0, none⟩) t.T.toNat cap] w fun e w' => ∃ b lo hi, e = .returned (.bool b) ∧ SM w0 w base ob t.T.toNat (t.C.toNat + 1) rb w' lo hi ∧ Settled t l0 h0 lo hi b := by
  have HF := Lib.hid hf
  obtain ⟨f1, f2, f3, f4, f5, _⟩ := hf
  have HV := Lib.hid hv
  obtain ⟨ov, wv, rfl, ⟨a, c, b, off, rv, rfl, ha, hlen, hc⟩, ⟨wa, wc, wb, woff, rfl, hwa, hwlen, hwc⟩⟩ := hv
  have hixr := idxRows (c := c) ha
  have hixw := idxWords (c := wc) hwa
  have hixo := idxSpans (c := cap) (n := t.T.toNat) (b := ob) (off := 0) (a := some ⟨ob, 0, none⟩) (fun _ => rfl)
  have hixi := fun (q : Nat) => idxSpan (c := t.C.toNat + 1) (n := t.C.toNat + 1) (b := rb q) (off := 0) (a := some ⟨rb q, 0, none⟩) (fun _ => rfl)
  have HC := Lib.hid hc
  have HWC := Lib.hid hwc
  have HBX := Lib.hid hbox
  have hrl : ∀ q, q < t.T.toNat → w.heap.size ≠ rb q := fun q hq => by have := (hS.row q hq).lt; omega
  have hSM0 : SM w0 w base ob t.T.toNat (t.C.toNat + 1) rb w l0 h0 := ⟨hS, hB, Nat.le_refl _, fun _ _ _ => rfl⟩
  have HSM0 := Lib.hid hSM0
  have HRL := Lib.hid hrl
  have HLO := Lib.hid (show t.op.length = t.T.toNat - 1 by omega)
  clear ha hwa hc hwc hS hSM0 hrl f5 hbox
  go_enter Try.func77, Try.ntmps77
  go_wp2
  generalize hW1 : w.alloc _ = W1
  have zb : w.heap.size < W1.heap.size := by rw [← hW1]; simp
  have y0 : W1.cell? ⟨w.heap.size, 0, none⟩ = some (.int .i64 t.C) := by rw [← hW1]; exact (row_facts (new_row rfl)).1 0
  have y1 : W1.cell? ⟨w.heap.size, 1, none⟩ = some (.int .i64 t.T) := by rw [← hW1]; exact (row_facts (new_row rfl)).1 1
  have y2 : W1.cell? ⟨w.heap.size, 2, none⟩ = some (.slice a t.op.length c) := by rw [← hW1]; exact (row_facts (new_row rfl)).1 2
  have y3 : W1.cell? ⟨w.heap.size, 3, none⟩ = some (.slice wa t.ws.length wc) := by rw [← hW1]; exact (row_facts (new_row rfl)).1 3
  have hBW : Bel w W1 := by rw [← hW1]; exact (Bel.refl w).alloc _
  have HSM1 : Hid (SM w0 W1 base ob t.T.toNat (t.C.toNat + 1) rb W1 l0 h0) := Lib.hid ⟨HSM0.out.sp.bel hBW, HSM0.out.bel.trans hBW, Nat.le_refl _, fun _ _ _ => rfl⟩
  have HFIN := Lib.hid (fun wr lo hi (h : SM w0 W1 base ob t.T.toNat (t.C.toNat + 1) rb wr lo hi) => (show SM w0 w base ob t.T.toNat (t.C.toNat + 1) rb wr lo hi from
    ⟨h.sp, h.bel, Nat.le_trans hBW.szle h.sz, fun k hk hq => (h.keep k (Nat.lt_of_lt_of_le hk hBW.szle) hq).trans (hBW.below.block k hk)⟩))
  have HY := Lib.hid (And.intro y0 (And.intro y1 (And.intro y2 y3)))
  clear hW1 y0 y1 y2 y3 hBW
  go_loopw [5] (fun s5 wr => ∃ (lo hi : Nat → Nat → Int) (ch : Bool), s5 = .bool ch ∧ SM w0 W1 base ob t.T.toNat (t.C.toNat + 1) rb wr lo hi ∧ Head t l0 h0 lo hi ch) (fun s5 wr => (roomW t.T.toNat (t.C.toNat + 1) rb wr + 100000).toNat + flagN s5)
  case atStart => exact ⟨l0, h0, true, rfl, HSM1.out, Head.start HBX.out⟩
  case round =>
    obtain ⟨lS, hS, c0, rfl, hM, hH⟩ := hrel
    have HRW := Lib.hid (show roomW t.T.toNat (t.C.toNat + 1) rb wr = room t.T.toNat (t.C.toNat + 1) lS hS from roomW_eq hM.sp)
    have HM := Lib.hid hM
    have HH := Lib.hid hH
    have HBS := Lib.hid hH.bnd
    clear hH
    cases c0 with
    | true =>
      clear hM
      go_wp2
      go_loopw [5, 6] (fun s5 s6 wi => ∃ (lo hi : Nat → Nat → Int) (ch : Bool) (i : Nat), i ≤ t.T.toNat ∧ s5 = .bool ch ∧ s6 = .int .i64 i ∧ SM w0 W1 base ob t.T.toNat (t.C.toNat + 1) rb wi lo hi ∧ In2 t l0 h0 lS hS lo hi i 0 ch) (fun _ s6 _ => t.T.toNat - (intOf s6).toNat)
      case atStart => exact ⟨lS, hS, false, 0, by omega, rfl, rfl, HM.out, In2.start HH.out⟩
      case round =>
        obtain ⟨lo, hi, ch, i, hiT, rfl, rfl, hM2, h2⟩ := hrel
        have x1 := hM2.cell zb HRL.out HY.out.2.1
        by_cases hlt : i < t.T.toNat
        · have hni : (i : Int) < t.T := by omega
          have HM2 := Lib.hid hM2
          have H2 := Lib.hid h2
          clear hM2 h2
          go_wp2
          go_loopw [5, 7] (fun s5 s7 wj => ∃ (lo hi : Nat → Nat → Int) (ch : Bool) (c : Nat), c ≤ t.C.toNat ∧ s5 = .bool ch ∧ s7 = .int .i64 c ∧ SM w0 W1 base ob t.T.toNat (t.C.toNat + 1) rb wj lo hi ∧ In2 t l0 h0 lS hS lo hi i c ch) (fun _ s7 _ => t.C.toNat - (intOf s7).toNat)
          case atStart => exact ⟨lo, hi, ch, 0, by omega, rfl, rfl, HM2.out, H2.out⟩
          case round =>
            clear x1
            obtain ⟨lo, hi, ch, c, hcC, rfl, rfl, hM3, h3⟩ := hrel
            have x0 := hM3.cell zb HRL.out HY.out.1
            by_cases hltc : c < t.C.toNat
            · have hnc : (c : Int) < t.C := by omega
              have o1 := hM3.sp.out i hlt
              have c1 := (hM3.sp.row i hlt).lo c (by omega)
              have c2 := (hM3.sp.row i hlt).hi c (by omega)
              have l1 := cell_lt o1
              have l2 := cell_lt c1
              have l3 := cell_lt x0
              have hic : (i : Int) < ((t.T.toNat : Nat) : Int) := by omega
              have hcc : (c : Int) < ((t.C.toNat + 1 : Nat) : Int) := by omega
              have HM3 := Lib.hid hM3
              have H3 := Lib.hid h3
              clear hM3 h3
              by_cases hck : hi i c < lo i c
              · have HNO := Lib.hid (H3.out.none i c hlt (by omega) hck)
                generalize lo i c = ll at *
                generalize hi i c = hh at *
                go_wp2
                refine wp_region_mixB (Plan.seq [0, 1, 2, 3, 4, 5, 6, 7, 8, 9, 10, 11, 12, 13, 14, 15, 16] .nil) (by kernel_rfl) (by kernel_rfl) (fun hcur => ?_)
                simp only [Plan.seq, Plan.fill, List.getD_cons_zero, List.getD_cons_succ, Nat.reduceLT, ↓reduceIte]
                apply mix_pure _ rfl
                · intro w' hw'
                  have hcr := hw'.cells
                  go_simp
                  rfl
                intro K hK
                go_simp
                refine hK _ ?_
                clear hK K
                apply mix_pure _ rfl
                · intro w' hw'
                  have hcr := hw'.cells
                  go_simp
                  rfl
                intro K hK
                go_simp
                refine hK _ ?_
                clear hK K
                apply mix_pure _ rfl
                · intro w' hw'
                  have hcr := hw'.cells
                  go_simp
                  rfl
                intro K hK
                go_simp
                refine hK _ ?_
                clear hK K
                apply mix_pure _ rfl
                · intro w' hw'
                  have hcr := hw'.cells
                  go_simp
                  rfl
                intro K hK
                go_simp
                refine hK _ ?_
                clear hK K
                apply mix_pure _ rfl
                · intro w' hw'
                  have hcr := hw'.cells
                  go_simp
                  rfl
                intro K hK
                go_simp
                refine hK _ ?_
                clear hK K
                apply mix_pure _ rfl
                · intro w' hw'
                  have hcr := hw'.cells
                  go_simp
                  rfl
                intro K hK
                go_simp
                refine hK _ ?_
                clear hK K
                apply mix_pure _ rfl
                · intro w' hw'
                  have hcr := hw'.cells
                  go_simp
                  rfl
                intro K hK
                go_simp
                refine hK _ ?_
                clear hK K
                apply mix_pure _ rfl
                · intro w' hw'
                  have hcr := hw'.cells
                  go_simp
                  rfl
                intro K hK
                go_simp
                refine hK _ ?_
                clear hK K
                apply mix_pure _ rfl
                · intro w' hw'
                  have hcr := hw'.cells
                  go_simp
                  rfl
                intro K hK
                go_simp
                refine hK _ ?_
                clear hK K
                apply mix_pure _ rfl
                · intro w' hw'
                  have hcr := hw'.cells
                  go_simp
                  rfl
                intro K hK
                go_simp
                refine hK _ ?_
                clear hK K
                apply mix_pure _ rfl
                · intro w' hw'
                  have hcr := hw'.cells
                  go_simp
                  rfl
                intro K hK
                go_simp
                refine hK _ ?_
                clear hK K
                apply mix_pure _ rfl
                · intro w' hw'
                  have hcr := hw'.cells
                  go_simp
                  rfl
                intro K hK
                go_simp
                refine hK _ ?_
                clear hK K
                apply mix_pure _ rfl
                · intro w' hw'
                  have hcr := hw'.cells
                  go_simp
                  rfl
                intro K hK
                go_simp
                refine hK _ ?_
                clear hK K
                apply mix_pure _ rfl
                · intro w' hw'
                  have hcr := hw'.cells
                  go_simp
                  rfl
                intro K hK
                go_simp
                refine hK _ ?_
                clear hK K
                apply mix_pure _ rfl
                · intro w' hw'
                  have hcr := hw'.cells
                  go_simp
                  rfl
                intro K hK
                go_simp
                refine hK _ ?_
                clear hK K
                apply mix_pure _ rfl
                · intro w' hw'
                  have hcr := hw'.cells
                  go_simp
                  rfl
                intro K hK
                go_simp
                refine hK _ ?_
                clear hK K
                apply mix_pure _ rfl
                · intro w' hw'
                  have hcr := hw'.cells
                  go_simp
                  rfl
                intro K hK
                go_simp
                refine hK _ ?_
                clear hK K
                refine mix_nil ?_
                go_wp2
                go_ret
                exact ⟨false, lo, hi, rfl, HFIN.out _ _ _ (HM3.out.drop (by repeat (first | assumption | exact Bel.refl _ | refine Bel.drew ?_ | refine Bel.drewN ?_ _ | refine Bel.alloc ?_ _ | refine Bel.setCell ?_ (by simp <;> omega) _ | refine Bel.trans ?_ (by assumption)))), HNO.out⟩
              · have HCK := Lib.hid (show lo i c ≤ hi i c by omega)
                have hnlt : ¬ hi i c < lo i c := hck
                have HBD := Lib.hid (H3.out.bounds HBX.out HBS.out (by omega) (by omega))
                clear hck
                generalize hll : lo i c = ll at *
                generalize hhh : hi i c = hh at *
                have HLL := Lib.hid hll
                have HHH := Lib.hid hhh
                clear hll hhh
                go_wp2
                refine wp_region_mixB (Plan.seq [0, 1, 2, 3, 4, 5, 6, 7, 8, 9, 10, 11, 12, 13, 14, 15, 16] .nil) (by kernel_rfl) (by kernel_rfl) (fun hcur => ?_)
                simp only [Plan.seq, Plan.fill, List.getD_cons_zero, List.getD_cons_succ, Nat.reduceLT, ↓reduceIte]
                apply mix_pure _ rfl
                · intro w' hw'
                  have hcr := hw'.cells
                  go_simp
                  rfl
                intro K hK
                go_simp
                refine hK _ ?_
                clear hK K
                apply mix_pure _ rfl
                · intro w' hw'
                  have hcr := hw'.cells
                  go_simp
                  rfl
                intro K hK
                go_simp
                refine hK _ ?_
                clear hK K
                apply mix_pure _ rfl
                · intro w' hw'
                  have hcr := hw'.cells
                  go_simp
                  rfl
                intro K hK
                go_simp
                refine hK _ ?_
                clear hK K
                apply mix_pure _ rfl
                · intro w' hw'
                  have hcr := hw'.cells
                  go_simp
                  rfl
                intro K hK
                go_simp
                refine hK _ ?_
                clear hK K
                apply mix_pure _ rfl
                · intro w' hw'
                  have hcr := hw'.cells
                  go_simp
                  rfl
                intro K hK
                go_simp
                refine hK _ ?_
                clear hK K
                apply mix_pure _ rfl
                · intro w' hw'
                  have hcr := hw'.cells
                  go_simp
                  rfl
                intro K hK
                go_simp
                refine hK _ ?_
                clear hK K
                apply mix_pure _ rfl
                · intro w' hw'
                  have hcr := hw'.cells
                  go_simp
                  rfl
                intro K hK
                go_simp
                refine hK _ ?_
                clear hK K
                apply mix_pure _ rfl
                · intro w' hw'
                  have hcr := hw'.cells
                  go_simp
                  rfl
                intro K hK
                go_simp
                refine hK _ ?_
                clear hK K
                apply mix_pure _ rfl
                · intro w' hw'
                  have hcr := hw'.cells
                  go_simp
                  rfl
                intro K hK
                go_simp
                refine hK _ ?_
                clear hK K
                apply mix_pure _ rfl
                · intro w' hw'
                  have hcr := hw'.cells
                  go_simp
                  rfl
                intro K hK
                go_simp
                refine hK _ ?_
                clear hK K
                apply mix_pure _ rfl
                · intro w' hw'
                  have hcr := hw'.cells
                  go_simp
                  rfl
                intro K hK
                go_simp
                refine hK _ ?_
                clear hK K
                apply mix_pure _ rfl
                · intro w' hw'
                  have hcr := hw'.cells
                  go_simp
                  rfl
                intro K hK
                go_simp
                refine hK _ ?_
                clear hK K
                apply mix_pure _ rfl
                · intro w' hw'
                  have hcr := hw'.cells
                  go_simp
                  rfl
                intro K hK
                go_simp
                refine hK _ ?_
                clear hK K
                apply mix_pure _ rfl
                · intro w' hw'
                  have hcr := hw'.cells
                  go_simp
                  rfl
                intro K hK
                go_simp
                refine hK _ ?_
                clear hK K
                apply mix_pure _ rfl
                · intro w' hw'
                  have hcr := hw'.cells
                  go_simp
                  rfl
                intro K hK
                go_simp
                refine hK _ ?_
                clear hK K
                apply mix_pure _ rfl
                · intro w' hw'
                  have hcr := hw'.cells
                  go_simp
                  rfl
                intro K hK
                go_simp
                refine hK _ ?_
                clear hK K
                apply mix_pure _ rfl
                · intro w' hw'
                  have hcr := hw'.cells
                  go_simp
                  rfl
                intro K hK
                go_simp
                refine hK _ ?_
                clear hK K
                refine mix_nil ?_
                have HM4 := Lib.hid (HM3.out.drop hcur)
                have x0 := HM4.out.cell zb HRL.out HY.out.1
                clear o1 c1 c2 l1 l2 l3 hcur
                go_wp2_with fail
                refine (diff_sm hbase (qA i c) (qA_ok hlt hltc) HM4.out HBD.out rfl rfl rfl (by show _ = ((c + 1 : Nat) : Int); omega) rfl rfl).mono ?_
                rintro e w5 ⟨rfl, hM5, hz5⟩
                have HM5 := Lib.hid hM5
                clear x0 hM5 hz5
                by_cases hi0 : i = 0
                · have HNX := Lib.hid (show In2 t l0 h0 lS hS ((qA i c).lo lo) ((qA i c).hi hi) i (c + 1) ((qA i c).ch lo hi || ch) by
                    subst hi0
                    exact H3.out.fin0 HBX.out hlt hltc (by rw [HLL.out, HHH.out]; exact HCK.out))
                  have hi3 : ((i : Int) == 0) = true := by simp [hi0]
                  clear hi0
                  generalize hcA : (qA i c).ch lo hi = cA at *
                  have HCA := Lib.hid hcA
                  clear hcA
                  cases cA
                  all_goals
                    go_wp2
                    go_roundw
                    case rel => exact ⟨_, _, _, c + 1, by omega, rfl, by go_num, HM5.out, HNX.out⟩
                    case measure => simp [intOf]; omega
                · have HNX := Lib.hid (H3.out.fin1 HBX.out (by omega) hlt hltc (by rw [HLL.out, HHH.out]; exact HCK.out))
                  have hBD1 := (H3.out.stepA hlt hltc).1
                  have HBD1 := Lib.hid (fun a b => (show (0 ≤ (qA i c).lo lo a b ∧ (qA i c).lo lo a b ≤ 5000) ∧ -5000 ≤ (qA i c).hi hi a b ∧ (qA i c).hi hi a b ≤ 40 by
                    have h1 := hBD1.bnd 2000 (by omega) HBS.out a b
                    have h2 := hBD1.slo a b
                    have h3 := hBD1.zlo a b
                    have h4 := hBD1.shi a b
                    have h5 := hBD1.zhi a b
                    have h6 := HBX.out.l a b
                    have h7 := HBX.out.h a b
                    omega))
                  clear hBD1
                  have hi1 : IntKind.i64.wrap ((i : Int) - 1) = ((i - 1 : Nat) : Int) := by rw [IntWalk.i64_in _ (by omega)]; omega
                  have hi2 : (i : Int) ≠ 0 := by omega
                  have hi3 : ((i : Int) == 0) = false := by simpa using hi2
                  have hi1l : i - 1 < t.op.length := by have := HLO.out; omega
                  obtain ⟨k1, k2⟩ := HC.out (i - 1) hi1l
                  replace k1 := HM5.out.bel.cell k1
                  have HK2 := Lib.hid k2
                  have x2 := HM5.out.cell zb HRL.out HY.out.2.2.1
                  clear k2
                  generalize hcA : (qA i c).ch lo hi = cA at *
                  have HCA := Lib.hid hcA
                  have HQB := Lib.hid (show (qB t i c).high = if inB (atL t.op (i - 1)) c then 40 else 0 from rfl)
                  clear hcA
                  cases hin : inB (atL t.op (i - 1)) c
                  all_goals
                    have HIN := Lib.hid (fun wx hx => (In_any (rv (i - 1)) (atL t.op (i - 1)) c wx hx))
                    rw [hin] at HIN HQB
                    clear hin
                    cases cA
                    all_goals
                      go_wp2_with fail
                      refine (HIN.out _ (HK2.out.bel HM5.out.bel)).mono ?_
                      rintro e w6 ⟨rfl, rfl⟩
                      go_wp2_with fail
                      refine (diff_sm hbase (qB t i c) (qB_ok (by omega) hlt hltc) HM5.out HBD1.out rfl rfl rfl rfl rfl (by rw [HQB.out]; rfl)).mono ?_
                      rintro e w7 ⟨rfl, hM7, hz7⟩
                      have HM7 := Lib.hid hM7
                      clear hM7 hz7 x2 k1
                      generalize hcB : (qB t i c).ch ((qA i c).lo lo) ((qA i c).hi hi) = cB at *
                      clear hcB
                      cases cB
                      all_goals
                        go_wp2
                        go_roundw
                        case rel => exact ⟨_, _, _, c + 1, by omega, rfl, by go_num, HM7.out, HNX.out⟩
                        case measure => simp [intOf]; omega
            · have hcE : c = t.C.toNat := by omega
              have HM3 := Lib.hid hM3
              have H3 := Lib.hid (h3.row (by omega) (by omega))
              clear hM3 h3
              go_wp2
              go_roundw
              case rel => exact ⟨lo, hi, ch, i + 1, by omega, rfl, by go_num, HM3.out, H3.out⟩
              case measure => simp [intOf]; omega
        · have hiE : ¬ (i : Int) < t.T := by omega
          have HM2 := Lib.hid hM2
          have H2 := Lib.hid (InW.start h2 (by omega) (by omega))
          have x3 := hM2.cell zb HRL.out HY.out.2.2.2
          clear hM2 h2
          go_wp2
          go_loopw [5, 9] (fun s5 s9 wj => ∃ (lo hi : Nat → Nat → Int) (ch : Bool) (k : Nat), k ≤ t.ws.length ∧ s5 = .bool ch ∧ s9 = .int .i64 k ∧ SM w0 W1 base ob t.T.toNat (t.C.toNat + 1) rb wj lo hi ∧ InW t l0 h0 lS hS lo hi k ch) (fun _ s9 _ => t.ws.length - (intOf s9).toNat)
          case atStart => exact ⟨lo, hi, ch, 0, by omega, rfl, rfl, HM2.out, H2.out⟩
          case round =>
            clear x1 x3
            obtain ⟨lo, hi, ch, k, hkl, rfl, rfl, hM3, h3⟩ := hrel
            have x3 := hM3.cell zb HRL.out HY.out.2.2.2
            by_cases hltk : k < t.ws.length
            · have hnk : (k : Int) < (t.ws.length : Int) := by omega
              obtain ⟨u0, u1, u2, u3⟩ := HWC.out k hltk
              replace u0 := hM3.bel.cell u0
              replace u1 := hM3.bel.cell u1
              replace u2 := hM3.bel.cell u2
              replace u3 := hM3.bel.cell u3
              have HM3 := Lib.hid hM3
              have HBD := Lib.hid (h3.bounds HBX.out HBS.out (by omega))
              have HNX := Lib.hid (h3.step HF.out hltk)
              obtain ⟨⟨a1, a2⟩, ⟨a3, a4⟩, a5, a6, a7⟩ := HF.out.word k hltk
              have hwc : IntKind.i64.wrap ((atW t.ws k).chamber + 1) = (atW t.ws k).chamber + 1 := IntWalk.i64_in _ (by omega)
              clear hM3 h3
              go_wp2_with fail
              refine (diff_sm hbase (qW (atW t.ws k)) (qW_ok HF.out hltk) (HM3.out.drop (by repeat (first | assumption | exact Bel.refl _ | refine Bel.drew ?_ | refine Bel.drewN ?_ _ | refine Bel.alloc ?_ _ | refine Bel.setCell ?_ (by simp <;> omega) _ | refine Bel.trans ?_ (by assumption)))) HBD.out (by show _ = (((atW t.ws k).time.toNat : Nat) : Int); omega) (by show _ = (((atW t.ws k).chamber.toNat : Nat) : Int); omega) (by show _ = (((atW t.ws k).time.toNat : Nat) : Int); omega) (by show _ = (((atW t.ws k).chamber.toNat + 1 : Nat) : Int); omega) rfl rfl).mono ?_
              rintro e w7 ⟨rfl, hM7, hz7⟩
              have HM7 := Lib.hid hM7
              clear hM7 hz7 u0 u1 u2 u3 x3
              generalize hcB : (qW (atW t.ws k)).ch lo hi = cB at *
              clear hcB
              cases cB
              all_goals
                go_wp2
                go_roundw
                case rel => exact ⟨_, _, _, k + 1, by omega, rfl, by go_num, HM7.out, HNX.out⟩
                case measure => simp [intOf]; omega
            · have hkE : k = t.ws.length := by omega
              have HNX := Lib.hid (h3.head HF.out h8 HBX.out HH.out hkE)
              have HM3 := Lib.hid hM3
              have HMS := Lib.hid (show (ch = false ∧ room t.T.toNat (t.C.toNat + 1) lo hi = room t.T.toNat (t.C.toNat + 1) lS hS) ∨ (ch = true ∧ room t.T.toNat (t.C.toNat + 1) lo hi < room t.T.toNat (t.C.toNat + 1) lS hS) from by
                rcases h3.rnd.prog with ⟨q1, q2⟩ | q
                · exact .inl ⟨q1, sumF_congr fun a _ => sumF_congr fun b _ => by rw [(q2 a b).1, (q2 a b).2]⟩
                · exact .inr q)
              clear hM3 h3
              go_wp2
              go_roundw
              case rel => exact ⟨lo, hi, ch, rfl, HM3.out, HNX.out⟩
              case measure =>
                have r1 := roomW_eq HM3.out.sp
                have r2 := HRW.out
                have r3 := room_low (T := t.T.toNat) (n := t.C.toNat + 1) (by omega) (by omega) HNX.out.bnd
                have r4 := room_low (T := t.T.toNat) (n := t.C.toNat + 1) (by omega) (by omega) HBS.out
                rw [r1, r2]
                rcases HMS.out with ⟨q1, q2⟩ | ⟨q1, q2⟩
                · rw [q1, q2]; simp [flagN]
                · rw [q1]; simp [flagN]; omega
    | false =>
      have x1 := hM.cell zb HRL.out HY.out.2.1
      clear hM
      go_wp2
      go_loopw [11] (fun s11 wi => ∃ i : Nat, i ≤ t.T.toNat ∧ s11 = .int .i64 i ∧ SM w0 W1 base ob t.T.toNat (t.C.toNat + 1) rb wi lS hS ∧ (∀ a b, a < i → b < t.C.toNat + 1 → lS a b ≤ hS a b)) (fun s11 _ => t.T.toNat - (intOf s11).toNat)
      case atStart => exact ⟨0, by omega, rfl, HM.out, fun a b ha _ => by omega⟩
      case round =>
        clear x1
        obtain ⟨i, hiT, rfl, hM2, hle⟩ := hrel
        have x1 := hM2.cell zb HRL.out HY.out.2.1
        have x0 := hM2.cell zb HRL.out HY.out.1
        have HLE := Lib.hid hle
        clear hle
        by_cases hlt : i < t.T.toNat
        · have hni : (i : Int) < t.T := by omega
          have HM2 := Lib.hid hM2
          clear hM2
          go_wp2
          go_loopw [12] (fun s12 wj => ∃ c : Nat, c ≤ t.C.toNat + 1 ∧ s12 = .int .i64 c ∧ SM w0 W1 base ob t.T.toNat (t.C.toNat + 1) rb wj lS hS ∧ (∀ b, b < c → lS i b ≤ hS i b)) (fun s12 _ => t.C.toNat + 1 - (intOf s12).toNat)
          case atStart => exact ⟨0, by omega, rfl, HM2.out, fun b hb => by omega⟩
          case round =>
            clear x0 x1
            obtain ⟨c, hcC, rfl, hM3, hle3⟩ := hrel
            have x0 := hM3.cell zb HRL.out HY.out.1
            have HLE3 := Lib.hid hle3
            clear hle3
            by_cases hltc : c < t.C.toNat + 1
            · have hnc : (c : Int) ≤ t.C := by omega
              have o1 := hM3.sp.out i hlt
              have c1 := (hM3.sp.row i hlt).lo c hltc
              have c2 := (hM3.sp.row i hlt).hi c hltc
              have l1 := cell_lt o1
              have l2 := cell_lt c1
              have l3 := cell_lt x0
              have hic : (i : Int) < ((t.T.toNat : Nat) : Int) := by omega
              have hcc : (c : Int) < ((t.C.toNat + 1 : Nat) : Int) := by omega
              have HM3 := Lib.hid hM3
              clear hM3
              by_cases hck : hS i c < lS i c
              · have HNO := Lib.hid (HH.out.none i c hlt hltc hck)
                generalize lS i c = ll at *
                generalize hS i c = hh at *
                go_wp2
                refine wp_region_mixB (Plan.seq [0, 1, 2, 3, 4, 5, 6, 7, 8, 9, 10, 11, 12, 13, 14, 15, 16] .nil) (by kernel_rfl) (by kernel_rfl) (fun hcur => ?_)
                simp only [Plan.seq, Plan.fill, List.getD_cons_zero, List.getD_cons_succ, Nat.reduceLT, ↓reduceIte]
                apply mix_pure _ rfl
                · intro w' hw'
                  have hcr := hw'.cells
                  go_simp
                  rfl
                intro K hK
                go_simp
                refine hK _ ?_
                clear hK K
                apply mix_pure _ rfl
                · intro w' hw'
                  have hcr := hw'.cells
                  go_simp
                  rfl
                intro K hK
                go_simp
                refine hK _ ?_
                clear hK K
                apply mix_pure _ rfl
                · intro w' hw'
                  have hcr := hw'.cells
                  go_simp
                  rfl
                intro K hK
                go_simp
                refine hK _ ?_
                clear hK K
                apply mix_pure _ rfl
                · intro w' hw'
                  have hcr := hw'.cells
                  go_simp
                  rfl
                intro K hK
                go_simp
                refine hK _ ?_
                clear hK K
                apply mix_pure _ rfl
                · intro w' hw'
                  have hcr := hw'.cells
                  go_simp
                  rfl
                intro K hK
                go_simp
                refine hK _ ?_
                clear hK K
                apply mix_pure _ rfl
                · intro w' hw'
                  have hcr := hw'.cells
                  go_simp
                  rfl
                intro K hK
                go_simp
                refine hK _ ?_
                clear hK K
                apply mix_pure _ rfl
                · intro w' hw'
                  have hcr := hw'.cells
                  go_simp
                  rfl
                intro K hK
                go_simp
                refine hK _ ?_
                clear hK K
                apply mix_pure _ rfl
                · intro w' hw'
                  have hcr := hw'.cells
                  go_simp
                  rfl
                intro K hK
                go_simp
                refine hK _ ?_
                clear hK K
                apply mix_pure _ rfl
                · intro w' hw'
                  have hcr := hw'.cells
                  go_simp
                  rfl
                intro K hK
                go_simp
                refine hK _ ?_
                clear hK K
                apply mix_pure _ rfl
                · intro w' hw'
                  have hcr := hw'.cells
                  go_simp
                  rfl
                intro K hK
                go_simp
                refine hK _ ?_
                clear hK K
                apply mix_pure _ rfl
                · intro w' hw'
                  have hcr := hw'.cells
                  go_simp
                  rfl
                intro K hK
                go_simp
                refine hK _ ?_
                clear hK K
                apply mix_pure _ rfl
                · intro w' hw'
                  have hcr := hw'.cells
                  go_simp
                  rfl
                intro K hK
                go_simp
                refine hK _ ?_
                clear hK K
                apply mix_pure _ rfl
                · intro w' hw'
                  have hcr := hw'.cells
                  go_simp
                  rfl
                intro K hK
                go_simp
                refine hK _ ?_
                clear hK K
                apply mix_pure _ rfl
                · intro w' hw'
                  have hcr := hw'.cells
                  go_simp
                  rfl
                intro K hK
                go_simp
                refine hK _ ?_
                clear hK K
                apply mix_pure _ rfl
                · intro w' hw'
                  have hcr := hw'.cells
                  go_simp
                  rfl
                intro K hK
                go_simp
                refine hK _ ?_
                clear hK K
                apply mix_pure _ rfl
                · intro w' hw'
                  have hcr := hw'.cells
                  go_simp
                  rfl
                intro K hK
                go_simp
                refine hK _ ?_
                clear hK K
                apply mix_pure _ rfl
                · intro w' hw'
                  have hcr := hw'.cells
                  go_simp
                  rfl
                intro K hK
                go_simp
                refine hK _ ?_
                clear hK K
                refine mix_nil ?_
                go_wp2
                go_ret
                exact ⟨false, lS, hS, rfl, HFIN.out _ _ _ (HM3.out.drop (by repeat (first | assumption | exact Bel.refl _ | refine Bel.drew ?_ | refine Bel.drewN ?_ _ | refine Bel.alloc ?_ _ | refine Bel.setCell ?_ (by simp <;> omega) _ | refine Bel.trans ?_ (by assumption)))), HNO.out⟩
              · have HNX := Lib.hid (show ∀ b, b < c + 1 → lS i b ≤ hS i b from fun b hb => by
                  by_cases e : b = c
                  · rw [e]; omega
                  · exact HLE3.out b (by omega))
                generalize lS i c = ll at *
                generalize hS i c = hh at *
                go_wp2
                refine wp_region_mixB (Plan.seq [0, 1, 2, 3, 4, 5, 6, 7, 8, 9, 10, 11, 12, 13, 14, 15, 16] .nil) (by kernel_rfl) (by kernel_rfl) (fun hcur => ?_)
                simp only [Plan.seq, Plan.fill, List.getD_cons_zero, List.getD_cons_succ, Nat.reduceLT, ↓reduceIte]
                apply mix_pure _ rfl
                · intro w' hw'
                  have hcr := hw'.cells
                  go_simp
                  rfl
                intro K hK
                go_simp
                refine hK _ ?_
                clear hK K
                apply mix_pure _ rfl
                · intro w' hw'
                  have hcr := hw'.cells
                  go_simp
                  rfl
                intro K hK
                go_simp
                refine hK _ ?_
                clear hK K
                apply mix_pure _ rfl
                · intro w' hw'
                  have hcr := hw'.cells
                  go_simp
                  rfl
                intro K hK
                go_simp
                refine hK _ ?_
                clear hK K
                apply mix_pure _ rfl
                · intro w' hw'
                  have hcr := hw'.cells
                  go_simp
                  rfl
                intro K hK
                go_simp
                refine hK _ ?_
                clear hK K
                apply mix_pure _ rfl
                · intro w' hw'
                  have hcr := hw'.cells
                  go_simp
                  rfl
                intro K hK
                go_simp
                refine hK _ ?_
                clear hK K
                apply mix_pure _ rfl
                · intro w' hw'
                  have hcr := hw'.cells
                  go_simp
                  rfl
                intro K hK
                go_simp
                refine hK _ ?_
                clear hK K
                apply mix_pure _ rfl
                · intro w' hw'
                  have hcr := hw'.cells
                  go_simp
                  rfl
                intro K hK
                go_simp
                refine hK _ ?_
                clear hK K
                apply mix_pure _ rfl
                · intro w' hw'
                  have hcr := hw'.cells
                  go_simp
                  rfl
                intro K hK
                go_simp
                refine hK _ ?_
                clear hK K
                apply mix_pure _ rfl
                · intro w' hw'
                  have hcr := hw'.cells
                  go_simp
                  rfl
                intro K hK
                go_simp
                refine hK _ ?_
                clear hK K
                apply mix_pure _ rfl
                · intro w' hw'
                  have hcr := hw'.cells
                  go_simp
                  rfl
                intro K hK
                go_simp
                refine hK _ ?_
                clear hK K
                apply mix_pure _ rfl
                · intro w' hw'
                  have hcr := hw'.cells
                  go_simp
                  rfl
                intro K hK
                go_simp
                refine hK _ ?_
                clear hK K
                apply mix_pure _ rfl
                · intro w' hw'
                  have hcr := hw'.cells
                  go_simp
                  rfl
                intro K hK
                go_simp
                refine hK _ ?_
                clear hK K
                apply mix_pure _ rfl
                · intro w' hw'
                  have hcr := hw'.cells
                  go_simp
                  rfl
                intro K hK
                go_simp
                refine hK _ ?_
                clear hK K
                apply mix_pure _ rfl
                · intro w' hw'
                  have hcr := hw'.cells
                  go_simp
                  rfl
                intro K hK
                go_simp
                refine hK _ ?_
                clear hK K
                apply mix_pure _ rfl
                · intro w' hw'
                  have hcr := hw'.cells
                  go_simp
                  rfl
                intro K hK
                go_simp
                refine hK _ ?_
                clear hK K
                apply mix_pure _ rfl
                · intro w' hw'
                  have hcr := hw'.cells
                  go_simp
                  rfl
                intro K hK
                go_simp
                refine hK _ ?_
                clear hK K
                apply mix_pure _ rfl
                · intro w' hw'
                  have hcr := hw'.cells
                  go_simp
                  rfl
                intro K hK
                go_simp
                refine hK _ ?_
                clear hK K
                refine mix_nil ?_
                have HM4 := Lib.hid (HM3.out.drop hcur)
                clear o1 c1 c2 l1 l2 l3 x0 hcur
                go_wp2
                go_roundw
                case rel => exact ⟨c + 1, by omega, by go_num, HM4.out, HNX.out⟩
                case measure => simp [intOf]; omega
            · have hcE : c = t.C.toNat + 1 := by omega
              have HM3 := Lib.hid hM3
              have HNX := Lib.hid (show ∀ a b, a < i + 1 → b < t.C.toNat + 1 → lS a b ≤ hS a b from fun a b ha hb => by
                by_cases e : a = i
                · rw [e]; exact HLE3.out b (by omega)
                · exact HLE.out a b (by omega) hb)
              clear hM3
              go_wp2
              go_roundw
              case rel => exact ⟨i + 1, by omega, by go_num, HM3.out, HNX.out⟩
              case measure => simp [intOf]; omega
        · have HM2 := Lib.hid hM2
          clear hM2
          go_wp2
          go_ret
          exact ⟨true, lS, hS, rfl, HFIN.out _ _ _ HM2.out, HH.out.done HBX.out (fun a b ha hb => HLE.out a b (by omega) hb)⟩
end Go.Proofs.Ytoiajjdhgffdaaa
