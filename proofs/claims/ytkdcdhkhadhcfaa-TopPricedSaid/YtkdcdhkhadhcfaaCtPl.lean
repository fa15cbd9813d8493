/-
  cuts: plus, and the least of costs.
-/
import Derived.Test.YtkdcdhkhadhcfaaCtNo
import Derived.Test.YtkdcdhkhadhcfaaMix
import Derived.Deep.WholeRow
import Derived.Lib.MinMax
namespace Go.Proofs.Ytkdcdhkhadhcfaa
open Go Go.RowKit
set_option maxHeartbeats 4000000
set_option maxRecDepth 100000
attribute [local go_sem ↓] hide_ld hide_st
/-- Costs of which none is far below or above. -/
structure CB (c : List Int) : Prop where
  len : c.length = 31
  at_ : ∀ u, u < 31 → -(1099511627776 : Int) ≤ at0 c u ∧ at0 c u ≤ (1099511627776 : Int)
theorem co_at0 {w : World} {g : Nat} {l : List Int} (h : Bx w g (icells l)) (i : Nat) (hi : i < l.length) : w.cell? ⟨g, i, none⟩ = some (.int .i64 (at0 l i)) := bx_at0 h i hi
theorem co_set {w : World} {g : Nat} {l : List Int} (h : Bx w g (icells l)) {i : Nat} (hi : i < l.length) (x : Int) : Bx (w.setCell ⟨g, i, none⟩ (.int .i64 x)) g (icells (l.set i x)) := by
  unfold icells
  rw [List.map_set]
  exact h.set (by rw [icells_len]; exact hi) _
theorem storeV_new (c : List Int) (hl : c.length = 31) (w : World) (cs : Array Value) (hs : cs.size = 31) : (stV 164 ⟨w.heap.size, 0, none⟩ (costA c)).run Try.prog (w.alloc (.cells cs 164)) = .ok () (w.alloc (.cells (icells c).toArray 164)) :=
  run_storeVar_new w _ cs (icells c).toArray (by simpa [icells_len, hl] using infoCo) (by simp [icells_len, hl, hs]) (icells_one c)
theorem slice_arr (g m : Nat) (hm : m ≤ 31) (w : World) : (Instr.sliceAt 164 (.pointer (some ⟨g, 0, none⟩)) none (some (.int .i64 m)) none).run Try.prog w = .ok (.slice (some ⟨g, 0, none⟩) m 31) w := by
  obtain ⟨i1, hi1, _, hs1, _⟩ := info_parts mkInt
  have hu : Try.prog.underlying 164 = some (.array 31 3) := by kernel_rfl
  have hb : 0 ≤ (m : Int) ∧ (m : Int) ≤ ((31 : Nat) : Int) := by omega
  have hsz : (sizeOf 3).run Try.prog w = .ok 1 w := by simp [sizeOf, typeInfo, hi1, hs1]
  simp [Instr.sliceAt, run_underlying hu, Instr.sureAddr, Instr.sliceBounds, Instr.sliceBound, asIntOf, hsz, Result.andThen, Addr.add_mid, hm]
theorem slice_all (g : Nat) (w : World) : (Instr.sliceAt 164 (.pointer (some ⟨g, 0, none⟩)) none none none).run Try.prog w = .ok (.slice (some ⟨g, 0, none⟩) 31 31) w := by
  obtain ⟨i1, hi1, _, hs1, _⟩ := info_parts mkInt
  have hu : Try.prog.underlying 164 = some (.array 31 3) := by kernel_rfl
  have hsz : (sizeOf 3).run Try.prog w = .ok 1 w := by simp [sizeOf, typeInfo, hi1, hs1]
  simp [Instr.sliceAt, run_underlying hu, Instr.sureAddr, Instr.sliceBounds, hsz, Result.andThen, Addr.add_mid]
/-- The variables of plus. -/
structure PlSt (w : World) (gc gd gr go : Nat) (c d o : List Int) (q : World) : Prop where
  bel : Bel w q
  C : Bx q gc (icells c)
  D : Bx q gd (icells d)
  R : Bx q gr (icells zeroC)
  O : Bx q go (icells o)
theorem PlSt.go {w : World} {gc gd gr go : Nat} {c d o : List Int} {q q' : World} (h : PlSt w gc gd gr go c d o q) (k : Bel q q') : PlSt w gc gd gr go c d o q' := ⟨h.bel.trans k, h.C.bel k, h.D.bel k, h.R.bel k, h.O.bel k⟩
theorem PlSt.set {w : World} {gc gd gr go : Nat} {c d o : List Int} {q : World} (h : PlSt w gc gd gr go c d o q) (hg : w.heap.size ≤ go ∧ go ≠ gc ∧ go ≠ gd ∧ go ≠ gr) {i : Nat} (hi : i < o.length) (x : Int) :
    PlSt w gc gd gr go c d (o.set i x) (q.setCell ⟨go, i, none⟩ (.int .i64 x)) :=
  ⟨h.bel.setCell (p := ⟨go, i, none⟩) hg.1 _, h.C.other hg.2.1 _, h.D.other hg.2.2.1 _, h.R.other hg.2.2.2 _, co_set h.O hi x⟩
theorem plus_any (c d : List Int) (w : World) (hc : CB c) (hd : CB d) : Calls Try.prog 116 #[costA c, costA d] w fun e w' => e = .returned (costA (plusC c d)) ∧ Bel w w' := by
  have HCB := Lib.hid hc.at_
  have HDB := Lib.hid hd.at_
  have HCL := Lib.hid hc.len
  have HDL := Lib.hid hd.len
  have HOL := Lib.hid (plOut_len c d)
  have HIL := Lib.hid (fun v o w => plIn_len c d v o w)
  have HO1 := Lib.hid (fun v => show plOut c d (v + 1) = plIn c d v (plOut c d v) (31 - v) from rfl)
  have HI1 := Lib.hid (fun v o w => show plIn c d v o (w + 1) = if at0 c v < (1099511627776 : Int) ∧ at0 d w < (1099511627776 : Int) then (plIn c d v o w).set (v + w) (min (at0 (plIn c d v o w) (v + w)) (at0 c v + at0 d w)) else plIn c d v o w from rfl)
  have HP := Lib.hid (show plusC c d = plOut c d 31 from rfl)
  have HO0 := Lib.hid (show plOut c d 0 = noC.set 0 (1099511627776 : Int) from rfl)
  clear hc hd
  generalize plusC c d = PC at *
  show Calls Try.prog 116 #[.agg (icells c).toArray, .agg (icells d).toArray] w _
  go_enter Try.func116, Try.ntmps116
  go_wp2_with fail
  generalize hW : World.alloc _ _ = W0
  have b0 : Bel w W0 := by rw [← hW]; exact (((Bel.refl w).alloc _).alloc _).alloc _
  have bc : Bx W0 w.heap.size (icells c) := by rw [← hW]; exact ((Bx.new (cs := icells c) rfl).bel ((Bel.refl _).alloc _)).bel ((Bel.refl _).alloc _)
  have bd : Bx W0 (w.heap.size + 1) (icells d) := by rw [← hW]; exact (Bx.new (cs := icells d) (by simp)).bel ((Bel.refl _).alloc _)
  have br : Bx W0 (w.heap.size + 1 + 1) (icells zeroC) := by rw [← hW]; exact (Bx.new (cs := icells zeroC) (by simp))
  have z0 : W0.heap.size = w.heap.size + 1 + 1 + 1 := by rw [← hW]; simp only [World.size_alloc]
  clear hW
  refine (nothing_any _).mono ?_
  rintro e w1 ⟨rfl, hb⟩
  have hsn := storeV_new noC noC_len w1
  go_upto_region 2 with fail
  generalize hW : World.alloc _ _ = W1
  have b1 : Bel W0 W1 := by rw [← hW]; exact hb.alloc _
  have HS0 : Hid (PlSt w w.heap.size (w.heap.size + 1) (w.heap.size + 1 + 1) w1.heap.size c d noC W1) := Lib.hid ⟨b0.trans b1, bc.bel b1, bd.bel b1, br.bel b1, by rw [← hW]; exact Bx.new rfl⟩
  have hz : w.heap.size + 1 + 1 + 1 ≤ w1.heap.size := by have := hb.szle; omega
  clear hW hb b0 b1 bc bd br z0 hsn
  obtain ⟨go, hgo⟩ : ∃ go, go = w1.heap.size := ⟨_, rfl⟩
  rw [← hgo] at hz HS0 ⊢
  have hg : w.heap.size ≤ go ∧ go ≠ w.heap.size ∧ go ≠ w.heap.size + 1 ∧ go ≠ w.heap.size + 1 + 1 := by omega
  clear hgo hz
  have HG := Lib.hid hg
  clear hg
  have o0 := co_at0 HS0.out.O 0 (by rw [noC_len]; omega)
  have of := HS0.out.O.f
  have lo := HS0.out.O.lt
  go_wp2
  have HS1 : Hid (PlSt w w.heap.size (w.heap.size + 1) (w.heap.size + 1 + 1) go c d (plOut c d 0) (W1.setCell ⟨go, 0, none⟩ (.int .i64 (1099511627776 : Int)))) := Lib.hid (by rw [HO0.out]; exact HS0.out.set HG.out (by rw [noC_len]; omega) _)
  generalize World.setCell _ _ _ = W2 at *
  clear HS0 o0 of lo HO0
  go_loopw [10] (fun i wr => ∃ v : Nat, v ≤ 31 ∧ i = .int .i64 v ∧ Hid (PlSt w w.heap.size (w.heap.size + 1) (w.heap.size + 1 + 1) go c d (plOut c d v) wr)) (fun i _ => 31 - (intOf i).toNat)
  case atStart => exact ⟨0, by omega, rfl, HS1⟩
  case round =>
    obtain ⟨v, hv, rfl, HS⟩ := hrel
    by_cases hlt : v < 31
    · have hlti : (v : Int) < 31 := by omega
      have HOV := Lib.hid (HOL.out v)
      have HON := Lib.hid (HO1.out v)
      have HIV := Lib.hid (fun k => (HIL.out v (plOut c d v) k).trans HOV.out)
      have HIN := Lib.hid (fun k => HI1.out v (plOut c d v) k)
      have HI0 := Lib.hid (show plIn c d v (plOut c d v) 0 = plOut c d v from rfl)
      have hcv := HCB.out v hlt
      clear HS1 HOL HO1 HIL HI1 HP
      have hsub : IntKind.i64.wrap (31 - (v : Int)) = ((31 - v : Nat) : Int) := by rw [IntWalk.i64_in]; all_goals omega
      obtain ⟨m, hm⟩ : ∃ m, m = 31 - v := ⟨_, rfl⟩
      rw [← hm] at hsub HON
      have hm31 : m ≤ 31 := by omega
      have hvm : v + m = 31 := by omega
      clear hm
      have hsl := fun wx => slice_arr (w.heap.size + 1) m hm31 wx
      go_wp2
      go_loopw [17] (fun i wr => ∃ k : Nat, k ≤ m ∧ i = .int .i64 k ∧ Hid (PlSt w w.heap.size (w.heap.size + 1) (w.heap.size + 1 + 1) go c d (plIn c d v (plOut c d v) k) wr)) (fun i _ => m - (intOf i).toNat)
      case atStart => exact ⟨0, by omega, rfl, by rw [HI0.out]; exact HS⟩
      case round =>
        obtain ⟨k, hk, rfl, HS2⟩ := hrel
        clear HS hsl hsub
        by_cases hlk : k < m
        · have hlki : (k : Int) < (m : Int) := by omega
          have hk31 : (k : Int) < 31 := by omega
          have HIK := Lib.hid (HIV.out k)
          have HNK := Lib.hid (HIN.out k)
          have hdk := HDB.out k (by omega)
          have c0 := co_at0 HS2.out.C v (by rw [HCL.out]; omega)
          have d0 := co_at0 HS2.out.D k (by rw [HDL.out]; omega)
          have lc := HS2.out.C.lt
          have ld := HS2.out.D.lt
          clear HIV HIN HI0 HON HOV
          generalize plIn c d v (plOut c d v) k = o at *
          by_cases h1 : at0 c v < (1099511627776 : Int)
          · have g1 : decide (at0 c v < (1099511627776 : Int)) = true := decide_eq_true h1
            by_cases h2 : at0 d k < (1099511627776 : Int)
            · have g2 : decide (at0 d k < (1099511627776 : Int)) = true := decide_eq_true h2
              have HR := Lib.hid (HNK.out.trans (if_pos ⟨h1, h2⟩))
              have HAC := Lib.hid (fun q (h : PlSt w w.heap.size (w.heap.size + 1) (w.heap.size + 1 + 1) go c d o q) => show q.cell? ⟨w.heap.size, v, none⟩ = some (.int .i64 (at0 c v)) ∧ q.cell? ⟨w.heap.size + 1, k, none⟩ = some (.int .i64 (at0 d k)) ∧ q.cell? ⟨go, v + k, none⟩ = some (.int .i64 (at0 o (v + k))) from ⟨co_at0 h.C v (by rw [HCL.out]; omega), co_at0 h.D k (by rw [HDL.out]; omega), co_at0 h.O (v + k) (by rw [HIK.out]; omega)⟩)
              have HSE := Lib.hid (fun x => (HS2.out.set HG.out (i := v + k) (by rw [HIK.out]; omega) x))
              have hvk : (v : Int) + (k : Int) < 31 := by omega
              have hvk0 : 0 ≤ (v : Int) + (k : Int) := by omega
              have htn : ((v : Int) + (k : Int)).toNat = v + k := by omega
              clear HNK h1 h2
              generalize at0 c v = x at *
              generalize at0 d k = y at *
              generalize at0 o (v + k) = z at *
              go_wp2_with fail
              refine wp_region_mixTC (Plan.seq [0, 1, 2, 3, 4, 5, 6, 7, 8, 9, 10, 11, 12, 13, 14, 15, 16] .nil) (fun q => PlSt w w.heap.size (w.heap.size + 1) (w.heap.size + 1 + 1) go c d o q) (by kernel_rfl) (by kernel_rfl) (HS2.out.go (Bel.refl _).drew) (fun hcur => ?_)
              simp only [Plan.seq, Plan.fill, List.getD_cons_zero, List.getD_cons_succ, Nat.reduceLT, ↓reduceIte]
              apply mix_pure _ rfl
              · intro w' hw'
                obtain ⟨c1, d1, o1⟩ := HAC.out _ hw'
                go_simp
                rfl
              intro K hK
              go_simp
              refine hK _ ?_
              clear hK K
              apply mix_pure _ rfl
              · intro w' hw'
                obtain ⟨c1, d1, o1⟩ := HAC.out _ hw'
                go_simp
                rfl
              intro K hK
              go_simp
              refine hK _ ?_
              clear hK K
              apply mix_pure _ rfl
              · intro w' hw'
                obtain ⟨c1, d1, o1⟩ := HAC.out _ hw'
                go_simp
                first | (rw [IntWalk.i64_in]; all_goals first | omega | rfl) | rfl
              intro K hK
              go_simp
              refine hK _ ?_
              clear hK K
              apply mix_pure _ rfl
              · intro w' hw'
                obtain ⟨c1, d1, o1⟩ := HAC.out _ hw'
                go_simp
                rfl
              intro K hK
              go_simp
              refine hK _ ?_
              clear hK K
              apply mix_pure _ rfl
              · intro w' hw'
                obtain ⟨c1, d1, o1⟩ := HAC.out _ hw'
                go_simp
                rfl
              intro K hK
              go_simp
              refine hK _ ?_
              clear hK K
              apply mix_pure _ rfl
              · intro w' hw'
                obtain ⟨c1, d1, o1⟩ := HAC.out _ hw'
                go_simp
                first | (rw [IntWalk.i64_in]; all_goals first | omega | rfl) | rfl
              intro K hK
              go_simp
              refine hK _ ?_
              clear hK K
              apply mix_pure _ rfl
              · intro w' hw'
                obtain ⟨c1, d1, o1⟩ := HAC.out _ hw'
                go_simp
                rfl
              intro K hK
              go_simp
              refine hK _ ?_
              clear hK K
              apply mix_pure _ rfl
              · intro w' hw'
                obtain ⟨c1, d1, o1⟩ := HAC.out _ hw'
                go_simp
                rfl
              intro K hK
              go_simp
              refine hK _ ?_
              clear hK K
              apply mix_pure _ rfl
              · intro w' hw'
                obtain ⟨c1, d1, o1⟩ := HAC.out _ hw'
                go_simp
                rfl
              intro K hK
              go_simp
              refine hK _ ?_
              clear hK K
              apply mix_pure _ rfl
              · intro w' hw'
                obtain ⟨c1, d1, o1⟩ := HAC.out _ hw'
                go_simp
                rfl
              intro K hK
              go_simp
              refine hK _ ?_
              clear hK K
              apply mix_pure _ rfl
              · intro w' hw'
                obtain ⟨c1, d1, o1⟩ := HAC.out _ hw'
                go_simp
                rfl
              intro K hK
              go_simp
              refine hK _ ?_
              clear hK K
              apply mix_pure _ rfl
              · intro w' hw'
                obtain ⟨c1, d1, o1⟩ := HAC.out _ hw'
                go_simp
                rfl
              intro K hK
              go_simp
              refine hK _ ?_
              clear hK K
              apply mix_pure _ rfl
              · intro w' hw'
                obtain ⟨c1, d1, o1⟩ := HAC.out _ hw'
                go_simp
                rfl
              intro K hK
              go_simp
              refine hK _ ?_
              clear hK K
              apply mix_pure _ rfl
              · intro w' hw'
                obtain ⟨c1, d1, o1⟩ := HAC.out _ hw'
                go_simp
                rfl
              intro K hK
              go_simp
              refine hK _ ?_
              clear hK K
              apply mix_pure _ rfl
              · intro w' hw'
                obtain ⟨c1, d1, o1⟩ := HAC.out _ hw'
                go_simp
                first | (rw [IntWalk.i64_in]; all_goals first | omega | rfl) | rfl
              intro K hK
              go_simp
              refine hK _ ?_
              clear hK K
              apply mix_pure _ rfl
              · intro w' hw'
                obtain ⟨c1, d1, o1⟩ := HAC.out _ hw'
                go_simp
                rfl
              intro K hK
              go_simp
              refine hK _ ?_
              clear hK K
              apply mix_pure _ rfl
              · intro w' hw'
                obtain ⟨c1, d1, o1⟩ := HAC.out _ hw'
                go_simp
                rfl
              intro K hK
              go_simp
              refine hK _ ?_
              clear hK K
              refine mix_tailK rfl (fun K hK => ?_)
              obtain ⟨c1, d1, o1⟩ := HAC.out _ hcur
              have of := hcur.O.f
              have lo := hcur.O.lt
              go_simp
              generalize hW7 : World.drew _ = W7
              have HF : Hid (PlSt w w.heap.size (w.heap.size + 1) (w.heap.size + 1 + 1) go c d (o.set (v + k) (min z (x + y))) W7) := Lib.hid (by rw [← hW7]; exact (HSE.out _).go (Bel.refl _).drew)
              refine hK _ _ ?_
              clear hK K hW7 hcur c1 d1 o1 of lo
              go_wp2
              go_roundw
              case rel => exact ⟨k + 1, by omega, by go_num, by rw [HR.out]; exact HF⟩
              case measure => simp [intOf]; omega
            · have g2 : decide (at0 d k < (1099511627776 : Int)) = false := decide_eq_false h2
              have HR := Lib.hid (HNK.out.trans (if_neg (fun q => h2 q.2)))
              clear HNK h1 h2
              generalize at0 c v = x at *
              generalize at0 d k = y at *
              go_wp2
              go_roundw
              case rel => exact ⟨k + 1, by omega, by go_num, by rw [HR.out]; exact HS2⟩
              case measure => simp [intOf]; omega
          · have g1 : decide (at0 c v < (1099511627776 : Int)) = false := decide_eq_false h1
            have HR := Lib.hid (HNK.out.trans (if_neg (fun q => h1 q.1)))
            clear HNK h1
            generalize at0 c v = x at *
            generalize at0 d k = y at *
            go_wp2
            go_roundw
            case rel => exact ⟨k + 1, by omega, by go_num, by rw [HR.out]; exact HS2⟩
            case measure => simp [intOf]; omega
        · have hlki : ¬ (k : Int) < (m : Int) := by omega
          obtain rfl : k = m := by omega
          rw [← HON.out] at HS2
          go_wp2
          go_roundw
          case rel => exact ⟨v + 1, by omega, by go_num, HS2⟩
          case measure => simp [intOf]; omega
    · have hlti : ¬ (v : Int) < 31 := by omega
      obtain rfl : v = 31 := by omega
      have hol := HOL.out 31
      rw [← HP.out] at HS hol
      have hld := loadV_co (bx_range HS.out.O) hol
      have hth : wr.there (w.heap.size + 1 + 1) 0 31 := by have := bx_there HS.out.R; rw [icells_len] at this; exact this
      have hst := storeV_co hth hol
      have HRR : Hid (Bx (wr.setCells (w.heap.size + 1 + 1) 0 (icells PC)) (w.heap.size + 1 + 1) (icells PC)) := Lib.hid (HS.out.R.row (by rw [icells_len, icells_len, hol]; rfl))
      have hld2 := loadV_co (bx_range HRR.out) hol
      have HOLD := Lib.hid hol
      clear HOL HO1 HIL HI1 HS1 hth hol
      go_wp2
      refine bodyPost_ret (v := costA PC) ?_ rfl ⟨rfl, Bel.setCells (by omega) _ _ _ HS.out.bel⟩
      simp [results, Try.f116, asAddr, hide_ld, hld2]
/-! the least of a slice -/
theorem min_any (c : List Int) (g : Nat) (w : World) (hl : c.length = 31) (hx : Bx w g (icells c)) : Calls Try.prog 117 #[.slice (some ⟨g, 0, none⟩) 31 31] w fun e w' => e = .returned (.int .i64 (minC c)) ∧ w' = w := by
  have HX := Lib.hid (fun i (hi : i < 31) => co_at0 hx i (by rw [hl]; exact hi))
  have HM := Lib.hid (fun k => show minTo c (k + 1) = min (minTo c k) (at0 c (k + 1)) from rfl)
  have HM0 := Lib.hid (show minTo c 0 = at0 c 0 from rfl)
  have HMC := Lib.hid (show minC c = minTo c 30 from rfl)
  have x0 := HX.out 0 (by omega)
  have lx := cell_lt x0
  rw [← HM0.out] at x0
  clear hx hl HM0
  generalize minC c = R at *
  go_enter Try.func117, Try.ntmps117
  go_wp2
  go_loopw [3, 4] (fun n i wr => ∃ k : Nat, k ≤ 30 ∧ i = .int .i64 ((k : Int) + 1) ∧ n = .int .i64 (minTo c k) ∧ wr = w) (fun _ i _ => 31 - (intOf i).toNat)
  case atStart => exact ⟨0, by omega, rfl, rfl, rfl⟩
  case round =>
    obtain ⟨k, hk, rfl, rfl, rfl⟩ := hrel
    clear x0
    by_cases hlt : k < 30
    · have hlti : (k : Int) + 1 < 31 := by omega
      have hlti0 : 0 ≤ (k : Int) + 1 := by omega
      have htn : ((k : Int) + 1).toNat = k + 1 := by omega
      have k0 := HX.out (k + 1) (by omega)
      have HN := Lib.hid (HM.out k)
      clear HX HM HMC
      generalize minTo c k = z at *
      generalize at0 c (k + 1) = y at *
      go_wp2
      go_roundw
      case rel => exact ⟨k + 1, by omega, by go_num, by rw [HN.out], by trivial⟩
      case measure => simp [intOf]; omega
    · have hlti : ¬ (k : Int) + 1 < 31 := by omega
      obtain rfl : k = 30 := by omega
      rw [← HMC.out]
      clear HX HM HMC
      go_wp2
      go_ret
      exact ⟨rfl, rfl⟩
end Go.Proofs.Ytkdcdhkhadhcfaa
