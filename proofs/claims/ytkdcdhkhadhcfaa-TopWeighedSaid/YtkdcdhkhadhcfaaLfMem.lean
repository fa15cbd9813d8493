/-
  lifts: seas in memory; within; the reference's Check; the program's Check.
-/
import Derived.Test.YtkdcdhkhadhcfaaLfV
import Derived.Test.YtkdcdhkhadhcfaaCheck
import Derived.Test.YtkdcdhkhadhcfaaBox
import Derived.Deep.DeepCutAuto
namespace Go.Proofs.Ytkdcdhkhadhcfaa
open Go Go.RowKit
set_option maxHeartbeats 4000000
set_option maxRecDepth 100000
def PlAt (w : World) (v : Value) (l : List LSp) : Prop :=
  ∃ a c b off, v = .slice a l.length c ∧ (0 < l.length → a = some ⟨b, off, none⟩) ∧ (l.length ≤ 140737488355328 ∧ l.length ≤ c) ∧
    ∀ i, i < l.length → w.cell? ⟨b, off + i * 2, none⟩ = some (.int .i64 (atS l i).lo) ∧ w.cell? ⟨b, off + i * 2 + 1, none⟩ = some (.int .i64 (atS l i).hi)
theorem PlAt.bel {w w' : World} {v : Value} {l : List LSp} (h : PlAt w v l) (k : Bel w w') : PlAt w' v l := by
  obtain ⟨a, c, b, off, h1, h2, h3, h4⟩ := h
  exact ⟨a, c, b, off, h1, h2, h3, fun i hi => ⟨k.cell (h4 i hi).1, k.cell (h4 i hi).2⟩⟩
def BoAt (w : World) (v : Value) (l : List LBo) : Prop :=
  ∃ a c b off, v = .slice a l.length c ∧ (0 < l.length → a = some ⟨b, off, none⟩) ∧ (l.length ≤ 140737488355328 ∧ l.length ≤ c) ∧
    ∀ i, i < l.length → w.cell? ⟨b, off + i * 2, none⟩ = some (.int .i64 (atBo l i).ca) ∧ w.cell? ⟨b, off + i * 2 + 1, none⟩ = some (.int .i64 (atBo l i).pe)
theorem BoAt.bel {w w' : World} {v : Value} {l : List LBo} (h : BoAt w v l) (k : Bel w w') : BoAt w' v l := by
  obtain ⟨a, c, b, off, h1, h2, h3, h4⟩ := h
  exact ⟨a, c, b, off, h1, h2, h3, fun i hi => ⟨k.cell (h4 i hi).1, k.cell (h4 i hi).2⟩⟩
def SeaAt (w : World) (v : Value) (s : LSea) : Prop := ∃ pv bv, v = .agg #[.int .i64 s.w.lo, .int .i64 s.w.hi, pv, bv] ∧ PlAt w pv s.pl ∧ BoAt w bv s.bo
theorem SeaAt.bel {w w' : World} {v : Value} {s : LSea} (h : SeaAt w v s) (k : Bel w w') : SeaAt w' v s := by
  obtain ⟨g, a, h1, h2, h3⟩ := h
  exact ⟨g, a, h1, h2.bel k, h3.bel k⟩
theorem SeaAt.open {w : World} {v : Value} {s : LSea} (h : SeaAt w v s) : ∃ pa pc ba bc, v = .agg #[.int .i64 s.w.lo, .int .i64 s.w.hi, .slice pa s.pl.length pc, .slice ba s.bo.length bc] ∧ PlAt w (.slice pa s.pl.length pc) s.pl ∧ BoAt w (.slice ba s.bo.length bc) s.bo ∧ s.pl.length ≤ 140737488355328 ∧ s.bo.length ≤ 140737488355328 := by
  obtain ⟨g, a, h1, h2, h3⟩ := h
  obtain ⟨ga, gc, gb, go, rfl, h2'⟩ := h2
  obtain ⟨aa, ac, ab, ao, rfl, h3'⟩ := h3
  exact ⟨ga, gc, aa, ac, h1, ⟨_, _, gb, go, rfl, h2'⟩, ⟨_, _, ab, ao, rfl, h3'⟩, h2'.2.1.1, h3'.2.1.1⟩
theorem infoLSp : ∃ i, Try.prog.info? 37 = some i := Option.isSome_iff_exists.1 (by kernel_rfl)
theorem cellsLSp : Try.prog.cellsOf 37 = 2 := by kernel_rfl
theorem idxPl {a : Option Addr} {n c b off : Nat} (ha : 0 < n → a = some ⟨b, off, none⟩) :
    ∀ (w : World) (i : Nat), i < n → (Instr.indexAt 48 (.slice a n c) (.int .i64 i)).run Try.prog w = .ok (.pointer (some ⟨b, off + i * 2, none⟩)) w := by
  obtain ⟨i0, hi0⟩ := infoLSp
  exact idxRule (P := Try.prog) 48 37 2 Try.underlying48 hi0 cellsLSp (c := c) ha
theorem infoLBo : ∃ i, Try.prog.info? 95 = some i := Option.isSome_iff_exists.1 (by kernel_rfl)
theorem cellsLBo : Try.prog.cellsOf 95 = 2 := by kernel_rfl
theorem idxBo {a : Option Addr} {n c b off : Nat} (ha : 0 < n → a = some ⟨b, off, none⟩) :
    ∀ (w : World) (i : Nat), i < n → (Instr.indexAt 49 (.slice a n c) (.int .i64 i)).run Try.prog w = .ok (.pointer (some ⟨b, off + i * 2, none⟩)) w := by
  obtain ⟨i0, hi0⟩ := infoLBo
  exact idxRule (P := Try.prog) 49 95 2 Try.underlying49 hi0 cellsLBo (c := c) ha
theorem R5within_any (n l h : Int) (w : World) : Calls Try.prog 49 #[.int .i64 n, .int .i64 l, .int .i64 h] w fun e w' => e = .returned (.bool (withinB n l h)) ∧ w = w' := by
  go_enter Try.func49, Try.ntmps49
  go_wp2_with (first | (go_at_call 20; refine (Within_any _ _ _ _).mono ?_; rintro e w' ⟨rfl, rfl⟩))
  go_ret
  exact ⟨rfl, rfl⟩
theorem Lwithin_any (n l h : Int) (w : World) : Calls Try.prog 123 #[.int .i64 n, .int .i64 l, .int .i64 h] w fun e w' => e = .returned (.bool (withinB n l h)) ∧ w = w' := by
  have HX := Lib.hid (show withinB n l h = (decide (l ≤ n) && decide (n ≤ h)) from rfl)
  cases h1 : decide (l ≤ n) <;> cases h2 : decide (n ≤ h)
  all_goals
    rw [h1, h2] at HX
    go_enter Try.func123, Try.ntmps123
    go_wp2
    go_ret
    exact ⟨rb (by rw [HX.out]; rfl), rfl⟩
def spanB (a b m : Int) : Bool := withinB b 0 m && withinB a 0 b
theorem spanB_pl {p : LSp} (h : spanB p.lo p.hi 12 = true) : plB p = true := by
  simp only [spanB, plB, withinB, Bool.and_eq_true, decide_eq_true_eq] at h ⊢
  omega
theorem R5isSpan_any (a b m : Int) (w : World) : Calls Try.prog 48 #[.agg #[.int .i64 a, .int .i64 b], .int .i64 m] w fun e w' => e = .returned (.bool (spanB a b m)) ∧ Bel w w' := by
  have HX := Lib.hid (show spanB a b m = (withinB b 0 m && withinB a 0 b) from rfl)
  cases h1 : withinB b 0 m
  · rw [h1] at HX
    go_enter Try.func48, Try.ntmps48
    go_wp2_with (first | (go_at_call 49; refine (R5within_any _ _ _ _).mono ?_; rintro e w' ⟨rfl, rfl⟩))
    go_ret
    exact ⟨rb (by rw [HX.out]; rfl), (by repeat (first | assumption | exact Bel.refl _ | refine Bel.drew ?_ | refine Bel.drewN ?_ _ | refine Bel.alloc ?_ _ | refine Bel.setCell ?_ (by simp <;> omega) _ | refine Bel.trans ?_ (by assumption)))⟩
  · rw [h1] at HX
    go_enter Try.func48, Try.ntmps48
    go_wp2_with (first | (go_at_call 49; refine (R5within_any _ _ _ _).mono ?_; rintro e w' ⟨rfl, rfl⟩))
    go_ret
    exact ⟨rb (by rw [HX.out]; rfl), (by repeat (first | assumption | exact Bel.refl _ | refine Bel.drew ?_ | refine Bel.drewN ?_ _ | refine Bel.alloc ?_ _ | refine Bel.setCell ?_ (by simp <;> omega) _ | refine Bel.trans ?_ (by assumption)))⟩
theorem sums_of {l : List LSp} : ∀ k, (∀ i, i < k → plB (atS l i) = true) → 0 ≤ lowsTo l k ∧ lowsTo l k ≤ 12 * k ∧ 0 ≤ highsTo l k ∧ highsTo l k ≤ 12 * k
  | 0, _ => ⟨Int.le_refl _, by show (0 : Int) ≤ _; omega, Int.le_refl _, by show (0 : Int) ≤ _; omega⟩
  | k + 1, h => by
    have ih := sums_of (l := l) k fun i hi => h i (by omega)
    have := h k (by omega)
    simp only [plB, withinB, Bool.and_eq_true, decide_eq_true_eq] at this
    show 0 ≤ _ + _ ∧ _ + _ ≤ _ ∧ 0 ≤ _ + _ ∧ _ + _ ≤ _
    omega
theorem R5Check_any (s : LSea) (v : Value) (w : World) (hv : SeaAt w v s) :
    Calls Try.prog 19 #[v] w fun e w' => ∃ r : Int, e = .returned (.int .i64 r) ∧ (r = 0 → LOk s) ∧ Bel w w' := by
  obtain ⟨pa, pc, ba, bc, rfl, hp, hb, hpl, hbl⟩ := hv.open
  obtain ⟨pa', pc', pb, po, pe, hpa, _, hpc⟩ := hp
  injection pe with pe1 _ pe3
  subst pe1 pe3
  obtain ⟨ba', bc', bb, bo, be, hba, _, hbc⟩ := hb
  injection be with be1 _ be3
  subst be1 be3
  have hixp := idxPl (c := pc) hpa
  have hixb := idxBo (c := bc) hba
  have HPC := Lib.hid hpc
  have HBC := Lib.hid hbc
  have HOK := Lib.hid (fun (h0 : spanB s.w.lo s.w.hi 2000 = true) (h4 : s.pl.length ≤ 4) (h6 : s.bo.length ≤ 6) (h7 : ∀ i, i < s.pl.length → plB (atS s.pl i) = true) (h8 : lowsTo s.pl s.pl.length ≤ 12 ∧ 12 ≤ highsTo s.pl s.pl.length) (h9 : allB s.bo.length (fun i => boB (atBo s.bo i)) = true) =>
    show LOk s from ⟨by simp only [spanB, withinB, Bool.and_eq_true, decide_eq_true_eq] at h0; omega, h4, h6, by unfold placesB; rw [allB_iff]; exact h7, h8, h9⟩)
  have HS0 := Lib.hid (fun wx => R5isSpan_any s.w.lo s.w.hi 2000 wx)
  have HSP := Lib.hid (fun i wx => R5isSpan_any (atS s.pl i).lo (atS s.pl i).hi 12 wx)
  have HSU := Lib.hid (fun k h => sums_of (l := s.pl) k h)
  have HLO := Lib.hid (fun k => show lowsTo s.pl (k + 1) = lowsTo s.pl k + (atS s.pl k).lo ∧ highsTo s.pl (k + 1) = highsTo s.pl k + (atS s.pl k).hi from ⟨rfl, rfl⟩)
  clear hv hpa hpc hba hbc
  generalize hG : s.pl.length = G at *
  clear hG
  generalize hB : s.bo.length = B at *
  clear hB
  cases h0 : spanB s.w.lo s.w.hi 2000
  · rw [h0] at HS0
    clear HOK HSP HSU HLO h0
    go_enter Try.func19, Try.ntmps19
    go_wp2_with (go_at_call 48; refine (HS0.out _).mono ?_; rintro e w1 ⟨rfl, hb⟩; have HB1 := Lib.hid (show Bel w w1 from Bel.trans (by repeat (first | assumption | exact Bel.refl _ | refine Bel.drew ?_ | refine Bel.drewN ?_ _ | refine Bel.alloc ?_ _ | refine Bel.setCell ?_ (by simp <;> omega) _ | refine Bel.trans ?_ (by assumption))) hb); clear hb)
    go_ret
    exact ⟨50, rfl, (fun h => absurd h (by decide)), HB1.out⟩
  · rw [h0] at HS0
    have E0 := Lib.hid h0
    clear h0
    by_cases h4 : G ≤ 4
    · have f4 : ¬ (4 : Int) < (G : Int) := by omega
      have g4 : decide ((4 : Int) < (G : Int)) = false := decide_eq_false f4
      by_cases h6 : B ≤ 6
      · have f6 : ¬ (6 : Int) < (B : Int) := by omega
        have g6 : decide ((6 : Int) < (B : Int)) = false := decide_eq_false f6
        have HO := Lib.hid (HOK.out E0.out h4 h6)
        clear HOK E0
        go_enter Try.func19, Try.ntmps19
        go_wp2_with fail
        refine (HS0.out _).mono ?_
        rintro e w1 ⟨rfl, hb⟩
        have HX : Hid (Bx w1 w.heap.size [.int .i64 s.w.lo, .int .i64 s.w.hi, .slice pa G pc, .slice ba B bc]) := Lib.hid ((Bx.new rfl).bel hb)
        have HB1 := Lib.hid (show Bel w w1 from Bel.trans (by repeat (first | assumption | exact Bel.refl _ | refine Bel.drew ?_ | refine Bel.drewN ?_ _ | refine Bel.alloc ?_ _ | refine Bel.setCell ?_ (by simp <;> omega) _ | refine Bel.trans ?_ (by assumption))) hb)
        clear hb HS0
        have x2 := HX.out.c 2 _ rfl
        have x3 := HX.out.c 3 _ rfl
        have lx := HX.out.lt
        go_wp2_with fail
        clear x2 x3 lx
        go_loopw [3, 4, 5] (fun lo hi i wr => ∃ k : Nat, k ≤ G ∧ i = .int .i64 k ∧ lo = .int .i64 (lowsTo s.pl k) ∧ hi = .int .i64 (highsTo s.pl k) ∧ Hid (∀ i, i < k → plB (atS s.pl i) = true) ∧ Hid (Bel w1 wr)) (fun _ _ i _ => G - (intOf i).toNat)
        case atStart => exact ⟨0, by omega, rfl, rfl, rfl, Lib.hid fun i hi => absurd hi (by omega), Lib.hid (Bel.refl _)⟩
        case round =>
          obtain ⟨k, hk, rfl, rfl, rfl, hall, hbr⟩ := hrel
          replace HX := Lib.hid (HX.out.bel hbr.out)
          have HBW := Lib.hid (HB1.out.trans hbr.out)
          obtain ⟨u1, u2, u3, u4⟩ := HSU.out k hall.out
          have x2 := HX.out.c 2 _ rfl
          have x3 := HX.out.c 3 _ rfl
          have lx := HX.out.lt
          by_cases hlt : k < G
          · have hlti : (k : Int) < (G : Int) := by omega
            have k0 := HBW.out.cell (HPC.out k hlt).1
            have k1 := HBW.out.cell (HPC.out k hlt).2
            have lk := cell_lt k0
            have HSK := Lib.hid (HSP.out k)
            obtain ⟨e1, e2⟩ := HLO.out k
            have HE1 := Lib.hid e1
            have HE2 := Lib.hid e2
            have HNX := Lib.hid (fun (h : spanB (atS s.pl k).lo (atS s.pl k).hi 12 = true) => show ∀ i, i < k + 1 → plB (atS s.pl i) = true from fun i hi => by
              by_cases e : i = k
              · rw [e]; exact spanB_pl h
              · exact hall.out i (by omega))
            have HKB := Lib.hid (fun (h : spanB (atS s.pl k).lo (atS s.pl k).hi 12 = true) => show 0 ≤ (atS s.pl k).lo ∧ (atS s.pl k).lo ≤ 12 ∧ 0 ≤ (atS s.pl k).hi ∧ (atS s.pl k).hi ≤ 12 from by simp only [spanB, withinB, Bool.and_eq_true, decide_eq_true_eq] at h; omega)
            clear e1 e2 hall HSP HLO HO
            generalize atS s.pl k = p at *
            generalize lowsTo s.pl k = L at *
            generalize highsTo s.pl k = H at *
            cases hs : spanB p.lo p.hi 12
            · rw [hs] at HSK
              clear hs
              go_wp2_with (go_at_call 48; refine (HSK.out _).mono ?_; rintro e w2 ⟨rfl, hb⟩; have HB2 := Lib.hid (HBW.out.trans hb); clear hb)
              go_ret
              exact ⟨50, rfl, (fun h => absurd h (by decide)), HB2.out⟩
            · rw [hs] at HSK
              have HN2 := Lib.hid (HNX.out hs)
              obtain ⟨v1, v2, v3, v4⟩ := HKB.out hs
              clear hs
              go_wp2_with (first | (go_at_call 48; refine (HSK.out _).mono ?_; rintro e w2 ⟨rfl, hb⟩; replace hbr := Lib.hid (hbr.out.trans hb); replace x2 := hb.cell x2; replace k0 := hb.cell k0; replace k1 := hb.cell k1; replace lx := cell_lt x2; replace lk := cell_lt k0; clear hb x3) | fail)
              refine wp_region_mixB (Plan.seq [0, 1, 2, 3, 4, 5, 6, 7, 8, 9, 10, 11, 12, 13, 14, 15, 16, 17] .nil) (by kernel_rfl) (by kernel_rfl) (fun hcur => ?_)
              simp only [Plan.seq, Plan.fill, List.getD_cons_zero, List.getD_cons_succ, Nat.reduceLT, ↓reduceIte]
              apply mix_pure _ rfl
              · intro w' hw'
                have hcr := hw'.cells
                go_simp
                rfl
              intro K hK
              go_simp
              refine hK _ ?_
              clear hK K
              apply mix_pure _ rfl
              · intro w' hw'
                have hcr := hw'.cells
                go_simp
                rfl
              intro K hK
              go_simp
              refine hK _ ?_
              clear hK K
              apply mix_pure _ rfl
              · intro w' hw'
                have hcr := hw'.cells
                go_simp
                rfl
              intro K hK
              go_simp
              refine hK _ ?_
              clear hK K
              apply mix_pure _ rfl
              · intro w' hw'
                have hcr := hw'.cells
                go_simp
                rfl
              intro K hK
              go_simp
              refine hK _ ?_
              clear hK K
              apply mix_pure _ rfl
              · intro w' hw'
                have hcr := hw'.cells
                go_simp
                rfl
              intro K hK
              go_simp
              refine hK _ ?_
              clear hK K
              apply mix_pure _ rfl
              · intro w' hw'
                have hcr := hw'.cells
                go_simp
                rfl
              intro K hK
              go_simp
              refine hK _ ?_
              clear hK K
              apply mix_pure _ rfl
              · intro w' hw'
                have hcr := hw'.cells
                go_simp
                rfl
              intro K hK
              go_simp
              refine hK _ ?_
              clear hK K
              apply mix_pure _ rfl
              · intro w' hw'
                have hcr := hw'.cells
                go_simp
                first | (rw [IntWalk.i64_in]; all_goals first | omega | rfl) | rfl
              intro K hK
              go_simp
              refine hK _ ?_
              clear hK K
              apply mix_pure _ rfl
              · intro w' hw'
                have hcr := hw'.cells
                go_simp
                rfl
              intro K hK
              go_simp
              refine hK _ ?_
              clear hK K
              apply mix_pure _ rfl
              · intro w' hw'
                have hcr := hw'.cells
                go_simp
                rfl
              intro K hK
              go_simp
              refine hK _ ?_
              clear hK K
              apply mix_pure _ rfl
              · intro w' hw'
                have hcr := hw'.cells
                go_simp
                rfl
              intro K hK
              go_simp
              refine hK _ ?_
              clear hK K
              apply mix_pure _ rfl
              · intro w' hw'
                have hcr := hw'.cells
                go_simp
                rfl
              intro K hK
              go_simp
              refine hK _ ?_
              clear hK K
              apply mix_pure _ rfl
              · intro w' hw'
                have hcr := hw'.cells
                go_simp
                rfl
              intro K hK
              go_simp
              refine hK _ ?_
              clear hK K
              apply mix_pure _ rfl
              · intro w' hw'
                have hcr := hw'.cells
                go_simp
                rfl
              intro K hK
              go_simp
              refine hK _ ?_
              clear hK K
              apply mix_pure _ rfl
              · intro w' hw'
                have hcr := hw'.cells
                go_simp
                rfl
              intro K hK
              go_simp
              refine hK _ ?_
              clear hK K
              apply mix_pure _ rfl
              · intro w' hw'
                have hcr := hw'.cells
                go_simp
                first | (rw [IntWalk.i64_in]; all_goals first | omega | rfl) | rfl
              intro K hK
              go_simp
              refine hK _ ?_
              clear hK K
              apply mix_pure _ rfl
              · intro w' hw'
                have hcr := hw'.cells
                go_simp
                rfl
              intro K hK
              go_simp
              refine hK _ ?_
              clear hK K
              apply mix_pure _ rfl
              · intro w' hw'
                have hcr := hw'.cells
                go_simp
                rfl
              intro K hK
              go_simp
              refine hK _ ?_
              clear hK K
              refine mix_nil ?_
              have HBR := Lib.hid (hbr.out.trans hcur)
              clear hcur
              go_wp2
              go_roundw
              case rel => exact ⟨k + 1, by omega, by go_num, by rw [HE1.out], by rw [HE2.out], HN2, HBR⟩
              case measure => simp [intOf]; omega
          · have hlti : ¬ (k : Int) < (G : Int) := by omega
            obtain rfl : k = G := by omega
            have HO2 := Lib.hid (HO.out hall.out)
            clear HO hall HSP HLO HPC HSU
            generalize lowsTo s.pl k = L at *
            generalize highsTo s.pl k = H at *
            go_wp2_with fail
            clear x2 x3 lx
            go_loopw [6] (fun i wq => ∃ j : Nat, j ≤ B ∧ i = .int .i64 j ∧ Hid (allB j (fun i => boB (atBo s.bo i)) = true) ∧ Hid (Bel wr wq)) (fun i _ => B - (intOf i).toNat)
            case atStart => exact ⟨0, by omega, rfl, Lib.hid rfl, Lib.hid (Bel.refl _)⟩
            case round =>
              obtain ⟨j, hj, rfl, hno, hbq⟩ := hrel
              replace HX := Lib.hid (HX.out.bel hbq.out)
              replace HBW := Lib.hid (HBW.out.trans hbq.out)
              have x2 := HX.out.c 2 _ rfl
              have x3 := HX.out.c 3 _ rfl
              have lx := HX.out.lt
              by_cases hlt : j < B
              · have hlti : (j : Int) < (B : Int) := by omega
                have k0 := HBW.out.cell (HBC.out j hlt).1
                have k1 := HBW.out.cell (HBC.out j hlt).2
                have lk := cell_lt k0
                have HR1 := Lib.hid (fun (hq : boB (atBo s.bo j) = true) => allB_succ hno.out (f := fun i => boB (atBo s.bo i)) hq)
                have HXB := Lib.hid (show boB (atBo s.bo j) = (withinB (atBo s.bo j).ca 0 999 && withinB (atBo s.bo j).pe 0 99) from rfl)
                clear HBC hno HO2
                generalize atBo s.bo j = q at *
                obtain ⟨ca, pe⟩ := q
                simp only at k0 k1 HXB HR1
                cases h1 : withinB ca 0 999
                · skip
                  go_wp2_with (first | (go_at_call 49; refine (R5within_any _ _ _ _).mono ?_; rintro e w' ⟨rfl, rfl⟩))
                  go_ret
                  exact ⟨50, rfl, (fun h => absurd h (by decide)), HBW.out.trans (by repeat (first | assumption | exact Bel.refl _ | refine Bel.drew ?_ | refine Bel.drewN ?_ _ | refine Bel.alloc ?_ _ | refine Bel.setCell ?_ (by simp <;> omega) _ | refine Bel.trans ?_ (by assumption)))⟩
                · skip
                  cases h2 : withinB pe 0 99
                  · skip
                    go_wp2_with (first | (go_at_call 49; refine (R5within_any _ _ _ _).mono ?_; rintro e w' ⟨rfl, rfl⟩))
                    go_ret
                    exact ⟨50, rfl, (fun h => absurd h (by decide)), HBW.out.trans (by repeat (first | assumption | exact Bel.refl _ | refine Bel.drew ?_ | refine Bel.drewN ?_ _ | refine Bel.alloc ?_ _ | refine Bel.setCell ?_ (by simp <;> omega) _ | refine Bel.trans ?_ (by assumption)))⟩
                  · have HN2 := Lib.hid (HR1.out (by rw [HXB.out, h1, h2]; rfl))
                    go_wp2_with (first | (go_at_call 49; refine (R5within_any _ _ _ _).mono ?_; rintro e w' ⟨rfl, rfl⟩))
                    go_roundw
                    case rel => exact ⟨j + 1, by omega, by go_num, HN2, Lib.hid (hbq.out.trans (by repeat (first | assumption | exact Bel.refl _ | refine Bel.drew ?_ | refine Bel.drewN ?_ _ | refine Bel.alloc ?_ _ | refine Bel.setCell ?_ (by simp <;> omega) _ | refine Bel.trans ?_ (by assumption))))⟩
                    case measure => simp [intOf]; omega
              · have hlti : ¬ (j : Int) < (B : Int) := by omega
                obtain rfl : j = B := by omega
                have HO3 := Lib.hid (fun h8 => HO2.out h8 hno.out)
                clear HO2 hno
                by_cases h8 : (12 : Int) < L
                · have g8 : decide ((12 : Int) < L) = true := decide_eq_true h8
                  go_wp2
                  go_ret
                  exact ⟨50, rfl, (fun h => absurd h (by decide)), HBW.out⟩
                · have g8 : decide ((12 : Int) < L) = false := decide_eq_false h8
                  by_cases h9 : H < 12
                  · have g9 : decide (H < 12) = true := decide_eq_true h9
                    go_wp2
                    go_ret
                    exact ⟨50, rfl, (fun h => absurd h (by decide)), HBW.out⟩
                  · have g9 : decide (H < 12) = false := decide_eq_false h9
                    have HO4 := Lib.hid (HO3.out ⟨by omega, by omega⟩)
                    clear HO3
                    go_wp2
                    go_ret
                    exact ⟨0, rfl, (fun _ => HO4.out), HBW.out⟩
      · have f6 : (6 : Int) < (B : Int) := by omega
        have g6 : decide ((6 : Int) < (B : Int)) = true := decide_eq_true f6
        clear HOK HSP HSU HLO
        go_enter Try.func19, Try.ntmps19
        go_wp2_with (go_at_call 48; refine (HS0.out _).mono ?_; rintro e w1 ⟨rfl, hb⟩; have hz := (((Bx.new (T := 51) (cs := [.int .i64 s.w.lo, .int .i64 s.w.hi, .slice pa G pc, .slice ba B bc]) (w := w) rfl).bel hb)); have x2 := hz.c 2 _ rfl; have x3 := hz.c 3 _ rfl; have lx := hz.lt; have HB1 := Lib.hid (show Bel w w1 from Bel.trans (by repeat (first | assumption | exact Bel.refl _ | refine Bel.drew ?_ | refine Bel.drewN ?_ _ | refine Bel.alloc ?_ _ | refine Bel.setCell ?_ (by simp <;> omega) _ | refine Bel.trans ?_ (by assumption))) hb); clear hb hz)
        go_ret
        exact ⟨50, rfl, (fun h => absurd h (by decide)), HB1.out⟩
    · have f4 : (4 : Int) < (G : Int) := by omega
      have g4 : decide ((4 : Int) < (G : Int)) = true := decide_eq_true f4
      clear HOK HSP HSU HLO
      go_enter Try.func19, Try.ntmps19
      go_wp2_with (go_at_call 48; refine (HS0.out _).mono ?_; rintro e w1 ⟨rfl, hb⟩; have hz := (((Bx.new (T := 51) (cs := [.int .i64 s.w.lo, .int .i64 s.w.hi, .slice pa G pc, .slice ba B bc]) (w := w) rfl).bel hb)); have x2 := hz.c 2 _ rfl; have x3 := hz.c 3 _ rfl; have lx := hz.lt; have HB1 := Lib.hid (show Bel w w1 from Bel.trans (by repeat (first | assumption | exact Bel.refl _ | refine Bel.drew ?_ | refine Bel.drewN ?_ _ | refine Bel.alloc ?_ _ | refine Bel.setCell ?_ (by simp <;> omega) _ | refine Bel.trans ?_ (by assumption))) hb); clear hb hz)
      go_ret
      exact ⟨50, rfl, (fun h => absurd h (by decide)), HB1.out⟩
end Go.Proofs.Ytkdcdhkhadhcfaa
