/-
  lifts: open of a valid sea that is asked right; need; holds.
-/
import Derived.Test.YtkdcdhkhadhcfaaLfMem
import Derived.Lib.MinMax
namespace Go.Proofs.Ytkdcdhkhadhcfaa
open Go Go.RowKit
set_option maxHeartbeats 4000000
set_option maxRecDepth 100000
theorem lfCheck_any (s : LSea) (v : Value) (w : World) (hs : LOk s) (hv : SeaAt w v s) :
    Calls Try.prog 106 #[v] w fun e w' => e = .returned (.int .i64 0) ∧ Bel w w' := by
  obtain ⟨pa, pc, ba, bc, rfl, hp, hb, hpl, hbl⟩ := hv.open
  obtain ⟨pa', pc', pb, po, pe, hpa, _, hpc⟩ := hp
  injection pe with pe1 _ pe3
  subst pe1 pe3
  obtain ⟨ba', bc', bb, bo, be, hba, _, hbc⟩ := hb
  injection be with be1 _ be3
  subst be1 be3
  have hixp := idxPl (c := pc) hpa
  have hixb := idxBo (c := bc) hba
  have HPC := Lib.hid hpc
  have HBC := Lib.hid hbc
  have HPK := Lib.hid (fun k (hk : k < s.pl.length) => hs.p hk)
  have HBK := Lib.hid (fun k (hk : k < s.bo.length) => hs.b hk)
  have HSU := Lib.hid (fun k (hk : k ≤ s.pl.length) => sums_b (fun i hi => hs.p hi) k hk)
  have HLO := Lib.hid (fun k => show lowsTo s.pl (k + 1) = lowsTo s.pl k + (atS s.pl k).lo ∧ highsTo s.pl (k + 1) = highsTo s.pl k + (atS s.pl k).hi from ⟨rfl, rfl⟩)
  obtain ⟨w1, w2, w3⟩ := hs.w
  have h4 := hs.p4
  have h6 := hs.b6
  have HSM := Lib.hid hs.sum
  have hw : withinB s.w.lo 0 s.w.hi = true := withinB_true.2 ⟨w1, w2⟩
  have f0 : ¬ (2000 : Int) < s.w.hi := by omega
  have g0 : decide ((2000 : Int) < s.w.hi) = false := decide_eq_false f0
  have f4 : ¬ (4 : Int) < (s.pl.length : Int) := by omega
  have g4 : decide ((4 : Int) < (s.pl.length : Int)) = false := decide_eq_false f4
  have f6 : ¬ (6 : Int) < (s.bo.length : Int) := by omega
  have g6 : decide ((6 : Int) < (s.bo.length : Int)) = false := decide_eq_false f6
  clear hv hpa hpc hba hbc hs
  generalize hG : s.pl.length = G at *
  clear hG
  generalize hB : s.bo.length = B at *
  clear hB
  go_enter Try.func106, Try.ntmps106
  go_wp2_with (first | (go_at_call 123; refine (Lwithin_any _ _ _ _).mono ?_; rintro e w' ⟨rfl, rfl⟩) | fail)
  generalize hW : World.alloc _ _ = W0
  have HX : Hid (Bx W0 w.heap.size [.int .i64 s.w.lo, .int .i64 s.w.hi, .slice pa G pc, .slice ba B bc]) := Lib.hid (by rw [← hW]; exact Bx.new rfl)
  have HB1 : Hid (Bel w W0) := Lib.hid (by rw [← hW]; exact (Bel.refl w).alloc _)
  clear hW hw f0 g0 f4 g4 f6 g6
  go_loopw [3, 4, 38] (fun lo hi i wr => ∃ k : Nat, k ≤ G ∧ i = .int .i64 k ∧ lo = .int .i64 (lowsTo s.pl k) ∧ hi = .int .i64 (highsTo s.pl k) ∧ Hid (Bel W0 wr)) (fun _ _ i _ => G - (intOf i).toNat)
  case atStart => exact ⟨0, by omega, rfl, rfl, rfl, Lib.hid (Bel.refl _)⟩
  case round =>
    obtain ⟨k, hk, rfl, rfl, rfl, hbr⟩ := hrel
    replace HX := Lib.hid (HX.out.bel hbr.out)
    have HBW := Lib.hid (HB1.out.trans hbr.out)
    obtain ⟨u1, u2, u3⟩ := HSU.out k hk
    by_cases hlt : k < G
    · have hlti : (k : Int) < (G : Int) := by omega
      have k0 := HBW.out.cell (HPC.out k hlt).1
      have k1 := HBW.out.cell (HPC.out k hlt).2
      have lk := cell_lt k0
      obtain ⟨e1, e2⟩ := HLO.out k
      have HE1 := Lib.hid e1
      have HE2 := Lib.hid e2
      obtain ⟨v1, v2, v3⟩ := HPK.out k hlt
      clear e1 e2 HPK HLO
      generalize atS s.pl k = p at *
      generalize lowsTo s.pl k = L at *
      generalize highsTo s.pl k = H at *
      have hwp : withinB p.lo 0 p.hi = true := withinB_true.2 ⟨v1, v2⟩
      have f1 : ¬ (12 : Int) < p.hi := by omega
      have g1 : decide ((12 : Int) < p.hi) = false := decide_eq_false f1
      go_wp2_with (first | (go_at_call 123; refine (Lwithin_any _ _ _ _).mono ?_; rintro e w' ⟨rfl, rfl⟩) | fail)
      generalize hW : World.alloc _ _ = W1
      have HN : Hid (Bx W1 wr.heap.size [.int .i64 p.lo, .int .i64 p.hi]) := Lib.hid (by rw [← hW]; exact Bx.new rfl)
      have hb1 : Bel wr W1 := by rw [← hW]; exact (Bel.refl wr).alloc _
      have HB2 := Lib.hid (hbr.out.trans hb1)
      clear hW hb1 k0 k1 lk hwp f1 g1
      have n0 := HN.out.c 0 _ rfl
      have n1 := HN.out.c 1 _ rfl
      have ln := HN.out.lt
      refine wp_region_mixB (Plan.seq [0, 1, 2, 3, 4, 5, 6, 7, 8, 9] .nil) (by kernel_rfl) (by kernel_rfl) (fun hcur => ?_)
      simp only [Plan.seq, Plan.fill, List.getD_cons_zero, List.getD_cons_succ, Nat.reduceLT, ↓reduceIte]
      apply mix_pure _ rfl
      · intro w' hw'
        have hcr := hw'.cells
        go_simp
        rfl
      intro K hK
      go_simp
      refine hK _ ?_
      clear hK K
      apply mix_pure _ rfl
      · intro w' hw'
        have hcr := hw'.cells
        go_simp
        rfl
      intro K hK
      go_simp
      refine hK _ ?_
      clear hK K
      apply mix_pure _ rfl
      · intro w' hw'
        have hcr := hw'.cells
        go_simp
        rfl
      intro K hK
      go_simp
      refine hK _ ?_
      clear hK K
      apply mix_pure _ rfl
      · intro w' hw'
        have hcr := hw'.cells
        go_simp
        first | (rw [IntWalk.i64_in]; all_goals first | omega | rfl) | rfl
      intro K hK
      go_simp
      refine hK _ ?_
      clear hK K
      apply mix_pure _ rfl
      · intro w' hw'
        have hcr := hw'.cells
        go_simp
        rfl
      intro K hK
      go_simp
      refine hK _ ?_
      clear hK K
      apply mix_pure _ rfl
      · intro w' hw'
        have hcr := hw'.cells
        go_simp
        rfl
      intro K hK
      go_simp
      refine hK _ ?_
      clear hK K
      apply mix_pure _ rfl
      · intro w' hw'
        have hcr := hw'.cells
        go_simp
        rfl
      intro K hK
      go_simp
      refine hK _ ?_
      clear hK K
      apply mix_pure _ rfl
      · intro w' hw'
        have hcr := hw'.cells
        go_simp
        first | (rw [IntWalk.i64_in]; all_goals first | omega | rfl) | rfl
      intro K hK
      go_simp
      refine hK _ ?_
      clear hK K
      apply mix_pure _ rfl
      · intro w' hw'
        have hcr := hw'.cells
        go_simp
        rfl
      intro K hK
      go_simp
      refine hK _ ?_
      clear hK K
      apply mix_pure _ rfl
      · intro w' hw'
        have hcr := hw'.cells
        go_simp
        rfl
      intro K hK
      go_simp
      refine hK _ ?_
      clear hK K
      refine mix_nil ?_
      have HBR := Lib.hid (HB2.out.trans hcur)
      clear hcur
      go_wp2
      go_roundw
      case rel => exact ⟨k + 1, by omega, by go_num, by rw [HE1.out], by rw [HE2.out], HBR⟩
      case measure => simp [intOf]; omega
    · have hlti : ¬ (k : Int) < (G : Int) := by omega
      obtain rfl : k = G := by omega
      obtain ⟨s1, s2⟩ := HSM.out
      clear HSM HLO HPC HSU HPK hk
      generalize lowsTo s.pl k = L at *
      generalize highsTo s.pl k = H at *
      have hwp : withinB 12 L H = true := withinB_true.2 ⟨s1, s2⟩
      have x3 := HX.out.c 3 _ rfl
      have lx := HX.out.lt
      go_wp2_with (first | (go_at_call 123; refine (Lwithin_any _ _ _ _).mono ?_; rintro e w' ⟨rfl, rfl⟩) | fail)
      clear x3 lx hwp
      go_loopw [69] (fun i wq => ∃ j : Nat, j ≤ B ∧ i = .int .i64 j ∧ Hid (Bel wr wq)) (fun i _ => B - (intOf i).toNat)
      case atStart => exact ⟨0, by omega, rfl, Lib.hid (Bel.refl _)⟩
      case round =>
        obtain ⟨j, hj, rfl, hbq⟩ := hrel
        replace HBW := Lib.hid (HBW.out.trans hbq.out)
        by_cases hlt : j < B
        · have hlti : (j : Int) < (B : Int) := by omega
          have k0 := HBW.out.cell (HBC.out j hlt).1
          have k1 := HBW.out.cell (HBC.out j hlt).2
          have lk := cell_lt k0
          obtain ⟨v1, v2, v3, v4⟩ := HBK.out j hlt
          clear HBC HBK
          generalize atBo s.bo j = q at *
          obtain ⟨ca, pe⟩ := q
          simp only at k0 k1 v1 v2 v3 v4
          have h1 : withinB ca 0 999 = true := withinB_true.2 ⟨v1, v2⟩
          have h2 : withinB pe 0 99 = true := withinB_true.2 ⟨v3, v4⟩
          go_wp2_with (first | (go_at_call 123; refine (Lwithin_any _ _ _ _).mono ?_; rintro e w' ⟨rfl, rfl⟩))
          go_roundw
          case rel => exact ⟨j + 1, by omega, by go_num, Lib.hid (hbq.out.trans (by repeat (first | assumption | exact Bel.refl _ | refine Bel.drew ?_ | refine Bel.drewN ?_ _ | refine Bel.alloc ?_ _ | refine Bel.setCell ?_ (by simp <;> omega) _ | refine Bel.trans ?_ (by assumption))))⟩
          case measure => simp [intOf]; omega
        · have hlti : ¬ (j : Int) < (B : Int) := by omega
          go_wp2
          go_ret
          exact ⟨rfl, HBW.out⟩
end Go.Proofs.Ytkdcdhkhadhcfaa
namespace Go.Proofs.Ytkdcdhkhadhcfaa
open Go Go.RowKit
set_option maxHeartbeats 4000000
set_option maxRecDepth 100000
/-- The parts of the first k places. -/
def parC (l : List LSp) (k : Nat) : List Value := (List.range 4).flatMap fun i => if i < k then [.int .i64 (partLo l i), .int .i64 (partHi l i)] else [.int .i64 0, .int .i64 0]
theorem parC_set {l : List LSp} {k : Nat} (hk : k < 4) (a b c d : Value) : (([a, b, c, d] ++ parC l k).set (4 + k * 2) (.int .i64 (partLo l k))).set (4 + k * 2 + 1) (.int .i64 (partHi l k)) = [a, b, c, d] ++ parC l (k + 1) := by
  have : k = 0 ∨ k = 1 ∨ k = 2 ∨ k = 3 := by omega
  rcases this with rfl | rfl | rfl | rfl <;> rfl
theorem parC_at {l : List LSp} {k i : Nat} (hi : i < k) (hk : k ≤ 4) (a b c d : Value) : ([a, b, c, d] ++ parC l k)[4 + i * 2 + 1]? = some (.int .i64 (partHi l i)) := by
  have h1 : i = 0 ∨ i = 1 ∨ i = 2 ∨ i = 3 := by omega
  have h2 : k = 1 ∨ k = 2 ∨ k = 3 ∨ k = 4 := by omega
  rcases h1 with rfl | rfl | rfl | rfl <;> rcases h2 with rfl | rfl | rfl | rfl <;> first | rfl | omega
theorem parC_zero {l : List LSp} {k : Nat} (hk : k < 4) (a b c d : Value) : ([a, b, c, d] ++ parC l k)[4 + k * 2]? = some (.int .i64 0) ∧ ([a, b, c, d] ++ parC l k)[4 + k * 2 + 1]? = some (.int .i64 0) := by
  have : k = 0 ∨ k = 1 ∨ k = 2 ∨ k = 3 := by omega
  rcases this with rfl | rfl | rfl | rfl <;> exact ⟨rfl, rfl⟩
theorem parC_len {l : List LSp} {k : Nat} (hk : k < 4) (a b c d : Value) : ([a, b, c, d] ++ parC l k).length = 12 := by
  have : k = 0 ∨ k = 1 ∨ k = 2 ∨ k = 3 := by omega
  rcases this with rfl | rfl | rfl | rfl <;> rfl
/-- An open sea. -/
def SeaBx (w : World) (g : Nat) (s : LSea) (pv bv : Value) (k : Nat) : Prop := Bx w g ([.int .i64 s.w.lo, .int .i64 s.w.hi, pv, bv] ++ parC s.pl k)
theorem SeaBx.bel {w w' : World} {g : Nat} {s : LSea} {pv bv : Value} {k : Nat} (h : SeaBx w g s pv bv k) (b : Bel w w') : SeaBx w' g s pv bv k := Bx.bel h b
theorem lfOpen_any (s : LSea) (pa ba : Option Addr) (pc bc : Nat) (w : World) (hs : LOk s) (hp : PlAt w (.slice pa s.pl.length pc) s.pl) (hb : BoAt w (.slice ba s.bo.length bc) s.bo) :
    Calls Try.prog 79 #[.agg #[.int .i64 s.w.lo, .int .i64 s.w.hi, .slice pa s.pl.length pc, .slice ba s.bo.length bc], .bool true] w fun e w' => ∃ g, e = .returned (.tuple #[.pointer (some ⟨g, 0, none⟩), .int .i64 0]) ∧ w.heap.size ≤ g ∧ SeaBx w' g s (.slice pa s.pl.length pc) (.slice ba s.bo.length bc) s.pl.length ∧ Bel w w' := by
  have HCK := Lib.hid (fun wx (hx : Bel w wx) => lfCheck_any s _ wx hs ⟨_, _, rfl, hp.bel hx, hb.bel hx⟩)
  obtain ⟨_, _, pb, po, pe, hpa, _, hpc⟩ := hp
  injection pe with pe1 _ pe3
  subst pe1 pe3
  have hixp := idxPl (c := pc) hpa
  have HPC := Lib.hid hpc
  have HPK := Lib.hid (fun k (hk : k < s.pl.length) => hs.p hk)
  have HSU := Lib.hid (fun k (hk : k ≤ s.pl.length) => sums_b (fun i hi => hs.p hi) k hk)
  have HLO := Lib.hid (fun k => show lowsTo s.pl (k + 1) = lowsTo s.pl k + (atS s.pl k).lo ∧ highsTo s.pl (k + 1) = highsTo s.pl k + (atS s.pl k).hi from ⟨rfl, rfl⟩)
  have HPA := Lib.hid (fun k => show partLo s.pl k = max (atS s.pl k).lo (12 - (highsTo s.pl s.pl.length - (atS s.pl k).hi)) ∧ partHi s.pl k = min (atS s.pl k).hi (12 - (lowsTo s.pl s.pl.length - (atS s.pl k).lo)) from ⟨rfl, rfl⟩)
  have h4 := hs.p4
  have HSET := Lib.hid (fun (k : Nat) (hk : k < 4) a b c d => parC_set (l := s.pl) hk a b c d)
  clear hs hpa hpc hb
  generalize hG : s.pl.length = G at *
  have HG := Lib.hid hG
  clear hG
  generalize s.bo.length = B at *
  go_enter Try.func79, Try.ntmps79
  go_wp2_with fail
  refine (HCK.out _ (by repeat (first | assumption | exact Bel.refl _ | refine Bel.drew ?_ | refine Bel.drewN ?_ _ | refine Bel.alloc ?_ _ | refine Bel.setCell ?_ (by simp <;> omega) _ | refine Bel.trans ?_ (by assumption)))).mono ?_
  rintro e w1 ⟨rfl, hb⟩
  have HX : Hid (Bx w1 w.heap.size [.int .i64 s.w.lo, .int .i64 s.w.hi, .slice pa G pc, .slice ba B bc]) := Lib.hid ((Bx.new rfl).bel hb)
  have HB1 := Lib.hid (show Bel w w1 from Bel.trans (by repeat (first | assumption | exact Bel.refl _ | refine Bel.drew ?_ | refine Bel.drewN ?_ _ | refine Bel.alloc ?_ _ | refine Bel.setCell ?_ (by simp <;> omega) _ | refine Bel.trans ?_ (by assumption))) hb)
  clear hb HCK
  have x0 := HX.out.c 0 _ rfl
  have x1 := HX.out.c 1 _ rfl
  have x2 := HX.out.c 2 _ rfl
  have x3 := HX.out.c 3 _ rfl
  have lx := HX.out.lt
  go_wp2_with fail
  generalize hW : World.alloc _ _ = W0
  have HSB : Hid (Bx W0 w1.heap.size ([.int .i64 s.w.lo, .int .i64 s.w.hi, .slice pa G pc, .slice ba B bc] ++ parC s.pl 0)) := Lib.hid (by rw [← hW]; exact Bx.new rfl)
  have hb0 : Bel w1 W0 := by rw [← hW]; exact (Bel.refl w1).alloc _
  replace HX := Lib.hid (HX.out.bel hb0)
  have HBW := Lib.hid (HB1.out.trans hb0)
  have hsz : w.heap.size ≤ w1.heap.size := HB1.out.szle
  clear hW hb0 x0 x1 x2 x3 lx
  go_loopw [8, 9, 27] (fun lo hi i wr => ∃ k : Nat, k ≤ G ∧ i = .int .i64 k ∧ lo = .int .i64 (lowsTo s.pl k) ∧ hi = .int .i64 (highsTo s.pl k) ∧ Hid (Bel W0 wr)) (fun _ _ i _ => G - (intOf i).toNat)
  case atStart => exact ⟨0, by omega, rfl, rfl, rfl, Lib.hid (Bel.refl _)⟩
  case round =>
    obtain ⟨k, hk, rfl, rfl, rfl, hbr⟩ := hrel
    have HBR0 := Lib.hid (HBW.out.trans hbr.out)
    obtain ⟨u1, u2, u3⟩ := HSU.out k hk
    by_cases hlt : k < G
    · have hlti : (k : Int) < (G : Int) := by omega
      have k0 := HBR0.out.cell (HPC.out k hlt).1
      have k1 := HBR0.out.cell (HPC.out k hlt).2
      have lk := cell_lt k0
      obtain ⟨e1, e2⟩ := HLO.out k
      have HE1 := Lib.hid e1
      have HE2 := Lib.hid e2
      obtain ⟨v1, v2, v3⟩ := HPK.out k hlt
      clear e1 e2 HPK HLO HPA HSET
      generalize atS s.pl k = p at *
      generalize lowsTo s.pl k = L at *
      generalize highsTo s.pl k = H at *
      go_wp2_with fail
      generalize hW : World.alloc _ _ = W1
      have HN : Hid (Bx W1 wr.heap.size [.int .i64 p.lo, .int .i64 p.hi]) := Lib.hid (by rw [← hW]; exact Bx.new rfl)
      have hb1 : Bel wr W1 := by rw [← hW]; exact (Bel.refl wr).alloc _
      have HB2 := Lib.hid (hbr.out.trans hb1)
      clear hW hb1 k0 k1 lk
      have n0 := HN.out.c 0 _ rfl
      have n1 := HN.out.c 1 _ rfl
      have ln := HN.out.lt
      refine wp_region_mixB (Plan.seq [0, 1, 2, 3, 4, 5, 6, 7, 8, 9] .nil) (by kernel_rfl) (by kernel_rfl) (fun hcur => ?_)
      simp only [Plan.seq, Plan.fill, List.getD_cons_zero, List.getD_cons_succ, Nat.reduceLT, ↓reduceIte]
      apply mix_pure _ rfl
      · intro w' hw'
        have hcr := hw'.cells
        go_simp
        rfl
      intro K hK
      go_simp
      refine hK _ ?_
      clear hK K
      apply mix_pure _ rfl
      · intro w' hw'
        have hcr := hw'.cells
        go_simp
        rfl
      intro K hK
      go_simp
      refine hK _ ?_
      clear hK K
      apply mix_pure _ rfl
      · intro w' hw'
        have hcr := hw'.cells
        go_simp
        rfl
      intro K hK
      go_simp
      refine hK _ ?_
      clear hK K
      apply mix_pure _ rfl
      · intro w' hw'
        have hcr := hw'.cells
        go_simp
        first | (rw [IntWalk.i64_in]; all_goals first | omega | rfl) | rfl
      intro K hK
      go_simp
      refine hK _ ?_
      clear hK K
      apply mix_pure _ rfl
      · intro w' hw'
        have hcr := hw'.cells
        go_simp
        rfl
      intro K hK
      go_simp
      refine hK _ ?_
      clear hK K
      apply mix_pure _ rfl
      · intro w' hw'
        have hcr := hw'.cells
        go_simp
        rfl
      intro K hK
      go_simp
      refine hK _ ?_
      clear hK K
      apply mix_pure _ rfl
      · intro w' hw'
        have hcr := hw'.cells
        go_simp
        rfl
      intro K hK
      go_simp
      refine hK _ ?_
      clear hK K
      apply mix_pure _ rfl
      · intro w' hw'
        have hcr := hw'.cells
        go_simp
        first | (rw [IntWalk.i64_in]; all_goals first | omega | rfl) | rfl
      intro K hK
      go_simp
      refine hK _ ?_
      clear hK K
      apply mix_pure _ rfl
      · intro w' hw'
        have hcr := hw'.cells
        go_simp
        rfl
      intro K hK
      go_simp
      refine hK _ ?_
      clear hK K
      apply mix_pure _ rfl
      · intro w' hw'
        have hcr := hw'.cells
        go_simp
        rfl
      intro K hK
      go_simp
      refine hK _ ?_
      clear hK K
      refine mix_nil ?_
      have HBR := Lib.hid (HB2.out.trans hcur)
      clear hcur
      go_wp2
      go_roundw
      case rel => exact ⟨k + 1, by omega, by go_num, by rw [HE1.out], by rw [HE2.out], HBR⟩
      case measure => simp [intOf]; omega
    · have hlti : ¬ (k : Int) < (G : Int) := by omega
      obtain rfl : k = G := by omega
      replace HX := Lib.hid (HX.out.bel hbr.out)
      replace HSB := Lib.hid (HSB.out.bel hbr.out)
      clear HLO HBW hk HSU
      generalize lowsTo s.pl k = L at *
      generalize highsTo s.pl k = H at *
      have x2 := HX.out.c 2 _ rfl
      have lx := HX.out.lt
      go_wp2_with fail
      clear x2 lx
      go_loopw [43] (fun i wq => ∃ j : Nat, j ≤ k ∧ i = .int .i64 j ∧ Hid (Bx wq w1.heap.size ([.int .i64 s.w.lo, .int .i64 s.w.hi, .slice pa k pc, .slice ba B bc] ++ parC s.pl j)) ∧ Hid (Bel w wq)) (fun i _ => k - (intOf i).toNat)
      case atStart => exact ⟨0, by omega, rfl, HSB, HBR0⟩
      case round =>
        obtain ⟨j, hj, rfl, hbx, hbq⟩ := hrel
        by_cases hlt : j < k
        · have hlti : (j : Int) < (k : Int) := by omega
          have k0 := hbq.out.cell (HPC.out j hlt).1
          have k1 := hbq.out.cell (HPC.out j hlt).2
          have lk := cell_lt k0
          obtain ⟨v1, v2, v3⟩ := HPK.out j hlt
          obtain ⟨e1, e2⟩ := HPA.out j
          have HE1 := Lib.hid e1
          have HE2 := Lib.hid e2
          have HST := Lib.hid (HSET.out j (by omega) (.int .i64 s.w.lo) (.int .i64 s.w.hi) (.slice pa k pc) (.slice ba B bc))
          rw [HE1.out, HE2.out] at HST
          have HZR := Lib.hid (parC_zero (l := s.pl) (k := j) (by omega) (.int .i64 s.w.lo) (.int .i64 s.w.hi) (.slice pa k pc) (.slice ba B bc))
          have HLN := Lib.hid (parC_len (l := s.pl) (k := j) (by omega) (.int .i64 s.w.lo) (.int .i64 s.w.hi) (.slice pa k pc) (.slice ba B bc))
          have hj4 : j < 4 := by omega
          have hj4i : (j : Int) < 4 := by omega
          clear e1 e2 HPK HPA HSET HPC HE1 HE2
          generalize hcs : parC s.pl j = cs at *
          clear hcs
          generalize atS s.pl j = p at *
          go_wp2_with fail
          generalize hW : World.alloc _ _ = W1
          have HN : Hid (Bx W1 wr.heap.size [.int .i64 p.lo, .int .i64 p.hi]) := Lib.hid (by rw [← hW]; exact Bx.new rfl)
          have hb1 : Bel wr W1 := by rw [← hW]; exact (Bel.refl wr).alloc _
          have HB1x := Lib.hid (hbx.out.bel hb1)
          have HBQ := Lib.hid (hbq.out.trans hb1)
          clear hW hb1 k0 k1 lk hbx hbq
          have n0 := HN.out.c 0 _ rfl
          have n1 := HN.out.c 1 _ rfl
          have ln := HN.out.lt
          have lg := HB1x.out.lt
          refine wp_region_mixTB (Plan.seq [0, 1, 2, 3, 4, 5, 6, 7, 8, 9, 10, 11, 12, 13, 14, 15, 16, 17, 18, 19, 20, 21] .nil) (by kernel_rfl) (by kernel_rfl) (fun hcur => ?_)
          simp only [Plan.seq, Plan.fill, List.getD_cons_zero, List.getD_cons_succ, Nat.reduceLT, ↓reduceIte]
          apply mix_pure _ rfl
          · intro w' hw'
            have hcr := hw'.cells
            go_simp
            rfl
          intro K hK
          go_simp
          refine hK _ ?_
          clear hK K
          apply mix_pure _ rfl
          · intro w' hw'
            have hcr := hw'.cells
            go_simp
            rfl
          intro K hK
          go_simp
          refine hK _ ?_
          clear hK K
          apply mix_pure _ rfl
          · intro w' hw'
            have hcr := hw'.cells
            go_simp
            rfl
          intro K hK
          go_simp
          refine hK _ ?_
          clear hK K
          apply mix_pure _ rfl
          · intro w' hw'
            have hcr := hw'.cells
            go_simp
            rfl
          intro K hK
          go_simp
          refine hK _ ?_
          clear hK K
          apply mix_pure _ rfl
          · intro w' hw'
            have hcr := hw'.cells
            go_simp
            rfl
          intro K hK
          go_simp
          refine hK _ ?_
          clear hK K
          apply mix_pure _ rfl
          · intro w' hw'
            have hcr := hw'.cells
            go_simp
            rfl
          intro K hK
          go_simp
          refine hK _ ?_
          clear hK K
          apply mix_pure _ rfl
          · intro w' hw'
            have hcr := hw'.cells
            go_simp
            rfl
          intro K hK
          go_simp
          refine hK _ ?_
          clear hK K
          apply mix_pure _ rfl
          · intro w' hw'
            have hcr := hw'.cells
            go_simp
            first | (rw [IntWalk.i64_in]; all_goals first | omega | rfl) | rfl
          intro K hK
          go_simp
          refine hK _ ?_
          clear hK K
          apply mix_pure _ rfl
          · intro w' hw'
            have hcr := hw'.cells
            go_simp
            first | (rw [IntWalk.i64_in]; all_goals first | omega | rfl) | rfl
          intro K hK
          go_simp
          refine hK _ ?_
          clear hK K
          apply mix_pure _ rfl
          · intro w' hw'
            have hcr := hw'.cells
            go_simp
            rfl
          intro K hK
          go_simp
          refine hK _ ?_
          clear hK K
          apply mix_pure _ rfl
          · intro w' hw'
            have hcr := hw'.cells
            go_simp
            rfl
          intro K hK
          go_simp
          refine hK _ ?_
          clear hK K
          apply mix_pure _ rfl
          · intro w' hw'
            have hcr := hw'.cells
            go_simp
            rfl
          intro K hK
          go_simp
          refine hK _ ?_
          clear hK K
          apply mix_pure _ rfl
          · intro w' hw'
            have hcr := hw'.cells
            go_simp
            rfl
          intro K hK
          go_simp
          refine hK _ ?_
          clear hK K
          apply mix_pure _ rfl
          · intro w' hw'
            have hcr := hw'.cells
            go_simp
            rfl
          intro K hK
          go_simp
          refine hK _ ?_
          clear hK K
          apply mix_pure _ rfl
          · intro w' hw'
            have hcr := hw'.cells
            go_simp
            rfl
          intro K hK
          go_simp
          refine hK _ ?_
          clear hK K
          apply mix_pure _ rfl
          · intro w' hw'
            have hcr := hw'.cells
            go_simp
            first | (rw [IntWalk.i64_in]; all_goals first | omega | rfl) | rfl
          intro K hK
          go_simp
          refine hK _ ?_
          clear hK K
          apply mix_pure _ rfl
          · intro w' hw'
            have hcr := hw'.cells
            go_simp
            first | (rw [IntWalk.i64_in]; all_goals first | omega | rfl) | rfl
          intro K hK
          go_simp
          refine hK _ ?_
          clear hK K
          apply mix_pure _ rfl
          · intro w' hw'
            have hcr := hw'.cells
            go_simp
            rfl
          intro K hK
          go_simp
          refine hK _ ?_
          clear hK K
          apply mix_pure _ rfl
          · intro w' hw'
            have hcr := hw'.cells
            go_simp
            rfl
          intro K hK
          go_simp
          refine hK _ ?_
          clear hK K
          apply mix_pure _ rfl
          · intro w' hw'
            have hcr := hw'.cells
            go_simp
            rfl
          intro K hK
          go_simp
          refine hK _ ?_
          clear hK K
          apply mix_pure _ rfl
          · intro w' hw'
            have hcr := hw'.cells
            go_simp
            rfl
          intro K hK
          go_simp
          refine hK _ ?_
          clear hK K
          apply mix_pure _ rfl
          · intro w' hw'
            have hcr := hw'.cells
            go_simp
            rfl
          intro K hK
          go_simp
          refine hK _ ?_
          clear hK K
          refine mix_tailK rfl (fun K hK => ?_)
          have z0 := HB1x.out.c (4 + j * 2) _ HZR.out.1
          have z1 := HB1x.out.c (4 + j * 2 + 1) _ HZR.out.2
          have zf := HB1x.out.f
          go_simp
          generalize hW7 : World.drew _ = W7
          have HF : Hid (Bx W7 w1.heap.size ([.int .i64 s.w.lo, .int .i64 s.w.hi, .slice pa k pc, .slice ba B bc] ++ parC s.pl (j + 1))) := Lib.hid (by
            have h := ((HB1x.out.set (i := 4 + j * 2) (by rw [HLN.out]; omega) (.int .i64 (max p.lo (12 - (H - p.hi))))).set (i := 4 + j * 2 + 1) (by rw [List.length_set, HLN.out]; omega) (.int .i64 (min p.hi (12 - (L - p.lo))))).bel (Bel.refl _).drew
            rw [HST.out] at h
            rw [← hW7]
            exact h)
          have HBF : Hid (Bel w W7) := Lib.hid (by
            rw [← hW7]
            exact ((HBQ.out.setCell (p := ⟨w1.heap.size, 4 + j * 2, none⟩) hsz (.int .i64 (max p.lo (12 - (H - p.hi))))).setCell (p := ⟨w1.heap.size, 4 + j * 2 + 1, none⟩) hsz (.int .i64 (min p.hi (12 - (L - p.lo))))).drew)
          refine hK _ _ ?_
          clear hK K z0 z1 zf hcur hW7
          go_wp2
          go_roundw
          case rel => exact ⟨j + 1, by omega, by go_num, HF, HBF⟩
          case measure => simp [intOf]; omega
        · have hlti : ¬ (j : Int) < (k : Int) := by omega
          obtain rfl : j = k := by omega
          go_wp2
          go_ret2
          exact ⟨_, rfl, hsz, hbx.out, hbq.out⟩
theorem lfNeed_any (s : LSea) (pv bv : Value) (g i : Nat) (w : World) (hs : LOk s) (hx : SeaBx w g s pv bv s.pl.length) (hi : i < s.pl.length) :
    Calls Try.prog 109 #[.pointer (some ⟨g, 0, none⟩), .int .i64 i] w fun e w' => e = .returned (.int .i64 (needV s i)) ∧ Bel w w' := by
  have HN := Lib.hid (show needV s i = (s.w.hi * partHi s.pl i + 11) / 12 from rfl)
  have hp := (hs.part hi).2.2
  have hw := hs.w
  have h4 := hs.p4
  have c1 := hx.c 1 _ rfl
  have c2 := hx.c (4 + i * 2 + 1) _ (parC_at hi h4 _ _ _ _)
  have lx := hx.lt
  have hi4 : (i : Int) < 4 := by omega
  have hm1 := Int.mul_nonneg (show (0 : Int) ≤ s.w.hi by omega) hp.1
  have hm2 : s.w.hi * partHi s.pl i ≤ 2000 * 12 := Int.mul_le_mul hw.2.2 hp.2 hp.1 (by omega)
  have HD := Lib.hid (show Int.tdiv (s.w.hi * partHi s.pl i + 12 - 1) 12 = needV s i by rw [HN.out, Int.tdiv_eq_ediv_of_nonneg (by omega)]; congr 1; omega)
  have hnb : 0 ≤ needV s i ∧ needV s i ≤ 3000 := by
    rw [HN.out]
    generalize s.w.hi * partHi s.pl i = x at *
    omega
  clear HN hs hx hi
  generalize needV s i = N at *
  generalize partHi s.pl i = P at *
  generalize s.w.hi = H at *
  generalize hM : H * P = M at *
  go_enter Try.func109, Try.ntmps109
  go_wp2_with fail
  refine wp_region_mixB (Plan.seq [0, 1, 2, 3, 4, 5, 6, 7, 8, 9, 10, 11, 12, 13, 14, 15, 16, 17] .nil) (by kernel_rfl) (by kernel_rfl) (fun hcur => ?_)
  simp only [Plan.seq, Plan.fill, List.getD_cons_zero, List.getD_cons_succ, Nat.reduceLT, ↓reduceIte]
  apply mix_pure _ rfl
  · intro w' hw'
    have hcr := hw'.cells
    go_simp
    rfl
  intro K hK
  go_simp
  refine hK _ ?_
  clear hK K
  apply mix_pure _ rfl
  · intro w' hw'
    have hcr := hw'.cells
    go_simp
    rfl
  intro K hK
  go_simp
  refine hK _ ?_
  clear hK K
  apply mix_pure _ rfl
  · intro w' hw'
    have hcr := hw'.cells
    go_simp
    rfl
  intro K hK
  go_simp
  refine hK _ ?_
  clear hK K
  apply mix_pure _ rfl
  · intro w' hw'
    have hcr := hw'.cells
    go_simp
    rfl
  intro K hK
  go_simp
  refine hK _ ?_
  clear hK K
  apply mix_pure _ rfl
  · intro w' hw'
    have hcr := hw'.cells
    go_simp
    rfl
  intro K hK
  go_simp
  refine hK _ ?_
  clear hK K
  apply mix_pure _ rfl
  · intro w' hw'
    have hcr := hw'.cells
    go_simp
    rfl
  intro K hK
  go_simp
  refine hK _ ?_
  clear hK K
  apply mix_pure _ rfl
  · intro w' hw'
    have hcr := hw'.cells
    go_simp
    rfl
  intro K hK
  go_simp
  refine hK _ ?_
  clear hK K
  apply mix_pure _ rfl
  · intro w' hw'
    have hcr := hw'.cells
    go_simp
    rfl
  intro K hK
  go_simp
  refine hK _ ?_
  clear hK K
  apply mix_pure _ rfl
  · intro w' hw'
    have hcr := hw'.cells
    go_simp
    rfl
  intro K hK
  go_simp
  refine hK _ ?_
  clear hK K
  apply mix_pure _ rfl
  · intro w' hw'
    have hcr := hw'.cells
    go_simp
    rfl
  intro K hK
  go_simp
  refine hK _ ?_
  clear hK K
  apply mix_pure _ rfl
  · intro w' hw'
    have hcr := hw'.cells
    go_simp
    rfl
  intro K hK
  go_simp
  refine hK _ ?_
  clear hK K
  apply mix_pure _ rfl
  · intro w' hw'
    have hcr := hw'.cells
    go_simp
    rfl
  intro K hK
  go_simp
  refine hK _ ?_
  clear hK K
  apply mix_pure _ rfl
  · intro w' hw'
    have hcr := hw'.cells
    go_simp
    rfl
  intro K hK
  go_simp
  refine hK _ ?_
  clear hK K
  apply mix_pure _ rfl
  · intro w' hw'
    have hcr := hw'.cells
    go_simp
    first | (rw [IntWalk.i64_in]; all_goals first | omega | rfl) | rfl
  intro K hK
  go_simp
  refine hK _ ?_
  clear hK K
  apply mix_pure _ rfl
  · intro w' hw'
    have hcr := hw'.cells
    go_simp
    first | (rw [IntWalk.i64_in]; all_goals first | omega | rfl) | rfl
  intro K hK
  go_simp
  refine hK _ ?_
  clear hK K
  apply mix_pure _ rfl
  · intro w' hw'
    have hcr := hw'.cells
    go_simp
    first | (rw [IntWalk.i64_in]; all_goals first | omega | rfl) | rfl
  intro K hK
  go_simp
  refine hK _ ?_
  clear hK K
  apply mix_pure _ rfl
  · intro w' hw'
    have hcr := hw'.cells
    go_simp
    rfl
  intro K hK
  go_simp
  refine hK _ ?_
  clear hK K
  apply mix_pure _ rfl
  · intro w' hw'
    have hcr := hw'.cells
    go_simp
    rfl
  intro K hK
  go_simp
  refine hK _ ?_
  clear hK K
  refine mix_nil ?_
  have HC := Lib.hid hcur
  clear hcur
  go_wp2
  go_ret
  refine ⟨ri ?_, HC.out⟩
  rw [HD.out, IntWalk.i64_in]
  all_goals omega
theorem lfHolds_any (s : LSea) (pv : Value) (c : List Int) (cv : Value) (g : Nat) (ba : Option Addr) (bc : Nat) (w : World) (hs : LOk s) (hx : SeaBx w g s pv (.slice ba s.bo.length bc) s.pl.length) (hb : BoAt w (.slice ba s.bo.length bc) s.bo) (hc : IntsAt w cv c) (hl : c.length = s.pl.length) (hin : ∀ i, i < c.length → 0 ≤ at0 c i ∧ at0 c i < s.bo.length) :
    Calls Try.prog 83 #[.pointer (some ⟨g, 0, none⟩), cv] w fun e w' => e = .returned (.bool (holdsV s c)) ∧ Bel w w' := by
  have HND := Lib.hid (fun i (hi : i < s.pl.length) wx (hb : Bel w wx) => lfNeed_any s pv (.slice ba s.bo.length bc) g i wx hs (hx.bel hb) hi)
  have HB := Lib.hid hb
  obtain ⟨_, _, bb, bo, be, hba, _, hbc⟩ := hb
  injection be with be1 _ be3
  subst be1 be3
  have hixb := idxBo (c := bc) hba
  have HBC := Lib.hid hbc
  obtain ⟨ca, cc, cb, co, rfl, hca, ⟨hcl, _⟩, hcc⟩ := hc
  have hixc := idxInts (c := cc) hca
  have HCC := Lib.hid hcc
  have HIN := Lib.hid hin
  have HX := Lib.hid (show holdsV s c = allB c.length fun i => !decide (carryV s c i < needV s i) from rfl)
  have x3 := hx.c 3 _ rfl
  have lx := hx.lt
  have hl4 : c.length ≤ 4 := by rw [hl]; exact hs.p4
  have HL := Lib.hid hl
  clear hs hx hba hbc hca hcc hin hl
  generalize hBB : s.bo.length = B at *
  clear hBB
  go_enter Try.func83, Try.ntmps83
  go_wp2
  go_loopw [9] (fun i wr => ∃ k : Nat, k ≤ c.length ∧ i = .int .i64 k ∧ Hid (allB k (fun i => !decide (carryV s c i < needV s i)) = true) ∧ Hid (Bel w wr)) (fun i _ => c.length - (intOf i).toNat)
  case atStart => exact ⟨0, by omega, rfl, Lib.hid rfl, Lib.hid (Bel.refl _)⟩
  case round =>
    obtain ⟨k, hk, rfl, hno, hbr⟩ := hrel
    by_cases hlt : k < c.length
    · have hlti : (k : Int) < (c.length : Int) := by omega
      obtain ⟨g1, g2⟩ := HIN.out k hlt
      obtain ⟨j, hj⟩ : ∃ j : Nat, at0 c k = (j : Int) := ⟨(at0 c k).toNat, by omega⟩
      have hjB : j < B := by omega
      have k0 := hbr.out.cell (HCC.out k hlt)
      rw [hj] at k0
      have b0 := hbr.out.cell (HBC.out j hjB).1
      have HCV := Lib.hid (show carryV s c k = (atBo s.bo j).ca by unfold carryV; rw [hj]; rfl)
      rw [← HCV.out] at b0
      replace x3 := hbr.out.cell x3
      have lx := cell_lt x3
      have lk := cell_lt k0
      have lb := cell_lt b0
      have HNK := Lib.hid (fun wx (hb : Bel wr wx) => HND.out k (by rw [← HL.out]; exact hlt) wx (hbr.out.trans hb))
      have HNX := Lib.hid (fun (h : (!decide (carryV s c k < needV s k)) = true) => allB_succ hno.out (f := fun i => !decide (carryV s c i < needV s i)) h)
      have HNF := Lib.hid (fun (h : (!decide (carryV s c k < needV s k)) = false) => show holdsV s c = false by rw [HX.out]; exact allB_false k hlt h)
      clear hj g1 g2 HCV HND HCC HBC HIN hno HX
      generalize carryV s c k = C at *
      generalize needV s k = N at *
      by_cases hq : C < N
      · have dq : decide (C < N) = true := decide_eq_true hq
        have HR := Lib.hid (HNF.out (by rw [dq]; rfl))
        clear HNX HNF hq
        go_wp2_with fail
        refine wp_region_mixB (Plan.seq [0, 1, 2, 3, 4, 5, 6, 7, 8, 9, 10, 1011, 12] .nil) (by kernel_rfl) (by kernel_rfl) (fun hcur => ?_)
        simp only [Plan.seq, Plan.fill, List.getD_cons_zero, List.getD_cons_succ, Nat.reduceLT, ↓reduceIte, Nat.reduceSub]
        apply mix_pure _ rfl
        · intro w' hw'
          have hcr := hw'.cells
          go_simp
          rfl
        intro K hK
        go_simp
        refine hK _ ?_
        clear hK K
        apply mix_pure _ rfl
        · intro w' hw'
          have hcr := hw'.cells
          go_simp
          rfl
        intro K hK
        go_simp
        refine hK _ ?_
        clear hK K
        apply mix_pure _ rfl
        · intro w' hw'
          have hcr := hw'.cells
          go_simp
          rfl
        intro K hK
        go_simp
        refine hK _ ?_
        clear hK K
        apply mix_pure _ rfl
        · intro w' hw'
          have hcr := hw'.cells
          go_simp
          rfl
        intro K hK
        go_simp
        refine hK _ ?_
        clear hK K
        apply mix_pure _ rfl
        · intro w' hw'
          have hcr := hw'.cells
          go_simp
          rfl
        intro K hK
        go_simp
        refine hK _ ?_
        clear hK K
        apply mix_pure _ rfl
        · intro w' hw'
          have hcr := hw'.cells
          go_simp
          rfl
        intro K hK
        go_simp
        refine hK _ ?_
        clear hK K
        apply mix_pure _ rfl
        · intro w' hw'
          have hcr := hw'.cells
          go_simp
          rfl
        intro K hK
        go_simp
        refine hK _ ?_
        clear hK K
        apply mix_pure _ rfl
        · intro w' hw'
          have hcr := hw'.cells
          go_simp
          rfl
        intro K hK
        go_simp
        refine hK _ ?_
        clear hK K
        apply mix_pure _ rfl
        · intro w' hw'
          have hcr := hw'.cells
          go_simp
          rfl
        intro K hK
        go_simp
        refine hK _ ?_
        clear hK K
        apply mix_pure _ rfl
        · intro w' hw'
          have hcr := hw'.cells
          go_simp
          rfl
        intro K hK
        go_simp
        refine hK _ ?_
        clear hK K
        apply mix_pure _ rfl
        · intro w' hw'
          have hcr := hw'.cells
          go_simp
          rfl
        intro K hK
        go_simp
        refine hK _ ?_
        clear hK K
        refine mix_act rfl (fun K hK => ?_)
        go_simp
        refine (HNK.out _ hcur).mono ?_
        rintro e w5 ⟨rfl, hb⟩
        simp only []
        refine hK _ _ (hcur.trans hb) (fun hcur => ?_)
        clear hK K hb
        apply mix_pure _ rfl
        · intro w' hw'
          have hcr := hw'.cells
          go_simp
          rfl
        intro K hK
        go_simp
        refine hK _ ?_
        clear hK K
        refine mix_nil ?_
        have HC := Lib.hid (hbr.out.trans hcur)
        clear hcur
        go_wp2
        go_ret
        exact ⟨rb (by rw [HR.out]), HC.out⟩
      · have dq : decide (C < N) = false := decide_eq_false hq
        have HR := Lib.hid (HNX.out (by rw [dq]; rfl))
        clear HNX HNF hq
        go_wp2_with fail
        refine wp_region_mixB (Plan.seq [0, 1, 2, 3, 4, 5, 6, 7, 8, 9, 10, 1011, 12] .nil) (by kernel_rfl) (by kernel_rfl) (fun hcur => ?_)
        simp only [Plan.seq, Plan.fill, List.getD_cons_zero, List.getD_cons_succ, Nat.reduceLT, ↓reduceIte, Nat.reduceSub]
        apply mix_pure _ rfl
        · intro w' hw'
          have hcr := hw'.cells
          go_simp
          rfl
        intro K hK
        go_simp
        refine hK _ ?_
        clear hK K
        apply mix_pure _ rfl
        · intro w' hw'
          have hcr := hw'.cells
          go_simp
          rfl
        intro K hK
        go_simp
        refine hK _ ?_
        clear hK K
        apply mix_pure _ rfl
        · intro w' hw'
          have hcr := hw'.cells
          go_simp
          rfl
        intro K hK
        go_simp
        refine hK _ ?_
        clear hK K
        apply mix_pure _ rfl
        · intro w' hw'
          have hcr := hw'.cells
          go_simp
          rfl
        intro K hK
        go_simp
        refine hK _ ?_
        clear hK K
        apply mix_pure _ rfl
        · intro w' hw'
          have hcr := hw'.cells
          go_simp
          rfl
        intro K hK
        go_simp
        refine hK _ ?_
        clear hK K
        apply mix_pure _ rfl
        · intro w' hw'
          have hcr := hw'.cells
          go_simp
          rfl
        intro K hK
        go_simp
        refine hK _ ?_
        clear hK K
        apply mix_pure _ rfl
        · intro w' hw'
          have hcr := hw'.cells
          go_simp
          rfl
        intro K hK
        go_simp
        refine hK _ ?_
        clear hK K
        apply mix_pure _ rfl
        · intro w' hw'
          have hcr := hw'.cells
          go_simp
          rfl
        intro K hK
        go_simp
        refine hK _ ?_
        clear hK K
        apply mix_pure _ rfl
        · intro w' hw'
          have hcr := hw'.cells
          go_simp
          rfl
        intro K hK
        go_simp
        refine hK _ ?_
        clear hK K
        apply mix_pure _ rfl
        · intro w' hw'
          have hcr := hw'.cells
          go_simp
          rfl
        intro K hK
        go_simp
        refine hK _ ?_
        clear hK K
        apply mix_pure _ rfl
        · intro w' hw'
          have hcr := hw'.cells
          go_simp
          rfl
        intro K hK
        go_simp
        refine hK _ ?_
        clear hK K
        refine mix_act rfl (fun K hK => ?_)
        go_simp
        refine (HNK.out _ hcur).mono ?_
        rintro e w5 ⟨rfl, hb⟩
        simp only []
        refine hK _ _ (hcur.trans hb) (fun hcur => ?_)
        clear hK K hb
        apply mix_pure _ rfl
        · intro w' hw'
          have hcr := hw'.cells
          go_simp
          rfl
        intro K hK
        go_simp
        refine hK _ ?_
        clear hK K
        refine mix_nil ?_
        have HC := Lib.hid (hbr.out.trans hcur)
        clear hcur
        go_wp2
        go_roundw
        case rel => exact ⟨k + 1, by omega, by go_num, HR, HC⟩
        case measure => simp [intOf]; omega
    · have hlti : ¬ (k : Int) < (c.length : Int) := by omega
      obtain rfl : k = c.length := by omega
      have HR := Lib.hid (show holdsV s c = true by rw [HX.out]; exact hno.out)
      clear HX
      go_wp2
      go_ret
      exact ⟨rb (by rw [HR.out]), hbr.out⟩
end Go.Proofs.Ytkdcdhkhadhcfaa
