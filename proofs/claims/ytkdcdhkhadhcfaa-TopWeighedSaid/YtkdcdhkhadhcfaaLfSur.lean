/-
  the top law: surer.
-/
import Derived.Test.YtkdcdhkhadhcfaaLfEx
import Derived.Test.YtkdcdhkhadhcfaaTopEnds
namespace Go.Proofs.Ytkdcdhkhadhcfaa
open Go Go.RowKit
set_option maxHeartbeats 4000000
set_option maxRecDepth 100000
/-- The last chamber at the last time. -/
noncomputable def lastLo (t : CT) : Int := fishLo t (t.T.toNat - 1 : Nat) (t.C.toNat - 1 : Nat)
noncomputable def lastHi (t : CT) : Int := fishHi t (t.T.toNat - 1 : Nat) (t.C.toNat - 1 : Nat)
def lastN (t : CT) (l : List (List Int)) : Int := at0 (atL l (t.T.toNat - 1)) (t.C.toNat - 1)
theorem last_b {t : CT} (hval : validB t = true) {l : List (List Int)} (h : IsT t l) : 0 ≤ lastLo t ∧ lastLo t ≤ lastN t l ∧ lastN t l ≤ lastHi t ∧ lastHi t ≤ 40 := by
  have hf := fit_of_valid hval
  exact (fish_b hval h (show t.T.toNat - 1 < t.T.toNat by have := hf.t1; omega) (show t.C.toNat - 1 < t.C.toNat by have := hf.c1; omega)).2
theorem last_told {t : CT} (hval : validB t = true) {x : CW} (hvo : validB (told t x) = true) {l : List (List Int)} (h : IsT (told t x) l) : lastLo t ≤ lastLo (told t x) ∧ lastHi (told t x) ≤ lastHi t := by
  have hf := fit_of_valid hval
  exact fish_told hval hvo h (show t.T.toNat - 1 < t.T.toNat by have := hf.t1; omega) (show t.C.toNat - 1 < t.C.toNat by have := hf.c1; omega)
theorem lastFish_any (t : CT) (l : List (List Int)) (v : Value) (w : World) (hv : TrapAt w v t) (hval : validB t = true) (h : IsT t l) :
    Calls Try.prog 23 #[v] w fun e w' => e = .returned (.tuple #[.agg #[.int .i64 (lastLo t), .int .i64 (lastHi t)], .bool true]) ∧ Bel w w' := by
  have hf := fit_of_valid hval
  obtain ⟨b1, b2, b3, b4⟩ := last_b hval h
  have ht1 : 1 ≤ t.T ∧ t.T ≤ 5 := ⟨hf.t1, hf.t2⟩
  have hc1 : 1 ≤ t.C ∧ t.C ≤ 4 := ⟨hf.c1, hf.c2⟩
  have HFI := Lib.hid (fun wx (hb : Bel w wx) => show Calls Try.prog 53 #[v, .int .i64 (t.T - 1), .int .i64 (t.C - 1)] wx (fun e w' => e = .returned (.tuple #[.agg #[.int .i64 (lastLo t), .int .i64 (lastHi t)], .int .i64 0]) ∧ Bel wx w') from by
    have e1 : t.T - 1 = ((t.T.toNat - 1 : Nat) : Int) := by omega
    have e2 : t.C - 1 = ((t.C.toNat - 1 : Nat) : Int) := by omega
    rw [e1, e2]
    have := Fish_any t v ((t.T.toNat - 1 : Nat) : Int) ((t.C.toNat - 1 : Nat) : Int) wx (hv.bel hb)
    unfold SpanPost at this
    rw [(fish_b hval h (show t.T.toNat - 1 < t.T.toNat by omega) (show t.C.toNat - 1 < t.C.toNat by omega)).1] at this
    exact this)
  obtain ⟨a, c, wa, wc, rfl, _, _⟩ := hv.formW
  have q1 : 0 ≤ lastLo t := b1
  have q2 : lastLo t ≤ lastHi t := by omega
  have q3 : lastHi t ≤ 40 := b4
  clear hv hval h hf b1 b2 b3 b4
  generalize lastLo t = lo at *
  generalize lastHi t = hi at *
  generalize t.op.length = n1 at *
  generalize t.ws.length = n2 at *
  generalize t.T = T at *
  generalize t.C = C at *
  have d1 : decide (0 ≤ lo) = true := decide_eq_true q1
  have d2 : decide (lo ≤ hi) = true := decide_eq_true q2
  have d3 : decide (hi ≤ 40) = true := decide_eq_true q3
  go_enter Try.func23, Try.ntmps23
  go_wp2_with fail
  generalize hW : World.alloc _ _ = W0
  have HB : Hid (Bel w W0) := Lib.hid (by rw [← hW]; exact ((Bel.refl w).alloc _).alloc _)
  have HR : Hid (Bx W0 (w.heap.size + 1) [.int .i64 0, .int .i64 0]) := Lib.hid (by rw [← hW]; exact Bx.new (by simp))
  clear hW
  refine (HFI.out _ HB.out).mono ?_
  rintro e w1 ⟨rfl, hb⟩
  replace HR := Lib.hid (HR.out.bel hb)
  replace HB := Lib.hid (HB.out.trans hb)
  clear hb HFI
  go_upto_region 2 with fail
  generalize hW : World.alloc _ _ = W1
  have HS : Hid (Bx W1 w1.heap.size [.int .i64 lo, .int .i64 hi]) := Lib.hid (by rw [← hW]; exact Bx.new rfl)
  have hb1 : Bel w1 W1 := by rw [← hW]; exact (Bel.refl w1).alloc _
  have HR1 := Lib.hid (HR.out.bel hb1)
  have HB1 := Lib.hid (HB.out.trans hb1)
  have hlt : w.heap.size + 1 < w1.heap.size := HR.out.lt
  clear hW hb1 HR HB
  have hc0 : Bx W1.drew w1.heap.size [.int .i64 lo, .int .i64 hi] := HS.out.bel (Bel.refl _).drew
  refine wp_region_mixC (Plan.seq [0, 1, 2, 3, 4, 5, 6, 7, 8, 9, 10, 11, 12, 13, 14, 15, 16, 17, 18, 19, 1020, 21] .nil) (fun q => Bx q w1.heap.size [.int .i64 lo, .int .i64 hi]) (by kernel_rfl) (by kernel_rfl) (hc0) (fun hcur => ?_)
  simp only [Plan.seq, Plan.fill, List.getD_cons_zero, List.getD_cons_succ, Nat.reduceLT, ↓reduceIte, Nat.reduceSub]
  apply mix_pure _ rfl
  · intro w' hw'
    have s0 := hw'.c 0 _ rfl
    have s1 := hw'.c 1 _ rfl
    go_simp
    rfl
  intro K hK
  go_simp
  refine hK _ ?_
  clear hK K
  apply mix_pure _ rfl
  · intro w' hw'
    have s0 := hw'.c 0 _ rfl
    have s1 := hw'.c 1 _ rfl
    go_simp
    rfl
  intro K hK
  go_simp
  refine hK _ ?_
  clear hK K
  apply mix_pure _ rfl
  · intro w' hw'
    have s0 := hw'.c 0 _ rfl
    have s1 := hw'.c 1 _ rfl
    go_simp
    rfl
  intro K hK
  go_simp
  refine hK _ ?_
  clear hK K
  apply mix_pure _ rfl
  · intro w' hw'
    have s0 := hw'.c 0 _ rfl
    have s1 := hw'.c 1 _ rfl
    go_simp
    rfl
  intro K hK
  go_simp
  refine hK _ ?_
  clear hK K
  apply mix_pureG _ (by go_simp)
  · intro w' hw'
    have s0 := hw'.c 0 _ rfl
    have s1 := hw'.c 1 _ rfl
    go_simp
    rfl
  intro K hK
  go_simp
  refine hK _ ?_
  clear hK K
  apply mix_pureG _ (by go_simp)
  · intro w' hw'
    have s0 := hw'.c 0 _ rfl
    have s1 := hw'.c 1 _ rfl
    go_simp
    rfl
  intro K hK
  go_simp
  refine hK _ ?_
  clear hK K
  apply mix_pureG _ (by go_simp)
  · intro w' hw'
    have s0 := hw'.c 0 _ rfl
    have s1 := hw'.c 1 _ rfl
    go_simp
    rfl
  intro K hK
  go_simp
  refine hK _ ?_
  clear hK K
  apply mix_pure _ rfl
  · intro w' hw'
    have s0 := hw'.c 0 _ rfl
    have s1 := hw'.c 1 _ rfl
    go_simp
    rfl
  intro K hK
  go_simp
  refine hK _ ?_
  clear hK K
  apply mix_pure _ rfl
  · intro w' hw'
    have s0 := hw'.c 0 _ rfl
    have s1 := hw'.c 1 _ rfl
    go_simp
    rfl
  intro K hK
  go_simp
  refine hK _ ?_
  clear hK K
  apply mix_pureG _ (by go_simp)
  · intro w' hw'
    have s0 := hw'.c 0 _ rfl
    have s1 := hw'.c 1 _ rfl
    go_simp
    rfl
  intro K hK
  go_simp
  refine hK _ ?_
  clear hK K
  apply mix_pureG _ (by go_simp)
  · intro w' hw'
    have s0 := hw'.c 0 _ rfl
    have s1 := hw'.c 1 _ rfl
    go_simp
    rfl
  intro K hK
  go_simp
  refine hK _ ?_
  clear hK K
  apply mix_pureG _ (by go_simp)
  · intro w' hw'
    have s0 := hw'.c 0 _ rfl
    have s1 := hw'.c 1 _ rfl
    go_simp
    rfl
  intro K hK
  go_simp
  refine hK _ ?_
  clear hK K
  apply mix_pureG _ (by go_simp)
  · intro w' hw'
    have s0 := hw'.c 0 _ rfl
    have s1 := hw'.c 1 _ rfl
    go_simp
    rfl
  intro K hK
  go_simp
  refine hK _ ?_
  clear hK K
  apply mix_pureG _ (by go_simp)
  · intro w' hw'
    have s0 := hw'.c 0 _ rfl
    have s1 := hw'.c 1 _ rfl
    go_simp
    rfl
  intro K hK
  go_simp
  refine hK _ ?_
  clear hK K
  apply mix_pure _ rfl
  · intro w' hw'
    have s0 := hw'.c 0 _ rfl
    have s1 := hw'.c 1 _ rfl
    go_simp
    rfl
  intro K hK
  go_simp
  refine hK _ ?_
  clear hK K
  apply mix_pure _ rfl
  · intro w' hw'
    have s0 := hw'.c 0 _ rfl
    have s1 := hw'.c 1 _ rfl
    go_simp
    rfl
  intro K hK
  go_simp
  refine hK _ ?_
  clear hK K
  apply mix_pureG _ (by go_simp)
  · intro w' hw'
    have s0 := hw'.c 0 _ rfl
    have s1 := hw'.c 1 _ rfl
    go_simp
    rfl
  intro K hK
  go_simp
  refine hK _ ?_
  clear hK K
  apply mix_pureG _ (by go_simp)
  · intro w' hw'
    have s0 := hw'.c 0 _ rfl
    have s1 := hw'.c 1 _ rfl
    go_simp
    rfl
  intro K hK
  go_simp
  refine hK _ ?_
  clear hK K
  apply mix_pureG _ (by go_simp)
  · intro w' hw'
    have s0 := hw'.c 0 _ rfl
    have s1 := hw'.c 1 _ rfl
    go_simp
    rfl
  intro K hK
  go_simp
  refine hK _ ?_
  clear hK K
  apply mix_pure _ rfl
  · intro w' hw'
    have s0 := hw'.c 0 _ rfl
    have s1 := hw'.c 1 _ rfl
    go_simp
    rfl
  intro K hK
  go_simp
  refine hK _ ?_
  clear hK K
  refine mix_act rfl (fun K hK => ?_)
  have r0 := HR1.out.c 0 _ rfl
  have r1 := HR1.out.c 1 _ rfl
  have rf' := HR1.out.f
  have rl := HR1.out.lt
  go_simp
  generalize hW7 : World.drew _ = W7
  have h7 : Bx W7 w1.heap.size [.int .i64 lo, .int .i64 hi] := by rw [← hW7]; exact ((HS.out.other (q := w.heap.size + 1) (i := 0) (by omega) (.int .i64 lo)).other (q := w.heap.size + 1) (i := 1) (by omega) (.int .i64 hi)).bel (Bel.refl _).drew
  have HR7 : Hid (Bx W7 (w.heap.size + 1) [.int .i64 lo, .int .i64 hi]) := Lib.hid (by rw [← hW7]; exact ((HR1.out.set (i := 0) (by simp) (.int .i64 lo)).set (i := 1) (by simp) (.int .i64 hi)).bel (Bel.refl _).drew)
  have HB7 : Hid (Bel w W7) := Lib.hid (by rw [← hW7]; exact ((HB1.out.setCell (p := ⟨w.heap.size + 1, 0, none⟩) (by show w.heap.size ≤ w.heap.size + 1; omega) (.int .i64 lo)).setCell (p := ⟨w.heap.size + 1, 1, none⟩) (by show w.heap.size ≤ w.heap.size + 1; omega) (.int .i64 hi)).drew)
  refine hK _ _ h7 (fun hcur => ?_)
  clear hK K r0 r1 rf' rl hW7 h7
  apply mix_pure _ rfl
  · intro w' hw'
    have s0 := hw'.c 0 _ rfl
    have s1 := hw'.c 1 _ rfl
    go_simp
    rfl
  intro K hK
  go_simp
  refine hK _ ?_
  clear hK K
  refine mix_nil ?_
  have r0 := HR7.out.c 0 _ rfl
  have r1 := HR7.out.c 1 _ rfl
  have rl := HR7.out.lt
  clear hcur hc0
  go_wp2
  exact bodyPost_ret (v := .tuple #[.agg #[.int .i64 lo, .int .i64 hi], .bool true]) (by simp [results, Try.results23, go_sem, *]) rfl ⟨rfl, HB7.out⟩
/-! the catch -/
def catchS (s : LSea) (lo hi m : Int) : LSea := ⟨⟨lo * m, hi * m⟩, s.pl, s.bo⟩
theorem catch_ok {s : LSea} (h : LOk s) {lo hi m : Int} (h1 : 0 ≤ lo) (h2 : lo ≤ hi) (h3 : hi ≤ 40) (hm : 0 ≤ m ∧ m ≤ 50) : LOk (catchS s lo hi m) :=
  ⟨⟨Int.mul_nonneg h1 hm.1, Int.mul_le_mul_of_nonneg_right h2 hm.1, by
    show hi * m ≤ 2000
    have := Int.mul_le_mul h3 hm.2 hm.1 (by omega : (0 : Int) ≤ 40)
    omega⟩, h.p4, h.b6, h.ps, h.sum, h.bs⟩
theorem catch_nar {s : LSea} {lo hi lo2 hi2 m : Int} (h1 : lo2 ≤ lo) (h2 : hi ≤ hi2) (hm : 0 ≤ m) : Nar (catchS s lo hi m) (catchS s lo2 hi2 m) :=
  ⟨rfl, rfl, Int.mul_le_mul_of_nonneg_right h1 hm, Int.mul_le_mul_of_nonneg_right h2 hm⟩
theorem own_slice {a : Option Addr} {n c g : Nat} (h : (Value.slice a n c).ownBlock = some g) : ∃ ad, a = some ad ∧ ad.block = g := by
  cases a with
  | none => simp [Value.ownBlock] at h
  | some ad => exact ⟨ad, rfl, by have e : some ad.block = some g := h; injection e⟩
theorem PlAt.set {w : World} {v : Value} {l : List LSp} {p : Addr} {u : Value} (h : PlAt w v l) (hp : ∀ g, v.ownBlock = some g → g ≠ p.block) : PlAt (w.setCell p u) v l := by
  obtain ⟨a, c, b, off, rfl, ha, hl, hc⟩ := h
  refine ⟨a, c, b, off, rfl, ha, hl, fun i hi => ?_⟩
  have e := ha (by omega)
  subst e
  have hb := hp b rfl
  exact ⟨(World.cell?_setCell_other _ _ _ _ (by intro q; rw [q] at hb; exact hb rfl)).trans (hc i hi).1, (World.cell?_setCell_other _ _ _ _ (by intro q; rw [q] at hb; exact hb rfl)).trans (hc i hi).2⟩
theorem BoAt.set {w : World} {v : Value} {l : List LBo} {p : Addr} {u : Value} (h : BoAt w v l) (hp : ∀ g, v.ownBlock = some g → g ≠ p.block) : BoAt (w.setCell p u) v l := by
  obtain ⟨a, c, b, off, rfl, ha, hl, hc⟩ := h
  refine ⟨a, c, b, off, rfl, ha, hl, fun i hi => ?_⟩
  have e := ha (by omega)
  subst e
  have hb := hp b rfl
  exact ⟨(World.cell?_setCell_other _ _ _ _ (by intro q; rw [q] at hb; exact hb rfl)).trans (hc i hi).1, (World.cell?_setCell_other _ _ _ _ (by intro q; rw [q] at hb; exact hb rfl)).trans (hc i hi).2⟩
theorem withCatch_any (s : LSea) (lo hi m : Int) (v : Value) (w : World) (hs : LOk s) (h1 : 0 ≤ lo) (h2 : lo ≤ hi) (h3 : hi ≤ 40) (hm : 0 ≤ m ∧ m ≤ 50) (hv : SeaAt w v s) :
    Calls Try.prog 24 #[v, .agg #[.int .i64 lo, .int .i64 hi], .int .i64 m] w fun e w' => ∃ v', e = .returned v' ∧ SeaAt w' v' (catchS s lo hi m) ∧ Bel w w' := by
  have HC := Lib.hid (fun wx (hb : Bel w wx) => R5Copy_any s v wx (hv.bel hb) (by have := hs.p4; omega) (by have := hs.b6; omega))
  have hx1 : 0 ≤ lo * m ∧ lo * m ≤ 2000 := ⟨Int.mul_nonneg h1 hm.1, by have := Int.mul_le_mul (show lo ≤ 40 by omega) hm.2 hm.1 (by omega : (0 : Int) ≤ 40); omega⟩
  have hx2 : 0 ≤ hi * m ∧ hi * m ≤ 2000 := ⟨Int.mul_nonneg (by omega) hm.1, by have := Int.mul_le_mul h3 hm.2 hm.1 (by omega : (0 : Int) ≤ 40); omega⟩
  have HCS := Lib.hid (show catchS s lo hi m = ⟨⟨lo * m, hi * m⟩, s.pl, s.bo⟩ from rfl)
  obtain ⟨pa, pc, ba, bc, rfl, _, _, _, _⟩ := hv.open
  clear hv hs
  generalize hX : lo * m = X at *
  generalize hY : hi * m = Y at *
  generalize hpl : s.pl.length = G at *
  generalize hbo : s.bo.length = B at *
  have HPL := Lib.hid hpl
  have HBO := Lib.hid hbo
  clear hpl hbo
  go_enter Try.func24, Try.ntmps24
  go_wp2_with fail
  generalize hW : World.alloc _ _ = W0
  have HB : Hid (Bel w W0) := Lib.hid (by rw [← hW]; exact (((Bel.refl w).alloc _).alloc _).alloc _)
  have HF : Hid (Bx W0 (w.heap.size + 1) [.int .i64 lo, .int .i64 hi]) := Lib.hid (by rw [← hW]; exact (Bx.new (by simp)).bel ((Bel.refl _).alloc _))
  have HR : Hid (Bx W0 (w.heap.size + 1 + 1) [.int .i64 0, .int .i64 0, .slice none 0 0, .slice none 0 0]) := Lib.hid (by rw [← hW]; exact Bx.new (by simp))
  clear hW
  have hw0 : w.heap.size + 1 + 1 < W0.heap.size := HR.out.lt
  refine (HC.out _ HB.out).mono ?_
  rintro e w1 ⟨pa', pc', ba', bc', rfl, hp, hbb, hfp, hfb, hup, hub, hb⟩
  have HP := Lib.hid hp
  have HBB := Lib.hid hbb
  have HFP := Lib.hid hfp
  have HFB := Lib.hid hfb
  have HUP := Lib.hid hup
  have HUB := Lib.hid hub
  replace HF := Lib.hid (HF.out.bel hb)
  replace HR := Lib.hid (HR.out.bel hb)
  replace HB := Lib.hid (HB.out.trans hb)
  clear hb hp hbb hfp hfb hup hub HC
  go_upto_region 2 with fail
  generalize hW : World.alloc _ _ = W1
  have HO : Hid (Bx W1 w1.heap.size [.int .i64 s.w.lo, .int .i64 s.w.hi, .slice pa' G pc', .slice ba' B bc']) := Lib.hid (by rw [← hW]; exact Bx.new rfl)
  have hb1 : Bel w1 W1 := by rw [← hW]; exact (Bel.refl w1).alloc _
  have HF1 := Lib.hid (HF.out.bel hb1)
  have HR1 := Lib.hid (HR.out.bel hb1)
  have HB1 := Lib.hid (HB.out.trans hb1)
  have HP1 := Lib.hid (HP.out.bel hb1)
  have HBB1 := Lib.hid (HBB.out.bel hb1)
  have hlt : w.heap.size + 1 + 1 < w1.heap.size := HR.out.lt
  have HNP := Lib.hid (show ∀ g, (Value.slice pa' G pc').ownBlock = some g → g ≠ w.heap.size + 1 + 1 from fun g hg => by have := HFP.out g hg; omega)
  have HNB := Lib.hid (show ∀ g, (Value.slice ba' B bc').ownBlock = some g → g ≠ w.heap.size + 1 + 1 from fun g hg => by have := HFB.out g hg; omega)
  have HLT1 := Lib.hid (show ∀ g, (Value.slice pa' G pc').ownBlock = some g → g < w1.heap.size from HUP.out)
  have HLT2 := Lib.hid (show ∀ g, (Value.slice ba' B bc').ownBlock = some g → g < w1.heap.size from HUB.out)
  clear hW hb1 HF HR HB HP HBB HFP HFB
  have f0 := HF1.out.c 0 _ rfl
  have f1 := HF1.out.c 1 _ rfl
  have fl := HF1.out.lt
  have o0 := HO.out.c 0 _ rfl
  have o1 := HO.out.c 1 _ rfl
  have of' := HO.out.f
  have ol := HO.out.lt
  go_upto_region 3 with fail
  generalize hW : World.setCell _ _ _ = W2
  have HO2 : Hid (Bx W2 w1.heap.size [.int .i64 X, .int .i64 Y, .slice pa' G pc', .slice ba' B bc']) := Lib.hid (by rw [← hW]; exact (HO.out.set (i := 0) (by simp) (.int .i64 X)).set (i := 1) (by simp) (.int .i64 Y))
  have HR2 : Hid (Bx W2 (w.heap.size + 1 + 1) [.int .i64 0, .int .i64 0, .slice none 0 0, .slice none 0 0]) := Lib.hid (by rw [← hW]; exact (HR1.out.other (q := w1.heap.size) (i := 0) (by omega) (.int .i64 X)).other (q := w1.heap.size) (i := 1) (by omega) (.int .i64 Y))
  have HPW : Hid (PlAt W2 (.slice pa' G pc') s.pl ∧ BoAt W2 (.slice ba' B bc') s.bo ∧ Bel w W2) := Lib.hid (by
    rw [← hW]
    refine ⟨(HP1.out.set ?_).set ?_, (HBB1.out.set ?_).set ?_, (HB1.out.setCell (p := ⟨w1.heap.size, 0, none⟩) (by show w.heap.size ≤ w1.heap.size; omega) (.int .i64 X)).setCell (p := ⟨w1.heap.size, 1, none⟩) (by show w.heap.size ≤ w1.heap.size; omega) (.int .i64 Y)⟩
    all_goals
      intro g hg
      first | (have := HLT1.out g hg; show g ≠ w1.heap.size; omega) | (have := HLT2.out g hg; show g ≠ w1.heap.size; omega))
  clear hW HP1 HBB1 HO HR1 HB1 HF1 f0 f1 fl o0 o1 of' ol
  have o0 := HO2.out.c 0 _ rfl
  have o1 := HO2.out.c 1 _ rfl
  have o2 := HO2.out.c 2 _ rfl
  have o3 := HO2.out.c 3 _ rfl
  have ol := HO2.out.lt
  have r0 := HR2.out.c 0 _ rfl
  have r1 := HR2.out.c 1 _ rfl
  have r2 := HR2.out.c 2 _ rfl
  have r3 := HR2.out.c 3 _ rfl
  have rf' := HR2.out.f
  have rl := HR2.out.lt
  go_wp2
  refine bodyPost_ret (v := .agg #[.int .i64 X, .int .i64 Y, .slice pa' G pc', .slice ba' B bc']) (by simp [results, Try.results24, go_sem, *]) rfl ?_
  have key : ∀ W9, PlAt W9 (.slice pa' G pc') s.pl → BoAt W9 (.slice ba' B bc') s.bo → Bel w W9 → ∃ v', Ending.returned (.agg #[.int .i64 X, .int .i64 Y, .slice pa' G pc', .slice ba' B bc']) = .returned v' ∧ SeaAt W9 v' (catchS s lo hi m) ∧ Bel w W9 := fun W9 a1 a2 a3 =>
    ⟨_, rfl, by rw [HCS.out]; exact ⟨_, _, rfl, a1, a2⟩, a3⟩
  refine key _ ?_ ?_ ?_
  · repeat (refine PlAt.set ?_ (fun g hg => HNP.out g hg))
    exact HPW.out.1
  · repeat (refine BoAt.set ?_ (fun g hg => HNB.out g hg))
    exact HPW.out.2.1
  · repeat (refine Bel.setCell ?_ (by show w.heap.size ≤ w.heap.size + 1 + 1; omega) _)
    exact HPW.out.2.2
end Go.Proofs.Ytkdcdhkhadhcfaa
namespace Go.Proofs.Ytkdcdhkhadhcfaa
open Go Go.RowKit
set_option maxHeartbeats 4000000
set_option maxRecDepth 100000
theorem crewB_same {s t : LSea} (h : Nar s t) (c : List Int) : crewB s c = crewB t c := by
  unfold crewB
  rw [h.pl, h.bo]
theorem safe_in (s : LSea) (c : List Int) : withinB (safeV s c) 1 3 = true := by
  unfold safeV
  split
  · decide
  · split <;> decide
theorem surer_any (s t : LSea) (c : List Int) (sv tv cv : Value) (w : World) (hs : LOk s) (ht : LOk t) (hn : Nar s t) (h40 : c.length ≤ 1000) (hvs : SeaAt w sv s) (hvt : SeaAt w tv t) (hc : IntsAt w cv c) :
    Calls Try.prog 25 #[sv, tv, cv] w fun e w' => e = .returned (.bool true) ∧ Bel w w' := by
  have HIC := Lib.hid (fun wx (hb : Bel w wx) => R5IsCrew_any s c sv cv wx (hvs.bel hb) (hc.bel hb) h40)
  have HSS := Lib.hid (fun (hcr : crewB t c = true) V wx (hb : Bel w wx) (hV : IntsAt wx V c) => lfSafe_any s c V sv wx hs (by rw [crewB_same hn]; exact hcr) (hvs.bel hb) hV)
  have HST := Lib.hid (fun (hcr : crewB t c = true) V wx (hb : Bel w wx) (hV : IntsAt wx V c) => lfSafe_any t c V tv wx ht hcr (hvt.bel hb) hV)
  have HCS := Lib.hid (fun wx (hb : Bel w wx) => lfCheap_any s sv wx hs (hvs.bel hb))
  have HCT := Lib.hid (fun wx (hb : Bel w wx) => lfCheap_any t tv wx ht (hvt.bel hb))
  have HMO := Lib.hid (fun (hcr : crewB t c = true) (k : safeV t c ≠ 3) => safe_mono ht ⟨hs.w.1, hs.w.2.1⟩ hn hcr k)
  have HIN := Lib.hid (safe_in t c)
  have HCM := Lib.hid (fun (h : 0 ≤ cheapV t) => cheap_mono ht hn h)
  have HEQ := Lib.hid (crewB_same hn c)
  obtain ⟨pa, pc, ba, bc, rfl, _, _, _, _⟩ := hvs.open
  obtain ⟨qa, qc, da, dc, rfl, _, _, _, _⟩ := hvt.open
  have HCI := Lib.hid hc
  obtain ⟨ca, cc, cb, co, rfl, hca, ⟨hcl, _⟩, hcc⟩ := hc
  have HSRC := Lib.hid (fun wx (hb : Bel w wx) => ints_from (w := wx) hca fun i hi => hb.cell (hcc i hi))
  obtain ⟨i1, hi1, hz1, hs1, hb1⟩ := info_parts mkInt
  have HI1 := Lib.hid hi1
  have HZ1 := Lib.hid hz1
  have HLE := Lib.hid (show (c.map (Value.int .i64)).length = c.length by simp)
  clear hs ht hn hvs hvt hca hcc hi1 hz1
  generalize s.bo.length = B at *
  generalize s.pl.length = G at *
  generalize t.bo.length = B2 at *
  generalize t.pl.length = G2 at *
  go_enter Try.func25, Try.ntmps25
  go_wp2_with fail
  generalize hW : World.alloc _ _ = W0
  have HB : Hid (Bel w W0) := Lib.hid (by rw [← hW]; exact ((Bel.refl w).alloc _).alloc _)
  have HX : Hid (Bx W0 w.heap.size [.int .i64 s.w.lo, .int .i64 s.w.hi, .slice pa G pc, .slice ba B bc]) := Lib.hid (by rw [← hW]; exact (Bx.new rfl).bel ((Bel.refl _).alloc _))
  have HY : Hid (Bx W0 (w.heap.size + 1) [.int .i64 t.w.lo, .int .i64 t.w.hi, .slice qa G2 qc, .slice da B2 dc]) := Lib.hid (by rw [← hW]; exact Bx.new (by simp))
  clear hW
  refine (HIC.out _ HB.out).mono ?_
  rintro e w1 ⟨rfl, hb⟩
  replace HX := Lib.hid (HX.out.bel hb)
  replace HY := Lib.hid (HY.out.bel hb)
  replace HB := Lib.hid (HB.out.trans hb)
  clear hb HIC
  rw [HEQ.out]
  cases hcr : crewB t c
  rotate_left
  · have HS1 := Lib.hid (HSS.out hcr)
    have HT1 := Lib.hid (HST.out hcr)
    have HM1 := Lib.hid (HMO.out hcr)
    clear hcr HSS HST HMO HEQ
    have x0 := HY.out.c 0 _ rfl
    have x1 := HY.out.c 1 _ rfl
    have x2 := HY.out.c 2 _ rfl
    have x3 := HY.out.c 3 _ rfl
    have lx := HY.out.lt
    go_wp2_with fail
    refine wp_region_mixB (Plan.seq [0, 2, 1001, 1003, 1004, 5, 6, 7, 8, 9] .nil) (by kernel_rfl) (by kernel_rfl) (fun hcur => ?_)
    simp only [Plan.seq, Plan.fill, List.getD_cons_zero, List.getD_cons_succ, Nat.reduceLT, ↓reduceIte, Nat.reduceSub]
    apply mix_pure _ rfl
    · intro w' hw'
      have hcr := hw'.cells
      go_simp
      rfl
    intro K hK
    go_simp
    refine hK _ ?_
    clear hK K
    apply mix_pure _ rfl
    · intro w' hw'
      have hcr := hw'.cells
      go_simp
      rfl
    intro K hK
    go_simp
    refine hK _ ?_
    clear hK K
    refine mix_act rfl (fun K hK => ?_)
    go_simp
    generalize hWA : World.drew (World.alloc _ _) = WA
    have hna := new_at hWA
    have HE := Lib.hid (fresh_at (T := 3) (sz := 1) hna.2.1)
    refine hK _ _ hna.1 (fun hcur => ?_)
    clear hK K hWA hna
    refine mix_act rfl (fun K hK => ?_)
    refine wp_append_opt _ _ 26 rfl 3 i1 (.int .i64 0) 1 8 Try.underlying26 HI1.out HZ1.out hs1 hb1 rfl (by decide) _ 0 [] rfl HE.out ca c.length cc (c.map (Value.int .i64)) rfl (by rw [HLE.out, Nat.mul_one]) (HSRC.out _ (HB.out.trans hcur)) (ints_one c) (by unfold maxLen; omega) (by omega) ?_
    intro V w7 hown hgrow hwhere
    have hi7 : Hid (IntsAt w7 V c) := Lib.hid (ownInts (by omega) (by simpa [Nat.zero_add] using hown))
    have hb7 : Bel w1 w7 := hcur.grown hgrow (fun j e => by
      have e2 : some w1.heap.size = some j := e
      injection e2 with e2
      omega)
    refine hK _ _ hb7 (fun hcur => ?_)
    clear hK K hown hgrow hwhere HE hb7
    refine mix_act rfl (fun K hK => ?_)
    go_simp
    refine (HT1.out V _ (HB.out.trans hcur) hi7.out).mono ?_
    rintro e w8 ⟨rfl, hb⟩
    simp only []
    refine hK _ _ (hcur.trans hb) (fun hcur => ?_)
    clear hK K hb
    apply mix_pure _ rfl
    · intro w' hw'
      have hcr := hw'.cells
      go_simp
      rfl
    intro K hK
    go_simp
    refine hK _ ?_
    clear hK K
    apply mix_pure _ rfl
    · intro w' hw'
      have hcr := hw'.cells
      go_simp
      rfl
    intro K hK
    go_simp
    refine hK _ ?_
    clear hK K
    apply mix_pure _ rfl
    · intro w' hw'
      have hcr := hw'.cells
      go_simp
      rfl
    intro K hK
    go_simp
    refine hK _ ?_
    clear hK K
    apply mix_pure _ rfl
    · intro w' hw'
      have hcr := hw'.cells
      go_simp
      rfl
    intro K hK
    go_simp
    refine hK _ ?_
    clear hK K
    apply mix_pure _ rfl
    · intro w' hw'
      have hcr := hw'.cells
      go_simp
      rfl
    intro K hK
    go_simp
    refine hK _ ?_
    clear hK K
    refine mix_nil ?_
    replace HX := Lib.hid (HX.out.bel hcur)
    replace HY := Lib.hid (HY.out.bel hcur)
    replace HB := Lib.hid (HB.out.trans hcur)
    clear hcur hi7 x0 x1 x2 x3 lx
    have x0 := HX.out.c 0 _ rfl
    have x1 := HX.out.c 1 _ rfl
    have x2 := HX.out.c 2 _ rfl
    have x3 := HX.out.c 3 _ rfl
    have lx := HX.out.lt
    go_wp2_with fail
    refine wp_region_mixB (Plan.seq [0, 2, 1001, 1003, 1004, 5, 6, 7, 8, 9] .nil) (by kernel_rfl) (by kernel_rfl) (fun hcur => ?_)
    simp only [Plan.seq, Plan.fill, List.getD_cons_zero, List.getD_cons_succ, Nat.reduceLT, ↓reduceIte, Nat.reduceSub]
    apply mix_pure _ rfl
    · intro w' hw'
      have hcr := hw'.cells
      go_simp
      rfl
    intro K hK
    go_simp
    refine hK _ ?_
    clear hK K
    apply mix_pure _ rfl
    · intro w' hw'
      have hcr := hw'.cells
      go_simp
      rfl
    intro K hK
    go_simp
    refine hK _ ?_
    clear hK K
    refine mix_act rfl (fun K hK => ?_)
    go_simp
    generalize hWA : World.drew (World.alloc _ _) = WA
    have hna := new_at hWA
    have HE := Lib.hid (fresh_at (T := 3) (sz := 1) hna.2.1)
    refine hK _ _ hna.1 (fun hcur => ?_)
    clear hK K hWA hna
    refine mix_act rfl (fun K hK => ?_)
    refine wp_append_opt _ _ 26 rfl 3 i1 (.int .i64 0) 1 8 Try.underlying26 HI1.out HZ1.out hs1 hb1 rfl (by decide) _ 0 [] rfl HE.out ca c.length cc (c.map (Value.int .i64)) rfl (by rw [HLE.out, Nat.mul_one]) (HSRC.out _ (HB.out.trans hcur)) (ints_one c) (by unfold maxLen; omega) (by omega) ?_
    intro V w17 hown hgrow hwhere
    have hi7 : Hid (IntsAt w17 V c) := Lib.hid (ownInts (by omega) (by simpa [Nat.zero_add] using hown))
    have hb7 : Bel w8 w17 := hcur.grown hgrow (fun j e => by
      have e2 : some w8.heap.size = some j := e
      injection e2 with e2
      omega)
    refine hK _ _ hb7 (fun hcur => ?_)
    clear hK K hown hgrow hwhere HE hb7
    refine mix_act rfl (fun K hK => ?_)
    go_simp
    refine (HS1.out V _ (HB.out.trans hcur) hi7.out).mono ?_
    rintro e w18 ⟨rfl, hb⟩
    simp only []
    refine hK _ _ (hcur.trans hb) (fun hcur => ?_)
    clear hK K hb
    apply mix_pure _ rfl
    · intro w' hw'
      have hcr := hw'.cells
      go_simp
      rfl
    intro K hK
    go_simp
    refine hK _ ?_
    clear hK K
    apply mix_pure _ rfl
    · intro w' hw'
      have hcr := hw'.cells
      go_simp
      rfl
    intro K hK
    go_simp
    refine hK _ ?_
    clear hK K
    apply mix_pure _ rfl
    · intro w' hw'
      have hcr := hw'.cells
      go_simp
      rfl
    intro K hK
    go_simp
    refine hK _ ?_
    clear hK K
    apply mix_pure _ rfl
    · intro w' hw'
      have hcr := hw'.cells
      go_simp
      rfl
    intro K hK
    go_simp
    refine hK _ ?_
    clear hK K
    apply mix_pure _ rfl
    · intro w' hw'
      have hcr := hw'.cells
      go_simp
      rfl
    intro K hK
    go_simp
    refine hK _ ?_
    clear hK K
    refine mix_nil ?_
    replace HX := Lib.hid (HX.out.bel hcur)
    replace HY := Lib.hid (HY.out.bel hcur)
    replace HB := Lib.hid (HB.out.trans hcur)
    clear hcur hi7 x0 x1 x2 x3 lx
    generalize safeV t c = K at *
    generalize safeV s c = L at *
    have hk := HIN.out
    by_cases hK : K = 3
    · subst hK
      clear HM1 HIN
      have y0 := HY.out.c 0 _ rfl
      have y1 := HY.out.c 1 _ rfl
      have y2 := HY.out.c 2 _ rfl
      have y3 := HY.out.c 3 _ rfl
      have ly := HY.out.lt
      go_wp2_with (first | (go_at_call 20; refine (Within_any _ _ _ _).mono ?_; rintro e w' ⟨rfl, rfl⟩) | fail)
      refine (HCT.out _ HB.out).mono ?_
      rintro e wp ⟨hct, hb⟩
      replace HX := Lib.hid (HX.out.bel hb)
      replace HB := Lib.hid (HB.out.trans hb)
      clear hb y0 y1 y2 y3 ly HY HCT
      unfold CheapP at hct
      rcases hct with ⟨c1, rfl⟩ | ⟨c1, rfl⟩
      · clear HCM c1
        have x0 := HX.out.c 0 _ rfl
        have x1 := HX.out.c 1 _ rfl
        have x2 := HX.out.c 2 _ rfl
        have x3 := HX.out.c 3 _ rfl
        have lx := HX.out.lt
        go_wp2_with fail
        refine (HCS.out _ HB.out).mono ?_
        rintro e wq ⟨hcs, hb⟩
        replace HB := Lib.hid (HB.out.trans hb)
        clear hb x0 x1 x2 x3 lx HX HCS
        unfold CheapP at hcs
        rcases hcs with ⟨_, rfl⟩ | ⟨_, rfl⟩
        all_goals
          go_wp2
          go_ret
          exact ⟨rfl, HB.out⟩
      · obtain ⟨c2, c3⟩ := HCM.out c1
        have x0 := HX.out.c 0 _ rfl
        have x1 := HX.out.c 1 _ rfl
        have x2 := HX.out.c 2 _ rfl
        have x3 := HX.out.c 3 _ rfl
        have lx := HX.out.lt
        clear HCM
        go_wp2_with fail
        refine (HCS.out _ HB.out).mono ?_
        rintro e wq ⟨hcs, hb⟩
        replace HB := Lib.hid (HB.out.trans hb)
        clear hb x0 x1 x2 x3 lx HX HCS
        unfold CheapP at hcs
        rcases hcs with ⟨c4, rfl⟩ | ⟨c4, rfl⟩
        · omega
        · generalize cheapV s = n at *
          generalize cheapV t = m at *
          have d1 : decide (0 ≤ n) = true := decide_eq_true c2
          have d2 : decide (n ≤ m) = true := decide_eq_true c3
          go_wp2
          go_ret
          exact ⟨rfl, HB.out⟩
    · have hL : L = K := HM1.out hK
      subst hL
      have hk3 : (L != 3) = true := by rw [bne_iff_ne]; exact hK
      have hk4 : (L != L) = false := by simp
      clear HM1 HIN hK
      have y0 := HY.out.c 0 _ rfl
      have y1 := HY.out.c 1 _ rfl
      have y2 := HY.out.c 2 _ rfl
      have y3 := HY.out.c 3 _ rfl
      have ly := HY.out.lt
      go_wp2_with (first | (go_at_call 20; refine (Within_any _ _ _ _).mono ?_; rintro e w' ⟨rfl, rfl⟩) | fail)
      refine (HCT.out _ HB.out).mono ?_
      rintro e wp ⟨hct, hb⟩
      replace HX := Lib.hid (HX.out.bel hb)
      replace HB := Lib.hid (HB.out.trans hb)
      clear hb y0 y1 y2 y3 ly HY HCT
      unfold CheapP at hct
      rcases hct with ⟨c1, rfl⟩ | ⟨c1, rfl⟩
      · clear HCM c1
        have x0 := HX.out.c 0 _ rfl
        have x1 := HX.out.c 1 _ rfl
        have x2 := HX.out.c 2 _ rfl
        have x3 := HX.out.c 3 _ rfl
        have lx := HX.out.lt
        go_wp2_with fail
        refine (HCS.out _ HB.out).mono ?_
        rintro e wq ⟨hcs, hb⟩
        replace HB := Lib.hid (HB.out.trans hb)
        clear hb x0 x1 x2 x3 lx HX HCS
        unfold CheapP at hcs
        rcases hcs with ⟨_, rfl⟩ | ⟨_, rfl⟩
        all_goals
          go_wp2
          go_ret
          exact ⟨rfl, HB.out⟩
      · obtain ⟨c2, c3⟩ := HCM.out c1
        have x0 := HX.out.c 0 _ rfl
        have x1 := HX.out.c 1 _ rfl
        have x2 := HX.out.c 2 _ rfl
        have x3 := HX.out.c 3 _ rfl
        have lx := HX.out.lt
        clear HCM
        go_wp2_with fail
        refine (HCS.out _ HB.out).mono ?_
        rintro e wq ⟨hcs, hb⟩
        replace HB := Lib.hid (HB.out.trans hb)
        clear hb x0 x1 x2 x3 lx HX HCS
        unfold CheapP at hcs
        rcases hcs with ⟨c4, rfl⟩ | ⟨c4, rfl⟩
        · omega
        · generalize cheapV s = n at *
          generalize cheapV t = m at *
          have d1 : decide (0 ≤ n) = true := decide_eq_true c2
          have d2 : decide (n ≤ m) = true := decide_eq_true c3
          go_wp2
          go_ret
          exact ⟨rfl, HB.out⟩
  · clear HSS HST HMO HEQ HIN HSRC hcr
    have y0 := HY.out.c 0 _ rfl
    have y1 := HY.out.c 1 _ rfl
    have y2 := HY.out.c 2 _ rfl
    have y3 := HY.out.c 3 _ rfl
    have ly := HY.out.lt
    go_wp2_with (first | (go_at_call 20; refine (Within_any _ _ _ _).mono ?_; rintro e w' ⟨rfl, rfl⟩) | fail)
    refine (HCT.out _ HB.out).mono ?_
    rintro e wp ⟨hct, hb⟩
    replace HX := Lib.hid (HX.out.bel hb)
    replace HB := Lib.hid (HB.out.trans hb)
    clear hb y0 y1 y2 y3 ly HY HCT
    unfold CheapP at hct
    rcases hct with ⟨c1, rfl⟩ | ⟨c1, rfl⟩
    · clear HCM c1
      have x0 := HX.out.c 0 _ rfl
      have x1 := HX.out.c 1 _ rfl
      have x2 := HX.out.c 2 _ rfl
      have x3 := HX.out.c 3 _ rfl
      have lx := HX.out.lt
      go_wp2_with fail
      refine (HCS.out _ HB.out).mono ?_
      rintro e wq ⟨hcs, hb⟩
      replace HB := Lib.hid (HB.out.trans hb)
      clear hb x0 x1 x2 x3 lx HX HCS
      unfold CheapP at hcs
      rcases hcs with ⟨_, rfl⟩ | ⟨_, rfl⟩
      all_goals
        go_wp2
        go_ret
        exact ⟨rfl, HB.out⟩
    · obtain ⟨c2, c3⟩ := HCM.out c1
      have x0 := HX.out.c 0 _ rfl
      have x1 := HX.out.c 1 _ rfl
      have x2 := HX.out.c 2 _ rfl
      have x3 := HX.out.c 3 _ rfl
      have lx := HX.out.lt
      clear HCM
      go_wp2_with fail
      refine (HCS.out _ HB.out).mono ?_
      rintro e wq ⟨hcs, hb⟩
      replace HB := Lib.hid (HB.out.trans hb)
      clear hb x0 x1 x2 x3 lx HX HCS
      unfold CheapP at hcs
      rcases hcs with ⟨c4, rfl⟩ | ⟨c4, rfl⟩
      · omega
      · generalize cheapV s = n at *
        generalize cheapV t = m at *
        have d1 : decide (0 ≤ n) = true := decide_eq_true c2
        have d2 : decide (n ≤ m) = true := decide_eq_true c3
        go_wp2
        go_ret
        exact ⟨rfl, HB.out⟩
end Go.Proofs.Ytkdcdhkhadhcfaa
