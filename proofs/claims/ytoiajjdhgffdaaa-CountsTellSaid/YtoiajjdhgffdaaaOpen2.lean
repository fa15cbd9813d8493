/-
  counts: Whole, Came, Passed.
-/
import Derived.Test.YtoiajjdhgffdaaaOpen
namespace Go.Proofs.Ytoiajjdhgffdaaa
open Go Go.RowKit
set_option maxHeartbeats 1000000
set_option maxRecDepth 100000
theorem wrap_eq (n : Int) : IntKind.i64.wrap n = wrap64 n := by rw [IntKind.wrap_i64]; unfold wrap64; omega
theorem TrapP.setOther {w : World} {tb : Nat} {C T : Int} {ov wv : Value} {M : Nat → Nat → Int} (h : TrapP w tb C T ov wv M) {p : Addr} (hp : p.block ≠ tb) (v : Value) : TrapP (w.setCell p v) tb C T ov wv M := by
  have e : ∀ o, (w.setCell p v).cell? ⟨tb, o, none⟩ = w.cell? ⟨tb, o, none⟩ := fun o => World.cell?_setCell_other _ _ _ _ (fun q => hp (by rw [q]))
  refine ⟨by rw [e]; exact h.c0, by rw [e]; exact h.c1, by rw [e]; exact h.c2, by rw [e]; exact h.c3, h.mat.of_eq e, fun o => ?_, ?_⟩
  · rw [World.frozen?_setCell]; exact h.fz o
  · obtain ⟨cs, h1, h2⟩ := h.shape
    exact ⟨cs, by rw [heap_setCell_other _ _ _ _ (fun q => hp q.symm)]; exact h1, h2⟩
def wholeLo (t : CT) (i : Int) : Int := -(setMat t (-1) (nd t.C i 0) 0)
def wholeHi (t : CT) (i : Int) : Int := setMat t (-1) 0 (nd t.C i 0)
def cameB (T f o : Int) : Bool := withinB f 0 o && decide (o < T)
def cameLo (t : CT) (f o : Int) : Int := -(setMat t (-1) (nd t.C o 0) (nd t.C f 0))
def cameHi (t : CT) (f o : Int) : Int := setMat t (-1) (nd t.C f 0) (nd t.C o 0)
def passB (C T s d : Int) : Bool := isStepB T s && isTimeB C d
def passLo (t : CT) (s d : Int) : Int := -(setMat t (-1) (nd t.C (s + 1) d) (nd t.C s d))
def passHi (t : CT) (s d : Int) : Int := setMat t (-1) (nd t.C s d) (nd t.C (s + 1) d)
theorem isTimeB_bounds {T i : Int} (hT1 : 1 ≤ T) (hT2 : T ≤ 5) (h : isTimeB T i = true) : 0 ≤ i ∧ i < T := by
  unfold isTimeB at h
  rw [withinB_true, wrap64_in (T - 1) (by omega)] at h
  omega
theorem cameB_bounds {T f o : Int} (h : cameB T f o = true) : 0 ≤ f ∧ f ≤ o ∧ o < T := by
  unfold cameB at h
  simp only [Bool.and_eq_true, withinB_true, decide_eq_true_eq] at h
  omega
theorem passB_bounds {C T s d : Int} (hC1 : 1 ≤ C) (hC2 : C ≤ 4) (hT1 : 1 ≤ T) (hT2 : T ≤ 5) (h : passB C T s d = true) : (0 ≤ s ∧ s + 1 < T) ∧ 0 ≤ d ∧ d < C := by
  unfold passB isStepB isTimeB at h
  simp only [Bool.and_eq_true, withinB_true] at h
  rw [wrap64_in (T - 2) (by omega), wrap64_in (C - 1) (by omega)] at h
  omega
theorem Whole_any (t : CT) (v : Value) (i : Int) (w : World) (hv : TrapAt w v t) :
    Calls Try.prog 37 #[v, .int .i64 i] w (SpanPost (errR t (isTimeB t.T i)) (wholeLo t i) (wholeHi t i) w) := by
  have HV := Lib.hid hv
  obtain ⟨ov, wv, rfl, hrows, hwords⟩ := hv
  clear hrows hwords
  have hw1 := wrap_eq (t.T - 1)
  have hw2 := wrap_eq (t.T - 2)
  have hw3 := wrap_eq (t.C - 1)
  by_cases he : errR t (isTimeB t.T i) = 0
  · obtain ⟨hex, hf⟩ := errR_exact he
    obtain ⟨f1, f2, f3, f4, _, _⟩ := hf
    have hbnd := isTimeB_bounds f3 f4 (errR_zero he).2.1
    have hS := hex.safe
    clear hex
    have n0 : (0 : Nat) < 21 := by omega
    have n1 := (nd_val (C := t.C) (time := i) (chamber := 0) (by omega) (by omega) (by omega) (by omega) f2).1
    have HE := Lib.hid he
    clear he
    have HP := Lib.hid (fun wz hz => open_ok t ov wv (isTimeB t.T i) wz hz HE.out)
    go_enter Try.func37, Try.ntmps37
    go_wp2
    refine wp_region_mixB (Plan.seq [0, 1, 2, 3, 4, 1005, 1006, 7, 8, 9, 10, 11] .nil) (by kernel_rfl) (by kernel_rfl) (fun hcur => ?_)
    simp only [Plan.seq, Plan.fill, List.getD_cons_zero, List.getD_cons_succ, Nat.reduceLT, ↓reduceIte, Nat.reduceSub]
    apply mix_pure _ rfl
    · intro w' hw'
      have hcr := hw'.cells
      go_simp
      rfl
    intro K hK
    go_simp
    refine hK _ ?_
    clear hK K
    apply mix_pure _ rfl
    · intro w' hw'
      have hcr := hw'.cells
      go_simp
      rfl
    intro K hK
    go_simp
    refine hK _ ?_
    clear hK K
    apply mix_pure _ rfl
    · intro w' hw'
      have hcr := hw'.cells
      go_simp
      rfl
    intro K hK
    go_simp
    refine hK _ ?_
    clear hK K
    apply mix_pure _ rfl
    · intro w' hw'
      have hcr := hw'.cells
      go_simp
      rfl
    intro K hK
    go_simp
    refine hK _ ?_
    clear hK K
    apply mix_pure _ rfl
    · intro w' hw'
      have hcr := hw'.cells
      go_simp
      first | (rw [IntWalk.i64_in]; all_goals first | omega | rfl) | rfl
    intro K hK
    go_simp
    refine hK _ ?_
    clear hK K
    refine mix_act rfl (fun K hK => ?_)
    go_simp
    refine (within_any _ _ _ _).mono ?_
    rintro e w' ⟨rfl, rfl⟩
    simp only []
    refine hK _ _ hcur (fun hcur => ?_)
    clear hK K
    refine mix_act rfl (fun K hK => ?_)
    go_simp
    refine (HP.out _ (HV.out.bel (by repeat (first | assumption | exact Bel.refl _ | refine Bel.drew ?_ | refine Bel.drewN ?_ _ | refine Bel.alloc ?_ _ | refine Bel.setCell ?_ (by simp <;> omega) _ | refine Bel.trans ?_ (by assumption))))).mono ?_
    rintro e w1 ⟨tb, rfl, htb, hT, hb⟩
    have hcr := hb.cells
    have hfr := hb.frozens
    have hz := hb.szle
    (try simp only [World.size_alloc, World.size_drew] at hz)
    have z0 : w.heap.size < w1.heap.size := by omega
    have z1 : w.heap.size + 1 < w1.heap.size := by omega
    simp only []
    refine hK _ _ (hcur.trans hb) (fun hcur => ?_)
    clear hK K
    apply mix_pure _ rfl
    · intro w' hw'
      have hcr := hw'.cells
      go_simp
      rfl
    intro K hK
    go_simp
    refine hK _ ?_
    clear hK K
    apply mix_pure _ rfl
    · intro w' hw'
      have hcr := hw'.cells
      go_simp
      rfl
    intro K hK
    go_simp
    refine hK _ ?_
    clear hK K
    apply mix_pure _ rfl
    · intro w' hw'
      have hcr := hw'.cells
      go_simp
      rfl
    intro K hK
    go_simp
    refine hK _ ?_
    clear hK K
    apply mix_pure _ rfl
    · intro w' hw'
      have hcr := hw'.cells
      go_simp
      rfl
    intro K hK
    go_simp
    refine hK _ ?_
    clear hK K
    apply mix_pure _ rfl
    · intro w' hw'
      have hcr := hw'.cells
      go_simp
      rfl
    intro K hK
    go_simp
    refine hK _ ?_
    clear hK K
    refine mix_nil ?_
    have hT0 : Bel w w1 := (by repeat (first | assumption | exact Bel.refl _ | refine Bel.drew ?_ | refine Bel.drewN ?_ _ | refine Bel.alloc ?_ _ | refine Bel.setCell ?_ (by simp <;> omega) _ | refine Bel.trans ?_ (by assumption)))
    have htb2 : w.heap.size + 1 < tb := by have := htb; simp at this; omega
    go_wp2
    refine wp_region_mixC (Plan.seq [0, 1, 2, 3, 4, 1005, 1006, 1007, 8] .nil) (fun wz => Bel w wz ∧ TrapP wz tb t.C t.T ov wv (setMat t (-1))) (by kernel_rfl) (by kernel_rfl) (⟨hT0.drew, hT.bel (Bel.drew (Bel.refl _))⟩) (fun hcur => ?_)
    simp only [Plan.seq, Plan.fill, List.getD_cons_zero, List.getD_cons_succ, Nat.reduceLT, ↓reduceIte, Nat.reduceSub]
    apply mix_pure _ rfl
    · intro w'' hw''
      go_simp
      rfl
    intro K hK
    go_simp
    refine hK _ ?_
    clear hK K
    apply mix_pure _ rfl
    · intro w'' hw''
      go_simp
      rfl
    intro K hK
    go_simp
    refine hK _ ?_
    clear hK K
    apply mix_pure _ rfl
    · intro w'' hw''
      go_simp
      rfl
    intro K hK
    go_simp
    refine hK _ ?_
    clear hK K
    apply mix_pure _ rfl
    · intro w'' hw''
      go_simp
      rfl
    intro K hK
    go_simp
    refine hK _ ?_
    clear hK K
    apply mix_pure _ rfl
    · intro w'' hw''
      go_simp
      rfl
    intro K hK
    go_simp
    refine hK _ ?_
    clear hK K
    refine mix_act rfl (fun K hK => ?_)
    go_simp
    refine (node_any tb _ _ _ _ _ _ _ _ hcur.2 (by omega) (by omega) (by omega) (by omega) (by omega)).mono ?_
    rintro e w' ⟨rfl, rfl⟩
    simp only []
    refine hK _ _ hcur (fun hcur => ?_)
    clear hK K
    refine mix_act rfl (fun K hK => ?_)
    go_simp
    refine (between_any tb 4 _ _ _ _ (by assumption) (by assumption) hS hcur.2.mat).mono ?_
    rintro e w' ⟨rfl, hb⟩
    have q0 : w'.cell? ⟨w.heap.size + 1, 0, none⟩ = w1.cell? ⟨w.heap.size + 1, 0, none⟩ := hb.cells _ z1
    have q1 : w'.cell? ⟨w.heap.size + 1, 1, none⟩ = w1.cell? ⟨w.heap.size + 1, 1, none⟩ := hb.cells _ z1
    have q2 : w'.frozen? ⟨w.heap.size + 1, 0, none⟩ = w1.frozen? ⟨w.heap.size + 1, 0, none⟩ := hb.frozens _ z1
    have q3 : w'.frozen? ⟨w.heap.size + 1, 1, none⟩ = w1.frozen? ⟨w.heap.size + 1, 1, none⟩ := hb.frozens _ z1
    simp only []
    refine hK _ _ ⟨hcur.1.trans hb, hcur.2.bel hb⟩ (fun hcur => ?_)
    clear hK K
    refine mix_act rfl (fun K hK => ?_)
    go_simp
    refine hK _ _ (by have hc1 := hcur.1; have hc2 := hcur.2; exact ⟨(by repeat (first | assumption | exact Bel.refl _ | refine Bel.drew ?_ | refine Bel.drewN ?_ _ | refine Bel.alloc ?_ _ | refine Bel.setCell ?_ (by simp <;> omega) _ | refine Bel.trans ?_ (by assumption))), (hc2.setOther (p := ⟨w.heap.size + 1, 0, none⟩) (by show w.heap.size + 1 ≠ tb; omega) _).setOther (p := ⟨w.heap.size + 1, 1, none⟩) (by show w.heap.size + 1 ≠ tb; omega) _⟩) (fun hcur => ?_)
    clear hK K
    apply mix_pure _ rfl
    · intro w'' hw''
      go_simp
      rfl
    intro K hK
    go_simp
    refine hK _ ?_
    clear hK K
    refine mix_nil ?_
    go_wp2
    exact bodyPost_ret (v := .tuple #[.agg #[.int .i64 (wholeLo t i), .int .i64 (wholeHi t i)], .int .i64 0]) (by simp [results, Try.results37, go_sem, wholeLo, wholeHi, *]) rfl (SpanPost.ok HE.out (by repeat (first | assumption | exact Bel.refl _ | refine Bel.drew ?_ | refine Bel.drewN ?_ _ | refine Bel.alloc ?_ _ | refine Bel.setCell ?_ (by simp <;> omega) _ | refine Bel.trans ?_ (by assumption))))
  ·
    have hne : (errR t (isTimeB t.T i) != 0) = true := by rw [bne_iff_ne]; exact he
    have HE := Lib.hid he
    have HP := Lib.hid (fun wz hz => open_err t ov wv (isTimeB t.T i) wz hz HE.out)
    clear he
    go_enter Try.func37, Try.ntmps37
    go_wp2
    refine wp_region_mixB (Plan.seq [0, 1, 2, 3, 4, 1005, 1006, 7, 8, 9, 10, 11] .nil) (by kernel_rfl) (by kernel_rfl) (fun hcur => ?_)
    simp only [Plan.seq, Plan.fill, List.getD_cons_zero, List.getD_cons_succ, Nat.reduceLT, ↓reduceIte, Nat.reduceSub]
    apply mix_pure _ rfl
    · intro w' hw'
      have hcr := hw'.cells
      go_simp
      rfl
    intro K hK
    go_simp
    refine hK _ ?_
    clear hK K
    apply mix_pure _ rfl
    · intro w' hw'
      have hcr := hw'.cells
      go_simp
      rfl
    intro K hK
    go_simp
    refine hK _ ?_
    clear hK K
    apply mix_pure _ rfl
    · intro w' hw'
      have hcr := hw'.cells
      go_simp
      rfl
    intro K hK
    go_simp
    refine hK _ ?_
    clear hK K
    apply mix_pure _ rfl
    · intro w' hw'
      have hcr := hw'.cells
      go_simp
      rfl
    intro K hK
    go_simp
    refine hK _ ?_
    clear hK K
    apply mix_pure _ rfl
    · intro w' hw'
      have hcr := hw'.cells
      go_simp
      first | (rw [IntWalk.i64_in]; all_goals first | omega | rfl) | rfl
    intro K hK
    go_simp
    refine hK _ ?_
    clear hK K
    refine mix_act rfl (fun K hK => ?_)
    go_simp
    refine (within_any _ _ _ _).mono ?_
    rintro e w' ⟨rfl, rfl⟩
    simp only []
    refine hK _ _ hcur (fun hcur => ?_)
    clear hK K
    refine mix_act rfl (fun K hK => ?_)
    go_simp
    refine (HP.out _ (HV.out.bel (by repeat (first | assumption | exact Bel.refl _ | refine Bel.drew ?_ | refine Bel.drewN ?_ _ | refine Bel.alloc ?_ _ | refine Bel.setCell ?_ (by simp <;> omega) _ | refine Bel.trans ?_ (by assumption))))).mono ?_
    rintro e w1 ⟨rfl, hb⟩
    have hcr := hb.cells
    have hfr := hb.frozens
    have hz := hb.szle
    (try simp only [World.size_alloc, World.size_drew] at hz)
    have z0 : w.heap.size < w1.heap.size := by omega
    have z1 : w.heap.size + 1 < w1.heap.size := by omega
    simp only []
    refine hK _ _ (hcur.trans hb) (fun hcur => ?_)
    clear hK K
    apply mix_pure _ rfl
    · intro w' hw'
      have hcr := hw'.cells
      go_simp
      rfl
    intro K hK
    go_simp
    refine hK _ ?_
    clear hK K
    apply mix_pure _ rfl
    · intro w' hw'
      have hcr := hw'.cells
      go_simp
      rfl
    intro K hK
    go_simp
    refine hK _ ?_
    clear hK K
    apply mix_pure _ rfl
    · intro w' hw'
      have hcr := hw'.cells
      go_simp
      rfl
    intro K hK
    go_simp
    refine hK _ ?_
    clear hK K
    apply mix_pure _ rfl
    · intro w' hw'
      have hcr := hw'.cells
      go_simp
      rfl
    intro K hK
    go_simp
    refine hK _ ?_
    clear hK K
    apply mix_pure _ rfl
    · intro w' hw'
      have hcr := hw'.cells
      go_simp
      rfl
    intro K hK
    go_simp
    refine hK _ ?_
    clear hK K
    refine mix_nil ?_
    generalize errR t (isTimeB t.T i) = er at *
    go_wp2
    exact bodyPost_ret (v := .tuple #[.agg #[.int .i64 0, .int .i64 0], .int .i64 er]) (by simp [results, Try.results37, go_sem, *]) rfl (SpanPost.err HE.out (by repeat (first | assumption | exact Bel.refl _ | refine Bel.drew ?_ | refine Bel.drewN ?_ _ | refine Bel.alloc ?_ _ | refine Bel.setCell ?_ (by simp <;> omega) _ | refine Bel.trans ?_ (by assumption))))
theorem Came_any (t : CT) (v : Value) (f o : Int) (w : World) (hv : TrapAt w v t) :
    Calls Try.prog 42 #[v, .int .i64 f, .int .i64 o] w (SpanPost (errR t (cameB t.T f o)) (cameLo t f o) (cameHi t f o) w) := by
  have HV := Lib.hid hv
  obtain ⟨ov, wv, rfl, hrows, hwords⟩ := hv
  clear hrows hwords
  have hw1 := wrap_eq (t.T - 1)
  have hw2 := wrap_eq (t.T - 2)
  have hw3 := wrap_eq (t.C - 1)
  by_cases he : errR t (cameB t.T f o) = 0
  · obtain ⟨hex, hf⟩ := errR_exact he
    obtain ⟨f1, f2, f3, f4, _, _⟩ := hf
    have hbnd := cameB_bounds (errR_zero he).2.1
    have hS := hex.safe
    clear hex
    have g1 : withinB f 0 o = true := withinB_true.2 (by omega)
    have g2 : decide (o < t.T) = true := by simp; omega
    have g3 : o < t.T := by omega
    have n0 := (nd_val (C := t.C) (time := f) (chamber := 0) (by omega) (by omega) (by omega) (by omega) f2).1
    have n1 := (nd_val (C := t.C) (time := o) (chamber := 0) (by omega) (by omega) (by omega) (by omega) f2).1
    have hq : cameB t.T f o = true := by unfold cameB; rw [g1, g2]; rfl
    rw [hq] at he ⊢
    clear hq
    have HE := Lib.hid he
    clear he
    have HP := Lib.hid (fun wz hz => open_ok t ov wv (true) wz hz HE.out)
    go_enter Try.func42, Try.ntmps42
    go_wp2
    refine wp_region_mixB (Plan.seq [0, 1, 2, 1003, 4, 5, 6, 7, 8, 9, 1010, 11, 12, 13, 14, 15] .nil) (by kernel_rfl) (by kernel_rfl) (fun hcur => ?_)
    simp only [Plan.seq, Plan.fill, List.getD_cons_zero, List.getD_cons_succ, Nat.reduceLT, ↓reduceIte, Nat.reduceSub]
    apply mix_pure _ rfl
    · intro w' hw'
      have hcr := hw'.cells
      go_simp
      rfl
    intro K hK
    go_simp
    refine hK _ ?_
    clear hK K
    apply mix_pure _ rfl
    · intro w' hw'
      have hcr := hw'.cells
      go_simp
      rfl
    intro K hK
    go_simp
    refine hK _ ?_
    clear hK K
    apply mix_pure _ rfl
    · intro w' hw'
      have hcr := hw'.cells
      go_simp
      rfl
    intro K hK
    go_simp
    refine hK _ ?_
    clear hK K
    refine mix_act rfl (fun K hK => ?_)
    go_simp
    refine (within_any _ _ _ _).mono ?_
    rintro e w' ⟨rfl, rfl⟩
    simp only []
    refine hK _ _ hcur (fun hcur => ?_)
    clear hK K
    apply mix_pure _ rfl
    · intro w' hw'
      have hcr := hw'.cells
      go_simp
      rfl
    intro K hK
    go_simp
    refine hK _ ?_
    clear hK K
    apply mix_pureG _ (by go_simp)
    · intro w' hw'
      have hcr := hw'.cells
      go_simp
      rfl
    intro K hK
    go_simp
    refine hK _ ?_
    clear hK K
    apply mix_pureG _ (by go_simp)
    · intro w' hw'
      have hcr := hw'.cells
      go_simp
      rfl
    intro K hK
    go_simp
    refine hK _ ?_
    clear hK K
    apply mix_pureG _ (by go_simp)
    · intro w' hw'
      have hcr := hw'.cells
      go_simp
      rfl
    intro K hK
    go_simp
    refine hK _ ?_
    clear hK K
    apply mix_pureG _ (by go_simp)
    · intro w' hw'
      have hcr := hw'.cells
      go_simp
      rfl
    intro K hK
    go_simp
    refine hK _ ?_
    clear hK K
    apply mix_pure _ rfl
    · intro w' hw'
      have hcr := hw'.cells
      go_simp
      rfl
    intro K hK
    go_simp
    refine hK _ ?_
    clear hK K
    refine mix_act rfl (fun K hK => ?_)
    go_simp
    refine (HP.out _ (HV.out.bel (by repeat (first | assumption | exact Bel.refl _ | refine Bel.drew ?_ | refine Bel.drewN ?_ _ | refine Bel.alloc ?_ _ | refine Bel.setCell ?_ (by simp <;> omega) _ | refine Bel.trans ?_ (by assumption))))).mono ?_
    rintro e w1 ⟨tb, rfl, htb, hT, hb⟩
    have hcr := hb.cells
    have hfr := hb.frozens
    have hz := hb.szle
    (try simp only [World.size_alloc, World.size_drew] at hz)
    have z0 : w.heap.size < w1.heap.size := by omega
    have z1 : w.heap.size + 1 < w1.heap.size := by omega
    simp only []
    refine hK _ _ (hcur.trans hb) (fun hcur => ?_)
    clear hK K
    apply mix_pure _ rfl
    · intro w' hw'
      have hcr := hw'.cells
      go_simp
      rfl
    intro K hK
    go_simp
    refine hK _ ?_
    clear hK K
    apply mix_pure _ rfl
    · intro w' hw'
      have hcr := hw'.cells
      go_simp
      rfl
    intro K hK
    go_simp
    refine hK _ ?_
    clear hK K
    apply mix_pure _ rfl
    · intro w' hw'
      have hcr := hw'.cells
      go_simp
      rfl
    intro K hK
    go_simp
    refine hK _ ?_
    clear hK K
    apply mix_pure _ rfl
    · intro w' hw'
      have hcr := hw'.cells
      go_simp
      rfl
    intro K hK
    go_simp
    refine hK _ ?_
    clear hK K
    apply mix_pure _ rfl
    · intro w' hw'
      have hcr := hw'.cells
      go_simp
      rfl
    intro K hK
    go_simp
    refine hK _ ?_
    clear hK K
    refine mix_nil ?_
    have hT0 : Bel w w1 := (by repeat (first | assumption | exact Bel.refl _ | refine Bel.drew ?_ | refine Bel.drewN ?_ _ | refine Bel.alloc ?_ _ | refine Bel.setCell ?_ (by simp <;> omega) _ | refine Bel.trans ?_ (by assumption)))
    have htb2 : w.heap.size + 1 < tb := by have := htb; simp at this; omega
    go_wp2
    refine wp_region_mixC (Plan.seq [0, 1, 2, 3, 4, 6, 7, 1005, 1008, 1009, 1010, 11] .nil) (fun wz => Bel w wz ∧ TrapP wz tb t.C t.T ov wv (setMat t (-1))) (by kernel_rfl) (by kernel_rfl) (⟨hT0.drew, hT.bel (Bel.drew (Bel.refl _))⟩) (fun hcur => ?_)
    simp only [Plan.seq, Plan.fill, List.getD_cons_zero, List.getD_cons_succ, Nat.reduceLT, ↓reduceIte, Nat.reduceSub]
    apply mix_pure _ rfl
    · intro w'' hw''
      go_simp
      rfl
    intro K hK
    go_simp
    refine hK _ ?_
    clear hK K
    apply mix_pure _ rfl
    · intro w'' hw''
      go_simp
      rfl
    intro K hK
    go_simp
    refine hK _ ?_
    clear hK K
    apply mix_pure _ rfl
    · intro w'' hw''
      go_simp
      rfl
    intro K hK
    go_simp
    refine hK _ ?_
    clear hK K
    apply mix_pure _ rfl
    · intro w'' hw''
      go_simp
      rfl
    intro K hK
    go_simp
    refine hK _ ?_
    clear hK K
    apply mix_pure _ rfl
    · intro w'' hw''
      go_simp
      rfl
    intro K hK
    go_simp
    refine hK _ ?_
    clear hK K
    apply mix_pure _ rfl
    · intro w'' hw''
      go_simp
      rfl
    intro K hK
    go_simp
    refine hK _ ?_
    clear hK K
    apply mix_pure _ rfl
    · intro w'' hw''
      go_simp
      rfl
    intro K hK
    go_simp
    refine hK _ ?_
    clear hK K
    refine mix_act rfl (fun K hK => ?_)
    go_simp
    refine (node_any tb _ _ _ _ _ _ _ _ hcur.2 (by omega) (by omega) (by omega) (by omega) (by omega)).mono ?_
    rintro e w' ⟨rfl, rfl⟩
    simp only []
    refine hK _ _ hcur (fun hcur => ?_)
    clear hK K
    refine mix_act rfl (fun K hK => ?_)
    go_simp
    refine (node_any tb _ _ _ _ _ _ _ _ hcur.2 (by omega) (by omega) (by omega) (by omega) (by omega)).mono ?_
    rintro e w' ⟨rfl, rfl⟩
    simp only []
    refine hK _ _ hcur (fun hcur => ?_)
    clear hK K
    refine mix_act rfl (fun K hK => ?_)
    go_simp
    refine (between_any tb 4 _ _ _ _ (by assumption) (by assumption) hS hcur.2.mat).mono ?_
    rintro e w' ⟨rfl, hb⟩
    have q0 : w'.cell? ⟨w.heap.size + 1, 0, none⟩ = w1.cell? ⟨w.heap.size + 1, 0, none⟩ := hb.cells _ z1
    have q1 : w'.cell? ⟨w.heap.size + 1, 1, none⟩ = w1.cell? ⟨w.heap.size + 1, 1, none⟩ := hb.cells _ z1
    have q2 : w'.frozen? ⟨w.heap.size + 1, 0, none⟩ = w1.frozen? ⟨w.heap.size + 1, 0, none⟩ := hb.frozens _ z1
    have q3 : w'.frozen? ⟨w.heap.size + 1, 1, none⟩ = w1.frozen? ⟨w.heap.size + 1, 1, none⟩ := hb.frozens _ z1
    simp only []
    refine hK _ _ ⟨hcur.1.trans hb, hcur.2.bel hb⟩ (fun hcur => ?_)
    clear hK K
    refine mix_act rfl (fun K hK => ?_)
    go_simp
    refine hK _ _ (by have hc1 := hcur.1; have hc2 := hcur.2; exact ⟨(by repeat (first | assumption | exact Bel.refl _ | refine Bel.drew ?_ | refine Bel.drewN ?_ _ | refine Bel.alloc ?_ _ | refine Bel.setCell ?_ (by simp <;> omega) _ | refine Bel.trans ?_ (by assumption))), (hc2.setOther (p := ⟨w.heap.size + 1, 0, none⟩) (by show w.heap.size + 1 ≠ tb; omega) _).setOther (p := ⟨w.heap.size + 1, 1, none⟩) (by show w.heap.size + 1 ≠ tb; omega) _⟩) (fun hcur => ?_)
    clear hK K
    apply mix_pure _ rfl
    · intro w'' hw''
      go_simp
      rfl
    intro K hK
    go_simp
    refine hK _ ?_
    clear hK K
    refine mix_nil ?_
    go_wp2
    exact bodyPost_ret (v := .tuple #[.agg #[.int .i64 (cameLo t f o), .int .i64 (cameHi t f o)], .int .i64 0]) (by simp [results, Try.results42, go_sem, cameLo, cameHi, *]) rfl (SpanPost.ok HE.out (by repeat (first | assumption | exact Bel.refl _ | refine Bel.drew ?_ | refine Bel.drewN ?_ _ | refine Bel.alloc ?_ _ | refine Bel.setCell ?_ (by simp <;> omega) _ | refine Bel.trans ?_ (by assumption))))
  · cases g1 : withinB f 0 o
    case true =>
      have hq : cameB t.T f o = decide (o < t.T) := by unfold cameB; rw [g1]; rfl
      rw [hq] at he ⊢
      clear hq
      have hne : (errR t (decide (o < t.T)) != 0) = true := by rw [bne_iff_ne]; exact he
      have HE := Lib.hid he
      have HP := Lib.hid (fun wz hz => open_err t ov wv (decide (o < t.T)) wz hz HE.out)
      clear he
      go_enter Try.func42, Try.ntmps42
      go_wp2
      refine wp_region_mixB (Plan.seq [0, 1, 2, 1003, 4, 5, 6, 7, 8, 9, 1010, 11, 12, 13, 14, 15] .nil) (by kernel_rfl) (by kernel_rfl) (fun hcur => ?_)
      simp only [Plan.seq, Plan.fill, List.getD_cons_zero, List.getD_cons_succ, Nat.reduceLT, ↓reduceIte, Nat.reduceSub]
      apply mix_pure _ rfl
      · intro w' hw'
        have hcr := hw'.cells
        go_simp
        rfl
      intro K hK
      go_simp
      refine hK _ ?_
      clear hK K
      apply mix_pure _ rfl
      · intro w' hw'
        have hcr := hw'.cells
        go_simp
        rfl
      intro K hK
      go_simp
      refine hK _ ?_
      clear hK K
      apply mix_pure _ rfl
      · intro w' hw'
        have hcr := hw'.cells
        go_simp
        rfl
      intro K hK
      go_simp
      refine hK _ ?_
      clear hK K
      refine mix_act rfl (fun K hK => ?_)
      go_simp
      refine (within_any _ _ _ _).mono ?_
      rintro e w' ⟨rfl, rfl⟩
      simp only []
      refine hK _ _ hcur (fun hcur => ?_)
      clear hK K
      apply mix_pure _ rfl
      · intro w' hw'
        have hcr := hw'.cells
        go_simp
        rfl
      intro K hK
      go_simp
      refine hK _ ?_
      clear hK K
      apply mix_pureG _ (by go_simp)
      · intro w' hw'
        have hcr := hw'.cells
        go_simp
        rfl
      intro K hK
      go_simp
      refine hK _ ?_
      clear hK K
      apply mix_pureG _ (by go_simp)
      · intro w' hw'
        have hcr := hw'.cells
        go_simp
        rfl
      intro K hK
      go_simp
      refine hK _ ?_
      clear hK K
      apply mix_pureG _ (by go_simp)
      · intro w' hw'
        have hcr := hw'.cells
        go_simp
        rfl
      intro K hK
      go_simp
      refine hK _ ?_
      clear hK K
      apply mix_pureG _ (by go_simp)
      · intro w' hw'
        have hcr := hw'.cells
        go_simp
        rfl
      intro K hK
      go_simp
      refine hK _ ?_
      clear hK K
      apply mix_pure _ rfl
      · intro w' hw'
        have hcr := hw'.cells
        go_simp
        rfl
      intro K hK
      go_simp
      refine hK _ ?_
      clear hK K
      refine mix_act rfl (fun K hK => ?_)
      go_simp
      refine (HP.out _ (HV.out.bel (by repeat (first | assumption | exact Bel.refl _ | refine Bel.drew ?_ | refine Bel.drewN ?_ _ | refine Bel.alloc ?_ _ | refine Bel.setCell ?_ (by simp <;> omega) _ | refine Bel.trans ?_ (by assumption))))).mono ?_
      rintro e w1 ⟨rfl, hb⟩
      have hcr := hb.cells
      have hfr := hb.frozens
      have hz := hb.szle
      (try simp only [World.size_alloc, World.size_drew] at hz)
      have z0 : w.heap.size < w1.heap.size := by omega
      have z1 : w.heap.size + 1 < w1.heap.size := by omega
      simp only []
      refine hK _ _ (hcur.trans hb) (fun hcur => ?_)
      clear hK K
      apply mix_pure _ rfl
      · intro w' hw'
        have hcr := hw'.cells
        go_simp
        rfl
      intro K hK
      go_simp
      refine hK _ ?_
      clear hK K
      apply mix_pure _ rfl
      · intro w' hw'
        have hcr := hw'.cells
        go_simp
        rfl
      intro K hK
      go_simp
      refine hK _ ?_
      clear hK K
      apply mix_pure _ rfl
      · intro w' hw'
        have hcr := hw'.cells
        go_simp
        rfl
      intro K hK
      go_simp
      refine hK _ ?_
      clear hK K
      apply mix_pure _ rfl
      · intro w' hw'
        have hcr := hw'.cells
        go_simp
        rfl
      intro K hK
      go_simp
      refine hK _ ?_
      clear hK K
      apply mix_pure _ rfl
      · intro w' hw'
        have hcr := hw'.cells
        go_simp
        rfl
      intro K hK
      go_simp
      refine hK _ ?_
      clear hK K
      refine mix_nil ?_
      generalize errR t (decide (o < t.T)) = er at *
      go_wp2
      exact bodyPost_ret (v := .tuple #[.agg #[.int .i64 0, .int .i64 0], .int .i64 er]) (by simp [results, Try.results42, go_sem, *]) rfl (SpanPost.err HE.out (by repeat (first | assumption | exact Bel.refl _ | refine Bel.drew ?_ | refine Bel.drewN ?_ _ | refine Bel.alloc ?_ _ | refine Bel.setCell ?_ (by simp <;> omega) _ | refine Bel.trans ?_ (by assumption))))
    case false =>
      have hq : cameB t.T f o = false := by unfold cameB; rw [g1]; rfl
      rw [hq] at he ⊢
      clear hq
      have hne : (errR t (false) != 0) = true := by rw [bne_iff_ne]; exact he
      have HE := Lib.hid he
      have HP := Lib.hid (fun wz hz => open_err t ov wv (false) wz hz HE.out)
      clear he
      go_enter Try.func42, Try.ntmps42
      go_wp2
      refine wp_region_mixB (Plan.seq [0, 1, 2, 1003, 4, 5, 6, 7, 8, 9, 1010, 11, 12, 13, 14, 15] .nil) (by kernel_rfl) (by kernel_rfl) (fun hcur => ?_)
      simp only [Plan.seq, Plan.fill, List.getD_cons_zero, List.getD_cons_succ, Nat.reduceLT, ↓reduceIte, Nat.reduceSub]
      apply mix_pure _ rfl
      · intro w' hw'
        have hcr := hw'.cells
        go_simp
        rfl
      intro K hK
      go_simp
      refine hK _ ?_
      clear hK K
      apply mix_pure _ rfl
      · intro w' hw'
        have hcr := hw'.cells
        go_simp
        rfl
      intro K hK
      go_simp
      refine hK _ ?_
      clear hK K
      apply mix_pure _ rfl
      · intro w' hw'
        have hcr := hw'.cells
        go_simp
        rfl
      intro K hK
      go_simp
      refine hK _ ?_
      clear hK K
      refine mix_act rfl (fun K hK => ?_)
      go_simp
      refine (within_any _ _ _ _).mono ?_
      rintro e w' ⟨rfl, rfl⟩
      simp only []
      refine hK _ _ hcur (fun hcur => ?_)
      clear hK K
      apply mix_pure _ rfl
      · intro w' hw'
        have hcr := hw'.cells
        go_simp
        rfl
      intro K hK
      go_simp
      refine hK _ ?_
      clear hK K
      refine mix_skip (by go_simp) ?_
      intro K hK
      go_simp
      refine hK _ ?_
      clear hK K
      refine mix_skip (by go_simp) ?_
      intro K hK
      go_simp
      refine hK _ ?_
      clear hK K
      refine mix_skip (by go_simp) ?_
      intro K hK
      go_simp
      refine hK _ ?_
      clear hK K
      refine mix_skip (by go_simp) ?_
      intro K hK
      go_simp
      refine hK _ ?_
      clear hK K
      apply mix_pure _ rfl
      · intro w' hw'
        have hcr := hw'.cells
        go_simp
        rfl
      intro K hK
      go_simp
      refine hK _ ?_
      clear hK K
      refine mix_act rfl (fun K hK => ?_)
      go_simp
      refine (HP.out _ (HV.out.bel (by repeat (first | assumption | exact Bel.refl _ | refine Bel.drew ?_ | refine Bel.drewN ?_ _ | refine Bel.alloc ?_ _ | refine Bel.setCell ?_ (by simp <;> omega) _ | refine Bel.trans ?_ (by assumption))))).mono ?_
      rintro e w1 ⟨rfl, hb⟩
      have hcr := hb.cells
      have hfr := hb.frozens
      have hz := hb.szle
      (try simp only [World.size_alloc, World.size_drew] at hz)
      have z0 : w.heap.size < w1.heap.size := by omega
      have z1 : w.heap.size + 1 < w1.heap.size := by omega
      simp only []
      refine hK _ _ (hcur.trans hb) (fun hcur => ?_)
      clear hK K
      apply mix_pure _ rfl
      · intro w' hw'
        have hcr := hw'.cells
        go_simp
        rfl
      intro K hK
      go_simp
      refine hK _ ?_
      clear hK K
      apply mix_pure _ rfl
      · intro w' hw'
        have hcr := hw'.cells
        go_simp
        rfl
      intro K hK
      go_simp
      refine hK _ ?_
      clear hK K
      apply mix_pure _ rfl
      · intro w' hw'
        have hcr := hw'.cells
        go_simp
        rfl
      intro K hK
      go_simp
      refine hK _ ?_
      clear hK K
      apply mix_pure _ rfl
      · intro w' hw'
        have hcr := hw'.cells
        go_simp
        rfl
      intro K hK
      go_simp
      refine hK _ ?_
      clear hK K
      apply mix_pure _ rfl
      · intro w' hw'
        have hcr := hw'.cells
        go_simp
        rfl
      intro K hK
      go_simp
      refine hK _ ?_
      clear hK K
      refine mix_nil ?_
      generalize errR t (false) = er at *
      go_wp2
      exact bodyPost_ret (v := .tuple #[.agg #[.int .i64 0, .int .i64 0], .int .i64 er]) (by simp [results, Try.results42, go_sem, *]) rfl (SpanPost.err HE.out (by repeat (first | assumption | exact Bel.refl _ | refine Bel.drew ?_ | refine Bel.drewN ?_ _ | refine Bel.alloc ?_ _ | refine Bel.setCell ?_ (by simp <;> omega) _ | refine Bel.trans ?_ (by assumption))))
theorem Passed_any (t : CT) (v : Value) (s d : Int) (w : World) (hv : TrapAt w v t) :
    Calls Try.prog 45 #[v, .int .i64 s, .int .i64 d] w (SpanPost (errR t (passB t.C t.T s d)) (passLo t s d) (passHi t s d) w) := by
  have HV := Lib.hid hv
  obtain ⟨ov, wv, rfl, hrows, hwords⟩ := hv
  clear hrows hwords
  have hw1 := wrap_eq (t.T - 1)
  have hw2 := wrap_eq (t.T - 2)
  have hw3 := wrap_eq (t.C - 1)
  by_cases he : errR t (passB t.C t.T s d) = 0
  · obtain ⟨hex, hf⟩ := errR_exact he
    obtain ⟨f1, f2, f3, f4, _, _⟩ := hf
    have hbnd := passB_bounds f1 f2 f3 f4 (errR_zero he).2.1
    have hS := hex.safe
    clear hex
    have g0 := (errR_zero he).2.1
    have g1 : withinB s 0 (wrap64 (t.T - 2)) = true := by unfold passB isStepB at g0; simp only [Bool.and_eq_true] at g0; exact g0.1
    have g2 : withinB d 0 (wrap64 (t.C - 1)) = true := by unfold passB isTimeB at g0; simp only [Bool.and_eq_true] at g0; exact g0.2
    clear g0
    have n0 := (nd_val (C := t.C) (time := s) (chamber := d) (by omega) (by omega) (by omega) (by omega) f2).1
    have n1 := (nd_val (C := t.C) (time := s + 1) (chamber := d) (by omega) (by omega) (by omega) (by omega) f2).1
    have hq : passB t.C t.T s d = true := (errR_zero he).2.1
    rw [hq] at he ⊢
    clear hq
    have HE := Lib.hid he
    clear he
    have HP := Lib.hid (fun wz hz => open_ok t ov wv (true) wz hz HE.out)
    go_enter Try.func45, Try.ntmps45
    go_wp2
    refine wp_region_mixB (Plan.seq [0, 1, 2, 3, 4, 1005, 6, 7, 8, 9, 10, 1011, 12, 1013, 14, 15, 16, 17, 18] .nil) (by kernel_rfl) (by kernel_rfl) (fun hcur => ?_)
    simp only [Plan.seq, Plan.fill, List.getD_cons_zero, List.getD_cons_succ, Nat.reduceLT, ↓reduceIte, Nat.reduceSub]
    apply mix_pure _ rfl
    · intro w' hw'
      have hcr := hw'.cells
      go_simp
      rfl
    intro K hK
    go_simp
    refine hK _ ?_
    clear hK K
    apply mix_pure _ rfl
    · intro w' hw'
      have hcr := hw'.cells
      go_simp
      rfl
    intro K hK
    go_simp
    refine hK _ ?_
    clear hK K
    apply mix_pure _ rfl
    · intro w' hw'
      have hcr := hw'.cells
      go_simp
      rfl
    intro K hK
    go_simp
    refine hK _ ?_
    clear hK K
    apply mix_pure _ rfl
    · intro w' hw'
      have hcr := hw'.cells
      go_simp
      rfl
    intro K hK
    go_simp
    refine hK _ ?_
    clear hK K
    apply mix_pure _ rfl
    · intro w' hw'
      have hcr := hw'.cells
      go_simp
      first | (rw [IntWalk.i64_in]; all_goals first | omega | rfl) | rfl
    intro K hK
    go_simp
    refine hK _ ?_
    clear hK K
    refine mix_act rfl (fun K hK => ?_)
    go_simp
    refine (within_any _ _ _ _).mono ?_
    rintro e w' ⟨rfl, rfl⟩
    simp only []
    refine hK _ _ hcur (fun hcur => ?_)
    clear hK K
    apply mix_pure _ rfl
    · intro w' hw'
      have hcr := hw'.cells
      go_simp
      rfl
    intro K hK
    go_simp
    refine hK _ ?_
    clear hK K
    apply mix_pureG _ (by go_simp)
    · intro w' hw'
      have hcr := hw'.cells
      go_simp
      rfl
    intro K hK
    go_simp
    refine hK _ ?_
    clear hK K
    apply mix_pureG _ (by go_simp)
    · intro w' hw'
      have hcr := hw'.cells
      go_simp
      rfl
    intro K hK
    go_simp
    refine hK _ ?_
    clear hK K
    apply mix_pureG _ (by go_simp)
    · intro w' hw'
      have hcr := hw'.cells
      go_simp
      rfl
    intro K hK
    go_simp
    refine hK _ ?_
    clear hK K
    apply mix_pureG _ (by go_simp)
    · intro w' hw'
      have hcr := hw'.cells
      go_simp
      first | (rw [IntWalk.i64_in]; all_goals first | omega | rfl) | rfl
    intro K hK
    go_simp
    refine hK _ ?_
    clear hK K
    refine mix_actG (by go_simp) (fun K hK => ?_)
    go_simp
    refine (within_any _ _ _ _).mono ?_
    rintro e w' ⟨rfl, rfl⟩
    simp only []
    refine hK _ _ hcur (fun hcur => ?_)
    clear hK K
    apply mix_pure _ rfl
    · intro w' hw'
      have hcr := hw'.cells
      go_simp
      rfl
    intro K hK
    go_simp
    refine hK _ ?_
    clear hK K
    refine mix_act rfl (fun K hK => ?_)
    go_simp
    refine (HP.out _ (HV.out.bel (by repeat (first | assumption | exact Bel.refl _ | refine Bel.drew ?_ | refine Bel.drewN ?_ _ | refine Bel.alloc ?_ _ | refine Bel.setCell ?_ (by simp <;> omega) _ | refine Bel.trans ?_ (by assumption))))).mono ?_
    rintro e w1 ⟨tb, rfl, htb, hT, hb⟩
    have hcr := hb.cells
    have hfr := hb.frozens
    have hz := hb.szle
    (try simp only [World.size_alloc, World.size_drew] at hz)
    have z0 : w.heap.size < w1.heap.size := by omega
    have z1 : w.heap.size + 1 < w1.heap.size := by omega
    simp only []
    refine hK _ _ (hcur.trans hb) (fun hcur => ?_)
    clear hK K
    apply mix_pure _ rfl
    · intro w' hw'
      have hcr := hw'.cells
      go_simp
      rfl
    intro K hK
    go_simp
    refine hK _ ?_
    clear hK K
    apply mix_pure _ rfl
    · intro w' hw'
      have hcr := hw'.cells
      go_simp
      rfl
    intro K hK
    go_simp
    refine hK _ ?_
    clear hK K
    apply mix_pure _ rfl
    · intro w' hw'
      have hcr := hw'.cells
      go_simp
      rfl
    intro K hK
    go_simp
    refine hK _ ?_
    clear hK K
    apply mix_pure _ rfl
    · intro w' hw'
      have hcr := hw'.cells
      go_simp
      rfl
    intro K hK
    go_simp
    refine hK _ ?_
    clear hK K
    apply mix_pure _ rfl
    · intro w' hw'
      have hcr := hw'.cells
      go_simp
      rfl
    intro K hK
    go_simp
    refine hK _ ?_
    clear hK K
    refine mix_nil ?_
    have hT0 : Bel w w1 := (by repeat (first | assumption | exact Bel.refl _ | refine Bel.drew ?_ | refine Bel.drewN ?_ _ | refine Bel.alloc ?_ _ | refine Bel.setCell ?_ (by simp <;> omega) _ | refine Bel.trans ?_ (by assumption)))
    have htb2 : w.heap.size + 1 < tb := by have := htb; simp at this; omega
    go_wp2
    refine wp_region_mixC (Plan.seq [0, 1, 2, 3, 4, 5, 7, 8, 9, 10, 1006, 1011, 1012, 1013, 14] .nil) (fun wz => Bel w wz ∧ TrapP wz tb t.C t.T ov wv (setMat t (-1))) (by kernel_rfl) (by kernel_rfl) (⟨hT0.drew, hT.bel (Bel.drew (Bel.refl _))⟩) (fun hcur => ?_)
    simp only [Plan.seq, Plan.fill, List.getD_cons_zero, List.getD_cons_succ, Nat.reduceLT, ↓reduceIte, Nat.reduceSub]
    apply mix_pure _ rfl
    · intro w'' hw''
      go_simp
      rfl
    intro K hK
    go_simp
    refine hK _ ?_
    clear hK K
    apply mix_pure _ rfl
    · intro w'' hw''
      go_simp
      rfl
    intro K hK
    go_simp
    refine hK _ ?_
    clear hK K
    apply mix_pure _ rfl
    · intro w'' hw''
      go_simp
      rfl
    intro K hK
    go_simp
    refine hK _ ?_
    clear hK K
    apply mix_pure _ rfl
    · intro w'' hw''
      go_simp
      rfl
    intro K hK
    go_simp
    refine hK _ ?_
    clear hK K
    apply mix_pure _ rfl
    · intro w'' hw''
      go_simp
      rfl
    intro K hK
    go_simp
    refine hK _ ?_
    clear hK K
    apply mix_pure _ rfl
    · intro w'' hw''
      go_simp
      rfl
    intro K hK
    go_simp
    refine hK _ ?_
    clear hK K
    apply mix_pure _ rfl
    · intro w'' hw''
      go_simp
      rfl
    intro K hK
    go_simp
    refine hK _ ?_
    clear hK K
    apply mix_pure _ rfl
    · intro w'' hw''
      go_simp
      rfl
    intro K hK
    go_simp
    refine hK _ ?_
    clear hK K
    apply mix_pure _ rfl
    · intro w'' hw''
      go_simp
      first | (rw [IntWalk.i64_in]; all_goals first | omega | rfl) | rfl
    intro K hK
    go_simp
    refine hK _ ?_
    clear hK K
    apply mix_pure _ rfl
    · intro w'' hw''
      go_simp
      rfl
    intro K hK
    go_simp
    refine hK _ ?_
    clear hK K
    refine mix_act rfl (fun K hK => ?_)
    go_simp
    refine (node_any tb _ _ _ _ _ _ _ _ hcur.2 (by omega) (by omega) (by omega) (by omega) (by omega)).mono ?_
    rintro e w' ⟨rfl, rfl⟩
    simp only []
    refine hK _ _ hcur (fun hcur => ?_)
    clear hK K
    refine mix_act rfl (fun K hK => ?_)
    go_simp
    refine (node_any tb _ _ _ _ _ _ _ _ hcur.2 (by omega) (by omega) (by omega) (by omega) (by omega)).mono ?_
    rintro e w' ⟨rfl, rfl⟩
    simp only []
    refine hK _ _ hcur (fun hcur => ?_)
    clear hK K
    refine mix_act rfl (fun K hK => ?_)
    go_simp
    refine (between_any tb 4 _ _ _ _ (by assumption) (by assumption) hS hcur.2.mat).mono ?_
    rintro e w' ⟨rfl, hb⟩
    have q0 : w'.cell? ⟨w.heap.size + 1, 0, none⟩ = w1.cell? ⟨w.heap.size + 1, 0, none⟩ := hb.cells _ z1
    have q1 : w'.cell? ⟨w.heap.size + 1, 1, none⟩ = w1.cell? ⟨w.heap.size + 1, 1, none⟩ := hb.cells _ z1
    have q2 : w'.frozen? ⟨w.heap.size + 1, 0, none⟩ = w1.frozen? ⟨w.heap.size + 1, 0, none⟩ := hb.frozens _ z1
    have q3 : w'.frozen? ⟨w.heap.size + 1, 1, none⟩ = w1.frozen? ⟨w.heap.size + 1, 1, none⟩ := hb.frozens _ z1
    simp only []
    refine hK _ _ ⟨hcur.1.trans hb, hcur.2.bel hb⟩ (fun hcur => ?_)
    clear hK K
    refine mix_act rfl (fun K hK => ?_)
    go_simp
    refine hK _ _ (by have hc1 := hcur.1; have hc2 := hcur.2; exact ⟨(by repeat (first | assumption | exact Bel.refl _ | refine Bel.drew ?_ | refine Bel.drewN ?_ _ | refine Bel.alloc ?_ _ | refine Bel.setCell ?_ (by simp <;> omega) _ | refine Bel.trans ?_ (by assumption))), (hc2.setOther (p := ⟨w.heap.size + 1, 0, none⟩) (by show w.heap.size + 1 ≠ tb; omega) _).setOther (p := ⟨w.heap.size + 1, 1, none⟩) (by show w.heap.size + 1 ≠ tb; omega) _⟩) (fun hcur => ?_)
    clear hK K
    apply mix_pure _ rfl
    · intro w'' hw''
      go_simp
      rfl
    intro K hK
    go_simp
    refine hK _ ?_
    clear hK K
    refine mix_nil ?_
    go_wp2
    exact bodyPost_ret (v := .tuple #[.agg #[.int .i64 (passLo t s d), .int .i64 (passHi t s d)], .int .i64 0]) (by simp [results, Try.results45, go_sem, passLo, passHi, *]) rfl (SpanPost.ok HE.out (by repeat (first | assumption | exact Bel.refl _ | refine Bel.drew ?_ | refine Bel.drewN ?_ _ | refine Bel.alloc ?_ _ | refine Bel.setCell ?_ (by simp <;> omega) _ | refine Bel.trans ?_ (by assumption))))
  · cases g1 : withinB s 0 (wrap64 (t.T - 2))
    case true =>
      have hq : passB t.C t.T s d = withinB d 0 (wrap64 (t.C - 1)) := by unfold passB isStepB; rw [g1]; rfl
      rw [hq] at he ⊢
      clear hq
      have hne : (errR t (withinB d 0 (wrap64 (t.C - 1))) != 0) = true := by rw [bne_iff_ne]; exact he
      have HE := Lib.hid he
      have HP := Lib.hid (fun wz hz => open_err t ov wv (withinB d 0 (wrap64 (t.C - 1))) wz hz HE.out)
      clear he
      go_enter Try.func45, Try.ntmps45
      go_wp2
      refine wp_region_mixB (Plan.seq [0, 1, 2, 3, 4, 1005, 6, 7, 8, 9, 10, 1011, 12, 1013, 14, 15, 16, 17, 18] .nil) (by kernel_rfl) (by kernel_rfl) (fun hcur => ?_)
      simp only [Plan.seq, Plan.fill, List.getD_cons_zero, List.getD_cons_succ, Nat.reduceLT, ↓reduceIte, Nat.reduceSub]
      apply mix_pure _ rfl
      · intro w' hw'
        have hcr := hw'.cells
        go_simp
        rfl
      intro K hK
      go_simp
      refine hK _ ?_
      clear hK K
      apply mix_pure _ rfl
      · intro w' hw'
        have hcr := hw'.cells
        go_simp
        rfl
      intro K hK
      go_simp
      refine hK _ ?_
      clear hK K
      apply mix_pure _ rfl
      · intro w' hw'
        have hcr := hw'.cells
        go_simp
        rfl
      intro K hK
      go_simp
      refine hK _ ?_
      clear hK K
      apply mix_pure _ rfl
      · intro w' hw'
        have hcr := hw'.cells
        go_simp
        rfl
      intro K hK
      go_simp
      refine hK _ ?_
      clear hK K
      apply mix_pure _ rfl
      · intro w' hw'
        have hcr := hw'.cells
        go_simp
        first | (rw [IntWalk.i64_in]; all_goals first | omega | rfl) | rfl
      intro K hK
      go_simp
      refine hK _ ?_
      clear hK K
      refine mix_act rfl (fun K hK => ?_)
      go_simp
      refine (within_any _ _ _ _).mono ?_
      rintro e w' ⟨rfl, rfl⟩
      simp only []
      refine hK _ _ hcur (fun hcur => ?_)
      clear hK K
      apply mix_pure _ rfl
      · intro w' hw'
        have hcr := hw'.cells
        go_simp
        rfl
      intro K hK
      go_simp
      refine hK _ ?_
      clear hK K
      apply mix_pureG _ (by go_simp)
      · intro w' hw'
        have hcr := hw'.cells
        go_simp
        rfl
      intro K hK
      go_simp
      refine hK _ ?_
      clear hK K
      apply mix_pureG _ (by go_simp)
      · intro w' hw'
        have hcr := hw'.cells
        go_simp
        rfl
      intro K hK
      go_simp
      refine hK _ ?_
      clear hK K
      apply mix_pureG _ (by go_simp)
      · intro w' hw'
        have hcr := hw'.cells
        go_simp
        rfl
      intro K hK
      go_simp
      refine hK _ ?_
      clear hK K
      apply mix_pureG _ (by go_simp)
      · intro w' hw'
        have hcr := hw'.cells
        go_simp
        first | (rw [IntWalk.i64_in]; all_goals first | omega | rfl) | rfl
      intro K hK
      go_simp
      refine hK _ ?_
      clear hK K
      refine mix_actG (by go_simp) (fun K hK => ?_)
      go_simp
      refine (within_any _ _ _ _).mono ?_
      rintro e w' ⟨rfl, rfl⟩
      simp only []
      refine hK _ _ hcur (fun hcur => ?_)
      clear hK K
      apply mix_pure _ rfl
      · intro w' hw'
        have hcr := hw'.cells
        go_simp
        rfl
      intro K hK
      go_simp
      refine hK _ ?_
      clear hK K
      refine mix_act rfl (fun K hK => ?_)
      go_simp
      refine (HP.out _ (HV.out.bel (by repeat (first | assumption | exact Bel.refl _ | refine Bel.drew ?_ | refine Bel.drewN ?_ _ | refine Bel.alloc ?_ _ | refine Bel.setCell ?_ (by simp <;> omega) _ | refine Bel.trans ?_ (by assumption))))).mono ?_
      rintro e w1 ⟨rfl, hb⟩
      have hcr := hb.cells
      have hfr := hb.frozens
      have hz := hb.szle
      (try simp only [World.size_alloc, World.size_drew] at hz)
      have z0 : w.heap.size < w1.heap.size := by omega
      have z1 : w.heap.size + 1 < w1.heap.size := by omega
      simp only []
      refine hK _ _ (hcur.trans hb) (fun hcur => ?_)
      clear hK K
      apply mix_pure _ rfl
      · intro w' hw'
        have hcr := hw'.cells
        go_simp
        rfl
      intro K hK
      go_simp
      refine hK _ ?_
      clear hK K
      apply mix_pure _ rfl
      · intro w' hw'
        have hcr := hw'.cells
        go_simp
        rfl
      intro K hK
      go_simp
      refine hK _ ?_
      clear hK K
      apply mix_pure _ rfl
      · intro w' hw'
        have hcr := hw'.cells
        go_simp
        rfl
      intro K hK
      go_simp
      refine hK _ ?_
      clear hK K
      apply mix_pure _ rfl
      · intro w' hw'
        have hcr := hw'.cells
        go_simp
        rfl
      intro K hK
      go_simp
      refine hK _ ?_
      clear hK K
      apply mix_pure _ rfl
      · intro w' hw'
        have hcr := hw'.cells
        go_simp
        rfl
      intro K hK
      go_simp
      refine hK _ ?_
      clear hK K
      refine mix_nil ?_
      generalize errR t (withinB d 0 (wrap64 (t.C - 1))) = er at *
      go_wp2
      exact bodyPost_ret (v := .tuple #[.agg #[.int .i64 0, .int .i64 0], .int .i64 er]) (by simp [results, Try.results45, go_sem, *]) rfl (SpanPost.err HE.out (by repeat (first | assumption | exact Bel.refl _ | refine Bel.drew ?_ | refine Bel.drewN ?_ _ | refine Bel.alloc ?_ _ | refine Bel.setCell ?_ (by simp <;> omega) _ | refine Bel.trans ?_ (by assumption))))
    case false =>
      have hq : passB t.C t.T s d = false := by unfold passB isStepB; rw [g1]; rfl
      rw [hq] at he ⊢
      clear hq
      have hne : (errR t (false) != 0) = true := by rw [bne_iff_ne]; exact he
      have HE := Lib.hid he
      have HP := Lib.hid (fun wz hz => open_err t ov wv (false) wz hz HE.out)
      clear he
      go_enter Try.func45, Try.ntmps45
      go_wp2
      refine wp_region_mixB (Plan.seq [0, 1, 2, 3, 4, 1005, 6, 7, 8, 9, 10, 1011, 12, 1013, 14, 15, 16, 17, 18] .nil) (by kernel_rfl) (by kernel_rfl) (fun hcur => ?_)
      simp only [Plan.seq, Plan.fill, List.getD_cons_zero, List.getD_cons_succ, Nat.reduceLT, ↓reduceIte, Nat.reduceSub]
      apply mix_pure _ rfl
      · intro w' hw'
        have hcr := hw'.cells
        go_simp
        rfl
      intro K hK
      go_simp
      refine hK _ ?_
      clear hK K
      apply mix_pure _ rfl
      · intro w' hw'
        have hcr := hw'.cells
        go_simp
        rfl
      intro K hK
      go_simp
      refine hK _ ?_
      clear hK K
      apply mix_pure _ rfl
      · intro w' hw'
        have hcr := hw'.cells
        go_simp
        rfl
      intro K hK
      go_simp
      refine hK _ ?_
      clear hK K
      apply mix_pure _ rfl
      · intro w' hw'
        have hcr := hw'.cells
        go_simp
        rfl
      intro K hK
      go_simp
      refine hK _ ?_
      clear hK K
      apply mix_pure _ rfl
      · intro w' hw'
        have hcr := hw'.cells
        go_simp
        first | (rw [IntWalk.i64_in]; all_goals first | omega | rfl) | rfl
      intro K hK
      go_simp
      refine hK _ ?_
      clear hK K
      refine mix_act rfl (fun K hK => ?_)
      go_simp
      refine (within_any _ _ _ _).mono ?_
      rintro e w' ⟨rfl, rfl⟩
      simp only []
      refine hK _ _ hcur (fun hcur => ?_)
      clear hK K
      apply mix_pure _ rfl
      · intro w' hw'
        have hcr := hw'.cells
        go_simp
        rfl
      intro K hK
      go_simp
      refine hK _ ?_
      clear hK K
      refine mix_skip (by go_simp) ?_
      intro K hK
      go_simp
      refine hK _ ?_
      clear hK K
      refine mix_skip (by go_simp) ?_
      intro K hK
      go_simp
      refine hK _ ?_
      clear hK K
      refine mix_skip (by go_simp) ?_
      intro K hK
      go_simp
      refine hK _ ?_
      clear hK K
      refine mix_skip (by go_simp) ?_
      intro K hK
      go_simp
      refine hK _ ?_
      clear hK K
      refine mix_askip (by go_simp) ?_
      intro K hK
      go_simp
      refine hK _ ?_
      clear hK K
      apply mix_pure _ rfl
      · intro w' hw'
        have hcr := hw'.cells
        go_simp
        rfl
      intro K hK
      go_simp
      refine hK _ ?_
      clear hK K
      refine mix_act rfl (fun K hK => ?_)
      go_simp
      refine (HP.out _ (HV.out.bel (by repeat (first | assumption | exact Bel.refl _ | refine Bel.drew ?_ | refine Bel.drewN ?_ _ | refine Bel.alloc ?_ _ | refine Bel.setCell ?_ (by simp <;> omega) _ | refine Bel.trans ?_ (by assumption))))).mono ?_
      rintro e w1 ⟨rfl, hb⟩
      have hcr := hb.cells
      have hfr := hb.frozens
      have hz := hb.szle
      (try simp only [World.size_alloc, World.size_drew] at hz)
      have z0 : w.heap.size < w1.heap.size := by omega
      have z1 : w.heap.size + 1 < w1.heap.size := by omega
      simp only []
      refine hK _ _ (hcur.trans hb) (fun hcur => ?_)
      clear hK K
      apply mix_pure _ rfl
      · intro w' hw'
        have hcr := hw'.cells
        go_simp
        rfl
      intro K hK
      go_simp
      refine hK _ ?_
      clear hK K
      apply mix_pure _ rfl
      · intro w' hw'
        have hcr := hw'.cells
        go_simp
        rfl
      intro K hK
      go_simp
      refine hK _ ?_
      clear hK K
      apply mix_pure _ rfl
      · intro w' hw'
        have hcr := hw'.cells
        go_simp
        rfl
      intro K hK
      go_simp
      refine hK _ ?_
      clear hK K
      apply mix_pure _ rfl
      · intro w' hw'
        have hcr := hw'.cells
        go_simp
        rfl
      intro K hK
      go_simp
      refine hK _ ?_
      clear hK K
      apply mix_pure _ rfl
      · intro w' hw'
        have hcr := hw'.cells
        go_simp
        rfl
      intro K hK
      go_simp
      refine hK _ ?_
      clear hK K
      refine mix_nil ?_
      generalize errR t (false) = er at *
      go_wp2
      exact bodyPost_ret (v := .tuple #[.agg #[.int .i64 0, .int .i64 0], .int .i64 er]) (by simp [results, Try.results45, go_sem, *]) rfl (SpanPost.err HE.out (by repeat (first | assumption | exact Bel.refl _ | refine Bel.drew ?_ | refine Bel.drewN ?_ _ | refine Bel.alloc ?_ _ | refine Bel.setCell ?_ (by simp <;> omega) _ | refine Bel.trans ?_ (by assumption))))
end Go.Proofs.Ytoiajjdhgffdaaa
