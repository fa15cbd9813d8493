/-
  reference: Passed.
-/
import Derived.Test.YtoiajjdhgffdaaaRSpan
namespace Go.Proofs.Ytoiajjdhgffdaaa
open Go Go.RowKit
set_option maxHeartbeats 12000000
set_option maxRecDepth 100000
theorem RPassed_any (t : CT) (v : Value) (s d : Int) (w : World) (hv : TrapAt w v t) :
    Calls Try.prog 46 #[v, .int .i64 s, .int .i64 d] w (SpanPost (errR t (passB t.C t.T s d)) (passLo t s d) (passHi t s d) w) := by
  have HV := Lib.hid hv
  obtain ⟨ov, wv, rfl, ⟨a, cc, b, off, rv, rfl, _⟩, ⟨wa, wc, wb, woff, rfl, _⟩⟩ := hv
  rw [show passB t.C t.T s d = (isStepB t.T s && isTimeB t.C d) from rfl]
  have hcs : (isStepB t.T s = true ∧ isTimeB t.C d = true) ∨ (isStepB t.T s = true ∧ isTimeB t.C d = false) ∨ (isStepB t.T s = false) := by cases isStepB t.T s <;> cases isTimeB t.C d <;> simp
  rcases hcs with ⟨h1, h2⟩ | ⟨h1, h2⟩ | h1
  · rw [h1, h2, show (true && true) = true from rfl]
    by_cases he : errR t true = 0
    · have HE := Lib.hid he
      have HKN := Lib.hid (fun wx hx => known_any t (.agg #[.int .i64 t.C, .int .i64 t.T, .slice a t.op.length cc, .slice wa t.ws.length wc]) true wx hx)
      rw [he] at HKN
      obtain ⟨hval, _, hone⟩ := errR_zero he
      obtain ⟨hex, hf⟩ := errR_exact he
      obtain ⟨pp, qq⟩ := passB_bounds hf.c1 hf.c2 hf.t1 hf.t2 (s := s) (d := d) (show passB t.C t.T s d = true by rw [show passB t.C t.T s d = (isStepB t.T s && isTimeB t.C d) from rfl, h1, h2]; rfl)
      obtain ⟨n, rfl⟩ : ∃ n : Nat, s = n := ⟨s.toNat, by omega⟩
      obtain ⟨m, rfl⟩ : ∃ m : Nat, d = m := ⟨d.toNat, by omega⟩
      have f4 := hf.t2
      have hw1 : IntKind.i64.wrap ((n : Int) + 1) = (n : Int) + 1 := IntWalk.i64_in _ (by omega)
      have HD := Lib.hid (fun wx hx => (difference_any t (.agg #[.int .i64 t.C, .int .i64 t.T, .slice a t.op.length cc, .slice wa t.ws.length wc]) (n + 1) m n m wx hx hf (valid_nine hval) hone (by omega) (by omega) (by omega) (by omega) (vi := (n : Int) + 1) (by omega) rfl rfl rfl).mono (R' := fun e w' => e = .returned (.agg #[.int .i64 (passLo t n m), .int .i64 (passHi t n m)]) ∧ Bel wx w') (fun e w' h => by
        obtain ⟨m1, m2, rfl, ⟨h1, h2⟩, hb'⟩ := h
        rw [h1.uniq (Passed_min hf hex n m (by omega) (by omega)), h2.uniq (Passed_max hf hex n m (by omega) (by omega))]
        exact ⟨rfl, hb'⟩))
      clear hval hone hex hf
      clear he
      generalize passLo t n m = lo at *
      generalize passHi t n m = hi at *
      go_enter Try.func46, Try.ntmps46
      go_wp2
      refine wp_region_mixB (Plan.seq [0, 1, 2, 1003, 4, 5, 6, 1007, 8, 1009, 10] .nil) (by kernel_rfl) (by kernel_rfl) (fun hcur => ?_)
      simp only [Plan.seq, Plan.fill, List.getD_cons_zero, List.getD_cons_succ, Nat.reduceLT, ↓reduceIte, Nat.reduceSub]
      apply mix_pure _ rfl
      · intro w' hw'
        have hcr := hw'.cells
        go_simp
        rfl
      intro K hK
      go_simp
      refine hK _ ?_
      clear hK K
      apply mix_pure _ rfl
      · intro w' hw'
        have hcr := hw'.cells
        go_simp
        rfl
      intro K hK
      go_simp
      refine hK _ ?_
      clear hK K
      apply mix_pure _ rfl
      · intro w' hw'
        have hcr := hw'.cells
        go_simp
        rfl
      intro K hK
      go_simp
      refine hK _ ?_
      clear hK K
      refine mix_act rfl (fun K hK => ?_)
      go_simp
      refine (IsStep_any _ _ _ _ _ _).mono ?_
      rintro e w' ⟨rfl, hb⟩
      (try rw [h1])
      simp only []
      refine hK _ _ (hcur.trans hb) (fun hcur => ?_)
      clear hK K hb
      apply mix_pure _ rfl
      · intro w' hw'
        have hcr := hw'.cells
        go_simp
        rfl
      intro K hK
      go_simp
      refine hK _ ?_
      clear hK K
      apply mix_pureG _ (by go_simp)
      · intro w' hw'
        have hcr := hw'.cells
        go_simp
        rfl
      intro K hK
      go_simp
      refine hK _ ?_
      clear hK K
      apply mix_pureG _ (by go_simp)
      · intro w' hw'
        have hcr := hw'.cells
        go_simp
        rfl
      intro K hK
      go_simp
      refine hK _ ?_
      clear hK K
      refine mix_actG (by go_simp) (fun K hK => ?_)
      go_simp
      refine (IsChamber_any _ _ _ _ _ _).mono ?_
      rintro e w' ⟨rfl, hb⟩
      (try rw [h2])
      simp only []
      refine hK _ _ (hcur.trans hb) (fun hcur => ?_)
      clear hK K hb
      apply mix_pure _ rfl
      · intro w' hw'
        have hcr := hw'.cells
        go_simp
        rfl
      intro K hK
      go_simp
      refine hK _ ?_
      clear hK K
      refine mix_act rfl (fun K hK => ?_)
      go_simp
      refine (HKN.out _ (HV.out.bel (by repeat (first | assumption | exact Bel.refl _ | refine Bel.drew ?_ | refine Bel.drewN ?_ _ | refine Bel.alloc ?_ _ | refine Bel.setCell ?_ (by simp <;> omega) _ | refine Bel.trans ?_ (by assumption))))).mono ?_
      rintro e w9 ⟨rfl, hb⟩
      simp only []
      refine hK _ _ (hcur.trans hb) (fun hcur => ?_)
      clear hK K hb
      apply mix_pure _ rfl
      · intro w' hw'
        have hcr := hw'.cells
        go_simp
        rfl
      intro K hK
      go_simp
      refine hK _ ?_
      clear hK K
      refine mix_nil ?_
      have r0 := hcur.cell ((row_facts (new_row (w := w.alloc (.cells #[.int .i64 t.C, .int .i64 t.T, .slice a t.op.length cc, .slice wa t.ws.length wc] 25)) (o := .cells #[.int .i64 0, .int .i64 0] 32) (g := w.heap.size + 1) (by simp))).1 0)
      have r1 := hcur.cell ((row_facts (new_row (w := w.alloc (.cells #[.int .i64 t.C, .int .i64 t.T, .slice a t.op.length cc, .slice wa t.ws.length wc] 25)) (o := .cells #[.int .i64 0, .int .i64 0] 32) (g := w.heap.size + 1) (by simp))).1 1)
      have rf : ∀ o, w9.frozen? ⟨w.heap.size + 1, o, none⟩ = false := fun o => (hcur.frozens _ (by simp)).trans ((row_facts (new_row (w := w.alloc (.cells #[.int .i64 t.C, .int .i64 t.T, .slice a t.op.length cc, .slice wa t.ws.length wc] 25)) (o := .cells #[.int .i64 0, .int .i64 0] 32) (g := w.heap.size + 1) (by simp))).2 o)
      change w9.cell? ⟨w.heap.size + 1, 0, none⟩ = some (.int .i64 0) at r0
      change w9.cell? ⟨w.heap.size + 1, 1, none⟩ = some (.int .i64 0) at r1
      have x0 : w9.cell? ⟨w.heap.size, 0, none⟩ = some (.int .i64 t.C) := hcur.cell ((row_facts ((heap_alloc_old _ _ (by simp)).trans (new_row rfl))).1 0)
      have x1 : w9.cell? ⟨w.heap.size, 1, none⟩ = some (.int .i64 t.T) := hcur.cell ((row_facts ((heap_alloc_old _ _ (by simp)).trans (new_row rfl))).1 1)
      have x2 : w9.cell? ⟨w.heap.size, 2, none⟩ = some (.slice a t.op.length cc) := hcur.cell ((row_facts ((heap_alloc_old _ _ (by simp)).trans (new_row rfl))).1 2)
      have x3 : w9.cell? ⟨w.heap.size, 3, none⟩ = some (.slice wa t.ws.length wc) := hcur.cell ((row_facts ((heap_alloc_old _ _ (by simp)).trans (new_row rfl))).1 3)
      have lx := cell_lt x0
      have lr := cell_lt r0
      have HB9 := Lib.hid (show Bel w w9 from Bel.trans (by repeat (first | assumption | exact Bel.refl _ | refine Bel.drew ?_ | refine Bel.drewN ?_ _ | refine Bel.alloc ?_ _ | refine Bel.setCell ?_ (by simp <;> omega) _ | refine Bel.trans ?_ (by assumption))) hcur)
      clear hcur
      go_wp2_with fail
      refine (HD.out _ (HV.out.bel HB9.out)).mono ?_
      rintro e w10 ⟨rfl, hb⟩
      replace r0 := hb.cell r0
      replace r1 := hb.cell r1
      replace rf : ∀ o, w10.frozen? ⟨w.heap.size + 1, o, none⟩ = false := fun o => (hb.frozens _ lr).trans (rf o)
      have HB := Lib.hid (HB9.out.trans hb)
      clear hb x0 x1 x2 x3 lx lr
      go_wp2
      exact bodyPost_ret (v := .tuple #[.agg #[.int .i64 lo, .int .i64 hi], .int .i64 0]) (by simp [results, Try.results46, go_sem, *]) rfl (SpanPost.ok HE.out ((HB.out.setCell (by simp) _).setCell (by simp) _))
    · have hne : (errR t true != 0) = true := by rw [bne_iff_ne]; exact he
      have HE := Lib.hid he
      have HKN := Lib.hid (fun wx hx => known_any t (.agg #[.int .i64 t.C, .int .i64 t.T, .slice a t.op.length cc, .slice wa t.ws.length wc]) true wx hx)
      clear he
      generalize errR t true = er at *
      go_enter Try.func46, Try.ntmps46
      go_wp2
      refine wp_region_mixB (Plan.seq [0, 1, 2, 1003, 4, 5, 6, 1007, 8, 1009, 10] .nil) (by kernel_rfl) (by kernel_rfl) (fun hcur => ?_)
      simp only [Plan.seq, Plan.fill, List.getD_cons_zero, List.getD_cons_succ, Nat.reduceLT, ↓reduceIte, Nat.reduceSub]
      apply mix_pure _ rfl
      · intro w' hw'
        have hcr := hw'.cells
        go_simp
        rfl
      intro K hK
      go_simp
      refine hK _ ?_
      clear hK K
      apply mix_pure _ rfl
      · intro w' hw'
        have hcr := hw'.cells
        go_simp
        rfl
      intro K hK
      go_simp
      refine hK _ ?_
      clear hK K
      apply mix_pure _ rfl
      · intro w' hw'
        have hcr := hw'.cells
        go_simp
        rfl
      intro K hK
      go_simp
      refine hK _ ?_
      clear hK K
      refine mix_act rfl (fun K hK => ?_)
      go_simp
      refine (IsStep_any _ _ _ _ _ _).mono ?_
      rintro e w' ⟨rfl, hb⟩
      (try rw [h1])
      simp only []
      refine hK _ _ (hcur.trans hb) (fun hcur => ?_)
      clear hK K hb
      apply mix_pure _ rfl
      · intro w' hw'
        have hcr := hw'.cells
        go_simp
        rfl
      intro K hK
      go_simp
      refine hK _ ?_
      clear hK K
      apply mix_pureG _ (by go_simp)
      · intro w' hw'
        have hcr := hw'.cells
        go_simp
        rfl
      intro K hK
      go_simp
      refine hK _ ?_
      clear hK K
      apply mix_pureG _ (by go_simp)
      · intro w' hw'
        have hcr := hw'.cells
        go_simp
        rfl
      intro K hK
      go_simp
      refine hK _ ?_
      clear hK K
      refine mix_actG (by go_simp) (fun K hK => ?_)
      go_simp
      refine (IsChamber_any _ _ _ _ _ _).mono ?_
      rintro e w' ⟨rfl, hb⟩
      (try rw [h2])
      simp only []
      refine hK _ _ (hcur.trans hb) (fun hcur => ?_)
      clear hK K hb
      apply mix_pure _ rfl
      · intro w' hw'
        have hcr := hw'.cells
        go_simp
        rfl
      intro K hK
      go_simp
      refine hK _ ?_
      clear hK K
      refine mix_act rfl (fun K hK => ?_)
      go_simp
      refine (HKN.out _ (HV.out.bel (by repeat (first | assumption | exact Bel.refl _ | refine Bel.drew ?_ | refine Bel.drewN ?_ _ | refine Bel.alloc ?_ _ | refine Bel.setCell ?_ (by simp <;> omega) _ | refine Bel.trans ?_ (by assumption))))).mono ?_
      rintro e w9 ⟨rfl, hb⟩
      simp only []
      refine hK _ _ (hcur.trans hb) (fun hcur => ?_)
      clear hK K hb
      apply mix_pure _ rfl
      · intro w' hw'
        have hcr := hw'.cells
        go_simp
        rfl
      intro K hK
      go_simp
      refine hK _ ?_
      clear hK K
      refine mix_nil ?_
      have r0 := hcur.cell ((row_facts (new_row (w := w.alloc (.cells #[.int .i64 t.C, .int .i64 t.T, .slice a t.op.length cc, .slice wa t.ws.length wc] 25)) (o := .cells #[.int .i64 0, .int .i64 0] 32) (g := w.heap.size + 1) (by simp))).1 0)
      have r1 := hcur.cell ((row_facts (new_row (w := w.alloc (.cells #[.int .i64 t.C, .int .i64 t.T, .slice a t.op.length cc, .slice wa t.ws.length wc] 25)) (o := .cells #[.int .i64 0, .int .i64 0] 32) (g := w.heap.size + 1) (by simp))).1 1)
      have rf : ∀ o, w9.frozen? ⟨w.heap.size + 1, o, none⟩ = false := fun o => (hcur.frozens _ (by simp)).trans ((row_facts (new_row (w := w.alloc (.cells #[.int .i64 t.C, .int .i64 t.T, .slice a t.op.length cc, .slice wa t.ws.length wc] 25)) (o := .cells #[.int .i64 0, .int .i64 0] 32) (g := w.heap.size + 1) (by simp))).2 o)
      change w9.cell? ⟨w.heap.size + 1, 0, none⟩ = some (.int .i64 0) at r0
      change w9.cell? ⟨w.heap.size + 1, 1, none⟩ = some (.int .i64 0) at r1
      have HB9 := Lib.hid (show Bel w w9 from Bel.trans (by repeat (first | assumption | exact Bel.refl _ | refine Bel.drew ?_ | refine Bel.drewN ?_ _ | refine Bel.alloc ?_ _ | refine Bel.setCell ?_ (by simp <;> omega) _ | refine Bel.trans ?_ (by assumption))) hcur)
      clear hcur
      go_wp2
      exact bodyPost_ret (v := .tuple #[.agg #[.int .i64 0, .int .i64 0], .int .i64 er]) (by simp [results, Try.results46, go_sem, *]) rfl (SpanPost.err HE.out ((HB9.out.setCell (by simp) _).setCell (by simp) _))
  · rw [h1, h2, show (true && false) = false from rfl]
    have he : errR t false ≠ 0 := errR_false
    have hne : (errR t false != 0) = true := by rw [bne_iff_ne]; exact he
    have HE := Lib.hid he
    have HKN := Lib.hid (fun wx hx => known_any t (.agg #[.int .i64 t.C, .int .i64 t.T, .slice a t.op.length cc, .slice wa t.ws.length wc]) false wx hx)
    clear he
    generalize errR t false = er at *
    go_enter Try.func46, Try.ntmps46
    go_wp2
    refine wp_region_mixB (Plan.seq [0, 1, 2, 1003, 4, 5, 6, 1007, 8, 1009, 10] .nil) (by kernel_rfl) (by kernel_rfl) (fun hcur => ?_)
    simp only [Plan.seq, Plan.fill, List.getD_cons_zero, List.getD_cons_succ, Nat.reduceLT, ↓reduceIte, Nat.reduceSub]
    apply mix_pure _ rfl
    · intro w' hw'
      have hcr := hw'.cells
      go_simp
      rfl
    intro K hK
    go_simp
    refine hK _ ?_
    clear hK K
    apply mix_pure _ rfl
    · intro w' hw'
      have hcr := hw'.cells
      go_simp
      rfl
    intro K hK
    go_simp
    refine hK _ ?_
    clear hK K
    apply mix_pure _ rfl
    · intro w' hw'
      have hcr := hw'.cells
      go_simp
      rfl
    intro K hK
    go_simp
    refine hK _ ?_
    clear hK K
    refine mix_act rfl (fun K hK => ?_)
    go_simp
    refine (IsStep_any _ _ _ _ _ _).mono ?_
    rintro e w' ⟨rfl, hb⟩
    (try rw [h1])
    simp only []
    refine hK _ _ (hcur.trans hb) (fun hcur => ?_)
    clear hK K hb
    apply mix_pure _ rfl
    · intro w' hw'
      have hcr := hw'.cells
      go_simp
      rfl
    intro K hK
    go_simp
    refine hK _ ?_
    clear hK K
    apply mix_pureG _ (by go_simp)
    · intro w' hw'
      have hcr := hw'.cells
      go_simp
      rfl
    intro K hK
    go_simp
    refine hK _ ?_
    clear hK K
    apply mix_pureG _ (by go_simp)
    · intro w' hw'
      have hcr := hw'.cells
      go_simp
      rfl
    intro K hK
    go_simp
    refine hK _ ?_
    clear hK K
    refine mix_actG (by go_simp) (fun K hK => ?_)
    go_simp
    refine (IsChamber_any _ _ _ _ _ _).mono ?_
    rintro e w' ⟨rfl, hb⟩
    (try rw [h2])
    simp only []
    refine hK _ _ (hcur.trans hb) (fun hcur => ?_)
    clear hK K hb
    apply mix_pure _ rfl
    · intro w' hw'
      have hcr := hw'.cells
      go_simp
      rfl
    intro K hK
    go_simp
    refine hK _ ?_
    clear hK K
    refine mix_act rfl (fun K hK => ?_)
    go_simp
    refine (HKN.out _ (HV.out.bel (by repeat (first | assumption | exact Bel.refl _ | refine Bel.drew ?_ | refine Bel.drewN ?_ _ | refine Bel.alloc ?_ _ | refine Bel.setCell ?_ (by simp <;> omega) _ | refine Bel.trans ?_ (by assumption))))).mono ?_
    rintro e w9 ⟨rfl, hb⟩
    simp only []
    refine hK _ _ (hcur.trans hb) (fun hcur => ?_)
    clear hK K hb
    apply mix_pure _ rfl
    · intro w' hw'
      have hcr := hw'.cells
      go_simp
      rfl
    intro K hK
    go_simp
    refine hK _ ?_
    clear hK K
    refine mix_nil ?_
    have r0 := hcur.cell ((row_facts (new_row (w := w.alloc (.cells #[.int .i64 t.C, .int .i64 t.T, .slice a t.op.length cc, .slice wa t.ws.length wc] 25)) (o := .cells #[.int .i64 0, .int .i64 0] 32) (g := w.heap.size + 1) (by simp))).1 0)
    have r1 := hcur.cell ((row_facts (new_row (w := w.alloc (.cells #[.int .i64 t.C, .int .i64 t.T, .slice a t.op.length cc, .slice wa t.ws.length wc] 25)) (o := .cells #[.int .i64 0, .int .i64 0] 32) (g := w.heap.size + 1) (by simp))).1 1)
    have rf : ∀ o, w9.frozen? ⟨w.heap.size + 1, o, none⟩ = false := fun o => (hcur.frozens _ (by simp)).trans ((row_facts (new_row (w := w.alloc (.cells #[.int .i64 t.C, .int .i64 t.T, .slice a t.op.length cc, .slice wa t.ws.length wc] 25)) (o := .cells #[.int .i64 0, .int .i64 0] 32) (g := w.heap.size + 1) (by simp))).2 o)
    change w9.cell? ⟨w.heap.size + 1, 0, none⟩ = some (.int .i64 0) at r0
    change w9.cell? ⟨w.heap.size + 1, 1, none⟩ = some (.int .i64 0) at r1
    have HB9 := Lib.hid (show Bel w w9 from Bel.trans (by repeat (first | assumption | exact Bel.refl _ | refine Bel.drew ?_ | refine Bel.drewN ?_ _ | refine Bel.alloc ?_ _ | refine Bel.setCell ?_ (by simp <;> omega) _ | refine Bel.trans ?_ (by assumption))) hcur)
    clear hcur
    go_wp2
    exact bodyPost_ret (v := .tuple #[.agg #[.int .i64 0, .int .i64 0], .int .i64 er]) (by simp [results, Try.results46, go_sem, *]) rfl (SpanPost.err HE.out ((HB9.out.setCell (by simp) _).setCell (by simp) _))
  · rw [h1, Bool.false_and]
    have he : errR t false ≠ 0 := errR_false
    have hne : (errR t false != 0) = true := by rw [bne_iff_ne]; exact he
    have HE := Lib.hid he
    have HKN := Lib.hid (fun wx hx => known_any t (.agg #[.int .i64 t.C, .int .i64 t.T, .slice a t.op.length cc, .slice wa t.ws.length wc]) false wx hx)
    clear he
    generalize errR t false = er at *
    go_enter Try.func46, Try.ntmps46
    go_wp2
    refine wp_region_mixB (Plan.seq [0, 1, 2, 1003, 4, 5, 6, 1007, 8, 1009, 10] .nil) (by kernel_rfl) (by kernel_rfl) (fun hcur => ?_)
    simp only [Plan.seq, Plan.fill, List.getD_cons_zero, List.getD_cons_succ, Nat.reduceLT, ↓reduceIte, Nat.reduceSub]
    apply mix_pure _ rfl
    · intro w' hw'
      have hcr := hw'.cells
      go_simp
      rfl
    intro K hK
    go_simp
    refine hK _ ?_
    clear hK K
    apply mix_pure _ rfl
    · intro w' hw'
      have hcr := hw'.cells
      go_simp
      rfl
    intro K hK
    go_simp
    refine hK _ ?_
    clear hK K
    apply mix_pure _ rfl
    · intro w' hw'
      have hcr := hw'.cells
      go_simp
      rfl
    intro K hK
    go_simp
    refine hK _ ?_
    clear hK K
    refine mix_act rfl (fun K hK => ?_)
    go_simp
    refine (IsStep_any _ _ _ _ _ _).mono ?_
    rintro e w' ⟨rfl, hb⟩
    (try rw [h1])
    simp only []
    refine hK _ _ (hcur.trans hb) (fun hcur => ?_)
    clear hK K hb
    apply mix_pure _ rfl
    · intro w' hw'
      have hcr := hw'.cells
      go_simp
      rfl
    intro K hK
    go_simp
    refine hK _ ?_
    clear hK K
    refine mix_skip (by go_simp) ?_
    intro K hK
    go_simp
    refine hK _ ?_
    clear hK K
    refine mix_skip (by go_simp) ?_
    intro K hK
    go_simp
    refine hK _ ?_
    clear hK K
    refine mix_askip (by go_simp) ?_
    intro K hK
    go_simp
    refine hK _ ?_
    clear hK K
    apply mix_pure _ rfl
    · intro w' hw'
      have hcr := hw'.cells
      go_simp
      rfl
    intro K hK
    go_simp
    refine hK _ ?_
    clear hK K
    refine mix_act rfl (fun K hK => ?_)
    go_simp
    refine (HKN.out _ (HV.out.bel (by repeat (first | assumption | exact Bel.refl _ | refine Bel.drew ?_ | refine Bel.drewN ?_ _ | refine Bel.alloc ?_ _ | refine Bel.setCell ?_ (by simp <;> omega) _ | refine Bel.trans ?_ (by assumption))))).mono ?_
    rintro e w9 ⟨rfl, hb⟩
    simp only []
    refine hK _ _ (hcur.trans hb) (fun hcur => ?_)
    clear hK K hb
    apply mix_pure _ rfl
    · intro w' hw'
      have hcr := hw'.cells
      go_simp
      rfl
    intro K hK
    go_simp
    refine hK _ ?_
    clear hK K
    refine mix_nil ?_
    have r0 := hcur.cell ((row_facts (new_row (w := w.alloc (.cells #[.int .i64 t.C, .int .i64 t.T, .slice a t.op.length cc, .slice wa t.ws.length wc] 25)) (o := .cells #[.int .i64 0, .int .i64 0] 32) (g := w.heap.size + 1) (by simp))).1 0)
    have r1 := hcur.cell ((row_facts (new_row (w := w.alloc (.cells #[.int .i64 t.C, .int .i64 t.T, .slice a t.op.length cc, .slice wa t.ws.length wc] 25)) (o := .cells #[.int .i64 0, .int .i64 0] 32) (g := w.heap.size + 1) (by simp))).1 1)
    have rf : ∀ o, w9.frozen? ⟨w.heap.size + 1, o, none⟩ = false := fun o => (hcur.frozens _ (by simp)).trans ((row_facts (new_row (w := w.alloc (.cells #[.int .i64 t.C, .int .i64 t.T, .slice a t.op.length cc, .slice wa t.ws.length wc] 25)) (o := .cells #[.int .i64 0, .int .i64 0] 32) (g := w.heap.size + 1) (by simp))).2 o)
    change w9.cell? ⟨w.heap.size + 1, 0, none⟩ = some (.int .i64 0) at r0
    change w9.cell? ⟨w.heap.size + 1, 1, none⟩ = some (.int .i64 0) at r1
    have HB9 := Lib.hid (show Bel w w9 from Bel.trans (by repeat (first | assumption | exact Bel.refl _ | refine Bel.drew ?_ | refine Bel.drewN ?_ _ | refine Bel.alloc ?_ _ | refine Bel.setCell ?_ (by simp <;> omega) _ | refine Bel.trans ?_ (by assumption))) hcur)
    clear hcur
    go_wp2
    exact bodyPost_ret (v := .tuple #[.agg #[.int .i64 0, .int .i64 0], .int .i64 er]) (by simp [results, Try.results46, go_sem, *]) rfl (SpanPost.err HE.out ((HB9.out.setCell (by simp) _).setCell (by simp) _))
end Go.Proofs.Ytoiajjdhgffdaaa
