/-
  reference: Came.
-/
import Derived.Test.YtoiajjdhgffdaaaRSpan
namespace Go.Proofs.Ytoiajjdhgffdaaa
open Go Go.RowKit
set_option maxHeartbeats 12000000
set_option maxRecDepth 100000
theorem RCame_any (t : CT) (v : Value) (f g : Int) (w : World) (hv : TrapAt w v t) :
    Calls Try.prog 44 #[v, .int .i64 f, .int .i64 g] w (SpanPost (errR t (cameB t.T f g)) (cameLo t f g) (cameHi t f g) w) := by
  have HV := Lib.hid hv
  obtain ⟨ov, wv, rfl, ⟨a, cc, b, off, rv, rfl, _⟩, ⟨wa, wc, wb, woff, rfl, _⟩⟩ := hv
  rw [← came_err]
  have hcs : ((isTimeB t.T f = true ∧ isTimeB t.T g = true) ∧ f ≤ g) ∨ ((isTimeB t.T f = true ∧ isTimeB t.T g = true) ∧ ¬ f ≤ g) ∨ (isTimeB t.T f = true ∧ isTimeB t.T g = false) ∨ isTimeB t.T f = false := by
    cases isTimeB t.T f <;> cases isTimeB t.T g <;> by_cases h : f ≤ g <;> simp [h]
  rcases hcs with ⟨⟨h1, h2⟩, h3⟩ | ⟨⟨h1, h2⟩, h3⟩ | ⟨h1, h2⟩ | h1
  · rw [h1, h2, decide_eq_true h3, show (true && true && true) = true from rfl]
    have e3 : decide (f ≤ g) = true := decide_eq_true h3
    clear h3
    by_cases he : errR t true = 0
    · have HE := Lib.hid he
      have HKN := Lib.hid (fun wx hx => known_any t (.agg #[.int .i64 t.C, .int .i64 t.T, .slice a t.op.length cc, .slice wa t.ws.length wc]) true wx hx)
      rw [he] at HKN
      obtain ⟨hval, _, hone⟩ := errR_zero he
      obtain ⟨hex, hf⟩ := errR_exact he
      have pp := isTimeB_bounds hf.t1 hf.t2 h1
      have qq := isTimeB_bounds hf.t1 hf.t2 h2
      obtain ⟨n, hn⟩ : ∃ n : Nat, f = n := ⟨f.toNat, by omega⟩
      obtain ⟨m, hm⟩ : ∃ m : Nat, g = m := ⟨g.toNat, by omega⟩
      have HD := Lib.hid (fun wx hx => (difference_any t (.agg #[.int .i64 t.C, .int .i64 t.T, .slice a t.op.length cc, .slice wa t.ws.length wc]) m 0 n 0 wx hx hf (valid_nine hval) hone (by omega) (by omega) (by omega) (by omega) (vi := g) (vc := 0) (vj := f) (vd := 0) hm rfl hn rfl).mono (R' := fun e w' => e = .returned (.agg #[.int .i64 (cameLo t f g), .int .i64 (cameHi t f g)]) ∧ Bel wx w') (fun e w' h => by
        obtain ⟨m1, m2, rfl, ⟨h1, h2⟩, hb'⟩ := h
        rw [hn, hm, h1.uniq (Came_min hf hex n m (by omega) (by omega)), h2.uniq (Came_max hf hex n m (by omega) (by omega))]
        exact ⟨rfl, hb'⟩))
      clear hval hone hex hf pp qq hn hm
      clear he
      generalize cameLo t f g = lo at *
      generalize cameHi t f g = hi at *
      go_enter Try.func44, Try.ntmps44
      go_wp2
      refine wp_region_mixB (Plan.seq [0, 1, 2, 1003, 4, 5, 6, 1007, 8, 9, 10, 11, 12, 13, 1014, 15] .nil) (by kernel_rfl) (by kernel_rfl) (fun hcur => ?_)
      simp only [Plan.seq, Plan.fill, List.getD_cons_zero, List.getD_cons_succ, Nat.reduceLT, ↓reduceIte, Nat.reduceSub]
      apply mix_pure _ rfl
      · intro w' hw'
        have hcr := hw'.cells
        go_simp
        rfl
      intro K hK
      go_simp
      refine hK _ ?_
      clear hK K
      apply mix_pure _ rfl
      · intro w' hw'
        have hcr := hw'.cells
        go_simp
        rfl
      intro K hK
      go_simp
      refine hK _ ?_
      clear hK K
      apply mix_pure _ rfl
      · intro w' hw'
        have hcr := hw'.cells
        go_simp
        rfl
      intro K hK
      go_simp
      refine hK _ ?_
      clear hK K
      refine mix_act rfl (fun K hK => ?_)
      go_simp
      refine (IsTime_any _ _ _ _ _ _).mono ?_
      rintro e w' ⟨rfl, hb⟩
      (try rw [h1])
      simp only []
      refine hK _ _ (hcur.trans hb) (fun hcur => ?_)
      clear hK K hb
      apply mix_pure _ rfl
      · intro w' hw'
        have hcr := hw'.cells
        go_simp
        rfl
      intro K hK
      go_simp
      refine hK _ ?_
      clear hK K
      apply mix_pureG _ (by go_simp)
      · intro w' hw'
        have hcr := hw'.cells
        go_simp
        rfl
      intro K hK
      go_simp
      refine hK _ ?_
      clear hK K
      apply mix_pureG _ (by go_simp)
      · intro w' hw'
        have hcr := hw'.cells
        go_simp
        rfl
      intro K hK
      go_simp
      refine hK _ ?_
      clear hK K
      refine mix_actG (by go_simp) (fun K hK => ?_)
      go_simp
      refine (IsTime_any _ _ _ _ _ _).mono ?_
      rintro e w' ⟨rfl, hb⟩
      (try rw [h2])
      simp only []
      refine hK _ _ (hcur.trans hb) (fun hcur => ?_)
      clear hK K hb
      apply mix_pure _ rfl
      · intro w' hw'
        have hcr := hw'.cells
        go_simp
        rfl
      intro K hK
      go_simp
      refine hK _ ?_
      clear hK K
      apply mix_pure _ rfl
      · intro w' hw'
        have hcr := hw'.cells
        go_simp
        rfl
      intro K hK
      go_simp
      refine hK _ ?_
      clear hK K
      apply mix_pureG _ (by go_simp)
      · intro w' hw'
        have hcr := hw'.cells
        go_simp
        rfl
      intro K hK
      go_simp
      refine hK _ ?_
      clear hK K
      apply mix_pureG _ (by go_simp)
      · intro w' hw'
        have hcr := hw'.cells
        go_simp
        rfl
      intro K hK
      go_simp
      refine hK _ ?_
      clear hK K
      apply mix_pureG _ (by go_simp)
      · intro w' hw'
        have hcr := hw'.cells
        go_simp
        rfl
      intro K hK
      go_simp
      refine hK _ ?_
      clear hK K
      apply mix_pure _ rfl
      · intro w' hw'
        have hcr := hw'.cells
        go_simp
        rfl
      intro K hK
      go_simp
      refine hK _ ?_
      clear hK K
      refine mix_act rfl (fun K hK => ?_)
      go_simp
      refine (HKN.out _ (HV.out.bel (by repeat (first | assumption | exact Bel.refl _ | refine Bel.drew ?_ | refine Bel.drewN ?_ _ | refine Bel.alloc ?_ _ | refine Bel.setCell ?_ (by simp <;> omega) _ | refine Bel.trans ?_ (by assumption))))).mono ?_
      rintro e w9 ⟨rfl, hb⟩
      simp only []
      refine hK _ _ (hcur.trans hb) (fun hcur => ?_)
      clear hK K hb
      apply mix_pure _ rfl
      · intro w' hw'
        have hcr := hw'.cells
        go_simp
        rfl
      intro K hK
      go_simp
      refine hK _ ?_
      clear hK K
      refine mix_nil ?_
      have r0 := hcur.cell ((row_facts (new_row (w := w.alloc (.cells #[.int .i64 t.C, .int .i64 t.T, .slice a t.op.length cc, .slice wa t.ws.length wc] 25)) (o := .cells #[.int .i64 0, .int .i64 0] 32) (g := w.heap.size + 1) (by simp))).1 0)
      have r1 := hcur.cell ((row_facts (new_row (w := w.alloc (.cells #[.int .i64 t.C, .int .i64 t.T, .slice a t.op.length cc, .slice wa t.ws.length wc] 25)) (o := .cells #[.int .i64 0, .int .i64 0] 32) (g := w.heap.size + 1) (by simp))).1 1)
      have rf : ∀ o, w9.frozen? ⟨w.heap.size + 1, o, none⟩ = false := fun o => (hcur.frozens _ (by simp)).trans ((row_facts (new_row (w := w.alloc (.cells #[.int .i64 t.C, .int .i64 t.T, .slice a t.op.length cc, .slice wa t.ws.length wc] 25)) (o := .cells #[.int .i64 0, .int .i64 0] 32) (g := w.heap.size + 1) (by simp))).2 o)
      change w9.cell? ⟨w.heap.size + 1, 0, none⟩ = some (.int .i64 0) at r0
      change w9.cell? ⟨w.heap.size + 1, 1, none⟩ = some (.int .i64 0) at r1
      have x0 : w9.cell? ⟨w.heap.size, 0, none⟩ = some (.int .i64 t.C) := hcur.cell ((row_facts ((heap_alloc_old _ _ (by simp)).trans (new_row rfl))).1 0)
      have x1 : w9.cell? ⟨w.heap.size, 1, none⟩ = some (.int .i64 t.T) := hcur.cell ((row_facts ((heap_alloc_old _ _ (by simp)).trans (new_row rfl))).1 1)
      have x2 : w9.cell? ⟨w.heap.size, 2, none⟩ = some (.slice a t.op.length cc) := hcur.cell ((row_facts ((heap_alloc_old _ _ (by simp)).trans (new_row rfl))).1 2)
      have x3 : w9.cell? ⟨w.heap.size, 3, none⟩ = some (.slice wa t.ws.length wc) := hcur.cell ((row_facts ((heap_alloc_old _ _ (by simp)).trans (new_row rfl))).1 3)
      have lx := cell_lt x0
      have lr := cell_lt r0
      have HB9 := Lib.hid (show Bel w w9 from Bel.trans (by repeat (first | assumption | exact Bel.refl _ | refine Bel.drew ?_ | refine Bel.drewN ?_ _ | refine Bel.alloc ?_ _ | refine Bel.setCell ?_ (by simp <;> omega) _ | refine Bel.trans ?_ (by assumption))) hcur)
      clear hcur
      go_wp2_with fail
      refine (HD.out _ (HV.out.bel HB9.out)).mono ?_
      rintro e w10 ⟨rfl, hb⟩
      replace r0 := hb.cell r0
      replace r1 := hb.cell r1
      replace rf : ∀ o, w10.frozen? ⟨w.heap.size + 1, o, none⟩ = false := fun o => (hb.frozens _ lr).trans (rf o)
      have HB := Lib.hid (HB9.out.trans hb)
      clear hb x0 x1 x2 x3 lx lr
      go_wp2
      exact bodyPost_ret (v := .tuple #[.agg #[.int .i64 lo, .int .i64 hi], .int .i64 0]) (by simp [results, Try.results44, go_sem, *]) rfl (SpanPost.ok HE.out ((HB.out.setCell (by simp) _).setCell (by simp) _))
    · have hne : (errR t true != 0) = true := by rw [bne_iff_ne]; exact he
      have HE := Lib.hid he
      have HKN := Lib.hid (fun wx hx => known_any t (.agg #[.int .i64 t.C, .int .i64 t.T, .slice a t.op.length cc, .slice wa t.ws.length wc]) true wx hx)
      clear he
      generalize errR t true = er at *
      go_enter Try.func44, Try.ntmps44
      go_wp2
      refine wp_region_mixB (Plan.seq [0, 1, 2, 1003, 4, 5, 6, 1007, 8, 9, 10, 11, 12, 13, 1014, 15] .nil) (by kernel_rfl) (by kernel_rfl) (fun hcur => ?_)
      simp only [Plan.seq, Plan.fill, List.getD_cons_zero, List.getD_cons_succ, Nat.reduceLT, ↓reduceIte, Nat.reduceSub]
      apply mix_pure _ rfl
      · intro w' hw'
        have hcr := hw'.cells
        go_simp
        rfl
      intro K hK
      go_simp
      refine hK _ ?_
      clear hK K
      apply mix_pure _ rfl
      · intro w' hw'
        have hcr := hw'.cells
        go_simp
        rfl
      intro K hK
      go_simp
      refine hK _ ?_
      clear hK K
      apply mix_pure _ rfl
      · intro w' hw'
        have hcr := hw'.cells
        go_simp
        rfl
      intro K hK
      go_simp
      refine hK _ ?_
      clear hK K
      refine mix_act rfl (fun K hK => ?_)
      go_simp
      refine (IsTime_any _ _ _ _ _ _).mono ?_
      rintro e w' ⟨rfl, hb⟩
      (try rw [h1])
      simp only []
      refine hK _ _ (hcur.trans hb) (fun hcur => ?_)
      clear hK K hb
      apply mix_pure _ rfl
      · intro w' hw'
        have hcr := hw'.cells
        go_simp
        rfl
      intro K hK
      go_simp
      refine hK _ ?_
      clear hK K
      apply mix_pureG _ (by go_simp)
      · intro w' hw'
        have hcr := hw'.cells
        go_simp
        rfl
      intro K hK
      go_simp
      refine hK _ ?_
      clear hK K
      apply mix_pureG _ (by go_simp)
      · intro w' hw'
        have hcr := hw'.cells
        go_simp
        rfl
      intro K hK
      go_simp
      refine hK _ ?_
      clear hK K
      refine mix_actG (by go_simp) (fun K hK => ?_)
      go_simp
      refine (IsTime_any _ _ _ _ _ _).mono ?_
      rintro e w' ⟨rfl, hb⟩
      (try rw [h2])
      simp only []
      refine hK _ _ (hcur.trans hb) (fun hcur => ?_)
      clear hK K hb
      apply mix_pure _ rfl
      · intro w' hw'
        have hcr := hw'.cells
        go_simp
        rfl
      intro K hK
      go_simp
      refine hK _ ?_
      clear hK K
      apply mix_pure _ rfl
      · intro w' hw'
        have hcr := hw'.cells
        go_simp
        rfl
      intro K hK
      go_simp
      refine hK _ ?_
      clear hK K
      apply mix_pureG _ (by go_simp)
      · intro w' hw'
        have hcr := hw'.cells
        go_simp
        rfl
      intro K hK
      go_simp
      refine hK _ ?_
      clear hK K
      apply mix_pureG _ (by go_simp)
      · intro w' hw'
        have hcr := hw'.cells
        go_simp
        rfl
      intro K hK
      go_simp
      refine hK _ ?_
      clear hK K
      apply mix_pureG _ (by go_simp)
      · intro w' hw'
        have hcr := hw'.cells
        go_simp
        rfl
      intro K hK
      go_simp
      refine hK _ ?_
      clear hK K
      apply mix_pure _ rfl
      · intro w' hw'
        have hcr := hw'.cells
        go_simp
        rfl
      intro K hK
      go_simp
      refine hK _ ?_
      clear hK K
      refine mix_act rfl (fun K hK => ?_)
      go_simp
      refine (HKN.out _ (HV.out.bel (by repeat (first | assumption | exact Bel.refl _ | refine Bel.drew ?_ | refine Bel.drewN ?_ _ | refine Bel.alloc ?_ _ | refine Bel.setCell ?_ (by simp <;> omega) _ | refine Bel.trans ?_ (by assumption))))).mono ?_
      rintro e w9 ⟨rfl, hb⟩
      simp only []
      refine hK _ _ (hcur.trans hb) (fun hcur => ?_)
      clear hK K hb
      apply mix_pure _ rfl
      · intro w' hw'
        have hcr := hw'.cells
        go_simp
        rfl
      intro K hK
      go_simp
      refine hK _ ?_
      clear hK K
      refine mix_nil ?_
      have r0 := hcur.cell ((row_facts (new_row (w := w.alloc (.cells #[.int .i64 t.C, .int .i64 t.T, .slice a t.op.length cc, .slice wa t.ws.length wc] 25)) (o := .cells #[.int .i64 0, .int .i64 0] 32) (g := w.heap.size + 1) (by simp))).1 0)
      have r1 := hcur.cell ((row_facts (new_row (w := w.alloc (.cells #[.int .i64 t.C, .int .i64 t.T, .slice a t.op.length cc, .slice wa t.ws.length wc] 25)) (o := .cells #[.int .i64 0, .int .i64 0] 32) (g := w.heap.size + 1) (by simp))).1 1)
      have rf : ∀ o, w9.frozen? ⟨w.heap.size + 1, o, none⟩ = false := fun o => (hcur.frozens _ (by simp)).trans ((row_facts (new_row (w := w.alloc (.cells #[.int .i64 t.C, .int .i64 t.T, .slice a t.op.length cc, .slice wa t.ws.length wc] 25)) (o := .cells #[.int .i64 0, .int .i64 0] 32) (g := w.heap.size + 1) (by simp))).2 o)
      change w9.cell? ⟨w.heap.size + 1, 0, none⟩ = some (.int .i64 0) at r0
      change w9.cell? ⟨w.heap.size + 1, 1, none⟩ = some (.int .i64 0) at r1
      have HB9 := Lib.hid (show Bel w w9 from Bel.trans (by repeat (first | assumption | exact Bel.refl _ | refine Bel.drew ?_ | refine Bel.drewN ?_ _ | refine Bel.alloc ?_ _ | refine Bel.setCell ?_ (by simp <;> omega) _ | refine Bel.trans ?_ (by assumption))) hcur)
      clear hcur
      go_wp2
      exact bodyPost_ret (v := .tuple #[.agg #[.int .i64 0, .int .i64 0], .int .i64 er]) (by simp [results, Try.results44, go_sem, *]) rfl (SpanPost.err HE.out ((HB9.out.setCell (by simp) _).setCell (by simp) _))
  · rw [h1, h2, decide_eq_false h3, show (true && true && false) = false from rfl]
    have e3 : decide (f ≤ g) = false := decide_eq_false h3
    clear h3
    have he : errR t false ≠ 0 := errR_false
    have hne : (errR t false != 0) = true := by rw [bne_iff_ne]; exact he
    have HE := Lib.hid he
    have HKN := Lib.hid (fun wx hx => known_any t (.agg #[.int .i64 t.C, .int .i64 t.T, .slice a t.op.length cc, .slice wa t.ws.length wc]) false wx hx)
    clear he
    generalize errR t false = er at *
    go_enter Try.func44, Try.ntmps44
    go_wp2
    refine wp_region_mixB (Plan.seq [0, 1, 2, 1003, 4, 5, 6, 1007, 8, 9, 10, 11, 12, 13, 1014, 15] .nil) (by kernel_rfl) (by kernel_rfl) (fun hcur => ?_)
    simp only [Plan.seq, Plan.fill, List.getD_cons_zero, List.getD_cons_succ, Nat.reduceLT, ↓reduceIte, Nat.reduceSub]
    apply mix_pure _ rfl
    · intro w' hw'
      have hcr := hw'.cells
      go_simp
      rfl
    intro K hK
    go_simp
    refine hK _ ?_
    clear hK K
    apply mix_pure _ rfl
    · intro w' hw'
      have hcr := hw'.cells
      go_simp
      rfl
    intro K hK
    go_simp
    refine hK _ ?_
    clear hK K
    apply mix_pure _ rfl
    · intro w' hw'
      have hcr := hw'.cells
      go_simp
      rfl
    intro K hK
    go_simp
    refine hK _ ?_
    clear hK K
    refine mix_act rfl (fun K hK => ?_)
    go_simp
    refine (IsTime_any _ _ _ _ _ _).mono ?_
    rintro e w' ⟨rfl, hb⟩
    (try rw [h1])
    simp only []
    refine hK _ _ (hcur.trans hb) (fun hcur => ?_)
    clear hK K hb
    apply mix_pure _ rfl
    · intro w' hw'
      have hcr := hw'.cells
      go_simp
      rfl
    intro K hK
    go_simp
    refine hK _ ?_
    clear hK K
    apply mix_pureG _ (by go_simp)
    · intro w' hw'
      have hcr := hw'.cells
      go_simp
      rfl
    intro K hK
    go_simp
    refine hK _ ?_
    clear hK K
    apply mix_pureG _ (by go_simp)
    · intro w' hw'
      have hcr := hw'.cells
      go_simp
      rfl
    intro K hK
    go_simp
    refine hK _ ?_
    clear hK K
    refine mix_actG (by go_simp) (fun K hK => ?_)
    go_simp
    refine (IsTime_any _ _ _ _ _ _).mono ?_
    rintro e w' ⟨rfl, hb⟩
    (try rw [h2])
    simp only []
    refine hK _ _ (hcur.trans hb) (fun hcur => ?_)
    clear hK K hb
    apply mix_pure _ rfl
    · intro w' hw'
      have hcr := hw'.cells
      go_simp
      rfl
    intro K hK
    go_simp
    refine hK _ ?_
    clear hK K
    apply mix_pure _ rfl
    · intro w' hw'
      have hcr := hw'.cells
      go_simp
      rfl
    intro K hK
    go_simp
    refine hK _ ?_
    clear hK K
    apply mix_pureG _ (by go_simp)
    · intro w' hw'
      have hcr := hw'.cells
      go_simp
      rfl
    intro K hK
    go_simp
    refine hK _ ?_
    clear hK K
    apply mix_pureG _ (by go_simp)
    · intro w' hw'
      have hcr := hw'.cells
      go_simp
      rfl
    intro K hK
    go_simp
    refine hK _ ?_
    clear hK K
    apply mix_pureG _ (by go_simp)
    · intro w' hw'
      have hcr := hw'.cells
      go_simp
      rfl
    intro K hK
    go_simp
    refine hK _ ?_
    clear hK K
    apply mix_pure _ rfl
    · intro w' hw'
      have hcr := hw'.cells
      go_simp
      rfl
    intro K hK
    go_simp
    refine hK _ ?_
    clear hK K
    refine mix_act rfl (fun K hK => ?_)
    go_simp
    refine (HKN.out _ (HV.out.bel (by repeat (first | assumption | exact Bel.refl _ | refine Bel.drew ?_ | refine Bel.drewN ?_ _ | refine Bel.alloc ?_ _ | refine Bel.setCell ?_ (by simp <;> omega) _ | refine Bel.trans ?_ (by assumption))))).mono ?_
    rintro e w9 ⟨rfl, hb⟩
    simp only []
    refine hK _ _ (hcur.trans hb) (fun hcur => ?_)
    clear hK K hb
    apply mix_pure _ rfl
    · intro w' hw'
      have hcr := hw'.cells
      go_simp
      rfl
    intro K hK
    go_simp
    refine hK _ ?_
    clear hK K
    refine mix_nil ?_
    have r0 := hcur.cell ((row_facts (new_row (w := w.alloc (.cells #[.int .i64 t.C, .int .i64 t.T, .slice a t.op.length cc, .slice wa t.ws.length wc] 25)) (o := .cells #[.int .i64 0, .int .i64 0] 32) (g := w.heap.size + 1) (by simp))).1 0)
    have r1 := hcur.cell ((row_facts (new_row (w := w.alloc (.cells #[.int .i64 t.C, .int .i64 t.T, .slice a t.op.length cc, .slice wa t.ws.length wc] 25)) (o := .cells #[.int .i64 0, .int .i64 0] 32) (g := w.heap.size + 1) (by simp))).1 1)
    have rf : ∀ o, w9.frozen? ⟨w.heap.size + 1, o, none⟩ = false := fun o => (hcur.frozens _ (by simp)).trans ((row_facts (new_row (w := w.alloc (.cells #[.int .i64 t.C, .int .i64 t.T, .slice a t.op.length cc, .slice wa t.ws.length wc] 25)) (o := .cells #[.int .i64 0, .int .i64 0] 32) (g := w.heap.size + 1) (by simp))).2 o)
    change w9.cell? ⟨w.heap.size + 1, 0, none⟩ = some (.int .i64 0) at r0
    change w9.cell? ⟨w.heap.size + 1, 1, none⟩ = some (.int .i64 0) at r1
    have HB9 := Lib.hid (show Bel w w9 from Bel.trans (by repeat (first | assumption | exact Bel.refl _ | refine Bel.drew ?_ | refine Bel.drewN ?_ _ | refine Bel.alloc ?_ _ | refine Bel.setCell ?_ (by simp <;> omega) _ | refine Bel.trans ?_ (by assumption))) hcur)
    clear hcur
    go_wp2
    exact bodyPost_ret (v := .tuple #[.agg #[.int .i64 0, .int .i64 0], .int .i64 er]) (by simp [results, Try.results44, go_sem, *]) rfl (SpanPost.err HE.out ((HB9.out.setCell (by simp) _).setCell (by simp) _))
  · rw [h1, h2, show (true && false) = false from rfl, Bool.false_and]
    have he : errR t false ≠ 0 := errR_false
    have hne : (errR t false != 0) = true := by rw [bne_iff_ne]; exact he
    have HE := Lib.hid he
    have HKN := Lib.hid (fun wx hx => known_any t (.agg #[.int .i64 t.C, .int .i64 t.T, .slice a t.op.length cc, .slice wa t.ws.length wc]) false wx hx)
    clear he
    generalize errR t false = er at *
    go_enter Try.func44, Try.ntmps44
    go_wp2
    refine wp_region_mixB (Plan.seq [0, 1, 2, 1003, 4, 5, 6, 1007, 8, 9, 10, 11, 12, 13, 1014, 15] .nil) (by kernel_rfl) (by kernel_rfl) (fun hcur => ?_)
    simp only [Plan.seq, Plan.fill, List.getD_cons_zero, List.getD_cons_succ, Nat.reduceLT, ↓reduceIte, Nat.reduceSub]
    apply mix_pure _ rfl
    · intro w' hw'
      have hcr := hw'.cells
      go_simp
      rfl
    intro K hK
    go_simp
    refine hK _ ?_
    clear hK K
    apply mix_pure _ rfl
    · intro w' hw'
      have hcr := hw'.cells
      go_simp
      rfl
    intro K hK
    go_simp
    refine hK _ ?_
    clear hK K
    apply mix_pure _ rfl
    · intro w' hw'
      have hcr := hw'.cells
      go_simp
      rfl
    intro K hK
    go_simp
    refine hK _ ?_
    clear hK K
    refine mix_act rfl (fun K hK => ?_)
    go_simp
    refine (IsTime_any _ _ _ _ _ _).mono ?_
    rintro e w' ⟨rfl, hb⟩
    (try rw [h1])
    simp only []
    refine hK _ _ (hcur.trans hb) (fun hcur => ?_)
    clear hK K hb
    apply mix_pure _ rfl
    · intro w' hw'
      have hcr := hw'.cells
      go_simp
      rfl
    intro K hK
    go_simp
    refine hK _ ?_
    clear hK K
    apply mix_pureG _ (by go_simp)
    · intro w' hw'
      have hcr := hw'.cells
      go_simp
      rfl
    intro K hK
    go_simp
    refine hK _ ?_
    clear hK K
    apply mix_pureG _ (by go_simp)
    · intro w' hw'
      have hcr := hw'.cells
      go_simp
      rfl
    intro K hK
    go_simp
    refine hK _ ?_
    clear hK K
    refine mix_actG (by go_simp) (fun K hK => ?_)
    go_simp
    refine (IsTime_any _ _ _ _ _ _).mono ?_
    rintro e w' ⟨rfl, hb⟩
    (try rw [h2])
    simp only []
    refine hK _ _ (hcur.trans hb) (fun hcur => ?_)
    clear hK K hb
    apply mix_pure _ rfl
    · intro w' hw'
      have hcr := hw'.cells
      go_simp
      rfl
    intro K hK
    go_simp
    refine hK _ ?_
    clear hK K
    apply mix_pure _ rfl
    · intro w' hw'
      have hcr := hw'.cells
      go_simp
      rfl
    intro K hK
    go_simp
    refine hK _ ?_
    clear hK K
    refine mix_skip (by go_simp) ?_
    intro K hK
    go_simp
    refine hK _ ?_
    clear hK K
    refine mix_skip (by go_simp) ?_
    intro K hK
    go_simp
    refine hK _ ?_
    clear hK K
    refine mix_skip (by go_simp) ?_
    intro K hK
    go_simp
    refine hK _ ?_
    clear hK K
    apply mix_pure _ rfl
    · intro w' hw'
      have hcr := hw'.cells
      go_simp
      rfl
    intro K hK
    go_simp
    refine hK _ ?_
    clear hK K
    refine mix_act rfl (fun K hK => ?_)
    go_simp
    refine (HKN.out _ (HV.out.bel (by repeat (first | assumption | exact Bel.refl _ | refine Bel.drew ?_ | refine Bel.drewN ?_ _ | refine Bel.alloc ?_ _ | refine Bel.setCell ?_ (by simp <;> omega) _ | refine Bel.trans ?_ (by assumption))))).mono ?_
    rintro e w9 ⟨rfl, hb⟩
    simp only []
    refine hK _ _ (hcur.trans hb) (fun hcur => ?_)
    clear hK K hb
    apply mix_pure _ rfl
    · intro w' hw'
      have hcr := hw'.cells
      go_simp
      rfl
    intro K hK
    go_simp
    refine hK _ ?_
    clear hK K
    refine mix_nil ?_
    have r0 := hcur.cell ((row_facts (new_row (w := w.alloc (.cells #[.int .i64 t.C, .int .i64 t.T, .slice a t.op.length cc, .slice wa t.ws.length wc] 25)) (o := .cells #[.int .i64 0, .int .i64 0] 32) (g := w.heap.size + 1) (by simp))).1 0)
    have r1 := hcur.cell ((row_facts (new_row (w := w.alloc (.cells #[.int .i64 t.C, .int .i64 t.T, .slice a t.op.length cc, .slice wa t.ws.length wc] 25)) (o := .cells #[.int .i64 0, .int .i64 0] 32) (g := w.heap.size + 1) (by simp))).1 1)
    have rf : ∀ o, w9.frozen? ⟨w.heap.size + 1, o, none⟩ = false := fun o => (hcur.frozens _ (by simp)).trans ((row_facts (new_row (w := w.alloc (.cells #[.int .i64 t.C, .int .i64 t.T, .slice a t.op.length cc, .slice wa t.ws.length wc] 25)) (o := .cells #[.int .i64 0, .int .i64 0] 32) (g := w.heap.size + 1) (by simp))).2 o)
    change w9.cell? ⟨w.heap.size + 1, 0, none⟩ = some (.int .i64 0) at r0
    change w9.cell? ⟨w.heap.size + 1, 1, none⟩ = some (.int .i64 0) at r1
    have HB9 := Lib.hid (show Bel w w9 from Bel.trans (by repeat (first | assumption | exact Bel.refl _ | refine Bel.drew ?_ | refine Bel.drewN ?_ _ | refine Bel.alloc ?_ _ | refine Bel.setCell ?_ (by simp <;> omega) _ | refine Bel.trans ?_ (by assumption))) hcur)
    clear hcur
    go_wp2
    exact bodyPost_ret (v := .tuple #[.agg #[.int .i64 0, .int .i64 0], .int .i64 er]) (by simp [results, Try.results44, go_sem, *]) rfl (SpanPost.err HE.out ((HB9.out.setCell (by simp) _).setCell (by simp) _))
  · rw [h1, Bool.false_and, Bool.false_and]
    have he : errR t false ≠ 0 := errR_false
    have hne : (errR t false != 0) = true := by rw [bne_iff_ne]; exact he
    have HE := Lib.hid he
    have HKN := Lib.hid (fun wx hx => known_any t (.agg #[.int .i64 t.C, .int .i64 t.T, .slice a t.op.length cc, .slice wa t.ws.length wc]) false wx hx)
    clear he
    generalize errR t false = er at *
    go_enter Try.func44, Try.ntmps44
    go_wp2
    refine wp_region_mixB (Plan.seq [0, 1, 2, 1003, 4, 5, 6, 1007, 8, 9, 10, 11, 12, 13, 1014, 15] .nil) (by kernel_rfl) (by kernel_rfl) (fun hcur => ?_)
    simp only [Plan.seq, Plan.fill, List.getD_cons_zero, List.getD_cons_succ, Nat.reduceLT, ↓reduceIte, Nat.reduceSub]
    apply mix_pure _ rfl
    · intro w' hw'
      have hcr := hw'.cells
      go_simp
      rfl
    intro K hK
    go_simp
    refine hK _ ?_
    clear hK K
    apply mix_pure _ rfl
    · intro w' hw'
      have hcr := hw'.cells
      go_simp
      rfl
    intro K hK
    go_simp
    refine hK _ ?_
    clear hK K
    apply mix_pure _ rfl
    · intro w' hw'
      have hcr := hw'.cells
      go_simp
      rfl
    intro K hK
    go_simp
    refine hK _ ?_
    clear hK K
    refine mix_act rfl (fun K hK => ?_)
    go_simp
    refine (IsTime_any _ _ _ _ _ _).mono ?_
    rintro e w' ⟨rfl, hb⟩
    (try rw [h1])
    simp only []
    refine hK _ _ (hcur.trans hb) (fun hcur => ?_)
    clear hK K hb
    apply mix_pure _ rfl
    · intro w' hw'
      have hcr := hw'.cells
      go_simp
      rfl
    intro K hK
    go_simp
    refine hK _ ?_
    clear hK K
    refine mix_skip (by go_simp) ?_
    intro K hK
    go_simp
    refine hK _ ?_
    clear hK K
    refine mix_skip (by go_simp) ?_
    intro K hK
    go_simp
    refine hK _ ?_
    clear hK K
    refine mix_askip (by go_simp) ?_
    intro K hK
    go_simp
    refine hK _ ?_
    clear hK K
    apply mix_pure _ rfl
    · intro w' hw'
      have hcr := hw'.cells
      go_simp
      rfl
    intro K hK
    go_simp
    refine hK _ ?_
    clear hK K
    apply mix_pure _ rfl
    · intro w' hw'
      have hcr := hw'.cells
      go_simp
      rfl
    intro K hK
    go_simp
    refine hK _ ?_
    clear hK K
    refine mix_skip (by go_simp) ?_
    intro K hK
    go_simp
    refine hK _ ?_
    clear hK K
    refine mix_skip (by go_simp) ?_
    intro K hK
    go_simp
    refine hK _ ?_
    clear hK K
    refine mix_skip (by go_simp) ?_
    intro K hK
    go_simp
    refine hK _ ?_
    clear hK K
    apply mix_pure _ rfl
    · intro w' hw'
      have hcr := hw'.cells
      go_simp
      rfl
    intro K hK
    go_simp
    refine hK _ ?_
    clear hK K
    refine mix_act rfl (fun K hK => ?_)
    go_simp
    refine (HKN.out _ (HV.out.bel (by repeat (first | assumption | exact Bel.refl _ | refine Bel.drew ?_ | refine Bel.drewN ?_ _ | refine Bel.alloc ?_ _ | refine Bel.setCell ?_ (by simp <;> omega) _ | refine Bel.trans ?_ (by assumption))))).mono ?_
    rintro e w9 ⟨rfl, hb⟩
    simp only []
    refine hK _ _ (hcur.trans hb) (fun hcur => ?_)
    clear hK K hb
    apply mix_pure _ rfl
    · intro w' hw'
      have hcr := hw'.cells
      go_simp
      rfl
    intro K hK
    go_simp
    refine hK _ ?_
    clear hK K
    refine mix_nil ?_
    have r0 := hcur.cell ((row_facts (new_row (w := w.alloc (.cells #[.int .i64 t.C, .int .i64 t.T, .slice a t.op.length cc, .slice wa t.ws.length wc] 25)) (o := .cells #[.int .i64 0, .int .i64 0] 32) (g := w.heap.size + 1) (by simp))).1 0)
    have r1 := hcur.cell ((row_facts (new_row (w := w.alloc (.cells #[.int .i64 t.C, .int .i64 t.T, .slice a t.op.length cc, .slice wa t.ws.length wc] 25)) (o := .cells #[.int .i64 0, .int .i64 0] 32) (g := w.heap.size + 1) (by simp))).1 1)
    have rf : ∀ o, w9.frozen? ⟨w.heap.size + 1, o, none⟩ = false := fun o => (hcur.frozens _ (by simp)).trans ((row_facts (new_row (w := w.alloc (.cells #[.int .i64 t.C, .int .i64 t.T, .slice a t.op.length cc, .slice wa t.ws.length wc] 25)) (o := .cells #[.int .i64 0, .int .i64 0] 32) (g := w.heap.size + 1) (by simp))).2 o)
    change w9.cell? ⟨w.heap.size + 1, 0, none⟩ = some (.int .i64 0) at r0
    change w9.cell? ⟨w.heap.size + 1, 1, none⟩ = some (.int .i64 0) at r1
    have HB9 := Lib.hid (show Bel w w9 from Bel.trans (by repeat (first | assumption | exact Bel.refl _ | refine Bel.drew ?_ | refine Bel.drewN ?_ _ | refine Bel.alloc ?_ _ | refine Bel.setCell ?_ (by simp <;> omega) _ | refine Bel.trans ?_ (by assumption))) hcur)
    clear hcur
    go_wp2
    exact bodyPost_ret (v := .tuple #[.agg #[.int .i64 0, .int .i64 0], .int .i64 er]) (by simp [results, Try.results44, go_sem, *]) rfl (SpanPost.err HE.out ((HB9.out.setCell (by simp) _).setCell (by simp) _))
end Go.Proofs.Ytoiajjdhgffdaaa
