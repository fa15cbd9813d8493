/-
  reference: FishOf, Fish, Whole, Came, Passed.
-/
import Derived.Test.YtoiajjdhgffdaaaDifference
namespace Go.Proofs.Ytoiajjdhgffdaaa
open Go Go.RowKit
set_option maxHeartbeats 12000000
set_option maxRecDepth 100000
theorem errR_false {t : CT} : errR t false ≠ 0 := fun h => by have := (errR_zero h).2.1; cases this
theorem isTimeB_val {T i : Int} (hT1 : 1 ≤ T) (hT2 : T ≤ 5) : isTimeB T i = (decide (0 ≤ i) && decide (i < T)) := by
  cases e : isTimeB T i with
  | true => have := isTimeB_bounds hT1 hT2 e; simp [this]
  | false =>
    unfold isTimeB at e
    rw [withinB_false, wrap64_in (T - 1) (by omega)] at e
    by_cases h1 : 0 ≤ i <;> by_cases h2 : i < T <;> simp [h1, h2] <;> omega
theorem errR_invalid {t : CT} {b : Bool} (h : validB t = false) : errR t b = 10 := by
  have : askR t b = 10 := by unfold askR; rw [h]; rfl
  rw [errR_ask (by rw [this]; omega), this]
theorem came_err (t : CT) (f o : Int) : errR t (isTimeB t.T f && isTimeB t.T o && decide (f ≤ o)) = errR t (cameB t.T f o) := by
  cases hv : validB t with
  | false => rw [errR_invalid hv, errR_invalid hv]
  | true =>
    obtain ⟨_, _, f3, f4, _, _⟩ := fit_of_valid hv
    rw [isTimeB_val f3 f4, isTimeB_val f3 f4]
    congr 1
    unfold cameB withinB
    by_cases h1 : 0 ≤ f <;> by_cases h2 : f < t.T <;> by_cases h3 : 0 ≤ o <;> by_cases h4 : o < t.T <;> by_cases h5 : f ≤ o <;> simp [h1, h2, h3, h4, h5] <;> omega
theorem isPlaceB_nat {t : CT} (hf : Fit t) {i c : Int} (h : isPlaceB t.C t.T i c = true) : ∃ a b : Nat, i = a ∧ c = b ∧ a < t.T.toNat ∧ b < t.C.toNat := by
  obtain ⟨⟨p1, p2⟩, p3, p4⟩ := isPlaceB_bounds hf.c1 hf.c2 hf.t1 hf.t2 h
  exact ⟨i.toNat, c.toNat, by omega, by omega, by omega, by omega⟩
theorem FishOf_any (t : CT) (v : Value) (i c : Int) (w : World) (hv : TrapAt w v t) (hf : Fit t) (h9 : t.ws.length ≤ 9) (hone : ∃ y, Sat t (-1) y) (hp : isPlaceB t.C t.T i c = true) :
    Calls Try.prog 85 #[v, .int .i64 i, .int .i64 c] w fun e w' => e = .returned (.agg #[.int .i64 (fishLo t i c), .int .i64 (fishHi t i c)]) ∧ Bel w w' := by
  have hex := exact_of_one hf hone
  obtain ⟨a', b', rfl, rfl, ha, hb⟩ := isPlaceB_nat hf hp
  have h4 := hf.c2
  have HV := Lib.hid hv
  have HD := Lib.hid (fun wx hx => (difference_any t v a' b' a' (b' + 1) wx hx hf h9 hone ha (by omega) ha (by omega) rfl rfl rfl (vd := (b' : Int) + 1) (by omega)).mono (R' := fun e w' => e = .returned (.agg #[.int .i64 (fishLo t a' b'), .int .i64 (fishHi t a' b')]) ∧ Bel wx w') (fun e w' h => by
    obtain ⟨m1, m2, rfl, ⟨h1, h2⟩, hb'⟩ := h
    rw [h1.uniq (Fish_mn hf hex a' b' ha hb), h2.uniq (Fish_max hf hex a' b' ha hb)]
    exact ⟨rfl, hb'⟩))
  obtain ⟨ov, wv, rfl, ⟨a, cc, b, off, rv, rfl, _⟩, ⟨wa, wc, wb, woff, rfl, _⟩⟩ := hv
  have hw1 : IntKind.i64.wrap ((b' : Int) + 1) = (b' : Int) + 1 := IntWalk.i64_in _ (by omega)
  clear hex hf hone hp
  generalize fishLo t a' b' = lo at *
  generalize fishHi t a' b' = hi at *
  go_enter Try.func85, Try.ntmps85
  go_wp2_with fail
  refine (HD.out _ (HV.out.bel (by repeat (first | assumption | exact Bel.refl _ | refine Bel.drew ?_ | refine Bel.drewN ?_ _ | refine Bel.alloc ?_ _ | refine Bel.setCell ?_ (by simp <;> omega) _ | refine Bel.trans ?_ (by assumption))))).mono ?_
  rintro e w1 ⟨rfl, hb1⟩
  have r0 : w1.cell? ⟨w.heap.size + 1, 0, none⟩ = some (.int .i64 0) := hb1.cell ((row_facts (new_row (by simp))).1 0)
  have r1 : w1.cell? ⟨w.heap.size + 1, 1, none⟩ = some (.int .i64 0) := hb1.cell ((row_facts (new_row (by simp))).1 1)
  have rf : ∀ o, w1.frozen? ⟨w.heap.size + 1, o, none⟩ = false := fun o => (hb1.frozens _ (by simp)).trans ((row_facts (new_row (by simp))).2 o)
  have HB := Lib.hid (show Bel w w1 from Bel.trans (by repeat (first | assumption | exact Bel.refl _ | refine Bel.drew ?_ | refine Bel.drewN ?_ _ | refine Bel.alloc ?_ _ | refine Bel.setCell ?_ (by simp <;> omega) _ | refine Bel.trans ?_ (by assumption))) hb1)
  clear hb1
  go_wp2
  exact bodyPost_ret (v := .agg #[.int .i64 lo, .int .i64 hi]) (by simp [results, Try.results85, go_sem, *]) rfl ⟨rfl, (HB.out.setCell (by simp) _).setCell (by simp) _⟩
theorem RFish_any (t : CT) (v : Value) (i c : Int) (w : World) (hv : TrapAt w v t) :
    Calls Try.prog 36 #[v, .int .i64 i, .int .i64 c] w (SpanPost (errR t (isPlaceB t.C t.T i c)) (fishLo t i c) (fishHi t i c) w) := by
  have HV := Lib.hid hv
  obtain ⟨ov, wv, rfl, ⟨a, cc, b, off, rv, rfl, _⟩, ⟨wa, wc, wb, woff, rfl, _⟩⟩ := hv
  rw [show isPlaceB t.C t.T i c = (isTimeB t.T i && isTimeB t.C c) from rfl]
  have hcs : (isTimeB t.T i = true ∧ isTimeB t.C c = true) ∨ (isTimeB t.T i = true ∧ isTimeB t.C c = false) ∨ (isTimeB t.T i = false) := by cases isTimeB t.T i <;> cases isTimeB t.C c <;> simp
  rcases hcs with ⟨h1, h2⟩ | ⟨h1, h2⟩ | h1
  · rw [h1, h2, show (true && true) = true from rfl]
    by_cases he : errR t true = 0
    · have HE := Lib.hid he
      have HKN := Lib.hid (fun wx hx => known_any t (.agg #[.int .i64 t.C, .int .i64 t.T, .slice a t.op.length cc, .slice wa t.ws.length wc]) true wx hx)
      rw [he] at HKN
      have hp : isPlaceB t.C t.T i c = true := by rw [show isPlaceB t.C t.T i c = (isTimeB t.T i && isTimeB t.C c) from rfl, h1, h2]; rfl
      have HD := Lib.hid (fun wx hx => FishOf_any t (.agg #[.int .i64 t.C, .int .i64 t.T, .slice a t.op.length cc, .slice wa t.ws.length wc]) i c wx hx (fit_of_valid (errR_zero HE.out).1) (valid_nine (errR_zero HE.out).1) (errR_zero HE.out).2.2 hp)
      
      clear he
      generalize fishLo t i c = lo at *
      generalize fishHi t i c = hi at *
      go_enter Try.func36, Try.ntmps36
      go_wp2
      refine wp_region_mixB (Plan.seq [0, 1, 2, 1003, 4, 5, 6, 1007, 8, 1009, 10] .nil) (by kernel_rfl) (by kernel_rfl) (fun hcur => ?_)
      simp only [Plan.seq, Plan.fill, List.getD_cons_zero, List.getD_cons_succ, Nat.reduceLT, ↓reduceIte, Nat.reduceSub]
      apply mix_pure _ rfl
      · intro w' hw'
        have hcr := hw'.cells
        go_simp
        rfl
      intro K hK
      go_simp
      refine hK _ ?_
      clear hK K
      apply mix_pure _ rfl
      · intro w' hw'
        have hcr := hw'.cells
        go_simp
        rfl
      intro K hK
      go_simp
      refine hK _ ?_
      clear hK K
      apply mix_pure _ rfl
      · intro w' hw'
        have hcr := hw'.cells
        go_simp
        rfl
      intro K hK
      go_simp
      refine hK _ ?_
      clear hK K
      refine mix_act rfl (fun K hK => ?_)
      go_simp
      refine (IsTime_any _ _ _ _ _ _).mono ?_
      rintro e w' ⟨rfl, hb⟩
      (try rw [h1])
      simp only []
      refine hK _ _ (hcur.trans hb) (fun hcur => ?_)
      clear hK K hb
      apply mix_pure _ rfl
      · intro w' hw'
        have hcr := hw'.cells
        go_simp
        rfl
      intro K hK
      go_simp
      refine hK _ ?_
      clear hK K
      apply mix_pureG _ (by go_simp)
      · intro w' hw'
        have hcr := hw'.cells
        go_simp
        rfl
      intro K hK
      go_simp
      refine hK _ ?_
      clear hK K
      apply mix_pureG _ (by go_simp)
      · intro w' hw'
        have hcr := hw'.cells
        go_simp
        rfl
      intro K hK
      go_simp
      refine hK _ ?_
      clear hK K
      refine mix_actG (by go_simp) (fun K hK => ?_)
      go_simp
      refine (IsChamber_any _ _ _ _ _ _).mono ?_
      rintro e w' ⟨rfl, hb⟩
      (try rw [h2])
      simp only []
      refine hK _ _ (hcur.trans hb) (fun hcur => ?_)
      clear hK K hb
      apply mix_pure _ rfl
      · intro w' hw'
        have hcr := hw'.cells
        go_simp
        rfl
      intro K hK
      go_simp
      refine hK _ ?_
      clear hK K
      refine mix_act rfl (fun K hK => ?_)
      go_simp
      refine (HKN.out _ (HV.out.bel (by repeat (first | assumption | exact Bel.refl _ | refine Bel.drew ?_ | refine Bel.drewN ?_ _ | refine Bel.alloc ?_ _ | refine Bel.setCell ?_ (by simp <;> omega) _ | refine Bel.trans ?_ (by assumption))))).mono ?_
      rintro e w9 ⟨rfl, hb⟩
      simp only []
      refine hK _ _ (hcur.trans hb) (fun hcur => ?_)
      clear hK K hb
      apply mix_pure _ rfl
      · intro w' hw'
        have hcr := hw'.cells
        go_simp
        rfl
      intro K hK
      go_simp
      refine hK _ ?_
      clear hK K
      refine mix_nil ?_
      have r0 := hcur.cell ((row_facts (new_row (w := w.alloc (.cells #[.int .i64 t.C, .int .i64 t.T, .slice a t.op.length cc, .slice wa t.ws.length wc] 25)) (o := .cells #[.int .i64 0, .int .i64 0] 32) (g := w.heap.size + 1) (by simp))).1 0)
      have r1 := hcur.cell ((row_facts (new_row (w := w.alloc (.cells #[.int .i64 t.C, .int .i64 t.T, .slice a t.op.length cc, .slice wa t.ws.length wc] 25)) (o := .cells #[.int .i64 0, .int .i64 0] 32) (g := w.heap.size + 1) (by simp))).1 1)
      have rf : ∀ o, w9.frozen? ⟨w.heap.size + 1, o, none⟩ = false := fun o => (hcur.frozens _ (by simp)).trans ((row_facts (new_row (w := w.alloc (.cells #[.int .i64 t.C, .int .i64 t.T, .slice a t.op.length cc, .slice wa t.ws.length wc] 25)) (o := .cells #[.int .i64 0, .int .i64 0] 32) (g := w.heap.size + 1) (by simp))).2 o)
      change w9.cell? ⟨w.heap.size + 1, 0, none⟩ = some (.int .i64 0) at r0
      change w9.cell? ⟨w.heap.size + 1, 1, none⟩ = some (.int .i64 0) at r1
      have x0 : w9.cell? ⟨w.heap.size, 0, none⟩ = some (.int .i64 t.C) := hcur.cell ((row_facts ((heap_alloc_old _ _ (by simp)).trans (new_row rfl))).1 0)
      have x1 : w9.cell? ⟨w.heap.size, 1, none⟩ = some (.int .i64 t.T) := hcur.cell ((row_facts ((heap_alloc_old _ _ (by simp)).trans (new_row rfl))).1 1)
      have x2 : w9.cell? ⟨w.heap.size, 2, none⟩ = some (.slice a t.op.length cc) := hcur.cell ((row_facts ((heap_alloc_old _ _ (by simp)).trans (new_row rfl))).1 2)
      have x3 : w9.cell? ⟨w.heap.size, 3, none⟩ = some (.slice wa t.ws.length wc) := hcur.cell ((row_facts ((heap_alloc_old _ _ (by simp)).trans (new_row rfl))).1 3)
      have lx := cell_lt x0
      have lr := cell_lt r0
      have HB9 := Lib.hid (show Bel w w9 from Bel.trans (by repeat (first | assumption | exact Bel.refl _ | refine Bel.drew ?_ | refine Bel.drewN ?_ _ | refine Bel.alloc ?_ _ | refine Bel.setCell ?_ (by simp <;> omega) _ | refine Bel.trans ?_ (by assumption))) hcur)
      clear hcur
      go_wp2_with fail
      refine (HD.out _ (HV.out.bel HB9.out)).mono ?_
      rintro e w10 ⟨rfl, hb⟩
      replace r0 := hb.cell r0
      replace r1 := hb.cell r1
      replace rf : ∀ o, w10.frozen? ⟨w.heap.size + 1, o, none⟩ = false := fun o => (hb.frozens _ lr).trans (rf o)
      have HB := Lib.hid (HB9.out.trans hb)
      clear hb x0 x1 x2 x3 lx lr
      go_wp2
      exact bodyPost_ret (v := .tuple #[.agg #[.int .i64 lo, .int .i64 hi], .int .i64 0]) (by simp [results, Try.results36, go_sem, *]) rfl (SpanPost.ok HE.out ((HB.out.setCell (by simp) _).setCell (by simp) _))
    · have hne : (errR t true != 0) = true := by rw [bne_iff_ne]; exact he
      have HE := Lib.hid he
      have HKN := Lib.hid (fun wx hx => known_any t (.agg #[.int .i64 t.C, .int .i64 t.T, .slice a t.op.length cc, .slice wa t.ws.length wc]) true wx hx)
      clear he
      generalize errR t true = er at *
      go_enter Try.func36, Try.ntmps36
      go_wp2
      refine wp_region_mixB (Plan.seq [0, 1, 2, 1003, 4, 5, 6, 1007, 8, 1009, 10] .nil) (by kernel_rfl) (by kernel_rfl) (fun hcur => ?_)
      simp only [Plan.seq, Plan.fill, List.getD_cons_zero, List.getD_cons_succ, Nat.reduceLT, ↓reduceIte, Nat.reduceSub]
      apply mix_pure _ rfl
      · intro w' hw'
        have hcr := hw'.cells
        go_simp
        rfl
      intro K hK
      go_simp
      refine hK _ ?_
      clear hK K
      apply mix_pure _ rfl
      · intro w' hw'
        have hcr := hw'.cells
        go_simp
        rfl
      intro K hK
      go_simp
      refine hK _ ?_
      clear hK K
      apply mix_pure _ rfl
      · intro w' hw'
        have hcr := hw'.cells
        go_simp
        rfl
      intro K hK
      go_simp
      refine hK _ ?_
      clear hK K
      refine mix_act rfl (fun K hK => ?_)
      go_simp
      refine (IsTime_any _ _ _ _ _ _).mono ?_
      rintro e w' ⟨rfl, hb⟩
      (try rw [h1])
      simp only []
      refine hK _ _ (hcur.trans hb) (fun hcur => ?_)
      clear hK K hb
      apply mix_pure _ rfl
      · intro w' hw'
        have hcr := hw'.cells
        go_simp
        rfl
      intro K hK
      go_simp
      refine hK _ ?_
      clear hK K
      apply mix_pureG _ (by go_simp)
      · intro w' hw'
        have hcr := hw'.cells
        go_simp
        rfl
      intro K hK
      go_simp
      refine hK _ ?_
      clear hK K
      apply mix_pureG _ (by go_simp)
      · intro w' hw'
        have hcr := hw'.cells
        go_simp
        rfl
      intro K hK
      go_simp
      refine hK _ ?_
      clear hK K
      refine mix_actG (by go_simp) (fun K hK => ?_)
      go_simp
      refine (IsChamber_any _ _ _ _ _ _).mono ?_
      rintro e w' ⟨rfl, hb⟩
      (try rw [h2])
      simp only []
      refine hK _ _ (hcur.trans hb) (fun hcur => ?_)
      clear hK K hb
      apply mix_pure _ rfl
      · intro w' hw'
        have hcr := hw'.cells
        go_simp
        rfl
      intro K hK
      go_simp
      refine hK _ ?_
      clear hK K
      refine mix_act rfl (fun K hK => ?_)
      go_simp
      refine (HKN.out _ (HV.out.bel (by repeat (first | assumption | exact Bel.refl _ | refine Bel.drew ?_ | refine Bel.drewN ?_ _ | refine Bel.alloc ?_ _ | refine Bel.setCell ?_ (by simp <;> omega) _ | refine Bel.trans ?_ (by assumption))))).mono ?_
      rintro e w9 ⟨rfl, hb⟩
      simp only []
      refine hK _ _ (hcur.trans hb) (fun hcur => ?_)
      clear hK K hb
      apply mix_pure _ rfl
      · intro w' hw'
        have hcr := hw'.cells
        go_simp
        rfl
      intro K hK
      go_simp
      refine hK _ ?_
      clear hK K
      refine mix_nil ?_
      have r0 := hcur.cell ((row_facts (new_row (w := w.alloc (.cells #[.int .i64 t.C, .int .i64 t.T, .slice a t.op.length cc, .slice wa t.ws.length wc] 25)) (o := .cells #[.int .i64 0, .int .i64 0] 32) (g := w.heap.size + 1) (by simp))).1 0)
      have r1 := hcur.cell ((row_facts (new_row (w := w.alloc (.cells #[.int .i64 t.C, .int .i64 t.T, .slice a t.op.length cc, .slice wa t.ws.length wc] 25)) (o := .cells #[.int .i64 0, .int .i64 0] 32) (g := w.heap.size + 1) (by simp))).1 1)
      have rf : ∀ o, w9.frozen? ⟨w.heap.size + 1, o, none⟩ = false := fun o => (hcur.frozens _ (by simp)).trans ((row_facts (new_row (w := w.alloc (.cells #[.int .i64 t.C, .int .i64 t.T, .slice a t.op.length cc, .slice wa t.ws.length wc] 25)) (o := .cells #[.int .i64 0, .int .i64 0] 32) (g := w.heap.size + 1) (by simp))).2 o)
      change w9.cell? ⟨w.heap.size + 1, 0, none⟩ = some (.int .i64 0) at r0
      change w9.cell? ⟨w.heap.size + 1, 1, none⟩ = some (.int .i64 0) at r1
      have HB9 := Lib.hid (show Bel w w9 from Bel.trans (by repeat (first | assumption | exact Bel.refl _ | refine Bel.drew ?_ | refine Bel.drewN ?_ _ | refine Bel.alloc ?_ _ | refine Bel.setCell ?_ (by simp <;> omega) _ | refine Bel.trans ?_ (by assumption))) hcur)
      clear hcur
      go_wp2
      exact bodyPost_ret (v := .tuple #[.agg #[.int .i64 0, .int .i64 0], .int .i64 er]) (by simp [results, Try.results36, go_sem, *]) rfl (SpanPost.err HE.out ((HB9.out.setCell (by simp) _).setCell (by simp) _))
  · rw [h1, h2, show (true && false) = false from rfl]
    have he : errR t false ≠ 0 := errR_false
    have hne : (errR t false != 0) = true := by rw [bne_iff_ne]; exact he
    have HE := Lib.hid he
    have HKN := Lib.hid (fun wx hx => known_any t (.agg #[.int .i64 t.C, .int .i64 t.T, .slice a t.op.length cc, .slice wa t.ws.length wc]) false wx hx)
    clear he
    generalize errR t false = er at *
    go_enter Try.func36, Try.ntmps36
    go_wp2
    refine wp_region_mixB (Plan.seq [0, 1, 2, 1003, 4, 5, 6, 1007, 8, 1009, 10] .nil) (by kernel_rfl) (by kernel_rfl) (fun hcur => ?_)
    simp only [Plan.seq, Plan.fill, List.getD_cons_zero, List.getD_cons_succ, Nat.reduceLT, ↓reduceIte, Nat.reduceSub]
    apply mix_pure _ rfl
    · intro w' hw'
      have hcr := hw'.cells
      go_simp
      rfl
    intro K hK
    go_simp
    refine hK _ ?_
    clear hK K
    apply mix_pure _ rfl
    · intro w' hw'
      have hcr := hw'.cells
      go_simp
      rfl
    intro K hK
    go_simp
    refine hK _ ?_
    clear hK K
    apply mix_pure _ rfl
    · intro w' hw'
      have hcr := hw'.cells
      go_simp
      rfl
    intro K hK
    go_simp
    refine hK _ ?_
    clear hK K
    refine mix_act rfl (fun K hK => ?_)
    go_simp
    refine (IsTime_any _ _ _ _ _ _).mono ?_
    rintro e w' ⟨rfl, hb⟩
    (try rw [h1])
    simp only []
    refine hK _ _ (hcur.trans hb) (fun hcur => ?_)
    clear hK K hb
    apply mix_pure _ rfl
    · intro w' hw'
      have hcr := hw'.cells
      go_simp
      rfl
    intro K hK
    go_simp
    refine hK _ ?_
    clear hK K
    apply mix_pureG _ (by go_simp)
    · intro w' hw'
      have hcr := hw'.cells
      go_simp
      rfl
    intro K hK
    go_simp
    refine hK _ ?_
    clear hK K
    apply mix_pureG _ (by go_simp)
    · intro w' hw'
      have hcr := hw'.cells
      go_simp
      rfl
    intro K hK
    go_simp
    refine hK _ ?_
    clear hK K
    refine mix_actG (by go_simp) (fun K hK => ?_)
    go_simp
    refine (IsChamber_any _ _ _ _ _ _).mono ?_
    rintro e w' ⟨rfl, hb⟩
    (try rw [h2])
    simp only []
    refine hK _ _ (hcur.trans hb) (fun hcur => ?_)
    clear hK K hb
    apply mix_pure _ rfl
    · intro w' hw'
      have hcr := hw'.cells
      go_simp
      rfl
    intro K hK
    go_simp
    refine hK _ ?_
    clear hK K
    refine mix_act rfl (fun K hK => ?_)
    go_simp
    refine (HKN.out _ (HV.out.bel (by repeat (first | assumption | exact Bel.refl _ | refine Bel.drew ?_ | refine Bel.drewN ?_ _ | refine Bel.alloc ?_ _ | refine Bel.setCell ?_ (by simp <;> omega) _ | refine Bel.trans ?_ (by assumption))))).mono ?_
    rintro e w9 ⟨rfl, hb⟩
    simp only []
    refine hK _ _ (hcur.trans hb) (fun hcur => ?_)
    clear hK K hb
    apply mix_pure _ rfl
    · intro w' hw'
      have hcr := hw'.cells
      go_simp
      rfl
    intro K hK
    go_simp
    refine hK _ ?_
    clear hK K
    refine mix_nil ?_
    have r0 := hcur.cell ((row_facts (new_row (w := w.alloc (.cells #[.int .i64 t.C, .int .i64 t.T, .slice a t.op.length cc, .slice wa t.ws.length wc] 25)) (o := .cells #[.int .i64 0, .int .i64 0] 32) (g := w.heap.size + 1) (by simp))).1 0)
    have r1 := hcur.cell ((row_facts (new_row (w := w.alloc (.cells #[.int .i64 t.C, .int .i64 t.T, .slice a t.op.length cc, .slice wa t.ws.length wc] 25)) (o := .cells #[.int .i64 0, .int .i64 0] 32) (g := w.heap.size + 1) (by simp))).1 1)
    have rf : ∀ o, w9.frozen? ⟨w.heap.size + 1, o, none⟩ = false := fun o => (hcur.frozens _ (by simp)).trans ((row_facts (new_row (w := w.alloc (.cells #[.int .i64 t.C, .int .i64 t.T, .slice a t.op.length cc, .slice wa t.ws.length wc] 25)) (o := .cells #[.int .i64 0, .int .i64 0] 32) (g := w.heap.size + 1) (by simp))).2 o)
    change w9.cell? ⟨w.heap.size + 1, 0, none⟩ = some (.int .i64 0) at r0
    change w9.cell? ⟨w.heap.size + 1, 1, none⟩ = some (.int .i64 0) at r1
    have HB9 := Lib.hid (show Bel w w9 from Bel.trans (by repeat (first | assumption | exact Bel.refl _ | refine Bel.drew ?_ | refine Bel.drewN ?_ _ | refine Bel.alloc ?_ _ | refine Bel.setCell ?_ (by simp <;> omega) _ | refine Bel.trans ?_ (by assumption))) hcur)
    clear hcur
    go_wp2
    exact bodyPost_ret (v := .tuple #[.agg #[.int .i64 0, .int .i64 0], .int .i64 er]) (by simp [results, Try.results36, go_sem, *]) rfl (SpanPost.err HE.out ((HB9.out.setCell (by simp) _).setCell (by simp) _))
  · rw [h1, Bool.false_and]
    have he : errR t false ≠ 0 := errR_false
    have hne : (errR t false != 0) = true := by rw [bne_iff_ne]; exact he
    have HE := Lib.hid he
    have HKN := Lib.hid (fun wx hx => known_any t (.agg #[.int .i64 t.C, .int .i64 t.T, .slice a t.op.length cc, .slice wa t.ws.length wc]) false wx hx)
    clear he
    generalize errR t false = er at *
    go_enter Try.func36, Try.ntmps36
    go_wp2
    refine wp_region_mixB (Plan.seq [0, 1, 2, 1003, 4, 5, 6, 1007, 8, 1009, 10] .nil) (by kernel_rfl) (by kernel_rfl) (fun hcur => ?_)
    simp only [Plan.seq, Plan.fill, List.getD_cons_zero, List.getD_cons_succ, Nat.reduceLT, ↓reduceIte, Nat.reduceSub]
    apply mix_pure _ rfl
    · intro w' hw'
      have hcr := hw'.cells
      go_simp
      rfl
    intro K hK
    go_simp
    refine hK _ ?_
    clear hK K
    apply mix_pure _ rfl
    · intro w' hw'
      have hcr := hw'.cells
      go_simp
      rfl
    intro K hK
    go_simp
    refine hK _ ?_
    clear hK K
    apply mix_pure _ rfl
    · intro w' hw'
      have hcr := hw'.cells
      go_simp
      rfl
    intro K hK
    go_simp
    refine hK _ ?_
    clear hK K
    refine mix_act rfl (fun K hK => ?_)
    go_simp
    refine (IsTime_any _ _ _ _ _ _).mono ?_
    rintro e w' ⟨rfl, hb⟩
    (try rw [h1])
    simp only []
    refine hK _ _ (hcur.trans hb) (fun hcur => ?_)
    clear hK K hb
    apply mix_pure _ rfl
    · intro w' hw'
      have hcr := hw'.cells
      go_simp
      rfl
    intro K hK
    go_simp
    refine hK _ ?_
    clear hK K
    refine mix_skip (by go_simp) ?_
    intro K hK
    go_simp
    refine hK _ ?_
    clear hK K
    refine mix_skip (by go_simp) ?_
    intro K hK
    go_simp
    refine hK _ ?_
    clear hK K
    refine mix_askip (by go_simp) ?_
    intro K hK
    go_simp
    refine hK _ ?_
    clear hK K
    apply mix_pure _ rfl
    · intro w' hw'
      have hcr := hw'.cells
      go_simp
      rfl
    intro K hK
    go_simp
    refine hK _ ?_
    clear hK K
    refine mix_act rfl (fun K hK => ?_)
    go_simp
    refine (HKN.out _ (HV.out.bel (by repeat (first | assumption | exact Bel.refl _ | refine Bel.drew ?_ | refine Bel.drewN ?_ _ | refine Bel.alloc ?_ _ | refine Bel.setCell ?_ (by simp <;> omega) _ | refine Bel.trans ?_ (by assumption))))).mono ?_
    rintro e w9 ⟨rfl, hb⟩
    simp only []
    refine hK _ _ (hcur.trans hb) (fun hcur => ?_)
    clear hK K hb
    apply mix_pure _ rfl
    · intro w' hw'
      have hcr := hw'.cells
      go_simp
      rfl
    intro K hK
    go_simp
    refine hK _ ?_
    clear hK K
    refine mix_nil ?_
    have r0 := hcur.cell ((row_facts (new_row (w := w.alloc (.cells #[.int .i64 t.C, .int .i64 t.T, .slice a t.op.length cc, .slice wa t.ws.length wc] 25)) (o := .cells #[.int .i64 0, .int .i64 0] 32) (g := w.heap.size + 1) (by simp))).1 0)
    have r1 := hcur.cell ((row_facts (new_row (w := w.alloc (.cells #[.int .i64 t.C, .int .i64 t.T, .slice a t.op.length cc, .slice wa t.ws.length wc] 25)) (o := .cells #[.int .i64 0, .int .i64 0] 32) (g := w.heap.size + 1) (by simp))).1 1)
    have rf : ∀ o, w9.frozen? ⟨w.heap.size + 1, o, none⟩ = false := fun o => (hcur.frozens _ (by simp)).trans ((row_facts (new_row (w := w.alloc (.cells #[.int .i64 t.C, .int .i64 t.T, .slice a t.op.length cc, .slice wa t.ws.length wc] 25)) (o := .cells #[.int .i64 0, .int .i64 0] 32) (g := w.heap.size + 1) (by simp))).2 o)
    change w9.cell? ⟨w.heap.size + 1, 0, none⟩ = some (.int .i64 0) at r0
    change w9.cell? ⟨w.heap.size + 1, 1, none⟩ = some (.int .i64 0) at r1
    have HB9 := Lib.hid (show Bel w w9 from Bel.trans (by repeat (first | assumption | exact Bel.refl _ | refine Bel.drew ?_ | refine Bel.drewN ?_ _ | refine Bel.alloc ?_ _ | refine Bel.setCell ?_ (by simp <;> omega) _ | refine Bel.trans ?_ (by assumption))) hcur)
    clear hcur
    go_wp2
    exact bodyPost_ret (v := .tuple #[.agg #[.int .i64 0, .int .i64 0], .int .i64 er]) (by simp [results, Try.results36, go_sem, *]) rfl (SpanPost.err HE.out ((HB9.out.setCell (by simp) _).setCell (by simp) _))
theorem RWhole_any (t : CT) (v : Value) (i : Int) (w : World) (hv : TrapAt w v t) :
    Calls Try.prog 38 #[v, .int .i64 i] w (SpanPost (errR t (isTimeB t.T i)) (wholeLo t i) (wholeHi t i) w) := by
  have HV := Lib.hid hv
  obtain ⟨ov, wv, rfl, ⟨a, cc, b, off, rv, rfl, _⟩, ⟨wa, wc, wb, woff, rfl, _⟩⟩ := hv
  cases h1 : isTimeB t.T i
  · have he : errR t false ≠ 0 := errR_false
    have hne : (errR t false != 0) = true := by rw [bne_iff_ne]; exact he
    have HE := Lib.hid he
    have HKN := Lib.hid (fun wx hx => known_any t (.agg #[.int .i64 t.C, .int .i64 t.T, .slice a t.op.length cc, .slice wa t.ws.length wc]) false wx hx)
    clear he
    generalize errR t false = er at *
    go_enter Try.func38, Try.ntmps38
    go_wp2
    refine wp_region_mixB (Plan.seq [0, 1, 2, 1003, 1004, 5] .nil) (by kernel_rfl) (by kernel_rfl) (fun hcur => ?_)
    simp only [Plan.seq, Plan.fill, List.getD_cons_zero, List.getD_cons_succ, Nat.reduceLT, ↓reduceIte, Nat.reduceSub]
    apply mix_pure _ rfl
    · intro w' hw'
      have hcr := hw'.cells
      go_simp
      rfl
    intro K hK
    go_simp
    refine hK _ ?_
    clear hK K
    apply mix_pure _ rfl
    · intro w' hw'
      have hcr := hw'.cells
      go_simp
      rfl
    intro K hK
    go_simp
    refine hK _ ?_
    clear hK K
    apply mix_pure _ rfl
    · intro w' hw'
      have hcr := hw'.cells
      go_simp
      rfl
    intro K hK
    go_simp
    refine hK _ ?_
    clear hK K
    refine mix_act rfl (fun K hK => ?_)
    go_simp
    refine (IsTime_any _ _ _ _ _ _).mono ?_
    rintro e w' ⟨rfl, hb⟩
    (try rw [h1])
    simp only []
    refine hK _ _ (hcur.trans hb) (fun hcur => ?_)
    clear hK K hb
    refine mix_act rfl (fun K hK => ?_)
    go_simp
    refine (HKN.out _ (HV.out.bel (by repeat (first | assumption | exact Bel.refl _ | refine Bel.drew ?_ | refine Bel.drewN ?_ _ | refine Bel.alloc ?_ _ | refine Bel.setCell ?_ (by simp <;> omega) _ | refine Bel.trans ?_ (by assumption))))).mono ?_
    rintro e w9 ⟨rfl, hb⟩
    simp only []
    refine hK _ _ (hcur.trans hb) (fun hcur => ?_)
    clear hK K hb
    apply mix_pure _ rfl
    · intro w' hw'
      have hcr := hw'.cells
      go_simp
      rfl
    intro K hK
    go_simp
    refine hK _ ?_
    clear hK K
    refine mix_nil ?_
    have r0 := hcur.cell ((row_facts (new_row (w := w.alloc (.cells #[.int .i64 t.C, .int .i64 t.T, .slice a t.op.length cc, .slice wa t.ws.length wc] 25)) (o := .cells #[.int .i64 0, .int .i64 0] 32) (g := w.heap.size + 1) (by simp))).1 0)
    have r1 := hcur.cell ((row_facts (new_row (w := w.alloc (.cells #[.int .i64 t.C, .int .i64 t.T, .slice a t.op.length cc, .slice wa t.ws.length wc] 25)) (o := .cells #[.int .i64 0, .int .i64 0] 32) (g := w.heap.size + 1) (by simp))).1 1)
    have rf : ∀ o, w9.frozen? ⟨w.heap.size + 1, o, none⟩ = false := fun o => (hcur.frozens _ (by simp)).trans ((row_facts (new_row (w := w.alloc (.cells #[.int .i64 t.C, .int .i64 t.T, .slice a t.op.length cc, .slice wa t.ws.length wc] 25)) (o := .cells #[.int .i64 0, .int .i64 0] 32) (g := w.heap.size + 1) (by simp))).2 o)
    change w9.cell? ⟨w.heap.size + 1, 0, none⟩ = some (.int .i64 0) at r0
    change w9.cell? ⟨w.heap.size + 1, 1, none⟩ = some (.int .i64 0) at r1
    have HB9 := Lib.hid (show Bel w w9 from Bel.trans (by repeat (first | assumption | exact Bel.refl _ | refine Bel.drew ?_ | refine Bel.drewN ?_ _ | refine Bel.alloc ?_ _ | refine Bel.setCell ?_ (by simp <;> omega) _ | refine Bel.trans ?_ (by assumption))) hcur)
    clear hcur
    go_wp2
    exact bodyPost_ret (v := .tuple #[.agg #[.int .i64 0, .int .i64 0], .int .i64 er]) (by simp [results, Try.results38, go_sem, *]) rfl (SpanPost.err HE.out ((HB9.out.setCell (by simp) _).setCell (by simp) _))
  · by_cases he : errR t true = 0
    · have HE := Lib.hid he
      have HKN := Lib.hid (fun wx hx => known_any t (.agg #[.int .i64 t.C, .int .i64 t.T, .slice a t.op.length cc, .slice wa t.ws.length wc]) true wx hx)
      rw [he] at HKN
      obtain ⟨hval, _, hone⟩ := errR_zero he
      obtain ⟨hex, hf⟩ := errR_exact he
      have c1' := hf.c1
      have pp := isTimeB_bounds hf.t1 hf.t2 h1
      obtain ⟨n, rfl⟩ : ∃ n : Nat, i = n := ⟨i.toNat, by omega⟩
      have HD := Lib.hid (fun wx hx => (difference_any t (.agg #[.int .i64 t.C, .int .i64 t.T, .slice a t.op.length cc, .slice wa t.ws.length wc]) n 0 n t.C.toNat wx hx hf (valid_nine hval) hone (by omega) (by omega) (by omega) (by omega) rfl rfl rfl (vd := t.C) (by omega)).mono (R' := fun e w' => e = .returned (.agg #[.int .i64 (wholeLo t n), .int .i64 (wholeHi t n)]) ∧ Bel wx w') (fun e w' h => by
        obtain ⟨m1, m2, rfl, ⟨h1, h2⟩, hb'⟩ := h
        rw [h1.uniq (Whole_min hf hex n (by omega)), h2.uniq (Whole_max hf hex n (by omega))]
        exact ⟨rfl, hb'⟩))
      clear hval hone hex hf c1'
      clear he
      generalize wholeLo t n = lo at *
      generalize wholeHi t n = hi at *
      go_enter Try.func38, Try.ntmps38
      go_wp2
      refine wp_region_mixB (Plan.seq [0, 1, 2, 1003, 1004, 5] .nil) (by kernel_rfl) (by kernel_rfl) (fun hcur => ?_)
      simp only [Plan.seq, Plan.fill, List.getD_cons_zero, List.getD_cons_succ, Nat.reduceLT, ↓reduceIte, Nat.reduceSub]
      apply mix_pure _ rfl
      · intro w' hw'
        have hcr := hw'.cells
        go_simp
        rfl
      intro K hK
      go_simp
      refine hK _ ?_
      clear hK K
      apply mix_pure _ rfl
      · intro w' hw'
        have hcr := hw'.cells
        go_simp
        rfl
      intro K hK
      go_simp
      refine hK _ ?_
      clear hK K
      apply mix_pure _ rfl
      · intro w' hw'
        have hcr := hw'.cells
        go_simp
        rfl
      intro K hK
      go_simp
      refine hK _ ?_
      clear hK K
      refine mix_act rfl (fun K hK => ?_)
      go_simp
      refine (IsTime_any _ _ _ _ _ _).mono ?_
      rintro e w' ⟨rfl, hb⟩
      (try rw [h1])
      simp only []
      refine hK _ _ (hcur.trans hb) (fun hcur => ?_)
      clear hK K hb
      refine mix_act rfl (fun K hK => ?_)
      go_simp
      refine (HKN.out _ (HV.out.bel (by repeat (first | assumption | exact Bel.refl _ | refine Bel.drew ?_ | refine Bel.drewN ?_ _ | refine Bel.alloc ?_ _ | refine Bel.setCell ?_ (by simp <;> omega) _ | refine Bel.trans ?_ (by assumption))))).mono ?_
      rintro e w9 ⟨rfl, hb⟩
      simp only []
      refine hK _ _ (hcur.trans hb) (fun hcur => ?_)
      clear hK K hb
      apply mix_pure _ rfl
      · intro w' hw'
        have hcr := hw'.cells
        go_simp
        rfl
      intro K hK
      go_simp
      refine hK _ ?_
      clear hK K
      refine mix_nil ?_
      have r0 := hcur.cell ((row_facts (new_row (w := w.alloc (.cells #[.int .i64 t.C, .int .i64 t.T, .slice a t.op.length cc, .slice wa t.ws.length wc] 25)) (o := .cells #[.int .i64 0, .int .i64 0] 32) (g := w.heap.size + 1) (by simp))).1 0)
      have r1 := hcur.cell ((row_facts (new_row (w := w.alloc (.cells #[.int .i64 t.C, .int .i64 t.T, .slice a t.op.length cc, .slice wa t.ws.length wc] 25)) (o := .cells #[.int .i64 0, .int .i64 0] 32) (g := w.heap.size + 1) (by simp))).1 1)
      have rf : ∀ o, w9.frozen? ⟨w.heap.size + 1, o, none⟩ = false := fun o => (hcur.frozens _ (by simp)).trans ((row_facts (new_row (w := w.alloc (.cells #[.int .i64 t.C, .int .i64 t.T, .slice a t.op.length cc, .slice wa t.ws.length wc] 25)) (o := .cells #[.int .i64 0, .int .i64 0] 32) (g := w.heap.size + 1) (by simp))).2 o)
      change w9.cell? ⟨w.heap.size + 1, 0, none⟩ = some (.int .i64 0) at r0
      change w9.cell? ⟨w.heap.size + 1, 1, none⟩ = some (.int .i64 0) at r1
      have x0 : w9.cell? ⟨w.heap.size, 0, none⟩ = some (.int .i64 t.C) := hcur.cell ((row_facts ((heap_alloc_old _ _ (by simp)).trans (new_row rfl))).1 0)
      have x1 : w9.cell? ⟨w.heap.size, 1, none⟩ = some (.int .i64 t.T) := hcur.cell ((row_facts ((heap_alloc_old _ _ (by simp)).trans (new_row rfl))).1 1)
      have x2 : w9.cell? ⟨w.heap.size, 2, none⟩ = some (.slice a t.op.length cc) := hcur.cell ((row_facts ((heap_alloc_old _ _ (by simp)).trans (new_row rfl))).1 2)
      have x3 : w9.cell? ⟨w.heap.size, 3, none⟩ = some (.slice wa t.ws.length wc) := hcur.cell ((row_facts ((heap_alloc_old _ _ (by simp)).trans (new_row rfl))).1 3)
      have lx := cell_lt x0
      have lr := cell_lt r0
      have HB9 := Lib.hid (show Bel w w9 from Bel.trans (by repeat (first | assumption | exact Bel.refl _ | refine Bel.drew ?_ | refine Bel.drewN ?_ _ | refine Bel.alloc ?_ _ | refine Bel.setCell ?_ (by simp <;> omega) _ | refine Bel.trans ?_ (by assumption))) hcur)
      clear hcur
      go_wp2_with fail
      refine (HD.out _ (HV.out.bel HB9.out)).mono ?_
      rintro e w10 ⟨rfl, hb⟩
      replace r0 := hb.cell r0
      replace r1 := hb.cell r1
      replace rf : ∀ o, w10.frozen? ⟨w.heap.size + 1, o, none⟩ = false := fun o => (hb.frozens _ lr).trans (rf o)
      have HB := Lib.hid (HB9.out.trans hb)
      clear hb x0 x1 x2 x3 lx lr
      go_wp2
      exact bodyPost_ret (v := .tuple #[.agg #[.int .i64 lo, .int .i64 hi], .int .i64 0]) (by simp [results, Try.results38, go_sem, *]) rfl (SpanPost.ok HE.out ((HB.out.setCell (by simp) _).setCell (by simp) _))
    · have hne : (errR t true != 0) = true := by rw [bne_iff_ne]; exact he
      have HE := Lib.hid he
      have HKN := Lib.hid (fun wx hx => known_any t (.agg #[.int .i64 t.C, .int .i64 t.T, .slice a t.op.length cc, .slice wa t.ws.length wc]) true wx hx)
      clear he
      generalize errR t true = er at *
      go_enter Try.func38, Try.ntmps38
      go_wp2
      refine wp_region_mixB (Plan.seq [0, 1, 2, 1003, 1004, 5] .nil) (by kernel_rfl) (by kernel_rfl) (fun hcur => ?_)
      simp only [Plan.seq, Plan.fill, List.getD_cons_zero, List.getD_cons_succ, Nat.reduceLT, ↓reduceIte, Nat.reduceSub]
      apply mix_pure _ rfl
      · intro w' hw'
        have hcr := hw'.cells
        go_simp
        rfl
      intro K hK
      go_simp
      refine hK _ ?_
      clear hK K
      apply mix_pure _ rfl
      · intro w' hw'
        have hcr := hw'.cells
        go_simp
        rfl
      intro K hK
      go_simp
      refine hK _ ?_
      clear hK K
      apply mix_pure _ rfl
      · intro w' hw'
        have hcr := hw'.cells
        go_simp
        rfl
      intro K hK
      go_simp
      refine hK _ ?_
      clear hK K
      refine mix_act rfl (fun K hK => ?_)
      go_simp
      refine (IsTime_any _ _ _ _ _ _).mono ?_
      rintro e w' ⟨rfl, hb⟩
      (try rw [h1])
      simp only []
      refine hK _ _ (hcur.trans hb) (fun hcur => ?_)
      clear hK K hb
      refine mix_act rfl (fun K hK => ?_)
      go_simp
      refine (HKN.out _ (HV.out.bel (by repeat (first | assumption | exact Bel.refl _ | refine Bel.drew ?_ | refine Bel.drewN ?_ _ | refine Bel.alloc ?_ _ | refine Bel.setCell ?_ (by simp <;> omega) _ | refine Bel.trans ?_ (by assumption))))).mono ?_
      rintro e w9 ⟨rfl, hb⟩
      simp only []
      refine hK _ _ (hcur.trans hb) (fun hcur => ?_)
      clear hK K hb
      apply mix_pure _ rfl
      · intro w' hw'
        have hcr := hw'.cells
        go_simp
        rfl
      intro K hK
      go_simp
      refine hK _ ?_
      clear hK K
      refine mix_nil ?_
      have r0 := hcur.cell ((row_facts (new_row (w := w.alloc (.cells #[.int .i64 t.C, .int .i64 t.T, .slice a t.op.length cc, .slice wa t.ws.length wc] 25)) (o := .cells #[.int .i64 0, .int .i64 0] 32) (g := w.heap.size + 1) (by simp))).1 0)
      have r1 := hcur.cell ((row_facts (new_row (w := w.alloc (.cells #[.int .i64 t.C, .int .i64 t.T, .slice a t.op.length cc, .slice wa t.ws.length wc] 25)) (o := .cells #[.int .i64 0, .int .i64 0] 32) (g := w.heap.size + 1) (by simp))).1 1)
      have rf : ∀ o, w9.frozen? ⟨w.heap.size + 1, o, none⟩ = false := fun o => (hcur.frozens _ (by simp)).trans ((row_facts (new_row (w := w.alloc (.cells #[.int .i64 t.C, .int .i64 t.T, .slice a t.op.length cc, .slice wa t.ws.length wc] 25)) (o := .cells #[.int .i64 0, .int .i64 0] 32) (g := w.heap.size + 1) (by simp))).2 o)
      change w9.cell? ⟨w.heap.size + 1, 0, none⟩ = some (.int .i64 0) at r0
      change w9.cell? ⟨w.heap.size + 1, 1, none⟩ = some (.int .i64 0) at r1
      have HB9 := Lib.hid (show Bel w w9 from Bel.trans (by repeat (first | assumption | exact Bel.refl _ | refine Bel.drew ?_ | refine Bel.drewN ?_ _ | refine Bel.alloc ?_ _ | refine Bel.setCell ?_ (by simp <;> omega) _ | refine Bel.trans ?_ (by assumption))) hcur)
      clear hcur
      go_wp2
      exact bodyPost_ret (v := .tuple #[.agg #[.int .i64 0, .int .i64 0], .int .i64 er]) (by simp [results, Try.results38, go_sem, *]) rfl (SpanPost.err HE.out ((HB9.out.setCell (by simp) _).setCell (by simp) _))
end Go.Proofs.Ytoiajjdhgffdaaa
