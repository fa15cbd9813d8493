/-
  reference: Judge.
-/
import Derived.Test.YtoiajjdhgffdaaaRSpan
import Derived.Test.YtoiajjdhgffdaaaTold
namespace Go.Proofs.Ytoiajjdhgffdaaa
open Go Go.RowKit
set_option maxHeartbeats 4000000
set_option maxRecDepth 100000
/-- With one more word there is a truth just if the word's span and that of Fish have something in common. -/
theorem told_one {t : CT} (hf : Fit t) (hex : Exact t (-1) (setMat t (-1))) {x : CW} (hx : isWordB t.C t.T x = true) :
    oneB (told t x) = true ↔ x.low ≤ fishHi t x.time x.chamber ∧ fishLo t x.time x.chamber ≤ x.high := by
  obtain ⟨⟨b1, b2⟩, ⟨b3, b4⟩, b5, b6, b7⟩ := isWordB_bounds hf.c1 hf.c2 hf.t1 hf.t2 hx
  have et : ((x.time.toNat : Nat) : Int) = x.time := by omega
  have ec : ((x.chamber.toNat : Nat) : Int) = x.chamber := by omega
  constructor
  · intro h
    obtain ⟨y, hy⟩ := oneB_iff.1 h
    obtain ⟨h1, h2, h3⟩ := sat_told.1 hy
    have m1 := (Fish_max hf hex x.time.toNat x.chamber.toNat (by omega) (by omega)).1 y h1
    have m2 := (Fish_mn hf hex x.time.toNat x.chamber.toNat (by omega) (by omega)).1 y h1
    rw [et, ec] at m1 m2
    simp only [] at m1 m2
    omega
  · rintro ⟨h1, h2⟩
    obtain ⟨n1, n2, _, _⟩ := word_nodes hf hx
    have d0 := hex.feas.1.1
    have F1 := hex.feas.lim (f := nd t.C x.time (x.chamber + 1)) (t := nd t.C x.time x.chamber) (m := x.high) n2 n1 (by unfold fishLo at h2; omega)
    have hv := lim_val (m := x.high) n2 n1 hex.feas.1 (by unfold fishLo at h2; omega) (nd t.C x.time (x.chamber + 1)) (nd t.C x.time x.chamber) n2 n1
    have F2 := F1.lim (f := nd t.C x.time x.chamber) (t := nd t.C x.time (x.chamber + 1)) (m := -x.low) n1 n2 (by
      rw [hv, d0 _ n2, d0 _ n1]
      unfold fishHi at h1
      rcases mn_or (setMat t (-1) (nd t.C x.time (x.chamber + 1)) (nd t.C x.time x.chamber)) (0 + x.high + 0) with e | e <;> omega)
    have hs := F2.row 0 (by omega)
    have s1 : Sol (setG t (-1)) _ := ⟨hs.1, fun q hq => hs.2 q (List.mem_cons_of_mem _ (List.mem_cons_of_mem _ hq))⟩
    have q1 := hs.2 _ (List.mem_cons_self ..)
    have q2 := hs.2 _ (List.mem_cons_of_mem _ (List.mem_cons_self ..))
    refine oneB_iff.2 ⟨_, sat_told.2 ⟨sat_of_sol hf s1, ?_, ?_⟩⟩
    · unfold yof
      rw [← nd_succ, et, ec]
      simp only [] at q1 q2 ⊢
      omega
    · unfold yof
      rw [← nd_succ, et, ec]
      simp only [] at q1 q2 ⊢
      omega
theorem RJudge_any (t : CT) (v : Value) (x : CW) (w : World) (hv : TrapAt w v t) (hroom : Room t) :
    Calls Try.prog 40 #[v, x.val] w (IntPost (errR t (isWordB t.C t.T x)) (judgeR (fishLo t x.time x.chamber) (fishHi t x.time x.chamber) x.low x.high) w) := by
  have HV := Lib.hid hv
  obtain ⟨ov, wv, rfl, ⟨a, cc, b, off, rv, rfl, _⟩, ⟨wa, wc, wb, woff, rfl, _⟩⟩ := hv
  have HX := Lib.hid (show x.val = .agg #[.int .i64 x.time, .int .i64 x.chamber, .int .i64 x.low, .int .i64 x.high] from rfl)
  rw [HX.out]
  have HKN := Lib.hid (fun wx hx => known_any t (.agg #[.int .i64 t.C, .int .i64 t.T, .slice a t.op.length cc, .slice wa t.ws.length wc]) (isWordB t.C t.T x) wx hx)
  have HTO := Lib.hid (fun wx hx => Told_any t x (.agg #[.int .i64 t.C, .int .i64 t.T, .slice a t.op.length cc, .slice wa t.ws.length wc]) wx hx hroom)
  rw [HX.out] at HTO
  by_cases he : errR t (isWordB t.C t.T x) = 0
  · obtain ⟨hval, hwd, hone⟩ := errR_zero he
    have hf := fit_of_valid hval
    have hex := exact_of_one hf hone
    obtain ⟨⟨b1, b2⟩, ⟨b3, b4⟩, b5, b6, b7⟩ := isWordB_bounds hf.c1 hf.c2 hf.t1 hf.t2 hwd
    have hbd := Fish_bounds hf hex x.time.toNat x.chamber.toNat (by omega) (by omega)
    rw [show ((x.time.toNat : Nat) : Int) = x.time by omega, show ((x.chamber.toNat : Nat) : Int) = x.chamber by omega] at hbd
    have hpl : isPlaceB t.C t.T x.time x.chamber = true := by
      unfold isWordB at hwd
      simp only [Bool.and_eq_true] at hwd
      exact hwd.1
    have HFO := Lib.hid (fun wx hx => FishOf_any t (.agg #[.int .i64 t.C, .int .i64 t.T, .slice a t.op.length cc, .slice wa t.ws.length wc]) x.time x.chamber wx hx hf (valid_nine hval) hone hpl)
    have HIO := Lib.hid (fun v' wx hx => IsOne_any (told t x) v' wx hx (fit_told hf hwd) (by have := (validB_bounds hval).2.2.2.1; simp [told]; omega))
    have HTE := Lib.hid (told_one hf hex hwd)
    have HE := Lib.hid he
    rw [he] at HKN
    rw [hwd] at HKN
    have HJ := Lib.hid (fun lo hi => (show judgeR lo hi x.low x.high = if x.low ≤ lo ∧ hi ≤ x.high then 1 else if x.high < lo ∨ hi < x.low then 2 else 3 from rfl))
    clear hval hone hf hex he hpl
    generalize fishLo t x.time x.chamber = lo at *
    generalize fishHi t x.time x.chamber = hi at *
    obtain ⟨g1, g2, g3⟩ := hbd
    go_enter Try.func40, Try.ntmps40
    go_wp2
    refine wp_region_mixB (Plan.seq [0, 1, 2, 1003, 1004, 5] .nil) (by kernel_rfl) (by kernel_rfl) (fun hcur => ?_)
    simp only [Plan.seq, Plan.fill, List.getD_cons_zero, List.getD_cons_succ, Nat.reduceLT, ↓reduceIte, Nat.reduceSub]
    apply mix_pure _ rfl
    · intro w' hw'
      have hcr := hw'.cells
      go_simp
      rfl
    intro K hK
    go_simp
    refine hK _ ?_
    clear hK K
    apply mix_pure _ rfl
    · intro w' hw'
      have hcr := hw'.cells
      go_simp
      rfl
    intro K hK
    go_simp
    refine hK _ ?_
    clear hK K
    apply mix_pure _ rfl
    · intro w' hw'
      have hcr := hw'.cells
      go_simp
      rfl
    intro K hK
    go_simp
    refine hK _ ?_
    clear hK K
    refine mix_act rfl (fun K hK => ?_)
    go_simp
    rw [← HX.out]
    refine (IsWord_any _ _ _ _ _ _).mono ?_
    rintro e w' ⟨rfl, hb⟩
    simp only []
    refine hK _ _ (hcur.trans hb) (fun hcur => ?_)
    clear hK K hb
    refine mix_act rfl (fun K hK => ?_)
    go_simp
    refine (HKN.out _ (HV.out.bel (by repeat (first | assumption | exact Bel.refl _ | refine Bel.drew ?_ | refine Bel.drewN ?_ _ | refine Bel.alloc ?_ _ | refine Bel.setCell ?_ (by simp <;> omega) _ | refine Bel.trans ?_ (by assumption))))).mono ?_
    rintro e w9 ⟨rfl, hb⟩
    simp only []
    refine hK _ _ (hcur.trans hb) (fun hcur => ?_)
    clear hK K hb
    apply mix_pure _ rfl
    · intro w' hw'
      have hcr := hw'.cells
      go_simp
      rfl
    intro K hK
    go_simp
    refine hK _ ?_
    clear hK K
    refine mix_nil ?_
    have x0 : w9.cell? ⟨w.heap.size, 0, none⟩ = some (.int .i64 t.C) := hcur.cell ((row_facts ((heap_alloc_old _ _ (by simp)).trans (new_row rfl))).1 0)
    have x1 : w9.cell? ⟨w.heap.size, 1, none⟩ = some (.int .i64 t.T) := hcur.cell ((row_facts ((heap_alloc_old _ _ (by simp)).trans (new_row rfl))).1 1)
    have x2 : w9.cell? ⟨w.heap.size, 2, none⟩ = some (.slice a t.op.length cc) := hcur.cell ((row_facts ((heap_alloc_old _ _ (by simp)).trans (new_row rfl))).1 2)
    have x3 : w9.cell? ⟨w.heap.size, 3, none⟩ = some (.slice wa t.ws.length wc) := hcur.cell ((row_facts ((heap_alloc_old _ _ (by simp)).trans (new_row rfl))).1 3)
    have k0 : w9.cell? ⟨w.heap.size + 1, 0, none⟩ = some (.int .i64 x.time) := hcur.cell ((row_facts (new_row (by simp))).1 0)
    have k1 : w9.cell? ⟨w.heap.size + 1, 1, none⟩ = some (.int .i64 x.chamber) := hcur.cell ((row_facts (new_row (by simp))).1 1)
    have k2 : w9.cell? ⟨w.heap.size + 1, 2, none⟩ = some (.int .i64 x.low) := hcur.cell ((row_facts (new_row (by simp))).1 2)
    have k3 : w9.cell? ⟨w.heap.size + 1, 3, none⟩ = some (.int .i64 x.high) := hcur.cell ((row_facts (new_row (by simp))).1 3)
    have HB9 := Lib.hid (show Bel w w9 from Bel.trans (by repeat (first | assumption | exact Bel.refl _ | refine Bel.drew ?_ | refine Bel.drewN ?_ _ | refine Bel.alloc ?_ _ | refine Bel.setCell ?_ (by simp <;> omega) _ | refine Bel.trans ?_ (by assumption))) hcur)
    clear hcur
    go_wp2_with fail
    refine (HFO.out _ (HV.out.bel HB9.out)).mono ?_
    rintro e w10 ⟨rfl, hb⟩
    replace x0 := hb.cell x0
    replace x1 := hb.cell x1
    replace x2 := hb.cell x2
    replace x3 := hb.cell x3
    replace k0 := hb.cell k0
    replace k1 := hb.cell k1
    replace k2 := hb.cell k2
    replace k3 := hb.cell k3
    have lx := cell_lt x0
    have lk := cell_lt k0
    have HB10 := Lib.hid (HB9.out.trans hb)
    clear hb
    have hcs : (withinB lo x.low x.high = true ∧ withinB hi x.low x.high = true) ∨ (withinB lo x.low x.high = true ∧ withinB hi x.low x.high = false) ∨ withinB lo x.low x.high = false := by
      cases withinB lo x.low x.high <;> cases withinB hi x.low x.high <;> simp
    rcases hcs with ⟨e1, e2⟩ | ⟨e1, e2⟩ | e1
    · go_wp2_with (first
        | (go_at_call 47; refine (Within_any _ _ _ _).mono ?_; rintro e w' ⟨rfl, rfl⟩))
      go_ret2
      exact IntPost.ok HE.out (by rw [HJ.out, if_pos]; rw [withinB_true] at e1 e2; omega) (HB10.out.alloc _)
    all_goals
      have HN1 : Hid (¬ (x.low ≤ lo ∧ hi ≤ x.high)) := Lib.hid (fun q => by
        first
          | (rw [withinB_false] at e2; omega)
          | (rw [withinB_false] at e1; omega))
      cases e3 : oneB (told t x)
      all_goals
        have HR : Hid (judgeR lo hi x.low x.high = if oneB (told t x) then 3 else 2) := Lib.hid (by
          rw [HJ.out, if_neg HN1.out]
          cases e4 : oneB (told t x) with
          | true => have := HTE.out.1 e4; rw [if_neg (by omega)]; rfl
          | false =>
            have : ¬ (x.low ≤ hi ∧ lo ≤ x.high) := fun q => by rw [HTE.out.2 q] at e4; cases e4
            rw [if_pos (by omega)]; rfl)
        rw [e3] at HIO HR
        clear e3
        go_wp2_with (first
          | (go_at_call 47; refine (Within_any _ _ _ _).mono ?_; rintro e w' ⟨rfl, rfl⟩)
          | fail)
        refine (HTO.out _ (HV.out.bel (HB10.out.alloc _))).mono ?_
        rintro e w11 ⟨vt, rfl, hb, hT⟩
        have HT := Lib.hid hT.now
        have HB11 := Lib.hid ((HB10.out.alloc _).trans hb)
        clear hb hT
        go_wp2_with fail
        refine (HIO.out _ _ HT.out).mono ?_
        rintro e w12 ⟨rfl, hb⟩
        have HB12 := Lib.hid (HB11.out.trans hb)
        clear hb
        go_wp2
        go_ret2
        exact IntPost.ok HE.out HR.out HB12.out
  · have hne : (errR t (isWordB t.C t.T x) != 0) = true := by rw [bne_iff_ne]; exact he
    have HE := Lib.hid he
    clear he
    generalize errR t (isWordB t.C t.T x) = er at *
    go_enter Try.func40, Try.ntmps40
    go_wp2
    refine wp_region_mixB (Plan.seq [0, 1, 2, 1003, 1004, 5] .nil) (by kernel_rfl) (by kernel_rfl) (fun hcur => ?_)
    simp only [Plan.seq, Plan.fill, List.getD_cons_zero, List.getD_cons_succ, Nat.reduceLT, ↓reduceIte, Nat.reduceSub]
    apply mix_pure _ rfl
    · intro w' hw'
      have hcr := hw'.cells
      go_simp
      rfl
    intro K hK
    go_simp
    refine hK _ ?_
    clear hK K
    apply mix_pure _ rfl
    · intro w' hw'
      have hcr := hw'.cells
      go_simp
      rfl
    intro K hK
    go_simp
    refine hK _ ?_
    clear hK K
    apply mix_pure _ rfl
    · intro w' hw'
      have hcr := hw'.cells
      go_simp
      rfl
    intro K hK
    go_simp
    refine hK _ ?_
    clear hK K
    refine mix_act rfl (fun K hK => ?_)
    go_simp
    rw [← HX.out]
    refine (IsWord_any _ _ _ _ _ _).mono ?_
    rintro e w' ⟨rfl, hb⟩
    simp only []
    refine hK _ _ (hcur.trans hb) (fun hcur => ?_)
    clear hK K hb
    refine mix_act rfl (fun K hK => ?_)
    go_simp
    refine (HKN.out _ (HV.out.bel (by repeat (first | assumption | exact Bel.refl _ | refine Bel.drew ?_ | refine Bel.drewN ?_ _ | refine Bel.alloc ?_ _ | refine Bel.setCell ?_ (by simp <;> omega) _ | refine Bel.trans ?_ (by assumption))))).mono ?_
    rintro e w9 ⟨rfl, hb⟩
    simp only []
    refine hK _ _ (hcur.trans hb) (fun hcur => ?_)
    clear hK K hb
    apply mix_pure _ rfl
    · intro w' hw'
      have hcr := hw'.cells
      go_simp
      rfl
    intro K hK
    go_simp
    refine hK _ ?_
    clear hK K
    refine mix_nil ?_
    have HB9 := Lib.hid (show Bel w w9 from Bel.trans (by repeat (first | assumption | exact Bel.refl _ | refine Bel.drew ?_ | refine Bel.drewN ?_ _ | refine Bel.alloc ?_ _ | refine Bel.setCell ?_ (by simp <;> omega) _ | refine Bel.trans ?_ (by assumption))) hcur)
    clear hcur
    go_wp2
    go_ret2
    exact IntPost.err HE.out HB9.out
end Go.Proofs.Ytoiajjdhgffdaaa
