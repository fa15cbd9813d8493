/-
  counts: open; Fish, Whole, Came, Passed.
-/
import Derived.Test.YtkdcdhkhadhcfaaSpec
namespace Go.Proofs.Ytkdcdhkhadhcfaa
open Go Go.RowKit
open Classical in
/-- The error of a trap that is asked for something, and must have a truth. -/
noncomputable def errR (t : CT) (b : Bool) : Int := if askR t b ≠ 0 then askR t b else if ∃ y, Sat t (-1) y then 0 else 3
theorem errR_ask {t : CT} {b : Bool} (h : askR t b ≠ 0) : errR t b = askR t b := by unfold errR; rw [if_pos h]
theorem errR_none {t : CT} {b : Bool} (h : askR t b = 0) (h2 : ¬ ∃ y, Sat t (-1) y) : errR t b = 3 := by unfold errR; rw [if_neg (by simp [h]), if_neg h2]
theorem errR_ok {t : CT} {b : Bool} (h : askR t b = 0) (h2 : ∃ y, Sat t (-1) y) : errR t b = 0 := by unfold errR; rw [if_neg (by simp [h]), if_pos h2]
theorem askR_zero {t : CT} {b : Bool} : askR t b = 0 ↔ validB t = true ∧ b = true := by
  unfold askR
  cases validB t <;> cases b <;> simp
theorem errR_zero {t : CT} {b : Bool} (h : errR t b = 0) : validB t = true ∧ b = true ∧ ∃ y, Sat t (-1) y := by
  unfold errR at h
  by_cases h1 : askR t b = 0
  · rw [if_neg (by simp [h1])] at h
    by_cases h2 : ∃ y, Sat t (-1) y
    · exact ⟨(askR_zero.1 h1).1, (askR_zero.1 h1).2, h2⟩
    · rw [if_neg h2] at h; cases h
  · rw [if_pos h1] at h; exact absurd h h1
/-- What open leaves. -/
def OpenPost (t : CT) (b : Bool) (ov wv : Value) (w : World) (e : Ending) (w' : World) : Prop :=
  (errR t b ≠ 0 ∧ e = .returned (.tuple #[.pointer none, .int .i64 (errR t b)]) ∧ Bel w w') ∨
  (errR t b = 0 ∧ ∃ tb, e = .returned (.tuple #[.pointer (some ⟨tb, 0, none⟩), .int .i64 0]) ∧ w.heap.size ≤ tb ∧ Exact t (-1) (setMat t (-1)) ∧ TrapP w' tb t.C t.T ov wv (setMat t (-1)) ∧ Bel w w')
set_option maxHeartbeats 1000000
set_option maxRecDepth 100000
theorem open_any (t : CT) (ov wv : Value) (bb : Bool) (w : World) (hv : TrapAt w (.agg #[.int .i64 t.C, .int .i64 t.T, ov, wv]) t) :
    Calls Try.prog 76 #[.agg #[.int .i64 t.C, .int .i64 t.T, ov, wv], .bool bb] w (OpenPost t bb ov wv w) := by
  have HV := Lib.hid hv
  clear hv
  by_cases h0 : askR t bb = 0
  · have hval := (askR_zero.1 h0).1
    have hb : bb = true := (askR_zero.1 h0).2
    subst hb
    have hf := Lib.hid (fit_of_valid hval)
    have HV2 := Lib.hid hval
    have HA := Lib.hid h0
    have HS := Lib.hid (safeWords (fit_of_valid hval) (validB_bounds hval).2.2.2.1 (-1))
    clear hval h0
    cases hcl : clashB (setMat t (-1))
    · have HE := Lib.hid (set_exact hf.out hcl)
      have HR := Lib.hid (errR_ok HA.out (HE.out.one hf.out))
      have HC := Lib.hid hcl
      clear hcl
      go_enter Try.func76, Try.ntmps76
      go_wp2_with (go_at_call 100; refine (ask_any t _ true _ (HV.out.bel (by repeat (first | assumption | exact Bel.refl _ | refine Bel.drew ?_ | refine Bel.drewN ?_ _ | refine Bel.alloc ?_ _ | refine Bel.setCell ?_ (by simp <;> omega) _ | refine Bel.trans ?_ (by assumption))))).mono ?_; rintro e w' ⟨rfl, hb⟩; rw [HA.out]; have hcr := hb.cells; have hz := hb.szle; (try simp only [World.size_alloc] at hz); have z0 : w.heap.size < w'.heap.size := (by omega))
      refine (set_any t (-1) _ _ (HV.out.bel (by repeat (first | assumption | exact Bel.refl _ | refine Bel.drew ?_ | refine Bel.drewN ?_ _ | refine Bel.alloc ?_ _ | refine Bel.setCell ?_ (by simp <;> omega) _ | refine Bel.trans ?_ (by assumption)))) HV2.out HS.out).mono ?_
      rintro e w2 ⟨ov', wv', hag, tb, rfl, htb, hT, hb2⟩
      simp only [Value.agg.injEq, Array.mk.injEq, List.cons.injEq, and_true, true_and] at hag
      obtain ⟨rfl, rfl⟩ := hag
      go_wp2_with fail
      refine (clash_any tb 4 (setMat t (-1)) _ hT.mat).mono ?_
      rintro e w3 ⟨rfl, rfl⟩
      rw [HC.out]
      go_wp2
      go_ret2
      exact .inr ⟨HR.out, tb, rfl, by omega, HE.out, hT, (by repeat (first | assumption | exact Bel.refl _ | refine Bel.drew ?_ | refine Bel.drewN ?_ _ | refine Bel.alloc ?_ _ | refine Bel.setCell ?_ (by simp <;> omega) _ | refine Bel.trans ?_ (by assumption)))⟩
    · have HC := Lib.hid hcl
      have HN := Lib.hid ((set_clash hf.out (-1)).1 hcl)
      have HR := Lib.hid (errR_none HA.out HN.out)
      clear hcl
      go_enter Try.func76, Try.ntmps76
      go_wp2_with (go_at_call 100; refine (ask_any t _ true _ (HV.out.bel (by repeat (first | assumption | exact Bel.refl _ | refine Bel.drew ?_ | refine Bel.drewN ?_ _ | refine Bel.alloc ?_ _ | refine Bel.setCell ?_ (by simp <;> omega) _ | refine Bel.trans ?_ (by assumption))))).mono ?_; rintro e w' ⟨rfl, hb⟩; rw [HA.out]; have hcr := hb.cells; have hz := hb.szle; (try simp only [World.size_alloc] at hz); have z0 : w.heap.size < w'.heap.size := (by omega))
      refine (set_any t (-1) _ _ (HV.out.bel (by repeat (first | assumption | exact Bel.refl _ | refine Bel.drew ?_ | refine Bel.drewN ?_ _ | refine Bel.alloc ?_ _ | refine Bel.setCell ?_ (by simp <;> omega) _ | refine Bel.trans ?_ (by assumption)))) HV2.out HS.out).mono ?_
      rintro e w2 ⟨ov', wv', hag, tb, rfl, htb, hT, hb2⟩
      go_wp2_with fail
      refine (clash_any tb 4 (setMat t (-1)) _ hT.mat).mono ?_
      rintro e w3 ⟨rfl, rfl⟩
      rw [HC.out]
      go_wp2
      go_ret2
      exact .inl ⟨by rw [HR.out]; omega, by rw [HR.out]; rfl, (by repeat (first | assumption | exact Bel.refl _ | refine Bel.drew ?_ | refine Bel.drewN ?_ _ | refine Bel.alloc ?_ _ | refine Bel.setCell ?_ (by simp <;> omega) _ | refine Bel.trans ?_ (by assumption)))⟩
  · have HR := Lib.hid (errR_ask h0)
    have hne : (askR t bb != 0) = true := by rw [bne_iff_ne]; exact h0
    have HN := Lib.hid h0
    clear h0
    go_enter Try.func76, Try.ntmps76
    go_wp2_with (go_at_call 100; refine (ask_any t _ bb _ (HV.out.bel (by repeat (first | assumption | exact Bel.refl _ | refine Bel.drew ?_ | refine Bel.drewN ?_ _ | refine Bel.alloc ?_ _ | refine Bel.setCell ?_ (by simp <;> omega) _ | refine Bel.trans ?_ (by assumption))))).mono ?_; rintro e w' ⟨rfl, hb⟩)
    go_ret2
    exact .inl ⟨by rw [HR.out]; exact HN.out, by rw [HR.out]; rfl, (by repeat (first | assumption | exact Bel.refl _ | refine Bel.drew ?_ | refine Bel.drewN ?_ _ | refine Bel.alloc ?_ _ | refine Bel.setCell ?_ (by simp <;> omega) _ | refine Bel.trans ?_ (by assumption)))⟩
theorem open_err (t : CT) (ov wv : Value) (bb : Bool) (w : World) (hv : TrapAt w (.agg #[.int .i64 t.C, .int .i64 t.T, ov, wv]) t) (h : errR t bb ≠ 0) :
    Calls Try.prog 76 #[.agg #[.int .i64 t.C, .int .i64 t.T, ov, wv], .bool bb] w fun e w' => e = .returned (.tuple #[.pointer none, .int .i64 (errR t bb)]) ∧ Bel w w' :=
  (open_any t ov wv bb w hv).mono fun e w' hp => by
    rcases hp with hp | hp
    · exact hp.2
    · exact absurd hp.1 h
theorem open_ok (t : CT) (ov wv : Value) (bb : Bool) (w : World) (hv : TrapAt w (.agg #[.int .i64 t.C, .int .i64 t.T, ov, wv]) t) (h : errR t bb = 0) :
    Calls Try.prog 76 #[.agg #[.int .i64 t.C, .int .i64 t.T, ov, wv], .bool bb] w fun e w' => ∃ tb, e = .returned (.tuple #[.pointer (some ⟨tb, 0, none⟩), .int .i64 0]) ∧ w.heap.size ≤ tb ∧ TrapP w' tb t.C t.T ov wv (setMat t (-1)) ∧ Bel w w' :=
  (open_any t ov wv bb w hv).mono fun e w' hp => by
    rcases hp with hp | ⟨_, tb, h1, h2, _, h3, h4⟩
    · exact absurd h hp.1
    · exact ⟨tb, h1, h2, h3, h4⟩
theorem errR_exact {t : CT} {b : Bool} (h : errR t b = 0) : Exact t (-1) (setMat t (-1)) ∧ Fit t := by
  obtain ⟨h1, _, h3⟩ := errR_zero h
  have hf := fit_of_valid h1
  refine ⟨?_, hf⟩
  rcases set_state hf (-1) with q | q
  · exact q
  · obtain ⟨y, hy⟩ := h3
    exact absurd (sol_of_sat hf hy) (q.2 _)
theorem isPlaceB_bounds {C T i c : Int} (hC1 : 1 ≤ C) (hC2 : C ≤ 4) (hT1 : 1 ≤ T) (hT2 : T ≤ 5) (h : isPlaceB C T i c = true) : (0 ≤ i ∧ i < T) ∧ 0 ≤ c ∧ c < C := by
  unfold isPlaceB isTimeB at h
  simp only [Bool.and_eq_true, withinB_true] at h
  rw [wrap64_in (T - 1) (by omega), wrap64_in (C - 1) (by omega)] at h
  omega
/-- A span and an error. -/
def SpanPost (er lo hi : Int) (w : World) (e : Ending) (w' : World) : Prop :=
  e = .returned (.tuple #[.agg #[.int .i64 (if er = 0 then lo else 0), .int .i64 (if er = 0 then hi else 0)], .int .i64 er]) ∧ Bel w w'
theorem SpanPost.err {er lo hi : Int} {w w' : World} (h : er ≠ 0) (hb : Bel w w') : SpanPost er lo hi w (.returned (.tuple #[.agg #[.int .i64 0, .int .i64 0], .int .i64 er])) w' := by
  unfold SpanPost; rw [if_neg h, if_neg h]; exact ⟨rfl, hb⟩
theorem SpanPost.ok {er lo hi : Int} {w w' : World} (h : er = 0) (hb : Bel w w') : SpanPost er lo hi w (.returned (.tuple #[.agg #[.int .i64 lo, .int .i64 hi], .int .i64 0])) w' := by
  unfold SpanPost; rw [if_pos h, if_pos h, h]; exact ⟨rfl, hb⟩
def fishLo (t : CT) (i c : Int) : Int := -(setMat t (-1) (nd t.C i c) (nd t.C i (c + 1)))
def fishHi (t : CT) (i c : Int) : Int := setMat t (-1) (nd t.C i (c + 1)) (nd t.C i c)
theorem Fish_any (t : CT) (v : Value) (i c : Int) (w : World) (hv : TrapAt w v t) :
    Calls Try.prog 53 #[v, .int .i64 i, .int .i64 c] w (SpanPost (errR t (isPlaceB t.C t.T i c)) (fishLo t i c) (fishHi t i c) w) := by
  have HV := Lib.hid hv
  obtain ⟨ov, wv, rfl, hrows, hwords⟩ := hv
  clear hrows hwords
  by_cases he : errR t (isPlaceB t.C t.T i c) = 0
  · have HE := Lib.hid he
    obtain ⟨hex, hf⟩ := errR_exact he
    obtain ⟨f1, f2, f3, f4, _, _⟩ := hf
    obtain ⟨⟨p1, p2⟩, p3, p4⟩ := isPlaceB_bounds f1 f2 f3 f4 (errR_zero he).2.1
    have hS := hex.safe
    clear hex he
    have HP := Lib.hid (fun wz hz => open_ok t ov wv (isPlaceB t.C t.T i c) wz hz HE.out)
    go_enter Try.func53, Try.ntmps53
    go_wp2
    refine wp_region_mixB (Plan.seq [0, 1, 2, 3, 1004, 1005, 6, 7, 8, 9, 10] .nil) (by kernel_rfl) (by kernel_rfl) (fun hcur => ?_)
    simp only [Plan.seq, Plan.fill, List.getD_cons_zero, List.getD_cons_succ, Nat.reduceLT, ↓reduceIte, Nat.reduceSub]
    apply mix_pure _ rfl
    · intro w' hw'
      have hcr := hw'.cells
      go_simp
      rfl
    intro K hK
    go_simp
    refine hK _ ?_
    clear hK K
    apply mix_pure _ rfl
    · intro w' hw'
      have hcr := hw'.cells
      go_simp
      rfl
    intro K hK
    go_simp
    refine hK _ ?_
    clear hK K
    apply mix_pure _ rfl
    · intro w' hw'
      have hcr := hw'.cells
      go_simp
      rfl
    intro K hK
    go_simp
    refine hK _ ?_
    clear hK K
    apply mix_pure _ rfl
    · intro w' hw'
      have hcr := hw'.cells
      go_simp
      rfl
    intro K hK
    go_simp
    refine hK _ ?_
    clear hK K
    refine mix_act rfl (fun K hK => ?_)
    go_simp
    refine (isPlace_any _ _ _ _ _ _ _).mono ?_
    rintro e w' ⟨rfl, hb⟩
    have hcr := hb.cells
    have hfr := hb.frozens
    have hz := hb.szle
    (try simp only [World.size_alloc, World.size_drew] at hz)
    have z0 : w.heap.size < w'.heap.size := (by omega)
    have z1 : w.heap.size + 1 < w'.heap.size := (by omega)
    simp only []
    refine hK _ _ (hcur.trans hb) (fun hcur => ?_)
    clear hK K
    refine mix_act rfl (fun K hK => ?_)
    go_simp
    refine (HP.out _ (HV.out.bel (by repeat (first | assumption | exact Bel.refl _ | refine Bel.drew ?_ | refine Bel.drewN ?_ _ | refine Bel.alloc ?_ _ | refine Bel.setCell ?_ (by simp <;> omega) _ | refine Bel.trans ?_ (by assumption))))).mono ?_
    rintro e w' ⟨tb, rfl, htb, hT, hb⟩
    have hcr := hb.cells
    have hfr := hb.frozens
    have hz := hb.szle
    (try simp only [World.size_alloc, World.size_drew, World.size_setCell, World.heap_drewN] at hz)
    have z0 : w.heap.size < w'.heap.size := by omega
    have z1 : w.heap.size + 1 < w'.heap.size := by omega
    simp only []
    refine hK _ _ (hcur.trans hb) (fun hcur => ?_)
    clear hK K
    apply mix_pure _ rfl
    · intro w' hw'
      have hcr := hw'.cells
      go_simp
      rfl
    intro K hK
    go_simp
    refine hK _ ?_
    clear hK K
    apply mix_pure _ rfl
    · intro w' hw'
      have hcr := hw'.cells
      go_simp
      rfl
    intro K hK
    go_simp
    refine hK _ ?_
    clear hK K
    apply mix_pure _ rfl
    · intro w' hw'
      have hcr := hw'.cells
      go_simp
      rfl
    intro K hK
    go_simp
    refine hK _ ?_
    clear hK K
    apply mix_pure _ rfl
    · intro w' hw'
      have hcr := hw'.cells
      go_simp
      rfl
    intro K hK
    go_simp
    refine hK _ ?_
    clear hK K
    apply mix_pure _ rfl
    · intro w' hw'
      have hcr := hw'.cells
      go_simp
      rfl
    intro K hK
    go_simp
    refine hK _ ?_
    clear hK K
    refine mix_nil ?_
    go_wp2_with (first | (go_at_call 78; refine (tfish_any _ _ _ _ _ _ _ _ _ (by first | assumption | exact TrapP.bel ‹_› (by repeat (first | assumption | exact Bel.refl _ | refine Bel.drew ?_ | refine Bel.drewN ?_ _ | refine Bel.alloc ?_ _ | refine Bel.setCell ?_ (by simp <;> omega) _ | refine Bel.trans ?_ (by assumption)))) ‹Safe _› (by omega) (by omega) (by omega) (by omega) (by omega)).mono ?_; rintro e w' ⟨rfl, hb⟩; have hcr := hb.cells; have hfr := hb.frozens; have hz := hb.szle; (try simp only [World.size_alloc, World.size_drew, World.size_setCell, World.heap_drewN] at hz); have z0 : w.heap.size < w'.heap.size := (by omega); have z1 : w.heap.size + 1 < w'.heap.size := (by omega)))
    exact bodyPost_ret (v := .tuple #[.agg #[.int .i64 (fishLo t i c), .int .i64 (fishHi t i c)], .int .i64 0]) (by simp [results, Try.results53, go_sem, fishLo, fishHi, *]) rfl (SpanPost.ok HE.out (by repeat (first | assumption | exact Bel.refl _ | refine Bel.drew ?_ | refine Bel.drewN ?_ _ | refine Bel.alloc ?_ _ | refine Bel.setCell ?_ (by simp <;> omega) _ | refine Bel.trans ?_ (by assumption))))
  · have hne : (errR t (isPlaceB t.C t.T i c) != 0) = true := by rw [bne_iff_ne]; exact he
    have HE := Lib.hid he
    have HP := Lib.hid (fun wz hz => open_err t ov wv (isPlaceB t.C t.T i c) wz hz HE.out)
    clear he
    go_enter Try.func53, Try.ntmps53
    go_wp2
    refine wp_region_mixB (Plan.seq [0, 1, 2, 3, 1004, 1005, 6, 7, 8, 9, 10] .nil) (by kernel_rfl) (by kernel_rfl) (fun hcur => ?_)
    simp only [Plan.seq, Plan.fill, List.getD_cons_zero, List.getD_cons_succ, Nat.reduceLT, ↓reduceIte, Nat.reduceSub]
    apply mix_pure _ rfl
    · intro w' hw'
      have hcr := hw'.cells
      go_simp
      rfl
    intro K hK
    go_simp
    refine hK _ ?_
    clear hK K
    apply mix_pure _ rfl
    · intro w' hw'
      have hcr := hw'.cells
      go_simp
      rfl
    intro K hK
    go_simp
    refine hK _ ?_
    clear hK K
    apply mix_pure _ rfl
    · intro w' hw'
      have hcr := hw'.cells
      go_simp
      rfl
    intro K hK
    go_simp
    refine hK _ ?_
    clear hK K
    apply mix_pure _ rfl
    · intro w' hw'
      have hcr := hw'.cells
      go_simp
      rfl
    intro K hK
    go_simp
    refine hK _ ?_
    clear hK K
    refine mix_act rfl (fun K hK => ?_)
    go_simp
    refine (isPlace_any _ _ _ _ _ _ _).mono ?_
    rintro e w' ⟨rfl, hb⟩
    have hcr := hb.cells
    have hfr := hb.frozens
    have hz := hb.szle
    (try simp only [World.size_alloc, World.size_drew] at hz)
    have z0 : w.heap.size < w'.heap.size := (by omega)
    have z1 : w.heap.size + 1 < w'.heap.size := (by omega)
    simp only []
    refine hK _ _ (hcur.trans hb) (fun hcur => ?_)
    clear hK K
    refine mix_act rfl (fun K hK => ?_)
    go_simp
    refine (HP.out _ (HV.out.bel (by repeat (first | assumption | exact Bel.refl _ | refine Bel.drew ?_ | refine Bel.drewN ?_ _ | refine Bel.alloc ?_ _ | refine Bel.setCell ?_ (by simp <;> omega) _ | refine Bel.trans ?_ (by assumption))))).mono ?_
    rintro e w' ⟨rfl, hb⟩
    have hcr := hb.cells
    have hfr := hb.frozens
    have hz := hb.szle
    (try simp only [World.size_alloc, World.size_drew, World.size_setCell, World.heap_drewN] at hz)
    have z0 : w.heap.size < w'.heap.size := by omega
    have z1 : w.heap.size + 1 < w'.heap.size := by omega
    simp only []
    refine hK _ _ (hcur.trans hb) (fun hcur => ?_)
    clear hK K
    apply mix_pure _ rfl
    · intro w' hw'
      have hcr := hw'.cells
      go_simp
      rfl
    intro K hK
    go_simp
    refine hK _ ?_
    clear hK K
    apply mix_pure _ rfl
    · intro w' hw'
      have hcr := hw'.cells
      go_simp
      rfl
    intro K hK
    go_simp
    refine hK _ ?_
    clear hK K
    apply mix_pure _ rfl
    · intro w' hw'
      have hcr := hw'.cells
      go_simp
      rfl
    intro K hK
    go_simp
    refine hK _ ?_
    clear hK K
    apply mix_pure _ rfl
    · intro w' hw'
      have hcr := hw'.cells
      go_simp
      rfl
    intro K hK
    go_simp
    refine hK _ ?_
    clear hK K
    apply mix_pure _ rfl
    · intro w' hw'
      have hcr := hw'.cells
      go_simp
      rfl
    intro K hK
    go_simp
    refine hK _ ?_
    clear hK K
    refine mix_nil ?_
    generalize errR t (isPlaceB t.C t.T i c) = er at *
    go_wp2
    exact bodyPost_ret (v := .tuple #[.agg #[.int .i64 0, .int .i64 0], .int .i64 er]) (by simp [results, Try.results53, go_sem, *]) rfl (SpanPost.err HE.out (by repeat (first | assumption | exact Bel.refl _ | refine Bel.drew ?_ | refine Bel.drewN ?_ _ | refine Bel.alloc ?_ _ | refine Bel.setCell ?_ (by simp <;> omega) _ | refine Bel.trans ?_ (by assumption))))
end Go.Proofs.Ytkdcdhkhadhcfaa
