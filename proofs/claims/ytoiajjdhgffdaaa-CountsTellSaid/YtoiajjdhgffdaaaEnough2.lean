/-
  counts: Enough.
-/
import Derived.Test.YtoiajjdhgffdaaaEnough
namespace Go.Proofs.Ytoiajjdhgffdaaa
set_option linter.unusedVariables false
open Go Go.RowKit
set_option maxHeartbeats 1000000
set_option maxRecDepth 100000
def enHi (t : CT) (fish : Int) (i : Nat) : Bool := decide (fish ≤ setMat t (-1) (nd t.C i t.C) (nd t.C i (t.C - 1)))
def enLo (t : CT) (fish : Int) (i : Nat) : Bool := decide (fish ≤ -(setMat t (-1) (nd t.C i (t.C - 1)) (nd t.C i t.C)))
/-- What Enough leaves. -/
def EnoughPost (t : CT) (fish : Int) (w : World) (e : Ending) (w' : World) : Prop :=
  (errR t (withinB fish 1 40) ≠ 0 ∧ SpanPost (errR t (withinB fish 1 40)) 0 0 w e w') ∨
  (errR t (withinB fish 1 40) = 0 ∧ ∃ r1 r2, IsFirst t.T.toNat (enHi t fish) r1 ∧ IsFirst t.T.toNat (enLo t fish) r2 ∧ SpanPost (if r2 < 0 then 3 else 0) r1 r2 w e w')
theorem Enough1_all2 (fb tb bt : Nat) (C T fish : Int) (ov wv : Value) (M : Nat → Nat → Int) (w : World) (hfb : w.cell? ⟨fb, 0, none⟩ = some (.int .i64 fish))
    (hb : w.cell? ⟨bt, 0, none⟩ = some (.pointer (some ⟨tb, 0, none⟩))) (ht : TrapP w tb C T ov wv M) (hS : Safe M) (h1 : 1 ≤ T) (h2 : T ≤ 5) (h3 : 1 ≤ C) (h5 : C ≤ 4) :
    Calls Try.prog 81 #[.func (.func 82) #[] #[.pointer (some ⟨fb, 0, none⟩)], .pointer (some ⟨bt, 0, none⟩)] w fun e w' =>
      ∃ r, IsFirst T.toNat (fun i => decide (fish ≤ M (nd C i C) (nd C i (C - 1)))) r ∧ e = .returned (.int .i64 r) ∧ Bel w w' ∧ w'.cell? ⟨fb, 0, none⟩ = some (.int .i64 fish) ∧ w'.cell? ⟨bt, 0, none⟩ = some (.pointer (some ⟨tb, 0, none⟩)) ∧ TrapP w' tb C T ov wv M :=
  (Enough1_any2 fb tb bt C T fish ov wv M w hfb hb ht hS h1 h2 h3 h5).mono fun e w' ⟨r, h6, h7, h8⟩ => ⟨r, h6, h7, h8, h8.cell hfb, h8.cell hb, ht.bel h8⟩
theorem Enough1_all3 (fb tb bt : Nat) (C T fish : Int) (ov wv : Value) (M : Nat → Nat → Int) (w : World) (hfb : w.cell? ⟨fb, 0, none⟩ = some (.int .i64 fish))
    (hb : w.cell? ⟨bt, 0, none⟩ = some (.pointer (some ⟨tb, 0, none⟩))) (ht : TrapP w tb C T ov wv M) (hS : Safe M) (h1 : 1 ≤ T) (h2 : T ≤ 5) (h3 : 1 ≤ C) (h5 : C ≤ 4) :
    Calls Try.prog 81 #[.func (.func 83) #[] #[.pointer (some ⟨fb, 0, none⟩)], .pointer (some ⟨bt, 0, none⟩)] w fun e w' =>
      ∃ r, IsFirst T.toNat (fun i => decide (fish ≤ -(M (nd C i (C - 1)) (nd C i C)))) r ∧ e = .returned (.int .i64 r) ∧ Bel w w' ∧ w'.cell? ⟨fb, 0, none⟩ = some (.int .i64 fish) ∧ w'.cell? ⟨bt, 0, none⟩ = some (.pointer (some ⟨tb, 0, none⟩)) ∧ TrapP w' tb C T ov wv M :=
  (Enough1_any3 fb tb bt C T fish ov wv M w hfb hb ht hS h1 h2 h3 h5).mono fun e w' ⟨r, h6, h7, h8⟩ => ⟨r, h6, h7, h8, h8.cell hfb, h8.cell hb, ht.bel h8⟩
theorem Enough_any (t : CT) (v : Value) (fish : Int) (w : World) (hv : TrapAt w v t) :
    Calls Try.prog 32 #[v, .int .i64 fish] w (EnoughPost t fish w) := by
  have HV := Lib.hid hv
  obtain ⟨ov, wv, rfl, hrows, hwords⟩ := hv
  clear hrows hwords
  by_cases he : errR t (withinB fish 1 40) = 0
  · have HE := Lib.hid he
    obtain ⟨hex, hf⟩ := errR_exact he
    obtain ⟨f1, f2, f3, f4, _, _⟩ := hf
    have hS := hex.safe
    clear hex he
    have HP := Lib.hid (fun wz hz => open_ok t ov wv (withinB fish 1 40) wz hz HE.out)
    go_enter Try.func32, Try.ntmps32
    go_wp2
    refine wp_region_mixB (Plan.seq [0, 1] (.both 2 (.both 3 (Plan.seq [4, 5, 6, 1007, 1008, 9] .nil) 7 (Plan.seq [1003, 4, 5, 6, 1008, 9] .nil)) 7 (Plan.seq [1002, 1003, 4, 5, 6, 1008, 9] .nil))) (by kernel_rfl) (by kernel_rfl) (fun hcur => ?_)
    simp only [Plan.seq, Plan.fill, List.getD_cons_zero, List.getD_cons_succ, Nat.reduceLT, ↓reduceIte, Nat.reduceSub]
    apply mix_pure _ rfl
    · intro w' hw'
      have hcr := hw'.cells
      go_simp
      rfl
    intro K hK
    go_simp
    refine hK _ ?_
    clear hK K
    apply mix_pure _ rfl
    · intro w' hw'
      have hcr := hw'.cells
      go_simp
      rfl
    intro K hK
    go_simp
    refine hK _ ?_
    clear hK K
    refine mix_both ?_ ?_
    · refine mix_act rfl (fun K hK => ?_)
      go_simp
      refine (within_any _ _ _ _).mono ?_
      rintro e w' ⟨rfl, rfl⟩
      simp only []
      refine hK _ _ hcur (fun hcur => ?_)
      clear hK K
      refine mix_both ?_ ?_
      · refine mix_act rfl (fun K hK => ?_)
        go_simp
        refine (HP.out _ (HV.out.bel (by repeat (first | assumption | exact Bel.refl _ | refine Bel.drew ?_ | refine Bel.drewN ?_ _ | refine Bel.alloc ?_ _ | refine Bel.setCell ?_ (by simp <;> omega) _ | refine Bel.trans ?_ (by assumption))))).mono ?_
        rintro e w1 ⟨tb, rfl, htb, hT, hb⟩
        have hcr := hb.cells
        have hfr := hb.frozens
        have hz := hb.szle
        (try simp only [World.size_alloc, World.size_drew] at hz)
        have z0 : w.heap.size < w1.heap.size := by omega
        have z1 : w.heap.size + 1 < w1.heap.size := by omega
        have z2 : w.heap.size + 2 < w1.heap.size := by omega
        simp only []
        refine hK _ _ (hcur.trans hb) (fun hcur => ?_)
        clear hK K
        apply mix_pure _ rfl
        · intro w' hw'
          have hcr := hw'.cells
          go_simp
          rfl
        intro K hK
        go_simp
        refine hK _ ?_
        clear hK K
        apply mix_pure _ rfl
        · intro w' hw'
          have hcr := hw'.cells
          go_simp
          rfl
        intro K hK
        go_simp
        refine hK _ ?_
        clear hK K
        apply mix_pure _ rfl
        · intro w' hw'
          have hcr := hw'.cells
          go_simp
          rfl
        intro K hK
        go_simp
        refine hK _ ?_
        clear hK K
        refine mix_act rfl (fun K hK => ?_)
        go_simp
        refine hK _ _ (by repeat (first | assumption | exact Bel.refl _ | refine Bel.drew ?_ | refine Bel.drewN ?_ _ | refine Bel.alloc ?_ _ | refine Bel.setCell ?_ (by simp <;> omega) _ | refine Bel.trans ?_ (by assumption))) (fun hcur => ?_)
        clear hK K
        refine mix_act rfl (fun K hK => ?_)
        go_simp
        refine hK _ _ (by repeat (first | assumption | exact Bel.refl _ | refine Bel.drew ?_ | refine Bel.drewN ?_ _ | refine Bel.alloc ?_ _ | refine Bel.setCell ?_ (by simp <;> omega) _ | refine Bel.trans ?_ (by assumption))) (fun hcur => ?_)
        clear hK K
        apply mix_pure _ rfl
        · intro w' hw'
          have hcr := hw'.cells
          go_simp
          rfl
        intro K hK
        go_simp
        refine hK _ ?_
        clear hK K
        refine mix_nil ?_
        have HW1 : Hid (Bel w w1) := Lib.hid (by repeat (first | assumption | exact Bel.refl _ | refine Bel.drew ?_ | refine Bel.drewN ?_ _ | refine Bel.alloc ?_ _ | refine Bel.setCell ?_ (by simp <;> omega) _ | refine Bel.trans ?_ (by assumption)))
        go_wp2_with fail
        refine (Enough1_all2 (w.heap.size + 1) tb _ t.C t.T fish ov wv (setMat t (-1)) _ ?_ ?_ ?_ hS f3 f4 f1 f2).mono ?_
        · go_simp
        · go_simp
        · first
            | (refine hT.setOther (p := ⟨w.heap.size + 1 + 1 + 1, 0, none⟩) ?_ _
               show w.heap.size + 1 + 1 + 1 ≠ tb
               have := htb
               simp at this
               omega)
            | exact hT.bel (by repeat (first | assumption | exact Bel.refl _ | refine Bel.drew ?_ | refine Bel.drewN ?_ _ | refine Bel.alloc ?_ _ | refine Bel.setCell ?_ (by simp <;> omega) _ | refine Bel.trans ?_ (by assumption)))
        rintro e w2 ⟨r1, hr1, rfl, hb2, a2, b2, c2⟩
        have HR1 := Lib.hid hr1
        clear hr1
        go_wp2_with fail
        refine (Enough1_all3 (w.heap.size + 1) tb _ t.C t.T fish ov wv (setMat t (-1)) _ a2 b2 c2 hS f3 f4 f1 f2).mono ?_
        rintro e w3 ⟨r2, hr2, rfl, hb3, a3, b3, c3⟩
        have HR2 := Lib.hid hr2
        clear hr2
        have hcr2 := hb2.cells
        have hcr3 := hb3.cells
        have hfr2 := hb2.frozens
        have hfr3 := hb3.frozens
        have y1 : w.heap.size + 2 ≤ w1.heap.size := by omega
        have y2 : w.heap.size + 2 < w1.heap.size + 1 := by omega
        have y3 : w.heap.size + 2 < w2.heap.size := by have := hb2.szle; simp at this; omega
        have y4 : w.heap.size + 2 < w3.heap.size := by have := hb3.szle; omega
        have HBB := Lib.hid (show Bel w w3 by
          refine Bel.trans ?_ hb3
          refine Bel.trans ?_ hb2
          have := HW1.out
          exact (by repeat (first | assumption | exact Bel.refl _ | refine Bel.drew ?_ | refine Bel.drewN ?_ _ | refine Bel.alloc ?_ _ | refine Bel.setCell ?_ (by simp <;> omega) _ | refine Bel.trans ?_ (by assumption))))
        by_cases hneg : r2 < 0
        · have HN := Lib.hid hneg
          go_wp2
          refine bodyPost_ret (v := .tuple #[.agg #[.int .i64 0, .int .i64 0], .int .i64 3]) (by simp [results, Try.results32, go_sem, *]) rfl (.inr ⟨HE.out, r1, r2, HR1.out, HR2.out, ?_⟩)
          rw [if_pos HN.out]
          refine SpanPost.err (by omega) ?_
          have := HBB.out
          exact (by repeat (first | assumption | exact Bel.refl _ | refine Bel.drew ?_ | refine Bel.drewN ?_ _ | refine Bel.alloc ?_ _ | refine Bel.setCell ?_ (by simp <;> omega) _ | refine Bel.trans ?_ (by assumption)))
        · have HN := Lib.hid hneg
          go_wp2
          refine bodyPost_ret (v := .tuple #[.agg #[.int .i64 r1, .int .i64 r2], .int .i64 0]) (by simp [results, Try.results32, go_sem, *]) rfl (.inr ⟨HE.out, r1, r2, HR1.out, HR2.out, ?_⟩)
          rw [if_neg (by have := HN.out; omega)]
          refine SpanPost.ok rfl ?_
          have := HBB.out
          exact (by repeat (first | assumption | exact Bel.refl _ | refine Bel.drew ?_ | refine Bel.drewN ?_ _ | refine Bel.alloc ?_ _ | refine Bel.setCell ?_ (by simp <;> omega) _ | refine Bel.trans ?_ (by assumption)))
      · refine mix_act rfl (fun K hK => ?_)
        go_simp
        refine hK _ _ (by repeat (first | assumption | exact Bel.refl _ | refine Bel.drew ?_ | refine Bel.drewN ?_ _ | refine Bel.alloc ?_ _ | refine Bel.setCell ?_ (by simp <;> omega) _ | refine Bel.trans ?_ (by assumption))) (fun hcur => ?_)
        clear hK K
        refine mix_act rfl (fun K hK => ?_)
        go_simp
        refine (HP.out _ (HV.out.bel (by repeat (first | assumption | exact Bel.refl _ | refine Bel.drew ?_ | refine Bel.drewN ?_ _ | refine Bel.alloc ?_ _ | refine Bel.setCell ?_ (by simp <;> omega) _ | refine Bel.trans ?_ (by assumption))))).mono ?_
        rintro e w1 ⟨tb, rfl, htb, hT, hb⟩
        have hcr := hb.cells
        have hfr := hb.frozens
        have hz := hb.szle
        (try simp only [World.size_alloc, World.size_drew] at hz)
        have z0 : w.heap.size < w1.heap.size := by omega
        have z1 : w.heap.size + 1 < w1.heap.size := by omega
        have z2 : w.heap.size + 2 < w1.heap.size := by omega
        simp only []
        refine hK _ _ (hcur.trans hb) (fun hcur => ?_)
        clear hK K
        apply mix_pure _ rfl
        · intro w' hw'
          have hcr := hw'.cells
          go_simp
          rfl
        intro K hK
        go_simp
        refine hK _ ?_
        clear hK K
        apply mix_pure _ rfl
        · intro w' hw'
          have hcr := hw'.cells
          go_simp
          rfl
        intro K hK
        go_simp
        refine hK _ ?_
        clear hK K
        apply mix_pure _ rfl
        · intro w' hw'
          have hcr := hw'.cells
          go_simp
          rfl
        intro K hK
        go_simp
        refine hK _ ?_
        clear hK K
        refine mix_act rfl (fun K hK => ?_)
        go_simp
        refine hK _ _ (by repeat (first | assumption | exact Bel.refl _ | refine Bel.drew ?_ | refine Bel.drewN ?_ _ | refine Bel.alloc ?_ _ | refine Bel.setCell ?_ (by simp <;> omega) _ | refine Bel.trans ?_ (by assumption))) (fun hcur => ?_)
        clear hK K
        apply mix_pure _ rfl
        · intro w' hw'
          have hcr := hw'.cells
          go_simp
          rfl
        intro K hK
        go_simp
        refine hK _ ?_
        clear hK K
        refine mix_nil ?_
        have HW1 : Hid (Bel w w1) := Lib.hid (by repeat (first | assumption | exact Bel.refl _ | refine Bel.drew ?_ | refine Bel.drewN ?_ _ | refine Bel.alloc ?_ _ | refine Bel.setCell ?_ (by simp <;> omega) _ | refine Bel.trans ?_ (by assumption)))
        go_wp2_with fail
        refine (Enough1_all2 (w.heap.size + 1) tb _ t.C t.T fish ov wv (setMat t (-1)) _ ?_ ?_ ?_ hS f3 f4 f1 f2).mono ?_
        · go_simp
        · go_simp
        · first
            | (refine hT.setOther (p := ⟨w.heap.size + 1 + 1 + 1, 0, none⟩) ?_ _
               show w.heap.size + 1 + 1 + 1 ≠ tb
               have := htb
               simp at this
               omega)
            | exact hT.bel (by repeat (first | assumption | exact Bel.refl _ | refine Bel.drew ?_ | refine Bel.drewN ?_ _ | refine Bel.alloc ?_ _ | refine Bel.setCell ?_ (by simp <;> omega) _ | refine Bel.trans ?_ (by assumption)))
        rintro e w2 ⟨r1, hr1, rfl, hb2, a2, b2, c2⟩
        have HR1 := Lib.hid hr1
        clear hr1
        go_wp2_with fail
        refine (Enough1_all3 (w.heap.size + 1) tb _ t.C t.T fish ov wv (setMat t (-1)) _ a2 b2 c2 hS f3 f4 f1 f2).mono ?_
        rintro e w3 ⟨r2, hr2, rfl, hb3, a3, b3, c3⟩
        have HR2 := Lib.hid hr2
        clear hr2
        have hcr2 := hb2.cells
        have hcr3 := hb3.cells
        have hfr2 := hb2.frozens
        have hfr3 := hb3.frozens
        have y1 : w.heap.size + 2 ≤ w1.heap.size := by omega
        have y2 : w.heap.size + 2 < w1.heap.size + 1 := by omega
        have y3 : w.heap.size + 2 < w2.heap.size := by have := hb2.szle; simp at this; omega
        have y4 : w.heap.size + 2 < w3.heap.size := by have := hb3.szle; omega
        have HBB := Lib.hid (show Bel w w3 by
          refine Bel.trans ?_ hb3
          refine Bel.trans ?_ hb2
          have := HW1.out
          exact (by repeat (first | assumption | exact Bel.refl _ | refine Bel.drew ?_ | refine Bel.drewN ?_ _ | refine Bel.alloc ?_ _ | refine Bel.setCell ?_ (by simp <;> omega) _ | refine Bel.trans ?_ (by assumption))))
        by_cases hneg : r2 < 0
        · have HN := Lib.hid hneg
          go_wp2
          refine bodyPost_ret (v := .tuple #[.agg #[.int .i64 0, .int .i64 0], .int .i64 3]) (by simp [results, Try.results32, go_sem, *]) rfl (.inr ⟨HE.out, r1, r2, HR1.out, HR2.out, ?_⟩)
          rw [if_pos HN.out]
          refine SpanPost.err (by omega) ?_
          have := HBB.out
          exact (by repeat (first | assumption | exact Bel.refl _ | refine Bel.drew ?_ | refine Bel.drewN ?_ _ | refine Bel.alloc ?_ _ | refine Bel.setCell ?_ (by simp <;> omega) _ | refine Bel.trans ?_ (by assumption)))
        · have HN := Lib.hid hneg
          go_wp2
          refine bodyPost_ret (v := .tuple #[.agg #[.int .i64 r1, .int .i64 r2], .int .i64 0]) (by simp [results, Try.results32, go_sem, *]) rfl (.inr ⟨HE.out, r1, r2, HR1.out, HR2.out, ?_⟩)
          rw [if_neg (by have := HN.out; omega)]
          refine SpanPost.ok rfl ?_
          have := HBB.out
          exact (by repeat (first | assumption | exact Bel.refl _ | refine Bel.drew ?_ | refine Bel.drewN ?_ _ | refine Bel.alloc ?_ _ | refine Bel.setCell ?_ (by simp <;> omega) _ | refine Bel.trans ?_ (by assumption)))
    · refine mix_act rfl (fun K hK => ?_)
      go_simp
      refine hK _ _ (by repeat (first | assumption | exact Bel.refl _ | refine Bel.drew ?_ | refine Bel.drewN ?_ _ | refine Bel.alloc ?_ _ | refine Bel.setCell ?_ (by simp <;> omega) _ | refine Bel.trans ?_ (by assumption))) (fun hcur => ?_)
      clear hK K
      refine mix_act rfl (fun K hK => ?_)
      go_simp
      refine (within_any _ _ _ _).mono ?_
      rintro e w' ⟨rfl, rfl⟩
      simp only []
      refine hK _ _ hcur (fun hcur => ?_)
      clear hK K
      refine mix_act rfl (fun K hK => ?_)
      go_simp
      refine (HP.out _ (HV.out.bel (by repeat (first | assumption | exact Bel.refl _ | refine Bel.drew ?_ | refine Bel.drewN ?_ _ | refine Bel.alloc ?_ _ | refine Bel.setCell ?_ (by simp <;> omega) _ | refine Bel.trans ?_ (by assumption))))).mono ?_
      rintro e w1 ⟨tb, rfl, htb, hT, hb⟩
      have hcr := hb.cells
      have hfr := hb.frozens
      have hz := hb.szle
      (try simp only [World.size_alloc, World.size_drew] at hz)
      have z0 : w.heap.size < w1.heap.size := by omega
      have z1 : w.heap.size + 1 < w1.heap.size := by omega
      have z2 : w.heap.size + 2 < w1.heap.size := by omega
      simp only []
      refine hK _ _ (hcur.trans hb) (fun hcur => ?_)
      clear hK K
      apply mix_pure _ rfl
      · intro w' hw'
        have hcr := hw'.cells
        go_simp
        rfl
      intro K hK
      go_simp
      refine hK _ ?_
      clear hK K
      apply mix_pure _ rfl
      · intro w' hw'
        have hcr := hw'.cells
        go_simp
        rfl
      intro K hK
      go_simp
      refine hK _ ?_
      clear hK K
      apply mix_pure _ rfl
      · intro w' hw'
        have hcr := hw'.cells
        go_simp
        rfl
      intro K hK
      go_simp
      refine hK _ ?_
      clear hK K
      refine mix_act rfl (fun K hK => ?_)
      go_simp
      refine hK _ _ (by repeat (first | assumption | exact Bel.refl _ | refine Bel.drew ?_ | refine Bel.drewN ?_ _ | refine Bel.alloc ?_ _ | refine Bel.setCell ?_ (by simp <;> omega) _ | refine Bel.trans ?_ (by assumption))) (fun hcur => ?_)
      clear hK K
      apply mix_pure _ rfl
      · intro w' hw'
        have hcr := hw'.cells
        go_simp
        rfl
      intro K hK
      go_simp
      refine hK _ ?_
      clear hK K
      refine mix_nil ?_
      have HW1 : Hid (Bel w w1) := Lib.hid (by repeat (first | assumption | exact Bel.refl _ | refine Bel.drew ?_ | refine Bel.drewN ?_ _ | refine Bel.alloc ?_ _ | refine Bel.setCell ?_ (by simp <;> omega) _ | refine Bel.trans ?_ (by assumption)))
      go_wp2_with fail
      refine (Enough1_all2 (w.heap.size + 1) tb _ t.C t.T fish ov wv (setMat t (-1)) _ ?_ ?_ ?_ hS f3 f4 f1 f2).mono ?_
      · go_simp
      · go_simp
      · first
          | (refine hT.setOther (p := ⟨w.heap.size + 1 + 1 + 1, 0, none⟩) ?_ _
             show w.heap.size + 1 + 1 + 1 ≠ tb
             have := htb
             simp at this
             omega)
          | exact hT.bel (by repeat (first | assumption | exact Bel.refl _ | refine Bel.drew ?_ | refine Bel.drewN ?_ _ | refine Bel.alloc ?_ _ | refine Bel.setCell ?_ (by simp <;> omega) _ | refine Bel.trans ?_ (by assumption)))
      rintro e w2 ⟨r1, hr1, rfl, hb2, a2, b2, c2⟩
      have HR1 := Lib.hid hr1
      clear hr1
      go_wp2_with fail
      refine (Enough1_all3 (w.heap.size + 1) tb _ t.C t.T fish ov wv (setMat t (-1)) _ a2 b2 c2 hS f3 f4 f1 f2).mono ?_
      rintro e w3 ⟨r2, hr2, rfl, hb3, a3, b3, c3⟩
      have HR2 := Lib.hid hr2
      clear hr2
      have hcr2 := hb2.cells
      have hcr3 := hb3.cells
      have hfr2 := hb2.frozens
      have hfr3 := hb3.frozens
      have y1 : w.heap.size + 2 ≤ w1.heap.size := by omega
      have y2 : w.heap.size + 2 < w1.heap.size + 1 := by omega
      have y3 : w.heap.size + 2 < w2.heap.size := by have := hb2.szle; simp at this; omega
      have y4 : w.heap.size + 2 < w3.heap.size := by have := hb3.szle; omega
      have HBB := Lib.hid (show Bel w w3 by
        refine Bel.trans ?_ hb3
        refine Bel.trans ?_ hb2
        have := HW1.out
        exact (by repeat (first | assumption | exact Bel.refl _ | refine Bel.drew ?_ | refine Bel.drewN ?_ _ | refine Bel.alloc ?_ _ | refine Bel.setCell ?_ (by simp <;> omega) _ | refine Bel.trans ?_ (by assumption))))
      by_cases hneg : r2 < 0
      · have HN := Lib.hid hneg
        go_wp2
        refine bodyPost_ret (v := .tuple #[.agg #[.int .i64 0, .int .i64 0], .int .i64 3]) (by simp [results, Try.results32, go_sem, *]) rfl (.inr ⟨HE.out, r1, r2, HR1.out, HR2.out, ?_⟩)
        rw [if_pos HN.out]
        refine SpanPost.err (by omega) ?_
        have := HBB.out
        exact (by repeat (first | assumption | exact Bel.refl _ | refine Bel.drew ?_ | refine Bel.drewN ?_ _ | refine Bel.alloc ?_ _ | refine Bel.setCell ?_ (by simp <;> omega) _ | refine Bel.trans ?_ (by assumption)))
      · have HN := Lib.hid hneg
        go_wp2
        refine bodyPost_ret (v := .tuple #[.agg #[.int .i64 r1, .int .i64 r2], .int .i64 0]) (by simp [results, Try.results32, go_sem, *]) rfl (.inr ⟨HE.out, r1, r2, HR1.out, HR2.out, ?_⟩)
        rw [if_neg (by have := HN.out; omega)]
        refine SpanPost.ok rfl ?_
        have := HBB.out
        exact (by repeat (first | assumption | exact Bel.refl _ | refine Bel.drew ?_ | refine Bel.drewN ?_ _ | refine Bel.alloc ?_ _ | refine Bel.setCell ?_ (by simp <;> omega) _ | refine Bel.trans ?_ (by assumption)))
  · have hne : (errR t (withinB fish 1 40) != 0) = true := by rw [bne_iff_ne]; exact he
    have HE := Lib.hid he
    have HP := Lib.hid (fun wz hz => open_err t ov wv (withinB fish 1 40) wz hz HE.out)
    clear he
    go_enter Try.func32, Try.ntmps32
    go_wp2
    refine wp_region_mixB (Plan.seq [0, 1] (.both 2 (.both 3 (Plan.seq [4, 5, 6, 1007, 1008, 9] .nil) 7 (Plan.seq [1003, 4, 5, 6, 1008, 9] .nil)) 7 (Plan.seq [1002, 1003, 4, 5, 6, 1008, 9] .nil))) (by kernel_rfl) (by kernel_rfl) (fun hcur => ?_)
    simp only [Plan.seq, Plan.fill, List.getD_cons_zero, List.getD_cons_succ, Nat.reduceLT, ↓reduceIte, Nat.reduceSub]
    apply mix_pure _ rfl
    · intro w' hw'
      have hcr := hw'.cells
      go_simp
      rfl
    intro K hK
    go_simp
    refine hK _ ?_
    clear hK K
    apply mix_pure _ rfl
    · intro w' hw'
      have hcr := hw'.cells
      go_simp
      rfl
    intro K hK
    go_simp
    refine hK _ ?_
    clear hK K
    refine mix_both ?_ ?_
    · refine mix_act rfl (fun K hK => ?_)
      go_simp
      refine (within_any _ _ _ _).mono ?_
      rintro e w' ⟨rfl, rfl⟩
      simp only []
      refine hK _ _ hcur (fun hcur => ?_)
      clear hK K
      refine mix_both ?_ ?_
      · refine mix_act rfl (fun K hK => ?_)
        go_simp
        refine (HP.out _ (HV.out.bel (by repeat (first | assumption | exact Bel.refl _ | refine Bel.drew ?_ | refine Bel.drewN ?_ _ | refine Bel.alloc ?_ _ | refine Bel.setCell ?_ (by simp <;> omega) _ | refine Bel.trans ?_ (by assumption))))).mono ?_
        rintro e w1 ⟨rfl, hb⟩
        have hcr := hb.cells
        have hfr := hb.frozens
        have hz := hb.szle
        (try simp only [World.size_alloc, World.size_drew] at hz)
        have z0 : w.heap.size < w1.heap.size := by omega
        have z1 : w.heap.size + 1 < w1.heap.size := by omega
        have z2 : w.heap.size + 2 < w1.heap.size := by omega
        simp only []
        refine hK _ _ (hcur.trans hb) (fun hcur => ?_)
        clear hK K
        apply mix_pure _ rfl
        · intro w' hw'
          have hcr := hw'.cells
          go_simp
          rfl
        intro K hK
        go_simp
        refine hK _ ?_
        clear hK K
        apply mix_pure _ rfl
        · intro w' hw'
          have hcr := hw'.cells
          go_simp
          rfl
        intro K hK
        go_simp
        refine hK _ ?_
        clear hK K
        apply mix_pure _ rfl
        · intro w' hw'
          have hcr := hw'.cells
          go_simp
          rfl
        intro K hK
        go_simp
        refine hK _ ?_
        clear hK K
        refine mix_act rfl (fun K hK => ?_)
        go_simp
        refine hK _ _ (by repeat (first | assumption | exact Bel.refl _ | refine Bel.drew ?_ | refine Bel.drewN ?_ _ | refine Bel.alloc ?_ _ | refine Bel.setCell ?_ (by simp <;> omega) _ | refine Bel.trans ?_ (by assumption))) (fun hcur => ?_)
        clear hK K
        refine mix_act rfl (fun K hK => ?_)
        go_simp
        refine hK _ _ (by repeat (first | assumption | exact Bel.refl _ | refine Bel.drew ?_ | refine Bel.drewN ?_ _ | refine Bel.alloc ?_ _ | refine Bel.setCell ?_ (by simp <;> omega) _ | refine Bel.trans ?_ (by assumption))) (fun hcur => ?_)
        clear hK K
        apply mix_pure _ rfl
        · intro w' hw'
          have hcr := hw'.cells
          go_simp
          rfl
        intro K hK
        go_simp
        refine hK _ ?_
        clear hK K
        refine mix_nil ?_
        go_wp2
        refine bodyPost_ret (v := .tuple #[.agg #[.int .i64 0, .int .i64 0], .int .i64 (errR t (withinB fish 1 40))]) (by simp [results, Try.results32, go_sem, *]) rfl (.inl ⟨HE.out, SpanPost.err HE.out (by repeat (first | assumption | exact Bel.refl _ | refine Bel.drew ?_ | refine Bel.drewN ?_ _ | refine Bel.alloc ?_ _ | refine Bel.setCell ?_ (by simp <;> omega) _ | refine Bel.trans ?_ (by assumption)))⟩)
      · refine mix_act rfl (fun K hK => ?_)
        go_simp
        refine hK _ _ (by repeat (first | assumption | exact Bel.refl _ | refine Bel.drew ?_ | refine Bel.drewN ?_ _ | refine Bel.alloc ?_ _ | refine Bel.setCell ?_ (by simp <;> omega) _ | refine Bel.trans ?_ (by assumption))) (fun hcur => ?_)
        clear hK K
        refine mix_act rfl (fun K hK => ?_)
        go_simp
        refine (HP.out _ (HV.out.bel (by repeat (first | assumption | exact Bel.refl _ | refine Bel.drew ?_ | refine Bel.drewN ?_ _ | refine Bel.alloc ?_ _ | refine Bel.setCell ?_ (by simp <;> omega) _ | refine Bel.trans ?_ (by assumption))))).mono ?_
        rintro e w1 ⟨rfl, hb⟩
        have hcr := hb.cells
        have hfr := hb.frozens
        have hz := hb.szle
        (try simp only [World.size_alloc, World.size_drew] at hz)
        have z0 : w.heap.size < w1.heap.size := by omega
        have z1 : w.heap.size + 1 < w1.heap.size := by omega
        have z2 : w.heap.size + 2 < w1.heap.size := by omega
        simp only []
        refine hK _ _ (hcur.trans hb) (fun hcur => ?_)
        clear hK K
        apply mix_pure _ rfl
        · intro w' hw'
          have hcr := hw'.cells
          go_simp
          rfl
        intro K hK
        go_simp
        refine hK _ ?_
        clear hK K
        apply mix_pure _ rfl
        · intro w' hw'
          have hcr := hw'.cells
          go_simp
          rfl
        intro K hK
        go_simp
        refine hK _ ?_
        clear hK K
        apply mix_pure _ rfl
        · intro w' hw'
          have hcr := hw'.cells
          go_simp
          rfl
        intro K hK
        go_simp
        refine hK _ ?_
        clear hK K
        refine mix_act rfl (fun K hK => ?_)
        go_simp
        refine hK _ _ (by repeat (first | assumption | exact Bel.refl _ | refine Bel.drew ?_ | refine Bel.drewN ?_ _ | refine Bel.alloc ?_ _ | refine Bel.setCell ?_ (by simp <;> omega) _ | refine Bel.trans ?_ (by assumption))) (fun hcur => ?_)
        clear hK K
        apply mix_pure _ rfl
        · intro w' hw'
          have hcr := hw'.cells
          go_simp
          rfl
        intro K hK
        go_simp
        refine hK _ ?_
        clear hK K
        refine mix_nil ?_
        go_wp2
        refine bodyPost_ret (v := .tuple #[.agg #[.int .i64 0, .int .i64 0], .int .i64 (errR t (withinB fish 1 40))]) (by simp [results, Try.results32, go_sem, *]) rfl (.inl ⟨HE.out, SpanPost.err HE.out (by repeat (first | assumption | exact Bel.refl _ | refine Bel.drew ?_ | refine Bel.drewN ?_ _ | refine Bel.alloc ?_ _ | refine Bel.setCell ?_ (by simp <;> omega) _ | refine Bel.trans ?_ (by assumption)))⟩)
    · refine mix_act rfl (fun K hK => ?_)
      go_simp
      refine hK _ _ (by repeat (first | assumption | exact Bel.refl _ | refine Bel.drew ?_ | refine Bel.drewN ?_ _ | refine Bel.alloc ?_ _ | refine Bel.setCell ?_ (by simp <;> omega) _ | refine Bel.trans ?_ (by assumption))) (fun hcur => ?_)
      clear hK K
      refine mix_act rfl (fun K hK => ?_)
      go_simp
      refine (within_any _ _ _ _).mono ?_
      rintro e w' ⟨rfl, rfl⟩
      simp only []
      refine hK _ _ hcur (fun hcur => ?_)
      clear hK K
      refine mix_act rfl (fun K hK => ?_)
      go_simp
      refine (HP.out _ (HV.out.bel (by repeat (first | assumption | exact Bel.refl _ | refine Bel.drew ?_ | refine Bel.drewN ?_ _ | refine Bel.alloc ?_ _ | refine Bel.setCell ?_ (by simp <;> omega) _ | refine Bel.trans ?_ (by assumption))))).mono ?_
      rintro e w1 ⟨rfl, hb⟩
      have hcr := hb.cells
      have hfr := hb.frozens
      have hz := hb.szle
      (try simp only [World.size_alloc, World.size_drew] at hz)
      have z0 : w.heap.size < w1.heap.size := by omega
      have z1 : w.heap.size + 1 < w1.heap.size := by omega
      have z2 : w.heap.size + 2 < w1.heap.size := by omega
      simp only []
      refine hK _ _ (hcur.trans hb) (fun hcur => ?_)
      clear hK K
      apply mix_pure _ rfl
      · intro w' hw'
        have hcr := hw'.cells
        go_simp
        rfl
      intro K hK
      go_simp
      refine hK _ ?_
      clear hK K
      apply mix_pure _ rfl
      · intro w' hw'
        have hcr := hw'.cells
        go_simp
        rfl
      intro K hK
      go_simp
      refine hK _ ?_
      clear hK K
      apply mix_pure _ rfl
      · intro w' hw'
        have hcr := hw'.cells
        go_simp
        rfl
      intro K hK
      go_simp
      refine hK _ ?_
      clear hK K
      refine mix_act rfl (fun K hK => ?_)
      go_simp
      refine hK _ _ (by repeat (first | assumption | exact Bel.refl _ | refine Bel.drew ?_ | refine Bel.drewN ?_ _ | refine Bel.alloc ?_ _ | refine Bel.setCell ?_ (by simp <;> omega) _ | refine Bel.trans ?_ (by assumption))) (fun hcur => ?_)
      clear hK K
      apply mix_pure _ rfl
      · intro w' hw'
        have hcr := hw'.cells
        go_simp
        rfl
      intro K hK
      go_simp
      refine hK _ ?_
      clear hK K
      refine mix_nil ?_
      go_wp2
      refine bodyPost_ret (v := .tuple #[.agg #[.int .i64 0, .int .i64 0], .int .i64 (errR t (withinB fish 1 40))]) (by simp [results, Try.results32, go_sem, *]) rfl (.inl ⟨HE.out, SpanPost.err HE.out (by repeat (first | assumption | exact Bel.refl _ | refine Bel.drew ?_ | refine Bel.drewN ?_ _ | refine Bel.alloc ?_ _ | refine Bel.setCell ?_ (by simp <;> omega) _ | refine Bel.trans ?_ (by assumption)))⟩)
end Go.Proofs.Ytoiajjdhgffdaaa
