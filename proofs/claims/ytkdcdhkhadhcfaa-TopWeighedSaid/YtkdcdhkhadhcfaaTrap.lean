/-
  counts: a trap at work: its nodes, what is between two of them, whether there is a clash, and how words are added.
-/
import Derived.Test.YtkdcdhkhadhcfaaLimit
import Derived.Test.YtkdcdhkhadhcfaaRef2
namespace Go.Proofs.Ytkdcdhkhadhcfaa
open Go Go.RowKit
/-- The number of a node. -/
def nd (C time chamber : Int) : Nat := if chamber = C then 0 else (1 + time * C + chamber).toNat
theorem nd_val {C time chamber : Int} (h1 : 0 ≤ time) (h2 : time ≤ 4) (h3 : 0 ≤ chamber) (h4 : chamber ≤ C) (h5 : C ≤ 4) :
    nd C time chamber < 21 ∧ (chamber ≠ C → (nd C time chamber : Int) = 1 + time * C + chamber) := by
  unfold nd
  split
  · exact ⟨by omega, fun h => absurd ‹_› h⟩
  · have e : 0 ≤ time * C := Int.mul_nonneg h1 (by omega)
    have e2 : time * C ≤ 4 * 4 := by
      have := Int.mul_le_mul h2 h5 (by omega) (by omega)
      omega
    exact ⟨by omega, fun _ => by omega⟩

/-- The block of a trap at work. -/
structure TrapP (w : World) (tb : Nat) (C T : Int) (ov wv : Value) (M : Nat → Nat → Int) : Prop where
  c0 : w.cell? ⟨tb, 0, none⟩ = some (.int .i64 C)
  c1 : w.cell? ⟨tb, 1, none⟩ = some (.int .i64 T)
  c2 : w.cell? ⟨tb, 2, none⟩ = some ov
  c3 : w.cell? ⟨tb, 3, none⟩ = some wv
  mat : MatAt w tb 4 M
  fz : ∀ o, w.frozen? ⟨tb, o, none⟩ = false
  shape : ∃ cs, w.heap[tb]? = some (.cells cs 153 (0, 0)) ∧ cs.size = 445
theorem TrapP.lt {w : World} {tb : Nat} {C T : Int} {ov wv : Value} {M : Nat → Nat → Int} (h : TrapP w tb C T ov wv M) : tb < w.heap.size := cell_lt h.c0
theorem TrapP.bel {w w' : World} {tb : Nat} {C T : Int} {ov wv : Value} {M : Nat → Nat → Int} (h : TrapP w tb C T ov wv M) (k : Bel w w') : TrapP w' tb C T ov wv M :=
  ⟨k.cell h.c0, k.cell h.c1, k.cell h.c2, k.cell h.c3, h.mat.bel k, fun o => by rw [k.frozens _ h.lt]; exact h.fz o, by rw [k.below.block tb h.lt]; exact h.shape⟩
theorem TrapP.turn {w w' : World} {tb : Nat} {C T : Int} {ov wv : Value} {M M' : Nat → Nat → Int} (h : TrapP w tb C T ov wv M) (k : Turn tb 4 445 w w') (hm : MatAt w' tb 4 M') : TrapP w' tb C T ov wv M' :=
  ⟨by rw [k.cell _ h.lt (by omega)]; exact h.c0, by rw [k.cell _ h.lt (by omega)]; exact h.c1, by rw [k.cell _ h.lt (by omega)]; exact h.c2,
    by rw [k.cell _ h.lt (by omega)]; exact h.c3, hm, fun o => by rw [k.frozen _ h.lt]; exact h.fz o, by
      obtain ⟨cs, h1, h2⟩ := h.shape
      obtain ⟨c2, h3, h4⟩ := k.shape h.lt cs _ _ h1
      exact ⟨c2, h3, h4.trans h2⟩⟩

set_option maxHeartbeats 400000
set_option maxRecDepth 100000
theorem node_any (tb : Nat) (C T time chamber : Int) (ov wv : Value) (M : Nat → Nat → Int) (w : World) (ht : TrapP w tb C T ov wv M)
    (h1 : 0 ≤ time) (h2 : time ≤ 4) (h3 : 0 ≤ chamber) (h4 : chamber ≤ C) (h5 : C ≤ 4) :
    Calls Try.prog 105 #[.pointer (some ⟨tb, 0, none⟩), .int .i64 time, .int .i64 chamber] w fun e w' => e = .returned (.int .i64 (nd C time chamber)) ∧ w = w' := by
  have c0 := ht.c0
  clear ht
  by_cases he : chamber = C
  · have HE := Lib.hid he
    have hb : (chamber == C) = true := by simp [he]
    clear he
    go_enter Try.func105, Try.ntmps105
    go_wp2
    go_ret
    exact ⟨ri (by unfold nd; rw [if_pos HE.out]; rfl), rfl⟩
  · have HN := Lib.hid (nd_val h1 h2 h3 h4 h5).2
    have HE := Lib.hid he
    have hb : (chamber == C) = false := by simpa using he
    have e : 0 ≤ time * C := Int.mul_nonneg h1 (by omega)
    have e2 : time * C ≤ 4 * 4 := by
      have := Int.mul_le_mul h2 h5 (by omega) (by omega)
      omega
    clear he
    have w1 : IntKind.i64.wrap (time * C) = time * C := IntWalk.i64_in _ (by omega)
    have w2 : IntKind.i64.wrap (1 + time * C) = 1 + time * C := IntWalk.i64_in _ (by omega)
    have w3 : IntKind.i64.wrap (1 + time * C + chamber) = 1 + time * C + chamber := IntWalk.i64_in _ (by omega)
    go_enter Try.func105, Try.ntmps105
    go_wp2
    go_ret
    exact ⟨ri (HN.out HE.out), rfl⟩
theorem between_any (b off f t : Nat) (M : Nat → Nat → Int) (w : World) (hf : f < 21) (ht : t < 21) (hS : Safe M) (hM : MatAt w b off M) :
    Calls Try.prog 104 #[.pointer (some ⟨b, off, none⟩), .int .i64 f, .int .i64 t] w fun e w' =>
      e = .returned (.agg #[.int .i64 (-(M t f)), .int .i64 (M f t)]) ∧ Bel w w' := by
  have hfi : (f : Int) < 21 := by omega
  have hti : (t : Int) < 21 := by omega
  have a1 := hM f hf t ht
  have a2 := hM t ht f hf
  obtain ⟨b1, b2⟩ := hS t f
  have w1 : IntKind.i64.wrap (-(M t f)) = -(M t f) := IntWalk.i64_in _ (by omega)
  have hlt : b < w.heap.size := cell_lt a1
  clear hS hM
  go_enter Try.func104, Try.ntmps104
  go_wp2
  refine wp_region_mixTB (Plan.seq [0, 1, 2, 3, 4, 5, 6, 7, 8, 9, 10, 11, 12, 13, 14, 15] .nil) (by kernel_rfl) (by kernel_rfl) (fun hcur => ?_)
  simp only [Plan.seq, Plan.fill, List.getD_cons_zero, List.getD_cons_succ, Nat.reduceLT, ↓reduceIte]
  apply mix_pure _ rfl
  · intro w' hw'
    have hcr := hw'.cells
    go_simp
    rfl
  intro K hK
  go_simp
  refine hK _ ?_
  clear hK K
  apply mix_pure _ rfl
  · intro w' hw'
    have hcr := hw'.cells
    go_simp
    rfl
  intro K hK
  go_simp
  refine hK _ ?_
  clear hK K
  apply mix_pure _ rfl
  · intro w' hw'
    have hcr := hw'.cells
    go_simp
    rfl
  intro K hK
  go_simp
  refine hK _ ?_
  clear hK K
  apply mix_pure _ rfl
  · intro w' hw'
    have hcr := hw'.cells
    go_simp
    rfl
  intro K hK
  go_simp
  refine hK _ ?_
  clear hK K
  apply mix_pure _ rfl
  · intro w' hw'
    have hcr := hw'.cells
    go_simp
    rfl
  intro K hK
  go_simp
  refine hK _ ?_
  clear hK K
  apply mix_pure _ rfl
  · intro w' hw'
    have hcr := hw'.cells
    go_simp
    rfl
  intro K hK
  go_simp
  refine hK _ ?_
  clear hK K
  apply mix_pure _ rfl
  · intro w' hw'
    have hcr := hw'.cells
    go_simp
    rfl
  intro K hK
  go_simp
  refine hK _ ?_
  clear hK K
  apply mix_pure _ rfl
  · intro w' hw'
    have hcr := hw'.cells
    go_simp
    first | (rw [IntWalk.i64_in]; all_goals first | omega | rfl) | rfl
  intro K hK
  go_simp
  refine hK _ ?_
  clear hK K
  apply mix_pure _ rfl
  · intro w' hw'
    have hcr := hw'.cells
    go_simp
    rfl
  intro K hK
  go_simp
  refine hK _ ?_
  clear hK K
  apply mix_pure _ rfl
  · intro w' hw'
    have hcr := hw'.cells
    go_simp
    rfl
  intro K hK
  go_simp
  refine hK _ ?_
  clear hK K
  apply mix_pure _ rfl
  · intro w' hw'
    have hcr := hw'.cells
    go_simp
    rfl
  intro K hK
  go_simp
  refine hK _ ?_
  clear hK K
  apply mix_pure _ rfl
  · intro w' hw'
    have hcr := hw'.cells
    go_simp
    rfl
  intro K hK
  go_simp
  refine hK _ ?_
  clear hK K
  apply mix_pure _ rfl
  · intro w' hw'
    have hcr := hw'.cells
    go_simp
    rfl
  intro K hK
  go_simp
  refine hK _ ?_
  clear hK K
  apply mix_pure _ rfl
  · intro w' hw'
    have hcr := hw'.cells
    go_simp
    rfl
  intro K hK
  go_simp
  refine hK _ ?_
  clear hK K
  apply mix_pure _ rfl
  · intro w' hw'
    have hcr := hw'.cells
    go_simp
    rfl
  intro K hK
  go_simp
  refine hK _ ?_
  clear hK K
  apply mix_pure _ rfl
  · intro w' hw'
    have hcr := hw'.cells
    go_simp
    rfl
  intro K hK
  go_simp
  refine hK _ ?_
  clear hK K
  refine mix_tailK rfl (fun K hK => ?_)
  go_simp
  refine hK _ _ ?_
  clear hK K
  go_wp2
  exact bodyPost_ret (v := .agg #[.int .i64 (-(M t f)), .int .i64 (M f t)]) (by simp [results, Try.results104, go_sem]) rfl ⟨rfl, (by repeat (first | assumption | exact Bel.refl _ | refine Bel.drew ?_ | refine Bel.drewN ?_ _ | refine Bel.alloc ?_ _ | refine Bel.setCell ?_ (by simp <;> omega) _ | refine Bel.trans ?_ (by assumption)))⟩
theorem tfish_any (tb : Nat) (C T time chamber : Int) (ov wv : Value) (M : Nat → Nat → Int) (w : World) (ht : TrapP w tb C T ov wv M) (hS : Safe M)
    (h1 : 0 ≤ time) (h2 : time ≤ 4) (h3 : 0 ≤ chamber) (h4 : chamber < C) (h5 : C ≤ 4) :
    Calls Try.prog 78 #[.pointer (some ⟨tb, 0, none⟩), .int .i64 time, .int .i64 chamber] w fun e w' =>
      e = .returned (.agg #[.int .i64 (-(M (nd C time chamber) (nd C time (chamber + 1)))), .int .i64 (M (nd C time (chamber + 1)) (nd C time chamber))]) ∧ Bel w w' := by
  have n1 := (nd_val (C := C) (chamber := chamber) h1 h2 h3 (by omega) h5).1
  have n2 := (nd_val (C := C) (chamber := chamber + 1) h1 h2 (by omega) (by omega) h5).1
  go_enter Try.func78, Try.ntmps78
  go_wp2
  refine wp_region_mixTB (Plan.seq [0, 1, 2, 3, 4, 5, 6, 8, 9, 10, 1007, 1011, 1012] .nil) (by kernel_rfl) (by kernel_rfl) (fun hcur => ?_)
  simp only [Plan.seq, Plan.fill, List.getD_cons_zero, List.getD_cons_succ, Nat.reduceLT, ↓reduceIte, Nat.reduceSub]
  apply mix_pure _ rfl
  · intro w' hw'
    have hcr := hw'.cells
    go_simp
    rfl
  intro K hK
  go_simp
  refine hK _ ?_
  clear hK K
  apply mix_pure _ rfl
  · intro w' hw'
    have hcr := hw'.cells
    go_simp
    rfl
  intro K hK
  go_simp
  refine hK _ ?_
  clear hK K
  apply mix_pure _ rfl
  · intro w' hw'
    have hcr := hw'.cells
    go_simp
    rfl
  intro K hK
  go_simp
  refine hK _ ?_
  clear hK K
  apply mix_pure _ rfl
  · intro w' hw'
    have hcr := hw'.cells
    go_simp
    rfl
  intro K hK
  go_simp
  refine hK _ ?_
  clear hK K
  apply mix_pure _ rfl
  · intro w' hw'
    have hcr := hw'.cells
    go_simp
    rfl
  intro K hK
  go_simp
  refine hK _ ?_
  clear hK K
  apply mix_pure _ rfl
  · intro w' hw'
    have hcr := hw'.cells
    go_simp
    rfl
  intro K hK
  go_simp
  refine hK _ ?_
  clear hK K
  apply mix_pure _ rfl
  · intro w' hw'
    have hcr := hw'.cells
    go_simp
    first | (rw [IntWalk.i64_in]; all_goals first | omega | rfl) | rfl
  intro K hK
  go_simp
  refine hK _ ?_
  clear hK K
  apply mix_pure _ rfl
  · intro w' hw'
    have hcr := hw'.cells
    go_simp
    rfl
  intro K hK
  go_simp
  refine hK _ ?_
  clear hK K
  apply mix_pure _ rfl
  · intro w' hw'
    have hcr := hw'.cells
    go_simp
    rfl
  intro K hK
  go_simp
  refine hK _ ?_
  clear hK K
  apply mix_pure _ rfl
  · intro w' hw'
    have hcr := hw'.cells
    go_simp
    rfl
  intro K hK
  go_simp
  refine hK _ ?_
  clear hK K
  refine mix_act rfl (fun K hK => ?_)
  go_simp
  refine (node_any _ _ _ _ _ _ _ _ _ (by first | assumption | exact TrapP.bel ‹_› (by repeat (first | assumption | exact Bel.refl _ | refine Bel.drew ?_ | refine Bel.drewN ?_ _ | refine Bel.alloc ?_ _ | refine Bel.setCell ?_ (by simp <;> omega) _ | refine Bel.trans ?_ (by assumption)))) (by omega) (by omega) (by omega) (by omega) (by omega)).mono ?_
  rintro e w' ⟨rfl, rfl⟩
  simp only []
  refine hK _ _ hcur (fun hcur => ?_)
  clear hK K
  refine mix_act rfl (fun K hK => ?_)
  go_simp
  refine (node_any _ _ _ _ _ _ _ _ _ (by first | assumption | exact TrapP.bel ‹_› (by repeat (first | assumption | exact Bel.refl _ | refine Bel.drew ?_ | refine Bel.drewN ?_ _ | refine Bel.alloc ?_ _ | refine Bel.setCell ?_ (by simp <;> omega) _ | refine Bel.trans ?_ (by assumption)))) (by omega) (by omega) (by omega) (by omega) (by omega)).mono ?_
  rintro e w' ⟨rfl, rfl⟩
  simp only []
  refine hK _ _ hcur (fun hcur => ?_)
  clear hK K
  refine mix_act rfl (fun K hK => ?_)
  go_simp
  refine (between_any _ _ _ _ _ _ (by assumption) (by assumption) ‹Safe _› (by first | assumption | exact MatAt.bel (TrapP.mat ‹_›) (by repeat (first | assumption | exact Bel.refl _ | refine Bel.drew ?_ | refine Bel.drewN ?_ _ | refine Bel.alloc ?_ _ | refine Bel.setCell ?_ (by simp <;> omega) _ | refine Bel.trans ?_ (by assumption))))).mono ?_
  rintro e w' ⟨rfl, hb⟩
  have hcr := hb.cells
  have hfr := hb.frozens
  have hz := hb.szle
  (try simp only [World.size_alloc, World.size_drew] at hz)
  have z0 : w.heap.size < w'.heap.size := (by omega)
  simp only []
  refine hK _ _ (hcur.trans hb) (fun hcur => ?_)
  clear hK K
  refine mix_tailK rfl (fun K hK => ?_)
  go_simp
  refine hK _ _ ?_
  clear hK K
  go_wp2
  exact bodyPost_ret (v := .agg #[.int .i64 (-(M (nd C time chamber) (nd C time (chamber + 1)))), .int .i64 (M (nd C time (chamber + 1)) (nd C time chamber))]) (by simp [results, Try.results78, go_sem, *]) rfl ⟨rfl, (by repeat (first | assumption | exact Bel.refl _ | refine Bel.drew ?_ | refine Bel.drewN ?_ _ | refine Bel.alloc ?_ _ | refine Bel.setCell ?_ (by simp <;> omega) _ | refine Bel.trans ?_ (by assumption)))⟩
/-- High less Low of the fish in the last chamber at the last time. -/
def dbt (C T : Int) (M : Nat → Nat → Int) : Int :=
  M (nd C (T - 1) C) (nd C (T - 1) (C - 1)) + M (nd C (T - 1) (C - 1)) (nd C (T - 1) C)
/-- Whether there is a clash. -/
def clashB (M : Nat → Nat → Int) : Bool := !(allB 21 fun i => !decide (M i i < 0))
theorem clash_any (b off : Nat) (M : Nat → Nat → Int) (w : World) (hM : MatAt w b off M) :
    Calls Try.prog 102 #[.pointer (some ⟨b, off, none⟩)] w fun e w' => e = .returned (.bool (clashB M)) ∧ w = w' := by
  go_enter Try.func102, Try.ntmps102
  go_wp2
  go_loop [4] (fun i => ∃ k : Nat, k ≤ 21 ∧ i = .int .i64 k ∧ Hid (allB k (fun i => !decide (M i i < 0)) = true)) (fun i => 21 - (intOf i).toNat)
  case atStart => exact ⟨0, by omega, rfl, rfl⟩
  case round =>
    obtain ⟨k, hk, rfl, hno⟩ := hrel
    by_cases hlt : k < 21
    · have hck := hM k hlt k hlt
      have hki : (k : Int) < 21 := by omega
      clear hM
      by_cases hneg : M k k < 0
      · have HI := Lib.hid (show clashB M = true by unfold clashB; rw [allB_false k hlt (by simp [hneg])]; rfl)
        generalize M k k = x at *
        go_wp2
        go_ret
        exact ⟨rb HI.out, rfl⟩
      · have HR := Lib.hid (allB_succ hno.out (f := fun i => !decide (M i i < 0)) (by simp; omega))
        generalize M k k = x at *
        go_wp2
        go_round
        case rel => exact ⟨k + 1, by omega, by go_num, HR⟩
        case measure => simp [intOf]; omega
    · have e : k = 21 := by omega
      have HI := Lib.hid (show clashB M = false by unfold clashB; rw [← e, hno.out]; rfl)
      clear e hM
      go_wp2
      go_ret
      exact ⟨rb HI.out, rfl⟩
/-- A span between two nodes. -/
def isM (f t : Nat) (lo hi : Int) (M : Nat → Nat → Int) : Nat → Nat → Int := lim t f (-lo) (lim f t hi M)
theorem is_any (b off f t : Nat) (lo hi : Int) (M : Nat → Nat → Int) (w : World) (hf : f < 21) (ht : t < 21) (h1 : 0 ≤ lo) (h2 : lo ≤ 40) (h3 : 0 ≤ hi) (h4 : hi ≤ 40)
    (hS : Safe M) (hS2 : Safe (lim f t hi M)) (hM : MatAt w b off M) (hfz : ∀ o, w.frozen? ⟨b, o, none⟩ = false) :
    Calls Try.prog 131 #[.pointer (some ⟨b, off, none⟩), .int .i64 f, .int .i64 t, .agg #[.int .i64 lo, .int .i64 hi]] w fun e w' =>
      e = .returned (.tuple #[]) ∧ Turn b off (off + 441) w w' ∧ MatAt w' b off (isM f t lo hi M) := by
  have hlt := hM.lt
  go_enter Try.func131, Try.ntmps131
  go_wp2_with fail
  refine (limit_any b off f t hi M _ hf ht (by omega) (by omega) hS (hM.bel (by repeat (first | assumption | exact Bel.refl _ | refine Bel.drew ?_ | refine Bel.drewN ?_ _ | refine Bel.alloc ?_ _ | refine Bel.setCell ?_ (by simp <;> omega) _ | refine Bel.trans ?_ (by assumption)))) (fun o => by rw [Bel.frozens (w := w) (by repeat (first | assumption | exact Bel.refl _ | refine Bel.drew ?_ | refine Bel.drewN ?_ _ | refine Bel.alloc ?_ _ | refine Bel.setCell ?_ (by simp <;> omega) _ | refine Bel.trans ?_ (by assumption))) _ hlt]; exact hfz o)).mono ?_
  rintro e w1 ⟨rfl, hO, hM1⟩
  have hc1 := hO.cellAt (a := ⟨w.heap.size, 0, none⟩) (by simp; omega)
  have hc2 := hO.cellAt (a := ⟨w.heap.size, 1, none⟩) (by simp; omega)
  have hsz := hO.size
  have hwr : IntKind.i64.wrap (-lo) = -lo := IntWalk.i64_in _ (by omega)
  go_wp2_with fail
  refine (limit_any b off t f (-lo) (lim f t hi M) _ ht hf (by omega) (by omega) hS2 hM1 (fun o => by rw [hO.frozen, Bel.frozens (w := w) (by repeat (first | assumption | exact Bel.refl _ | refine Bel.drew ?_ | refine Bel.drewN ?_ _ | refine Bel.alloc ?_ _ | refine Bel.setCell ?_ (by simp <;> omega) _ | refine Bel.trans ?_ (by assumption))) _ hlt]; exact hfz o)).mono ?_
  rintro e w2 ⟨rfl, hO2, hM2⟩
  go_wp2
  go_end0
  exact ⟨rfl, ((Bel.turn b off (off + 441) (by repeat (first | assumption | exact Bel.refl _ | refine Bel.drew ?_ | refine Bel.drewN ?_ _ | refine Bel.alloc ?_ _ | refine Bel.setCell ?_ (by simp <;> omega) _ | refine Bel.trans ?_ (by assumption)))).trans hO.turn).trans hO2.turn, hM2⟩
/-- A word added. -/
def wordM (C : Int) (x : CW) (M : Nat → Nat → Int) : Nat → Nat → Int := isM (nd C x.time (x.chamber + 1)) (nd C x.time x.chamber) x.low x.high M
theorem word_any (tb : Nat) (C T : Int) (ov wv : Value) (x : CW) (M : Nat → Nat → Int) (w : World) (ht : TrapP w tb C T ov wv M) (hS : Safe M)
    (hS2 : Safe (lim (nd C x.time (x.chamber + 1)) (nd C x.time x.chamber) x.high M))
    (h1 : 0 ≤ x.time) (h2 : x.time ≤ 4) (h3 : 0 ≤ x.chamber) (h4 : x.chamber < C) (h5 : C ≤ 4) (h6 : 0 ≤ x.low) (h7 : x.low ≤ x.high) (h8 : x.high ≤ 40) :
    Calls Try.prog 122 #[.pointer (some ⟨tb, 0, none⟩), x.val] w fun e w' =>
      e = .returned (.tuple #[]) ∧ Turn tb 4 445 w w' ∧ TrapP w' tb C T ov wv (wordM C x M) := by
  unfold CW.val wordM
  generalize x.time = time at *
  generalize x.chamber = chamber at *
  generalize x.low = lo at *
  generalize x.high = hi at *
  have n1 := (nd_val (C := C) (chamber := chamber) h1 h2 h3 (by omega) h5).1
  have n2 := (nd_val (C := C) (chamber := chamber + 1) h1 h2 (by omega) (by omega) h5).1
  have hlt := ht.lt
  go_enter Try.func122, Try.ntmps122
  go_wp2
  refine wp_region_mixTB (Plan.seq [0, 1, 2, 3, 4, 5, 6, 7, 8, 10, 11, 12, 13, 14, 16, 17, 18, 19, 20, 1009, 1015] .nil) (by kernel_rfl) (by kernel_rfl) (fun hcur => ?_)
  simp only [Plan.seq, Plan.fill, List.getD_cons_zero, List.getD_cons_succ, Nat.reduceLT, ↓reduceIte, Nat.reduceSub]
  apply mix_pure _ rfl
  · intro w' hw'
    have hcr := hw'.cells
    go_simp
    rfl
  intro K hK
  go_simp
  refine hK _ ?_
  clear hK K
  apply mix_pure _ rfl
  · intro w' hw'
    have hcr := hw'.cells
    go_simp
    rfl
  intro K hK
  go_simp
  refine hK _ ?_
  clear hK K
  apply mix_pure _ rfl
  · intro w' hw'
    have hcr := hw'.cells
    go_simp
    rfl
  intro K hK
  go_simp
  refine hK _ ?_
  clear hK K
  apply mix_pure _ rfl
  · intro w' hw'
    have hcr := hw'.cells
    go_simp
    rfl
  intro K hK
  go_simp
  refine hK _ ?_
  clear hK K
  apply mix_pure _ rfl
  · intro w' hw'
    have hcr := hw'.cells
    go_simp
    rfl
  intro K hK
  go_simp
  refine hK _ ?_
  clear hK K
  apply mix_pure _ rfl
  · intro w' hw'
    have hcr := hw'.cells
    go_simp
    rfl
  intro K hK
  go_simp
  refine hK _ ?_
  clear hK K
  apply mix_pure _ rfl
  · intro w' hw'
    have hcr := hw'.cells
    go_simp
    rfl
  intro K hK
  go_simp
  refine hK _ ?_
  clear hK K
  apply mix_pure _ rfl
  · intro w' hw'
    have hcr := hw'.cells
    go_simp
    rfl
  intro K hK
  go_simp
  refine hK _ ?_
  clear hK K
  apply mix_pure _ rfl
  · intro w' hw'
    have hcr := hw'.cells
    go_simp
    first | (rw [IntWalk.i64_in]; all_goals first | omega | rfl) | rfl
  intro K hK
  go_simp
  refine hK _ ?_
  clear hK K
  apply mix_pure _ rfl
  · intro w' hw'
    have hcr := hw'.cells
    go_simp
    rfl
  intro K hK
  go_simp
  refine hK _ ?_
  clear hK K
  apply mix_pure _ rfl
  · intro w' hw'
    have hcr := hw'.cells
    go_simp
    rfl
  intro K hK
  go_simp
  refine hK _ ?_
  clear hK K
  apply mix_pure _ rfl
  · intro w' hw'
    have hcr := hw'.cells
    go_simp
    rfl
  intro K hK
  go_simp
  refine hK _ ?_
  clear hK K
  apply mix_pure _ rfl
  · intro w' hw'
    have hcr := hw'.cells
    go_simp
    rfl
  intro K hK
  go_simp
  refine hK _ ?_
  clear hK K
  apply mix_pure _ rfl
  · intro w' hw'
    have hcr := hw'.cells
    go_simp
    rfl
  intro K hK
  go_simp
  refine hK _ ?_
  clear hK K
  apply mix_pure _ rfl
  · intro w' hw'
    have hcr := hw'.cells
    go_simp
    rfl
  intro K hK
  go_simp
  refine hK _ ?_
  clear hK K
  apply mix_pure _ rfl
  · intro w' hw'
    have hcr := hw'.cells
    go_simp
    rfl
  intro K hK
  go_simp
  refine hK _ ?_
  clear hK K
  apply mix_pure _ rfl
  · intro w' hw'
    have hcr := hw'.cells
    go_simp
    rfl
  intro K hK
  go_simp
  refine hK _ ?_
  clear hK K
  apply mix_pure _ rfl
  · intro w' hw'
    have hcr := hw'.cells
    go_simp
    rfl
  intro K hK
  go_simp
  refine hK _ ?_
  clear hK K
  apply mix_pure _ rfl
  · intro w' hw'
    have hcr := hw'.cells
    go_simp
    rfl
  intro K hK
  go_simp
  refine hK _ ?_
  clear hK K
  refine mix_act rfl (fun K hK => ?_)
  go_simp
  refine (node_any _ _ _ _ _ _ _ _ _ (by first | assumption | exact TrapP.bel ‹_› (by repeat (first | assumption | exact Bel.refl _ | refine Bel.drew ?_ | refine Bel.drewN ?_ _ | refine Bel.alloc ?_ _ | refine Bel.setCell ?_ (by simp <;> omega) _ | refine Bel.trans ?_ (by assumption)))) (by omega) (by omega) (by omega) (by omega) (by omega)).mono ?_
  rintro e w' ⟨rfl, rfl⟩
  simp only []
  refine hK _ _ hcur (fun hcur => ?_)
  clear hK K
  refine mix_act rfl (fun K hK => ?_)
  go_simp
  refine (node_any _ _ _ _ _ _ _ _ _ (by first | assumption | exact TrapP.bel ‹_› (by repeat (first | assumption | exact Bel.refl _ | refine Bel.drew ?_ | refine Bel.drewN ?_ _ | refine Bel.alloc ?_ _ | refine Bel.setCell ?_ (by simp <;> omega) _ | refine Bel.trans ?_ (by assumption)))) (by omega) (by omega) (by omega) (by omega) (by omega)).mono ?_
  rintro e w' ⟨rfl, rfl⟩
  simp only []
  refine hK _ _ hcur (fun hcur => ?_)
  clear hK K
  refine mix_tailK rfl (fun K hK => ?_)
  go_simp
  refine (is_any tb 4 _ _ lo hi M _ n2 n1 (by omega) (by omega) (by omega) (by omega) hS hS2 (ht.mat.bel (by repeat (first | assumption | exact Bel.refl _ | refine Bel.drew ?_ | refine Bel.drewN ?_ _ | refine Bel.alloc ?_ _ | refine Bel.setCell ?_ (by simp <;> omega) _ | refine Bel.trans ?_ (by assumption)))) (fun o => by rw [Bel.frozens (w := w) (by repeat (first | assumption | exact Bel.refl _ | refine Bel.drew ?_ | refine Bel.drewN ?_ _ | refine Bel.alloc ?_ _ | refine Bel.setCell ?_ (by simp <;> omega) _ | refine Bel.trans ?_ (by assumption))) _ hlt]; exact ht.fz o)).mono ?_
  rintro e w' ⟨rfl, hT, hM'⟩
  simp only []
  refine hK _ _ ?_
  clear hK K
  go_wp2
  go_end0
  exact ⟨rfl, (Bel.turn tb 4 445 (by repeat (first | assumption | exact Bel.refl _ | refine Bel.drew ?_ | refine Bel.drewN ?_ _ | refine Bel.alloc ?_ _ | refine Bel.setCell ?_ (by simp <;> omega) _ | refine Bel.trans ?_ (by assumption)))).trans hT, ht.turn ((Bel.turn tb 4 445 (by repeat (first | assumption | exact Bel.refl _ | refine Bel.drew ?_ | refine Bel.drewN ?_ _ | refine Bel.alloc ?_ _ | refine Bel.setCell ?_ (by simp <;> omega) _ | refine Bel.trans ?_ (by assumption)))).trans hT) hM'⟩
end Go.Proofs.Ytkdcdhkhadhcfaa
