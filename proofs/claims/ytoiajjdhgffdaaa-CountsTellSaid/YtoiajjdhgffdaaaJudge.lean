/-
  counts: Judge.
-/
import Derived.Test.YtoiajjdhgffdaaaOpen2
namespace Go.Proofs.Ytoiajjdhgffdaaa
open Go Go.RowKit
set_option maxHeartbeats 1000000
set_option maxRecDepth 100000
/-- A number and an error. -/
def IntPost (er r : Int) (w : World) (e : Ending) (w' : World) : Prop :=
  e = .returned (.tuple #[.int .i64 (if er = 0 then r else 0), .int .i64 er]) ∧ Bel w w'
theorem IntPost.err {er r : Int} {w w' : World} (h : er ≠ 0) (hb : Bel w w') : IntPost er r w (.returned (.tuple #[.int .i64 0, .int .i64 er])) w' := by
  unfold IntPost; rw [if_neg h]; exact ⟨rfl, hb⟩
theorem IntPost.ok {er r x : Int} {w w' : World} (h : er = 0) (hx : r = x) (hb : Bel w w') : IntPost er r w (.returned (.tuple #[.int .i64 x, .int .i64 0])) w' := by
  unfold IntPost; rw [if_pos h, h, hx]; exact ⟨rfl, hb⟩
def judgeR (lo hi low high : Int) : Int := if low ≤ lo ∧ hi ≤ high then 1 else if high < lo ∨ hi < low then 2 else 3
theorem Judge_any (t : CT) (v : Value) (x : CW) (w : World) (hv : TrapAt w v t) :
    Calls Try.prog 29 #[v, x.val] w (IntPost (errR t (isWordB t.C t.T x)) (judgeR (fishLo t x.time x.chamber) (fishHi t x.time x.chamber) x.low x.high) w) := by
  have HV := Lib.hid hv
  obtain ⟨ov, wv, rfl, hrows, hwords⟩ := hv
  clear hrows hwords
  have HX := Lib.hid (show x.val = .agg #[.int .i64 x.time, .int .i64 x.chamber, .int .i64 x.low, .int .i64 x.high] from rfl)
  rw [HX.out]
  by_cases he : errR t (isWordB t.C t.T x) = 0
  · have HE := Lib.hid he
    obtain ⟨hex, hf⟩ := errR_exact he
    obtain ⟨f1, f2, f3, f4, _, _⟩ := hf
    obtain ⟨⟨p1, p2⟩, ⟨p3, p4⟩, _, _, _⟩ := isWordB_bounds f1 f2 f3 f4 (errR_zero he).2.1
    have hS := hex.safe
    clear hex he
    have HP := Lib.hid (fun wz hz => open_ok t ov wv (isWordB t.C t.T x) wz hz HE.out)
    have HLO := Lib.hid (show fishLo t x.time x.chamber = -(setMat t (-1) (nd t.C x.time x.chamber) (nd t.C x.time (x.chamber + 1))) from rfl)
    have HHI := Lib.hid (show fishHi t x.time x.chamber = setMat t (-1) (nd t.C x.time (x.chamber + 1)) (nd t.C x.time x.chamber) from rfl)
    have HJ := Lib.hid (fun lo hi => (show judgeR lo hi x.low x.high = if x.low ≤ lo ∧ hi ≤ x.high then 1 else if x.high < lo ∨ hi < x.low then 2 else 3 from rfl))
    generalize fishLo t x.time x.chamber = lo at *
    generalize fishHi t x.time x.chamber = hi at *
    go_enter Try.func29, Try.ntmps29
    go_wp2
    refine wp_region_mixB (Plan.seq [0, 1, 2, 1003, 1004, 5, 6, 7, 8, 9] .nil) (by kernel_rfl) (by kernel_rfl) (fun hcur => ?_)
    simp only [Plan.seq, Plan.fill, List.getD_cons_zero, List.getD_cons_succ, Nat.reduceLT, ↓reduceIte, Nat.reduceSub]
    apply mix_pure _ rfl
    · intro w' hw'
      have hcr := hw'.cells
      go_simp
      rfl
    intro K hK
    go_simp
    refine hK _ ?_
    clear hK K
    apply mix_pure _ rfl
    · intro w' hw'
      have hcr := hw'.cells
      go_simp
      rfl
    intro K hK
    go_simp
    refine hK _ ?_
    clear hK K
    apply mix_pure _ rfl
    · intro w' hw'
      have hcr := hw'.cells
      go_simp
      rfl
    intro K hK
    go_simp
    refine hK _ ?_
    clear hK K
    refine mix_act rfl (fun K hK => ?_)
    go_simp
    rw [← HX.out]
    refine (isWord_any _ _ _ _ _ _).mono ?_
    rintro e w' ⟨rfl, hb⟩
    have hcr := hb.cells
    have hfr := hb.frozens
    have hz := hb.szle
    (try simp only [World.size_alloc, World.size_drew] at hz)
    have z0 : w.heap.size < w'.heap.size := by omega
    have z1 : w.heap.size + 1 < w'.heap.size := by omega
    simp only []
    refine hK _ _ (hcur.trans hb) (fun hcur => ?_)
    clear hK K
    refine mix_act rfl (fun K hK => ?_)
    go_simp
    refine (HP.out _ (HV.out.bel (by repeat (first | assumption | exact Bel.refl _ | refine Bel.drew ?_ | refine Bel.drewN ?_ _ | refine Bel.alloc ?_ _ | refine Bel.setCell ?_ (by simp <;> omega) _ | refine Bel.trans ?_ (by assumption))))).mono ?_
    rintro e w1 ⟨tb, rfl, htb, hT, hb⟩
    have hcr := hb.cells
    have hfr := hb.frozens
    have hz := hb.szle
    (try simp only [World.size_alloc, World.size_drew, World.size_setCell, World.heap_drewN] at hz)
    have z0 : w.heap.size < w1.heap.size := by omega
    have z1 : w.heap.size + 1 < w1.heap.size := by omega
    simp only []
    refine hK _ _ (hcur.trans hb) (fun hcur => ?_)
    clear hK K
    apply mix_pure _ rfl
    · intro w' hw'
      have hcr := hw'.cells
      go_simp
      rfl
    intro K hK
    go_simp
    refine hK _ ?_
    clear hK K
    apply mix_pure _ rfl
    · intro w' hw'
      have hcr := hw'.cells
      go_simp
      rfl
    intro K hK
    go_simp
    refine hK _ ?_
    clear hK K
    apply mix_pure _ rfl
    · intro w' hw'
      have hcr := hw'.cells
      go_simp
      rfl
    intro K hK
    go_simp
    refine hK _ ?_
    clear hK K
    apply mix_pure _ rfl
    · intro w' hw'
      have hcr := hw'.cells
      go_simp
      rfl
    intro K hK
    go_simp
    refine hK _ ?_
    clear hK K
    apply mix_pure _ rfl
    · intro w' hw'
      have hcr := hw'.cells
      go_simp
      rfl
    intro K hK
    go_simp
    refine hK _ ?_
    clear hK K
    refine mix_nil ?_
    have HW1 : Hid (Bel w w1) := Lib.hid (by repeat (first | assumption | exact Bel.refl _ | refine Bel.drew ?_ | refine Bel.drewN ?_ _ | refine Bel.alloc ?_ _ | refine Bel.setCell ?_ (by simp <;> omega) _ | refine Bel.trans ?_ (by assumption)))
    go_wp2_with (first | (go_at_call 74; refine (tfish_any _ _ _ _ _ _ _ _ _ (by first | assumption | exact TrapP.bel ‹_› (by repeat (first | assumption | exact Bel.refl _ | refine Bel.drew ?_ | refine Bel.drewN ?_ _ | refine Bel.alloc ?_ _ | refine Bel.setCell ?_ (by simp <;> omega) _ | refine Bel.trans ?_ (by assumption)))) ‹Safe _› (by omega) (by omega) (by omega) (by omega) (by omega)).mono ?_; rintro e w' ⟨rfl, hb⟩; have hcr := hb.cells; have hfr := hb.frozens; have hz := hb.szle; (try simp only [World.size_alloc, World.size_drew, World.size_setCell, World.heap_drewN] at hz); have z0 : w.heap.size < w'.heap.size := (by omega); have z1 : w.heap.size + 1 < w'.heap.size := (by omega)))
    all_goals go_ret2
    all_goals exact IntPost.ok HE.out (by
      rw [HJ.out]
      have h1 := HLO.out
      have h2 := HHI.out
      first
        | (rw [if_pos (by omega)])
        | (rw [if_neg (by omega), if_pos (by omega)])
        | (rw [if_neg (by omega), if_neg (by omega)])) (by repeat (first | assumption | exact Bel.refl _ | refine Bel.drew ?_ | refine Bel.drewN ?_ _ | refine Bel.alloc ?_ _ | refine Bel.setCell ?_ (by simp <;> omega) _ | refine Bel.trans ?_ (by assumption)))
  · have hne : (errR t (isWordB t.C t.T x) != 0) = true := by rw [bne_iff_ne]; exact he
    have HE := Lib.hid he
    have HP := Lib.hid (fun wz hz => open_err t ov wv (isWordB t.C t.T x) wz hz HE.out)
    clear he
    go_enter Try.func29, Try.ntmps29
    go_wp2
    refine wp_region_mixB (Plan.seq [0, 1, 2, 1003, 1004, 5, 6, 7, 8, 9] .nil) (by kernel_rfl) (by kernel_rfl) (fun hcur => ?_)
    simp only [Plan.seq, Plan.fill, List.getD_cons_zero, List.getD_cons_succ, Nat.reduceLT, ↓reduceIte, Nat.reduceSub]
    apply mix_pure _ rfl
    · intro w' hw'
      have hcr := hw'.cells
      go_simp
      rfl
    intro K hK
    go_simp
    refine hK _ ?_
    clear hK K
    apply mix_pure _ rfl
    · intro w' hw'
      have hcr := hw'.cells
      go_simp
      rfl
    intro K hK
    go_simp
    refine hK _ ?_
    clear hK K
    apply mix_pure _ rfl
    · intro w' hw'
      have hcr := hw'.cells
      go_simp
      rfl
    intro K hK
    go_simp
    refine hK _ ?_
    clear hK K
    refine mix_act rfl (fun K hK => ?_)
    go_simp
    rw [← HX.out]
    refine (isWord_any _ _ _ _ _ _).mono ?_
    rintro e w' ⟨rfl, hb⟩
    have hcr := hb.cells
    have hfr := hb.frozens
    have hz := hb.szle
    (try simp only [World.size_alloc, World.size_drew] at hz)
    have z0 : w.heap.size < w'.heap.size := by omega
    have z1 : w.heap.size + 1 < w'.heap.size := by omega
    simp only []
    refine hK _ _ (hcur.trans hb) (fun hcur => ?_)
    clear hK K
    refine mix_act rfl (fun K hK => ?_)
    go_simp
    refine (HP.out _ (HV.out.bel (by repeat (first | assumption | exact Bel.refl _ | refine Bel.drew ?_ | refine Bel.drewN ?_ _ | refine Bel.alloc ?_ _ | refine Bel.setCell ?_ (by simp <;> omega) _ | refine Bel.trans ?_ (by assumption))))).mono ?_
    rintro e w1 ⟨rfl, hb⟩
    have hcr := hb.cells
    have hfr := hb.frozens
    have hz := hb.szle
    (try simp only [World.size_alloc, World.size_drew, World.size_setCell, World.heap_drewN] at hz)
    have z0 : w.heap.size < w1.heap.size := by omega
    have z1 : w.heap.size + 1 < w1.heap.size := by omega
    simp only []
    refine hK _ _ (hcur.trans hb) (fun hcur => ?_)
    clear hK K
    apply mix_pure _ rfl
    · intro w' hw'
      have hcr := hw'.cells
      go_simp
      rfl
    intro K hK
    go_simp
    refine hK _ ?_
    clear hK K
    apply mix_pure _ rfl
    · intro w' hw'
      have hcr := hw'.cells
      go_simp
      rfl
    intro K hK
    go_simp
    refine hK _ ?_
    clear hK K
    apply mix_pure _ rfl
    · intro w' hw'
      have hcr := hw'.cells
      go_simp
      rfl
    intro K hK
    go_simp
    refine hK _ ?_
    clear hK K
    apply mix_pure _ rfl
    · intro w' hw'
      have hcr := hw'.cells
      go_simp
      rfl
    intro K hK
    go_simp
    refine hK _ ?_
    clear hK K
    apply mix_pure _ rfl
    · intro w' hw'
      have hcr := hw'.cells
      go_simp
      rfl
    intro K hK
    go_simp
    refine hK _ ?_
    clear hK K
    refine mix_nil ?_
    generalize errR t (isWordB t.C t.T x) = er at *
    go_wp2
    go_ret2
    exact IntPost.err HE.out (by repeat (first | assumption | exact Bel.refl _ | refine Bel.drew ?_ | refine Bel.drewN ?_ _ | refine Bel.alloc ?_ _ | refine Bel.setCell ?_ (by simp <;> omega) _ | refine Bel.trans ?_ (by assumption)))
end Go.Proofs.Ytoiajjdhgffdaaa
