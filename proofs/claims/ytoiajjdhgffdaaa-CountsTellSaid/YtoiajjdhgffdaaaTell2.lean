/-
  counts: Tell.
-/
import Derived.Test.YtoiajjdhgffdaaaTell
import Derived.Test.YtoiajjdhgffdaaaSpec2
namespace Go.Proofs.Ytoiajjdhgffdaaa
open Go Go.RowKit
set_option maxHeartbeats 1000000
set_option maxRecDepth 100000
def tellR (t : CT) (i c : Int) : Int := tellTo t.C t.T i c (fishLo t i c) (setMat t (-1)) (fishHi t i c + 1 - fishLo t i c).toNat
theorem slice_one {a : Option Addr} {n c : Nat} : (Value.slice a n c).oneCell' = true := rfl
theorem Tell_any (t : CT) (v : Value) (i c : Int) (w : World) (hv : TrapAt w v t) :
    Calls Try.prog 54 #[v, .agg #[.int .i64 i, .int .i64 c]] w (IntPost (errR t (isPlaceB t.C t.T i c)) (tellR t i c) w) := by
  have HV := Lib.hid hv
  obtain ⟨ov, wv, rfl, hrows, hwords⟩ := hv
  have hov : ov.oneCell' = true := by obtain ⟨a, c, _, _, _, rfl, _⟩ := hrows; rfl
  have hwv : wv.oneCell' = true := by obtain ⟨a, c, _, _, rfl, _⟩ := hwords; rfl
  clear hrows hwords
  by_cases he : errR t (isPlaceB t.C t.T i c) = 0
  · have HE := Lib.hid he
    obtain ⟨hex, hf⟩ := errR_exact he
    have hf0 := hf
    obtain ⟨f1, f2, f3, f4, _, _⟩ := hf0
    obtain ⟨⟨p1, p2⟩, p3, p4⟩ := isPlaceB_bounds f1 f2 f3 f4 (errR_zero he).2.1
    have ei : ((i.toNat : Nat) : Int) = i := by omega
    have ec : ((c.toNat : Nat) : Int) = c := by omega
    have hbn := Fish_bounds hf hex i.toNat c.toNat (by omega) (by omega)
    rw [ei, ec] at hbn
    have HTT : Hid (∀ tb wz, TrapP wz tb t.C t.T ov wv (setMat t (-1)) → Calls Try.prog 88 #[.pointer (some ⟨tb, 0, none⟩), .agg #[.int .i64 i, .int .i64 c]] wz fun e w' =>
      e = .returned (.int .i64 (tellR t i c)) ∧ Bel wz w') := Lib.hid fun tb wz hz =>
      ttell_any tb t.C t.T i c (fishLo t i c) (fishHi t i c) ov wv (setMat t (-1)) wz hz hex.safe hov hwv p1 p2 f4 p3 p4 f2 rfl rfl hbn.1 hbn.2.1 hbn.2.2 fun n hn1 hn2 => by
        have := tell_safe hf hex i.toNat c.toNat (by omega) (by omega) n (by omega) (by omega)
        rw [ei, ec] at this
        exact ⟨this.1, this.2.safe (by omega)⟩
    clear hex he hbn ei ec hf
    have HP := Lib.hid (fun wz hz => open_ok t ov wv (isPlaceB t.C t.T i c) wz hz HE.out)
    go_enter Try.func54, Try.ntmps54
    go_wp2
    refine wp_region_mixB (Plan.seq [0, 1, 2, 3, 4, 5, 1006, 1007, 8, 9, 10, 11, 12] .nil) (by kernel_rfl) (by kernel_rfl) (fun hcur => ?_)
    simp only [Plan.seq, Plan.fill, List.getD_cons_zero, List.getD_cons_succ, Nat.reduceLT, ↓reduceIte, Nat.reduceSub]
    apply mix_pure _ rfl
    · intro w' hw'
      have hcr := hw'.cells
      go_simp
      rfl
    intro K hK
    go_simp
    refine hK _ ?_
    clear hK K
    apply mix_pure _ rfl
    · intro w' hw'
      have hcr := hw'.cells
      go_simp
      rfl
    intro K hK
    go_simp
    refine hK _ ?_
    clear hK K
    apply mix_pure _ rfl
    · intro w' hw'
      have hcr := hw'.cells
      go_simp
      rfl
    intro K hK
    go_simp
    refine hK _ ?_
    clear hK K
    apply mix_pure _ rfl
    · intro w' hw'
      have hcr := hw'.cells
      go_simp
      rfl
    intro K hK
    go_simp
    refine hK _ ?_
    clear hK K
    apply mix_pure _ rfl
    · intro w' hw'
      have hcr := hw'.cells
      go_simp
      rfl
    intro K hK
    go_simp
    refine hK _ ?_
    clear hK K
    apply mix_pure _ rfl
    · intro w' hw'
      have hcr := hw'.cells
      go_simp
      rfl
    intro K hK
    go_simp
    refine hK _ ?_
    clear hK K
    refine mix_act rfl (fun K hK => ?_)
    go_simp
    refine (isPlace_any _ _ _ _ _ _ _).mono ?_
    rintro e w' ⟨rfl, hb⟩
    have hcr := hb.cells
    have hfr := hb.frozens
    have hz := hb.szle
    (try simp only [World.size_alloc, World.size_drew] at hz)
    have z0 : w.heap.size < w'.heap.size := by omega
    have z1 : w.heap.size + 1 < w'.heap.size := by omega
    simp only []
    refine hK _ _ (hcur.trans hb) (fun hcur => ?_)
    clear hK K
    refine mix_act rfl (fun K hK => ?_)
    go_simp
    refine (HP.out _ (HV.out.bel (by repeat (first | assumption | exact Bel.refl _ | refine Bel.drew ?_ | refine Bel.drewN ?_ _ | refine Bel.alloc ?_ _ | refine Bel.setCell ?_ (by simp <;> omega) _ | refine Bel.trans ?_ (by assumption))))).mono ?_
    rintro e w1 ⟨tb, rfl, htb, hT, hb⟩
    have hcr := hb.cells
    have hfr := hb.frozens
    have hz := hb.szle
    (try simp only [World.size_alloc, World.size_drew, World.size_setCell, World.heap_drewN] at hz)
    have z0 : w.heap.size < w1.heap.size := by omega
    have z1 : w.heap.size + 1 < w1.heap.size := by omega
    simp only []
    refine hK _ _ (hcur.trans hb) (fun hcur => ?_)
    clear hK K
    apply mix_pure _ rfl
    · intro w' hw'
      have hcr := hw'.cells
      go_simp
      rfl
    intro K hK
    go_simp
    refine hK _ ?_
    clear hK K
    apply mix_pure _ rfl
    · intro w' hw'
      have hcr := hw'.cells
      go_simp
      rfl
    intro K hK
    go_simp
    refine hK _ ?_
    clear hK K
    apply mix_pure _ rfl
    · intro w' hw'
      have hcr := hw'.cells
      go_simp
      rfl
    intro K hK
    go_simp
    refine hK _ ?_
    clear hK K
    apply mix_pure _ rfl
    · intro w' hw'
      have hcr := hw'.cells
      go_simp
      rfl
    intro K hK
    go_simp
    refine hK _ ?_
    clear hK K
    apply mix_pure _ rfl
    · intro w' hw'
      have hcr := hw'.cells
      go_simp
      rfl
    intro K hK
    go_simp
    refine hK _ ?_
    clear hK K
    refine mix_nil ?_
    have HW1 : Hid (Bel w w1) := Lib.hid (by repeat (first | assumption | exact Bel.refl _ | refine Bel.drew ?_ | refine Bel.drewN ?_ _ | refine Bel.alloc ?_ _ | refine Bel.setCell ?_ (by simp <;> omega) _ | refine Bel.trans ?_ (by assumption)))
    go_wp2_with (go_at_call 88; refine (HTT.out tb _ hT).mono ?_; rintro e w2 ⟨rfl, hb2⟩)
    go_ret2
    exact IntPost.ok HE.out rfl (by repeat (first | assumption | exact Bel.refl _ | refine Bel.drew ?_ | refine Bel.drewN ?_ _ | refine Bel.alloc ?_ _ | refine Bel.setCell ?_ (by simp <;> omega) _ | refine Bel.trans ?_ (by assumption)))
  · have hne : (errR t (isPlaceB t.C t.T i c) != 0) = true := by rw [bne_iff_ne]; exact he
    have HE := Lib.hid he
    have HP := Lib.hid (fun wz hz => open_err t ov wv (isPlaceB t.C t.T i c) wz hz HE.out)
    clear he
    go_enter Try.func54, Try.ntmps54
    go_wp2
    refine wp_region_mixB (Plan.seq [0, 1, 2, 3, 4, 5, 1006, 1007, 8, 9, 10, 11, 12] .nil) (by kernel_rfl) (by kernel_rfl) (fun hcur => ?_)
    simp only [Plan.seq, Plan.fill, List.getD_cons_zero, List.getD_cons_succ, Nat.reduceLT, ↓reduceIte, Nat.reduceSub]
    apply mix_pure _ rfl
    · intro w' hw'
      have hcr := hw'.cells
      go_simp
      rfl
    intro K hK
    go_simp
    refine hK _ ?_
    clear hK K
    apply mix_pure _ rfl
    · intro w' hw'
      have hcr := hw'.cells
      go_simp
      rfl
    intro K hK
    go_simp
    refine hK _ ?_
    clear hK K
    apply mix_pure _ rfl
    · intro w' hw'
      have hcr := hw'.cells
      go_simp
      rfl
    intro K hK
    go_simp
    refine hK _ ?_
    clear hK K
    apply mix_pure _ rfl
    · intro w' hw'
      have hcr := hw'.cells
      go_simp
      rfl
    intro K hK
    go_simp
    refine hK _ ?_
    clear hK K
    apply mix_pure _ rfl
    · intro w' hw'
      have hcr := hw'.cells
      go_simp
      rfl
    intro K hK
    go_simp
    refine hK _ ?_
    clear hK K
    apply mix_pure _ rfl
    · intro w' hw'
      have hcr := hw'.cells
      go_simp
      rfl
    intro K hK
    go_simp
    refine hK _ ?_
    clear hK K
    refine mix_act rfl (fun K hK => ?_)
    go_simp
    refine (isPlace_any _ _ _ _ _ _ _).mono ?_
    rintro e w' ⟨rfl, hb⟩
    have hcr := hb.cells
    have hfr := hb.frozens
    have hz := hb.szle
    (try simp only [World.size_alloc, World.size_drew] at hz)
    have z0 : w.heap.size < w'.heap.size := by omega
    have z1 : w.heap.size + 1 < w'.heap.size := by omega
    simp only []
    refine hK _ _ (hcur.trans hb) (fun hcur => ?_)
    clear hK K
    refine mix_act rfl (fun K hK => ?_)
    go_simp
    refine (HP.out _ (HV.out.bel (by repeat (first | assumption | exact Bel.refl _ | refine Bel.drew ?_ | refine Bel.drewN ?_ _ | refine Bel.alloc ?_ _ | refine Bel.setCell ?_ (by simp <;> omega) _ | refine Bel.trans ?_ (by assumption))))).mono ?_
    rintro e w1 ⟨rfl, hb⟩
    have hcr := hb.cells
    have hfr := hb.frozens
    have hz := hb.szle
    (try simp only [World.size_alloc, World.size_drew, World.size_setCell, World.heap_drewN] at hz)
    have z0 : w.heap.size < w1.heap.size := by omega
    have z1 : w.heap.size + 1 < w1.heap.size := by omega
    simp only []
    refine hK _ _ (hcur.trans hb) (fun hcur => ?_)
    clear hK K
    apply mix_pure _ rfl
    · intro w' hw'
      have hcr := hw'.cells
      go_simp
      rfl
    intro K hK
    go_simp
    refine hK _ ?_
    clear hK K
    apply mix_pure _ rfl
    · intro w' hw'
      have hcr := hw'.cells
      go_simp
      rfl
    intro K hK
    go_simp
    refine hK _ ?_
    clear hK K
    apply mix_pure _ rfl
    · intro w' hw'
      have hcr := hw'.cells
      go_simp
      rfl
    intro K hK
    go_simp
    refine hK _ ?_
    clear hK K
    apply mix_pure _ rfl
    · intro w' hw'
      have hcr := hw'.cells
      go_simp
      rfl
    intro K hK
    go_simp
    refine hK _ ?_
    clear hK K
    apply mix_pure _ rfl
    · intro w' hw'
      have hcr := hw'.cells
      go_simp
      rfl
    intro K hK
    go_simp
    refine hK _ ?_
    clear hK K
    refine mix_nil ?_
    generalize errR t (isPlaceB t.C t.T i c) = er at *
    go_wp2
    go_ret2
    exact IntPost.err HE.out (by repeat (first | assumption | exact Bel.refl _ | refine Bel.drew ?_ | refine Bel.drewN ?_ _ | refine Bel.alloc ?_ _ | refine Bel.setCell ?_ (by simp <;> omega) _ | refine Bel.trans ?_ (by assumption)))
end Go.Proofs.Ytoiajjdhgffdaaa
