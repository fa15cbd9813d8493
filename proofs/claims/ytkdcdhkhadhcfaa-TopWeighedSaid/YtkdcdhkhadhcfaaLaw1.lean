/-
  law: word, has, inside, huge, Huge, Far.
-/
import Derived.Test.YtkdcdhkhadhcfaaRCheck
namespace Go.Proofs.Ytkdcdhkhadhcfaa
open Go Go.RowKit
set_option maxHeartbeats 1000000
set_option maxRecDepth 100000
theorem word2_any (a b c d : Int) (w : World) :
    Calls Try.prog 75 #[.int .i64 a, .int .i64 b, .int .i64 c, .int .i64 d] w fun e w' => e = .returned (.agg #[.int .i64 a, .int .i64 b, .int .i64 c, .int .i64 d]) ∧ Bel w w' := by
  go_enter Try.func75, Try.ntmps75
  go_wp2
  exact bodyPost_ret (v := .agg #[.int .i64 a, .int .i64 b, .int .i64 c, .int .i64 d]) (by simp [results, Try.results75, go_sem]) rfl ⟨rfl, (by repeat (first | assumption | exact Bel.refl _ | refine Bel.drew ?_ | refine Bel.drewN ?_ _ | refine Bel.alloc ?_ _ | refine Bel.setCell ?_ (by simp <;> omega) _ | refine Bel.trans ?_ (by assumption)))⟩
def longB (l : List (List Int)) : Bool := allB l.length fun i => !decide (40 < (atL l i).length)
def hugeB (l : List (List Int)) : Bool := decide (40 < l.length) || !longB l
set_option maxHeartbeats 1000000 in
theorem huge_any (v : Value) (l : List (List Int)) (w : World) (hv : RowsAt w v l) :
    Calls Try.prog 73 #[v] w fun e w' => e = .returned (.bool (hugeB l)) ∧ Bel w w' := by
  obtain ⟨a, c, b, off, rv, rfl, ha, hlen, hc⟩ := hv
  have hix := idxRows (c := c) ha
  have HC := Lib.hid hc
  clear ha hc
  by_cases h40 : 40 < l.length
  · have HI := Lib.hid (show hugeB l = true by unfold hugeB; simp [h40])
    have hd : decide (40 < l.length) = true := by simp [h40]
    go_enter Try.func73, Try.ntmps73
    go_wp2
    go_ret
    exact ⟨rb HI.out, (by repeat (first | assumption | exact Bel.refl _ | refine Bel.drew ?_ | refine Bel.drewN ?_ _ | refine Bel.alloc ?_ _ | refine Bel.setCell ?_ (by simp <;> omega) _ | refine Bel.trans ?_ (by assumption)))⟩
  · have HH := Lib.hid (show hugeB l = !longB l by unfold hugeB; simp [h40])
    have hd : decide (40 < l.length) = false := by simp [h40]
    have h40' : ¬ (40 : Int) < (l.length : Int) := by omega
    go_enter Try.func73, Try.ntmps73
    go_wp2
    go_loopw [3] (fun i wr => ∃ k : Nat, k ≤ l.length ∧ i = .int .i64 k ∧ Hid (allB k (fun i => !decide (40 < (atL l i).length)) = true) ∧ Bel w wr) (fun i _ => l.length - (intOf i).toNat)
    case atStart => exact ⟨0, by omega, rfl, rfl, Bel.refl _⟩
    case round =>
      obtain ⟨i, hi, rfl, hno, hB⟩ := hrel
      by_cases hlt : i < l.length
      · have hii : (i : Int) < (l.length : Int) := by omega
        obtain ⟨hci, ai, ci, bi, offi, hrv, hai, hleni, hcells⟩ := HC.out i hlt
        rw [hrv] at hci
        clear hai hcells hrv
        replace hci := hB.cell hci
        by_cases hr : 40 < (atL l i).length
        · have HI := Lib.hid (show hugeB l = true by rw [HH.out, show longB l = false from allB_false i hlt (by simp [hr])]; rfl)
          have hd2 : decide (40 < (atL l i).length) = true := by simp [hr]
          have hr' : (40 : Int) < ((atL l i).length : Int) := by omega
          generalize atL l i = row at *
          go_wp2
          go_ret
          exact ⟨Go.Proofs.Ytkdcdhkhadhcfaa.rb HI.out, (by repeat (first | assumption | exact Bel.refl _ | refine Bel.drew ?_ | refine Bel.drewN ?_ _ | refine Bel.alloc ?_ _ | refine Bel.setCell ?_ (by simp <;> omega) _ | refine Bel.trans ?_ (by assumption)))⟩
        · have HR := Lib.hid (allB_succ hno.out (f := fun i => !decide (40 < (atL l i).length)) (by simp [hr]))
          have hd2 : decide (40 < (atL l i).length) = false := by simp [hr]
          have hr' : ¬ (40 : Int) < ((atL l i).length : Int) := by omega
          have HB := Lib.hid hB
          clear hB
          go_wp2
          go_roundw
          case rel => exact ⟨i + 1, by omega, by go_num, HR, HB.out⟩
          case measure => simp [intOf]; omega
      · have HI := Lib.hid (show hugeB l = false by rw [HH.out, show longB l = true from by unfold longB; rw [show l.length = i by omega]; exact hno.out]; rfl)
        have hii : ¬ (i : Int) < (l.length : Int) := by omega
        go_wp2
        go_ret
        exact ⟨Go.Proofs.Ytkdcdhkhadhcfaa.rb HI.out, hB⟩
def HugeB (t : CT) : Bool := hugeB t.op || decide (40 < t.ws.length)
theorem Huge_any (t : CT) (v : Value) (w : World) (hv : TrapAt w v t) : Calls Try.prog 47 #[v] w fun e w' => e = .returned (.bool (HugeB t)) ∧ Bel w w' := by
  obtain ⟨ov, wv, rfl, hrows, hwords⟩ := hv
  have HR := Lib.hid hrows
  obtain ⟨wa, wc, wb, woff, rfl, hwa, hwlen, hwc⟩ := hwords
  clear hrows hwa hwc
  have HH := Lib.hid (show HugeB t = (hugeB t.op || decide (40 < t.ws.length)) from rfl)
  cases h1 : hugeB t.op <;> by_cases h2 : 40 < t.ws.length
  all_goals
    rw [h1] at HH
    first
      | (have hd : decide (40 < t.ws.length) = true := by simp [h2])
      | (have hd : decide (40 < t.ws.length) = false := by simp [h2])
    rw [hd] at HH
    have HU := Lib.hid (fun w' hw' => huge_any ov t.op w' hw')
    rw [h1] at HU
    clear h1
    go_enter Try.func47, Try.ntmps47
    go_wp2_with (go_at_call 73; refine (HU.out _ (HR.out.bel (by repeat (first | assumption | exact Bel.refl _ | refine Bel.drew ?_ | refine Bel.drewN ?_ _ | refine Bel.alloc ?_ _ | refine Bel.setCell ?_ (by simp <;> omega) _ | refine Bel.trans ?_ (by assumption))))).mono ?_; rintro e w' ⟨rfl, hb⟩; have hcr := hb.cells; have hfr := hb.frozens; have hz := hb.szle; (try simp only [World.size_alloc] at hz); have z0 : w.heap.size < w'.heap.size := by omega)
    go_ret
    exact ⟨by rw [HH.out]; first | rfl | (simp; done) | (simp; omega), (by repeat (first | assumption | exact Bel.refl _ | refine Bel.drew ?_ | refine Bel.drewN ?_ _ | refine Bel.alloc ?_ _ | refine Bel.setCell ?_ (by simp <;> omega) _ | refine Bel.trans ?_ (by assumption)))⟩
def FarB (t : CT) : Bool := HugeB t || ((decide (3 < t.C) || decide (3 < t.T)) && decide (chk t = 0))
theorem Far_any (t : CT) (v : Value) (w : World) (hv : TrapAt w v t) : Calls Try.prog 16 #[v] w fun e w' => e = .returned (.bool (FarB t)) ∧ Bel w w' := by
  have HV := Lib.hid hv
  obtain ⟨ov, wv, rfl, hrows, hwords⟩ := hv
  clear hrows hwords
  have HH := Lib.hid (show FarB t = (HugeB t || ((decide (3 < t.C) || decide (3 < t.T)) && decide (chk t = 0))) from rfl)
  have HU := Lib.hid (fun w' hw' => Huge_any t (.agg #[.int .i64 t.C, .int .i64 t.T, ov, wv]) w' hw')
  have HK := Lib.hid (fun w' hw' => RCheck_any t (.agg #[.int .i64 t.C, .int .i64 t.T, ov, wv]) w' hw')
  cases h1 : HugeB t <;> cases h2 : decide (3 < t.C) <;> cases h3 : decide (3 < t.T) <;> cases hk : validB t
  all_goals
    first
      | (have HC := Lib.hid (chk_true hk))
      | (have HC := Lib.hid (chk_false hk))
    rw [h1, h2, h3, HC.out] at HH
    rw [h1] at HU
    rw [HC.out] at HK
    clear h1 hk HC
    go_enter Try.func16, Try.ntmps16
    go_wp2_with (first
      | (go_at_call 47; refine (HU.out _ (HV.out.bel (by repeat (first | assumption | exact Bel.refl _ | refine Bel.drew ?_ | refine Bel.drewN ?_ _ | refine Bel.alloc ?_ _ | refine Bel.setCell ?_ (by simp <;> omega) _ | refine Bel.trans ?_ (by assumption))))).mono ?_; rintro e w' ⟨rfl, hb⟩; have hcr := hb.cells; have hfr := hb.frozens; have hz := hb.szle; (try simp only [World.size_alloc] at hz); have z0 : w.heap.size < w'.heap.size := by omega)
      | (go_at_call 17; refine (HK.out _ (HV.out.bel (by repeat (first | assumption | exact Bel.refl _ | refine Bel.drew ?_ | refine Bel.drewN ?_ _ | refine Bel.alloc ?_ _ | refine Bel.setCell ?_ (by simp <;> omega) _ | refine Bel.trans ?_ (by assumption))))).mono ?_; rintro e w' ⟨rfl, hb⟩))
    go_ret
    exact ⟨by rw [HH.out]; rfl, (by repeat (first | assumption | exact Bel.refl _ | refine Bel.drew ?_ | refine Bel.drewN ?_ _ | refine Bel.alloc ?_ _ | refine Bel.setCell ?_ (by simp <;> omega) _ | refine Bel.trans ?_ (by assumption)))⟩
def readyB (t : CT) : Bool := !HugeB t && decide (chk t = 0)
end Go.Proofs.Ytkdcdhkhadhcfaa
