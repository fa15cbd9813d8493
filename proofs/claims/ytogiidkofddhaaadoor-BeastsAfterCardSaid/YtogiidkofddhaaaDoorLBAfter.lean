/-
  law: BeastsAfter: where Run says that the beast is, starting from one of the Places, with its answers, After says that it can be; and each place of After is one that Run says: the call returns true for every trap and tour, and changes nothing that was there
-/
import Derived.Test.YtogiidkofddhaaaDoorBWorks
import Derived.Test.YtogiidkofddhaaaDoorBLaw2
import Derived.Test.YtogiidkofddhaaaDoorBAft
import Derived.Test.YtogiidkofddhaaaDoorBArg
import Derived.Test.YtogiidkofddhaaaDoorBRef4
namespace Go.Proofs.YtogiidkofddhaaaDoor
open Go Go.RowKit Go.Shelf
set_option maxHeartbeats 8000000
set_option maxRecDepth 100000
/-- Where Run says that it is, from those of the first k places whose answers are the same. -/
def onTo (b : BT) (l : List BS) (a : List Int) : Nat → List Int
  | 0 => []
  | k + 1 => if (ranTo b l (at0 b.places k) l.length).2 = a then onTo b l a k ++ [(ranTo b l (at0 b.places k) l.length).1] else onTo b l a k
theorem onTo_len {b : BT} {l : List BS} {a : List Int} : ∀ k, (onTo b l a k).length ≤ k
  | 0 => Nat.le_refl _
  | k + 1 => by
    have := onTo_len (b := b) (l := l) (a := a) k
    unfold onTo
    split
    · simp; omega
    · omega
theorem mem_onTo {b : BT} {l : List BS} {a : List Int} {q : Int} : ∀ {k j : Nat}, j < k → (ranTo b l (at0 b.places j) l.length).2 = a → (ranTo b l (at0 b.places j) l.length).1 = q → q ∈ onTo b l a k
  | k + 1, j, hj, h1, h2 => by
    unfold onTo
    by_cases e : j = k
    · subst e
      rw [if_pos h1]
      exact List.mem_append_right _ (by rw [h2]; simp)
    · have := mem_onTo (b := b) (l := l) (a := a) (k := k) (j := j) (by omega) h1 h2
      split
      · exact List.mem_append_left _ this
      · exact this
theorem after_law {b : BT} (hval : validT b = true) {l : List BS} (hl : stepsB b l = true) (h12 : l.length ≤ 12) {n : Int} (hn : n ∈ b.places) :
    runE b l n = 0 ∧ answersB l (ranTo b l n l.length).2 = true ∧ aftE b l (ranTo b l n l.length).2 = 0 ∧ risingB (plOf (aftTo b l (ranTo b l n l.length).2 l.length)) (-1) (b.n - 1) = true ∧
      inB (plOf (aftTo b l (ranTo b l n l.length).2 l.length)) (ranTo b l n l.length).1 = true ∧
      (∀ p, p ∈ b.places → runE b l p = 0) ∧ (∀ p, p ∈ b.places → (ranTo b l p l.length).2 = (ranTo b l n l.length).2 → inB (plOf (aftTo b l (ranTo b l n l.length).2 l.length)) (ranTo b l p l.length).1 = true) ∧
      (∀ q, q ∈ plOf (aftTo b l (ranTo b l n l.length).2 l.length) → inB (onTo b l (ranTo b l n l.length).2 b.places.length) q = true) ∧ (ranTo b l n l.length).2.length ≤ 12 := by
  have hb := okb_iff.1 hval
  have n1 := hb.n1
  have n2 := hb.n2
  have hst := stepsB_iff.1 hl
  obtain ⟨r1, r2⟩ := ran_len (b := b) l hst n l.length (Nat.le_refl _)
  have hg : ∀ p, p ∈ b.places → runE b l p = 0 := fun p hp => by
    have := hb.pi p hp
    have hc : chamB b.n p = true := by rw [chamB_in n1 n2]; exact withinB_true.2 this
    unfold runE givenE
    rw [hval, if_pos rfl, if_neg (by omega), hc, hl]
    rfl
  generalize ha : (ranTo b l n l.length).2 = a at *
  have hbits : bitsB a = true := allB_iff.2 fun i hi => by
    have := r2 _ (getD_mem a i 0 hi)
    unfold at0
    rcases this with q | q <;> rw [q] <;> decide
  have hans : answersB l a = true := by rw [answers_bits, hbits, decide_eq_true r1.symm]; rfl
  have hiff := fun q (hq : -1 ≤ q) => aft_iff hb hst r2 l.length (Nat.le_refl _) (by omega) q hq
  rw [← r1, List.take_length] at hiff
  have hdom := aft_dom hb hst (ans := a) l.length (Nat.le_refl _)
  have hpw := hb.pow
  have h256 : aftTo b l a l.length < 256 := by omega
  have hin : ∀ p, p ∈ b.places → -1 ≤ (ranTo b l p l.length).1 ∧ (ranTo b l p l.length).1 < b.n := fun p hp => by
    have := hb.pi p hp
    exact ran_in hb hst (p := p) (by omega) (by omega) l.length (Nat.le_refl _)
  have hmem : ∀ p, p ∈ b.places → (ranTo b l p l.length).2 = a → inB (plOf (aftTo b l a l.length)) (ranTo b l p l.length).1 = true := fun p hp he => by
    have h1 := hin p hp
    have := (hiff _ h1.1).2 ⟨p, hp, rfl, he⟩
    exact inB_true.2 ((mem_plOf h256).2 ⟨this, h1.1⟩)
  have hat := hmem n hn ha
  have hne : aftTo b l a l.length ≠ 0 := fun e => by
    rw [e] at hat
    have := inB_true.1 hat
    rw [show plOf 0 = [] by decide] at this
    cases this
  refine ⟨hg n hn, hans, ?_, ?_, hat, hg, hmem, fun q hq => ?_, ?_⟩
  · unfold aftE
    have hgv : givenE b l true = 0 := by unfold givenE; rw [hval, if_pos rfl, if_neg (by omega), hl]; rfl
    rw [if_pos hgv, hans, if_neg hne]
    rfl
  · refine asc_rising (plTo_asc _ _) fun p hp => ?_
    obtain ⟨i, i1, i2, i3⟩ := mem_plTo.1 hp
    have := bit_lt hdom i2
    omega
  · have hq2 := (mem_plOf h256).1 hq
    obtain ⟨p, p1, p2, p3⟩ := (hiff q hq2.2).1 hq2.1
    obtain ⟨j, hj, e⟩ := mem_getD b.places p 0 p1
    exact inB_true.2 (mem_onTo hj (by unfold at0; rw [e]; exact p3) (by unfold at0; rw [e]; exact p2))
  · have := looksTo_le l l.length
    omega
theorem BeastsAfter_any (b : BT) (v vt : Value) (l : List BS) (ans ps : List Int) (n : Int) (w : World) (hf : FarAt w) (hv : BTrapAt w v b) (ht : TourAt w vt l ans ps n) : Calls Tryd.prog 14 #[v, vt] w fun e w' => e = .returned (.bool true) ∧ Bel w w' := by
  have HWK := Lib.hid (fun wx (hx : Bel w wx) => works_any wx (hf.bel hx))
  have HFA := Lib.hid (fun wx (hx : Bel w wx) => hf.bel hx)
  have HV := Lib.hid (fun wx (hx : Bel w wx) => hv.bel hx)
  have HB := Lib.hid (Bel.refl w)
  obtain ⟨lv, av, qv, rfl, hl, ha, hq⟩ := ht
  have HLV := Lib.hid (fun wx (hx : Bel w wx) => hl.bel hx)
  have HRD := Lib.hid (fun wx (hx : Bel w wx) => bready_any b v wx (hv.bel hx))
  have HAR := Lib.hid (fun wx (hx : Bel w wx) => areSteps_any b l v lv wx (hv.bel hx) (hl.bel hx))
  have HWA := Lib.hid (fun h wx (hx : Bel w wx) => bwalked_any lv l wx (hl.bel hx) h)
  have HRU := Lib.hid (fun p sv wx (hx : Bel w wx) h => Run_any b l p v sv wx (hv.bel hx) h)
  have HAF := Lib.hid (fun a sv xv wx (hx : Bel w wx) h h2 => After_any b l a v sv xv wx (hv.bel hx) h h2)
  have HAA := Lib.hid (fun a xv wx (hx : Bel w wx) h h2 => R6AreAnswers_any l a lv xv wx (hl.bel hx) h h2)
  have HCS := Lib.hid (fun h1 h2 h3 wx (hx : Bel w wx) => R6CostsOf_any b h1 l h2 h3 v lv wx (hv.bel hx) (hl.bel hx))
  obtain ⟨da, dc, sa, sc, pa, pc, rfl, hd, hs, hp⟩ := hv.open
  have HBX := Lib.hid (fun wx hx => (BoxB.new (w := w) (b := b) (dv := .slice da b.doors.length dc) (sv := .slice sa b.seen.length sc) (pv := .slice pa b.places.length pc) (T := 25)).bel (w' := wx) hx)
  obtain ⟨pb, poff, hpa, hpl, _, hpc⟩ := hp.open
  have hixp := idxInts (c := pc) hpa
  have HPC := Lib.hid hpc
  have HIN := Lib.hid (fun wx (hx : Bel w wx) => In_any (.slice pa b.places.length pc) b.places n wx (hp.bel hx))
  obtain ⟨la, lc, lb, loff, rfl, -⟩ := hl
  obtain ⟨xa, xc, xb, xoff, rfl, -⟩ := ha
  obtain ⟨qa, qc, qb, qoff, rfl, -⟩ := hq
  clear hf hv hd hs hp hpa hpc
  cases hr : readyT b
  · rw [hr] at HRD
    clear hr
    go_enter Tryd.func14, Tryd.ntmps14
    go_wp2_with fail
    refine (HRD.out _ (HB.out.trans (by repeat (first | assumption | exact Bel.refl _ | refine Bel.drew ?_ | refine Bel.drewN ?_ _ | refine Bel.alloc ?_ _ | refine Bel.setCell ?_ (by simp <;> omega) _ | refine Bel.trans ?_ (by assumption))))).mono ?_
    rintro e w1 ⟨rfl, hb⟩
    have HY := Lib.hid (HBX.out _ (Bel.trans ((Bel.refl _).alloc _) hb))
    have z0 : w1.cell? ⟨w.heap.size + 1, 0, none⟩ = some (.slice la l.length lc) := hb.cell ((row_facts (new_row (by simp))).1 0)
    have z3 : w1.cell? ⟨w.heap.size + 1, 3, none⟩ = some (.int .i64 n) := hb.cell ((row_facts (new_row (by simp))).1 3)
    have lz0 := cell_lt z0
    have HK0 := Lib.hid (show Bel w w1 from Bel.trans (by repeat (first | assumption | exact Bel.refl _ | refine Bel.drew ?_ | refine Bel.drewN ?_ _ | refine Bel.alloc ?_ _ | refine Bel.setCell ?_ (by simp <;> omega) _ | refine Bel.trans ?_ (by assumption))) hb)
    replace HB := Lib.hid (HB.out.trans HK0.out)
    obtain ⟨y0, y1, y2, y3, y4, y5⟩ := HY.out
    have ly := cell_lt y0
    clear hb HK0
    go_wp2_with fail
    refine (HWK.out _ (HB.out.trans (by repeat (first | assumption | exact Bel.refl _ | refine Bel.drew ?_ | refine Bel.drewN ?_ _ | refine Bel.alloc ?_ _ | refine Bel.setCell ?_ (by simp <;> omega) _ | refine Bel.trans ?_ (by assumption))))).mono ?_
    rintro e w2 ⟨rfl, hb⟩
    have HK := Lib.hid (show Bel w1 w2 from Bel.trans (by repeat (first | assumption | exact Bel.refl _ | refine Bel.drew ?_ | refine Bel.drewN ?_ _ | refine Bel.alloc ?_ _ | refine Bel.setCell ?_ (by simp <;> omega) _ | refine Bel.trans ?_ (by assumption))) hb)
    replace HY := Lib.hid (HY.out.bel HK.out)
    replace HB := Lib.hid (HB.out.trans HK.out)
    replace z0 := HK.out.cell z0
    replace z3 := HK.out.cell z3
    have lz0 := cell_lt z0
    have lz3 := cell_lt z3
    clear y0 y1 y2 y3 y4 y5 ly
    obtain ⟨y0, y1, y2, y3, y4, y5⟩ := HY.out
    have ly := cell_lt y0
    clear hb HK
    go_wp2
    go_ret
    exact ⟨rfl, HB.out⟩
  rw [hr] at HRD
  by_cases h12 : 12 < l.length
  · have h12i : (12 : Int) < (l.length : Int) := by omega
    clear hr h12
    go_enter Tryd.func14, Tryd.ntmps14
    go_wp2_with fail
    refine (HRD.out _ (HB.out.trans (by repeat (first | assumption | exact Bel.refl _ | refine Bel.drew ?_ | refine Bel.drewN ?_ _ | refine Bel.alloc ?_ _ | refine Bel.setCell ?_ (by simp <;> omega) _ | refine Bel.trans ?_ (by assumption))))).mono ?_
    rintro e w1 ⟨rfl, hb⟩
    have HY := Lib.hid (HBX.out _ (Bel.trans ((Bel.refl _).alloc _) hb))
    have z0 : w1.cell? ⟨w.heap.size + 1, 0, none⟩ = some (.slice la l.length lc) := hb.cell ((row_facts (new_row (by simp))).1 0)
    have z3 : w1.cell? ⟨w.heap.size + 1, 3, none⟩ = some (.int .i64 n) := hb.cell ((row_facts (new_row (by simp))).1 3)
    have lz0 := cell_lt z0
    have HK0 := Lib.hid (show Bel w w1 from Bel.trans (by repeat (first | assumption | exact Bel.refl _ | refine Bel.drew ?_ | refine Bel.drewN ?_ _ | refine Bel.alloc ?_ _ | refine Bel.setCell ?_ (by simp <;> omega) _ | refine Bel.trans ?_ (by assumption))) hb)
    replace HB := Lib.hid (HB.out.trans HK0.out)
    obtain ⟨y0, y1, y2, y3, y4, y5⟩ := HY.out
    have ly := cell_lt y0
    clear hb HK0
    go_wp2_with fail
    refine (HWK.out _ (HB.out.trans (by repeat (first | assumption | exact Bel.refl _ | refine Bel.drew ?_ | refine Bel.drewN ?_ _ | refine Bel.alloc ?_ _ | refine Bel.setCell ?_ (by simp <;> omega) _ | refine Bel.trans ?_ (by assumption))))).mono ?_
    rintro e w2 ⟨rfl, hb⟩
    have HK := Lib.hid (show Bel w1 w2 from Bel.trans (by repeat (first | assumption | exact Bel.refl _ | refine Bel.drew ?_ | refine Bel.drewN ?_ _ | refine Bel.alloc ?_ _ | refine Bel.setCell ?_ (by simp <;> omega) _ | refine Bel.trans ?_ (by assumption))) hb)
    replace HY := Lib.hid (HY.out.bel HK.out)
    replace HB := Lib.hid (HB.out.trans HK.out)
    replace z0 := HK.out.cell z0
    replace z3 := HK.out.cell z3
    have lz0 := cell_lt z0
    have lz3 := cell_lt z3
    clear y0 y1 y2 y3 y4 y5 ly
    obtain ⟨y0, y1, y2, y3, y4, y5⟩ := HY.out
    have ly := cell_lt y0
    clear hb HK
    go_wp2
    go_ret
    exact ⟨rfl, HB.out⟩
  have h12i : ¬ (12 : Int) < (l.length : Int) := by omega
  cases hare : areB b l
  · rw [hare] at HAR
    clear hr hare
    go_enter Tryd.func14, Tryd.ntmps14
    go_wp2_with fail
    refine (HRD.out _ (HB.out.trans (by repeat (first | assumption | exact Bel.refl _ | refine Bel.drew ?_ | refine Bel.drewN ?_ _ | refine Bel.alloc ?_ _ | refine Bel.setCell ?_ (by simp <;> omega) _ | refine Bel.trans ?_ (by assumption))))).mono ?_
    rintro e w1 ⟨rfl, hb⟩
    have HY := Lib.hid (HBX.out _ (Bel.trans ((Bel.refl _).alloc _) hb))
    have z0 : w1.cell? ⟨w.heap.size + 1, 0, none⟩ = some (.slice la l.length lc) := hb.cell ((row_facts (new_row (by simp))).1 0)
    have z3 : w1.cell? ⟨w.heap.size + 1, 3, none⟩ = some (.int .i64 n) := hb.cell ((row_facts (new_row (by simp))).1 3)
    have lz0 := cell_lt z0
    have HK0 := Lib.hid (show Bel w w1 from Bel.trans (by repeat (first | assumption | exact Bel.refl _ | refine Bel.drew ?_ | refine Bel.drewN ?_ _ | refine Bel.alloc ?_ _ | refine Bel.setCell ?_ (by simp <;> omega) _ | refine Bel.trans ?_ (by assumption))) hb)
    replace HB := Lib.hid (HB.out.trans HK0.out)
    obtain ⟨y0, y1, y2, y3, y4, y5⟩ := HY.out
    have ly := cell_lt y0
    clear hb HK0
    go_wp2_with fail
    refine (HAR.out _ (HB.out.trans (by repeat (first | assumption | exact Bel.refl _ | refine Bel.drew ?_ | refine Bel.drewN ?_ _ | refine Bel.alloc ?_ _ | refine Bel.setCell ?_ (by simp <;> omega) _ | refine Bel.trans ?_ (by assumption))))).mono ?_
    rintro e w2 ⟨rfl, hb⟩
    have HK := Lib.hid (show Bel w1 w2 from Bel.trans (by repeat (first | assumption | exact Bel.refl _ | refine Bel.drew ?_ | refine Bel.drewN ?_ _ | refine Bel.alloc ?_ _ | refine Bel.setCell ?_ (by simp <;> omega) _ | refine Bel.trans ?_ (by assumption))) hb)
    replace HY := Lib.hid (HY.out.bel HK.out)
    replace HB := Lib.hid (HB.out.trans HK.out)
    replace z0 := HK.out.cell z0
    replace z3 := HK.out.cell z3
    have lz0 := cell_lt z0
    have lz3 := cell_lt z3
    clear y0 y1 y2 y3 y4 y5 ly
    obtain ⟨y0, y1, y2, y3, y4, y5⟩ := HY.out
    have ly := cell_lt y0
    clear hb HK
    go_wp2_with fail
    refine (HWK.out _ (HB.out.trans (by repeat (first | assumption | exact Bel.refl _ | refine Bel.drew ?_ | refine Bel.drewN ?_ _ | refine Bel.alloc ?_ _ | refine Bel.setCell ?_ (by simp <;> omega) _ | refine Bel.trans ?_ (by assumption))))).mono ?_
    rintro e w3 ⟨rfl, hb⟩
    have HK := Lib.hid (show Bel w2 w3 from Bel.trans (by repeat (first | assumption | exact Bel.refl _ | refine Bel.drew ?_ | refine Bel.drewN ?_ _ | refine Bel.alloc ?_ _ | refine Bel.setCell ?_ (by simp <;> omega) _ | refine Bel.trans ?_ (by assumption))) hb)
    replace HY := Lib.hid (HY.out.bel HK.out)
    replace HB := Lib.hid (HB.out.trans HK.out)
    replace z0 := HK.out.cell z0
    replace z3 := HK.out.cell z3
    have lz0 := cell_lt z0
    have lz3 := cell_lt z3
    clear y0 y1 y2 y3 y4 y5 ly
    obtain ⟨y0, y1, y2, y3, y4, y5⟩ := HY.out
    have ly := cell_lt y0
    clear hb HK
    go_wp2
    go_ret
    exact ⟨rfl, HB.out⟩
  rw [hare] at HAR
  cases hi : inB b.places n
  · rw [hi] at HIN
    clear hr hare hi
    go_enter Tryd.func14, Tryd.ntmps14
    go_wp2_with fail
    refine (HRD.out _ (HB.out.trans (by repeat (first | assumption | exact Bel.refl _ | refine Bel.drew ?_ | refine Bel.drewN ?_ _ | refine Bel.alloc ?_ _ | refine Bel.setCell ?_ (by simp <;> omega) _ | refine Bel.trans ?_ (by assumption))))).mono ?_
    rintro e w1 ⟨rfl, hb⟩
    have HY := Lib.hid (HBX.out _ (Bel.trans ((Bel.refl _).alloc _) hb))
    have z0 : w1.cell? ⟨w.heap.size + 1, 0, none⟩ = some (.slice la l.length lc) := hb.cell ((row_facts (new_row (by simp))).1 0)
    have z3 : w1.cell? ⟨w.heap.size + 1, 3, none⟩ = some (.int .i64 n) := hb.cell ((row_facts (new_row (by simp))).1 3)
    have lz0 := cell_lt z0
    have HK0 := Lib.hid (show Bel w w1 from Bel.trans (by repeat (first | assumption | exact Bel.refl _ | refine Bel.drew ?_ | refine Bel.drewN ?_ _ | refine Bel.alloc ?_ _ | refine Bel.setCell ?_ (by simp <;> omega) _ | refine Bel.trans ?_ (by assumption))) hb)
    replace HB := Lib.hid (HB.out.trans HK0.out)
    obtain ⟨y0, y1, y2, y3, y4, y5⟩ := HY.out
    have ly := cell_lt y0
    clear hb HK0
    go_wp2_with fail
    refine (HAR.out _ (HB.out.trans (by repeat (first | assumption | exact Bel.refl _ | refine Bel.drew ?_ | refine Bel.drewN ?_ _ | refine Bel.alloc ?_ _ | refine Bel.setCell ?_ (by simp <;> omega) _ | refine Bel.trans ?_ (by assumption))))).mono ?_
    rintro e w2 ⟨rfl, hb⟩
    have HK := Lib.hid (show Bel w1 w2 from Bel.trans (by repeat (first | assumption | exact Bel.refl _ | refine Bel.drew ?_ | refine Bel.drewN ?_ _ | refine Bel.alloc ?_ _ | refine Bel.setCell ?_ (by simp <;> omega) _ | refine Bel.trans ?_ (by assumption))) hb)
    replace HY := Lib.hid (HY.out.bel HK.out)
    replace HB := Lib.hid (HB.out.trans HK.out)
    replace z0 := HK.out.cell z0
    replace z3 := HK.out.cell z3
    have lz0 := cell_lt z0
    have lz3 := cell_lt z3
    clear y0 y1 y2 y3 y4 y5 ly
    obtain ⟨y0, y1, y2, y3, y4, y5⟩ := HY.out
    have ly := cell_lt y0
    clear hb HK
    go_wp2_with fail
    refine (HIN.out _ (HB.out.trans (by repeat (first | assumption | exact Bel.refl _ | refine Bel.drew ?_ | refine Bel.drewN ?_ _ | refine Bel.alloc ?_ _ | refine Bel.setCell ?_ (by simp <;> omega) _ | refine Bel.trans ?_ (by assumption))))).mono ?_
    rintro e wq ⟨rfl, rfl⟩
    go_wp2_with fail
    refine (HWK.out _ (HB.out.trans (by repeat (first | assumption | exact Bel.refl _ | refine Bel.drew ?_ | refine Bel.drewN ?_ _ | refine Bel.alloc ?_ _ | refine Bel.setCell ?_ (by simp <;> omega) _ | refine Bel.trans ?_ (by assumption))))).mono ?_
    rintro e w3 ⟨rfl, hb⟩
    have HK := Lib.hid (show Bel w2 w3 from Bel.trans (by repeat (first | assumption | exact Bel.refl _ | refine Bel.drew ?_ | refine Bel.drewN ?_ _ | refine Bel.alloc ?_ _ | refine Bel.setCell ?_ (by simp <;> omega) _ | refine Bel.trans ?_ (by assumption))) hb)
    replace HY := Lib.hid (HY.out.bel HK.out)
    replace HB := Lib.hid (HB.out.trans HK.out)
    replace z0 := HK.out.cell z0
    replace z3 := HK.out.cell z3
    have lz0 := cell_lt z0
    have lz3 := cell_lt z3
    clear y0 y1 y2 y3 y4 y5 ly
    obtain ⟨y0, y1, y2, y3, y4, y5⟩ := HY.out
    have ly := cell_lt y0
    clear hb HK
    go_wp2
    go_ret
    exact ⟨rfl, HB.out⟩
  rw [hi] at HIN
  have hn := inB_mem hi
  obtain ⟨hfar, hval⟩ := readyT_iff.1 hr
  have hfr := farB_false hfar
  have hok := okb_iff.1 hval
  have n1 := hok.n1
  have n2 := hok.n2
  have hst : stepsB b l = true := by unfold areB at hare; exact (Bool.and_eq_true_iff.1 hare).2
  obtain ⟨r1, r2, r3, r4, r5, r6, r7, r8, r9⟩ := after_law hval hst (by omega) hn
  have HWA1 := Lib.hid (HWA.out (by omega))
  have HPOST := Lib.hid (fun p (hp : p ∈ b.places) sv wx hx h => (HRU.out p sv wx hx h).mono (R' := fun e w' => ∃ V, e = .returned (.tuple #[.int .i64 (ranTo b l p l.length).1, .int .i64 (costsL b l), V, .int .i64 0]) ∧ IntsAt w' V (ranTo b l p l.length).2 ∧ Bel wx w') fun e w' ⟨V, q1, q2, q3⟩ => ⟨V, by
    have q0 := r6 p hp
    unfold runAt runLost at q1
    rw [q0, if_pos rfl, if_pos rfl] at q1
    exact q1, by
    have q0 := r6 p hp
    unfold runAns at q2
    rw [if_pos q0] at q2
    exact q2, q3⟩)
  have HRUN := Lib.hid (fun sv wx hx h => HPOST.out n hn sv wx hx h)
  have HCS1 := Lib.hid (fun wx hx => HCS.out hval hst (by omega) wx hx)
  have HAA1 := Lib.hid (fun xv wx hx h => HAA.out (ranTo b l n l.length).2 xv wx hx h (by omega))
  rw [r2] at HAA1
  have HAF1 := Lib.hid (fun sv xv wx hx h h2 => (HAF.out (ranTo b l n l.length).2 sv xv wx hx h h2).mono (R' := fun e w' => ∃ V, e = .returned (.tuple #[V, .int .i64 0]) ∧ IntsAt w' V (plOf (aftTo b l (ranTo b l n l.length).2 l.length)) ∧ Bel wx w') fun e w' ⟨V, q1, q2, q3⟩ => ⟨V, by
    rw [r3] at q1
    exact q1, by
    unfold aftL at q2
    rw [if_pos r3] at q2
    exact q2, q3⟩)
  have HRI := Lib.hid (fun xv wx (hx : IntsAt wx xv (plOf (aftTo b l (ranTo b l n l.length).2 l.length))) => (Rising_any xv _ (-1) (b.n - 1) wx hx).mono (R' := fun e w' => e = .returned (.bool true) ∧ Bel wx w') fun e w' q => ⟨by rw [q.1, r4], q.2⟩)
  have HIA := Lib.hid (fun xv p wx (hx : IntsAt wx xv (plOf (aftTo b l (ranTo b l n l.length).2 l.length))) => In_any xv _ p wx hx)
  have HL8 : (plOf (aftTo b l (ranTo b l n l.length).2 l.length)).length ≤ 8 := plTo_len 8
  have HCP := Lib.hid (fun xv wx (hx : IntsAt wx xv (ranTo b l n l.length).2) => bcopied_any xv _ wx hx (by omega))
  have HON := Lib.hid (fun k => show onTo b l (ranTo b l n l.length).2 (k + 1) = if (ranTo b l (at0 b.places k) l.length).2 = (ranTo b l n l.length).2 then onTo b l (ranTo b l n l.length).2 k ++ [(ranTo b l (at0 b.places k) l.length).1] else onTo b l (ranTo b l n l.length).2 k from rfl)
  have HON0 := Lib.hid (show onTo b l (ranTo b l n l.length).2 0 = [] from rfl)
  have HOL := Lib.hid (fun k => onTo_len (b := b) (l := l) (a := (ranTo b l n l.length).2) k)
  have HR7 := Lib.hid r7
  have HR8 := Lib.hid r8
  have hplen := hfr.2.2
  obtain ⟨i1, hi1, hz1, hs1, hb1⟩ := info_parts mkInt
  have HI1 := Lib.hid hi1
  have HZ1 := Lib.hid hz1
  clear hr hare hi hfar hfr hok hval hst r1 r2 r3 r4 r6 r7 r8 HRU HCS HAA HAF HWA hi1 hz1
  have HR5 := Lib.hid r5
  clear r5
  generalize hAns : (ranTo b l n l.length).2 = an at *
  generalize (ranTo b l n l.length).1 = atn at *
  generalize plOf (aftTo b l an l.length) = pl at *
  generalize costsL b l = cl at *
  clear hAns
  go_enter Tryd.func14, Tryd.ntmps14
  go_wp2_with fail
  refine (HRD.out _ (HB.out.trans (by repeat (first | assumption | exact Bel.refl _ | refine Bel.drew ?_ | refine Bel.drewN ?_ _ | refine Bel.alloc ?_ _ | refine Bel.setCell ?_ (by simp <;> omega) _ | refine Bel.trans ?_ (by assumption))))).mono ?_
  rintro e w1 ⟨rfl, hb⟩
  have HY := Lib.hid (HBX.out _ (Bel.trans ((Bel.refl _).alloc _) hb))
  have z0 : w1.cell? ⟨w.heap.size + 1, 0, none⟩ = some (.slice la l.length lc) := hb.cell ((row_facts (new_row (by simp))).1 0)
  have z3 : w1.cell? ⟨w.heap.size + 1, 3, none⟩ = some (.int .i64 n) := hb.cell ((row_facts (new_row (by simp))).1 3)
  have lz0 := cell_lt z0
  have HK0 := Lib.hid (show Bel w w1 from Bel.trans (by repeat (first | assumption | exact Bel.refl _ | refine Bel.drew ?_ | refine Bel.drewN ?_ _ | refine Bel.alloc ?_ _ | refine Bel.setCell ?_ (by simp <;> omega) _ | refine Bel.trans ?_ (by assumption))) hb)
  replace HB := Lib.hid (HB.out.trans HK0.out)
  obtain ⟨y0, y1, y2, y3, y4, y5⟩ := HY.out
  have ly := cell_lt y0
  clear hb HK0
  go_wp2_with fail
  refine (HAR.out _ (HB.out.trans (by repeat (first | assumption | exact Bel.refl _ | refine Bel.drew ?_ | refine Bel.drewN ?_ _ | refine Bel.alloc ?_ _ | refine Bel.setCell ?_ (by simp <;> omega) _ | refine Bel.trans ?_ (by assumption))))).mono ?_
  rintro e w2 ⟨rfl, hb⟩
  have HK := Lib.hid (show Bel w1 w2 from Bel.trans (by repeat (first | assumption | exact Bel.refl _ | refine Bel.drew ?_ | refine Bel.drewN ?_ _ | refine Bel.alloc ?_ _ | refine Bel.setCell ?_ (by simp <;> omega) _ | refine Bel.trans ?_ (by assumption))) hb)
  replace HY := Lib.hid (HY.out.bel HK.out)
  replace HB := Lib.hid (HB.out.trans HK.out)
  replace z0 := HK.out.cell z0
  replace z3 := HK.out.cell z3
  have lz0 := cell_lt z0
  have lz3 := cell_lt z3
  clear y0 y1 y2 y3 y4 y5 ly
  obtain ⟨y0, y1, y2, y3, y4, y5⟩ := HY.out
  have ly := cell_lt y0
  clear hb HK
  go_wp2_with fail
  refine (HIN.out _ (HB.out.trans (by repeat (first | assumption | exact Bel.refl _ | refine Bel.drew ?_ | refine Bel.drewN ?_ _ | refine Bel.alloc ?_ _ | refine Bel.setCell ?_ (by simp <;> omega) _ | refine Bel.trans ?_ (by assumption))))).mono ?_
  rintro e wq ⟨rfl, rfl⟩
  go_wp2
  refine wp_region_mixB (Plan.seq [0, 1, 2, 4, 5, 1003, 1006, 7, 8, 9, 10, 11, 12, 13, 14, 15] .nil) (by kernel_rfl) (by kernel_rfl) (fun hcur => ?_)
  simp only [Plan.seq, Plan.fill, List.getD_cons_zero, List.getD_cons_succ, Nat.reduceLT, ↓reduceIte, Nat.reduceSub]
  apply mix_pure _ rfl
  · intro w' hw'
    have hcr := hw'.cells
    go_simp
    rfl
  intro K hK
  go_simp
  refine hK _ ?_
  clear hK K
  apply mix_pure _ rfl
  · intro w' hw'
    have hcr := hw'.cells
    go_simp
    rfl
  intro K hK
  go_simp
  refine hK _ ?_
  clear hK K
  apply mix_pure _ rfl
  · intro w' hw'
    have hcr := hw'.cells
    go_simp
    rfl
  intro K hK
  go_simp
  refine hK _ ?_
  clear hK K
  apply mix_pure _ rfl
  · intro w' hw'
    have hcr := hw'.cells
    go_simp
    rfl
  intro K hK
  go_simp
  refine hK _ ?_
  clear hK K
  apply mix_pure _ rfl
  · intro w' hw'
    have hcr := hw'.cells
    go_simp
    rfl
  intro K hK
  go_simp
  refine hK _ ?_
  clear hK K
  refine mix_act rfl (fun K hK => ?_)
  go_simp
  refine (HWA1.out _ (HB.out.trans hcur)).mono ?_
  rintro e w3 ⟨V3, rfl, hst⟩
  have HS3 := Lib.hid (hst.read (by omega))
  have hcr3 := hst.bel.cells
  simp only []
  refine hK _ _ (hcur.trans hst.bel) (fun hcur => ?_)
  clear hK K hst
  refine mix_act rfl (fun K hK => ?_)
  go_simp
  refine (HRUN.out _ _ (HB.out.trans hcur) HS3.out).mono ?_
  rintro e w4 ⟨V4, rfl, hV4, hb⟩
  have HI4 := Lib.hid hV4
  simp only []
  refine hK _ _ (hcur.trans hb) (fun hcur => ?_)
  clear hK K hb hV4
  apply mix_pure _ rfl
  · intro w' hw'
    have hcr := hw'.cells
    go_simp
    rfl
  intro K hK
  go_simp
  refine hK _ ?_
  clear hK K
  apply mix_pure _ rfl
  · intro w' hw'
    have hcr := hw'.cells
    go_simp
    rfl
  intro K hK
  go_simp
  refine hK _ ?_
  clear hK K
  apply mix_pure _ rfl
  · intro w' hw'
    have hcr := hw'.cells
    go_simp
    rfl
  intro K hK
  go_simp
  refine hK _ ?_
  clear hK K
  apply mix_pure _ rfl
  · intro w' hw'
    have hcr := hw'.cells
    go_simp
    rfl
  intro K hK
  go_simp
  refine hK _ ?_
  clear hK K
  apply mix_pure _ rfl
  · intro w' hw'
    have hcr := hw'.cells
    go_simp
    rfl
  intro K hK
  go_simp
  refine hK _ ?_
  clear hK K
  apply mix_pure _ rfl
  · intro w' hw'
    have hcr := hw'.cells
    go_simp
    rfl
  intro K hK
  go_simp
  refine hK _ ?_
  clear hK K
  apply mix_pure _ rfl
  · intro w' hw'
    have hcr := hw'.cells
    go_simp
    rfl
  intro K hK
  go_simp
  refine hK _ ?_
  clear hK K
  apply mix_pure _ rfl
  · intro w' hw'
    have hcr := hw'.cells
    go_simp
    rfl
  intro K hK
  go_simp
  refine hK _ ?_
  clear hK K
  apply mix_pure _ rfl
  · intro w' hw'
    have hcr := hw'.cells
    go_simp
    rfl
  intro K hK
  go_simp
  refine hK _ ?_
  clear hK K
  refine mix_nil ?_
  have HK := Lib.hid (show Bel w2 w4 from Bel.trans (by repeat (first | assumption | exact Bel.refl _ | refine Bel.drew ?_ | refine Bel.drewN ?_ _ | refine Bel.alloc ?_ _ | refine Bel.setCell ?_ (by simp <;> omega) _ | refine Bel.trans ?_ (by assumption))) hcur)
  replace HY := Lib.hid (HY.out.bel HK.out)
  replace HB := Lib.hid (HB.out.trans HK.out)
  replace z0 := HK.out.cell z0
  replace z3 := HK.out.cell z3
  have lz0 := cell_lt z0
  have lz3 := cell_lt z3
  clear y0 y1 y2 y3 y4 y5 ly
  obtain ⟨y0, y1, y2, y3, y4, y5⟩ := HY.out
  have ly := cell_lt y0
  clear hcur HK
  clear HS3 HRUN
  go_wp2_with fail
  refine (HCS1.out _ (HB.out.trans (by repeat (first | assumption | exact Bel.refl _ | refine Bel.drew ?_ | refine Bel.drewN ?_ _ | refine Bel.alloc ?_ _ | refine Bel.setCell ?_ (by simp <;> omega) _ | refine Bel.trans ?_ (by assumption))))).mono ?_
  rintro e w5 ⟨rfl, hb⟩
  have HK := Lib.hid (show Bel w4 w5 from Bel.trans (by repeat (first | assumption | exact Bel.refl _ | refine Bel.drew ?_ | refine Bel.drewN ?_ _ | refine Bel.alloc ?_ _ | refine Bel.setCell ?_ (by simp <;> omega) _ | refine Bel.trans ?_ (by assumption))) hb)
  replace HY := Lib.hid (HY.out.bel HK.out)
  replace HB := Lib.hid (HB.out.trans HK.out)
  replace HI4 := Lib.hid (HI4.out.bel HK.out)
  replace z0 := HK.out.cell z0
  replace z3 := HK.out.cell z3
  have lz0 := cell_lt z0
  have lz3 := cell_lt z3
  clear y0 y1 y2 y3 y4 y5 ly
  obtain ⟨y0, y1, y2, y3, y4, y5⟩ := HY.out
  have ly := cell_lt y0
  clear hb HK
  go_wp2_with fail
  refine (HAA1.out _ _ (HB.out.trans (by repeat (first | assumption | exact Bel.refl _ | refine Bel.drew ?_ | refine Bel.drewN ?_ _ | refine Bel.alloc ?_ _ | refine Bel.setCell ?_ (by simp <;> omega) _ | refine Bel.trans ?_ (by assumption)))) (HI4.out.bel (by repeat (first | assumption | exact Bel.refl _ | refine Bel.drew ?_ | refine Bel.drewN ?_ _ | refine Bel.alloc ?_ _ | refine Bel.setCell ?_ (by simp <;> omega) _ | refine Bel.trans ?_ (by assumption))))).mono ?_
  rintro e w6 ⟨rfl, hb⟩
  have HK := Lib.hid (show Bel w5 w6 from Bel.trans (by repeat (first | assumption | exact Bel.refl _ | refine Bel.drew ?_ | refine Bel.drewN ?_ _ | refine Bel.alloc ?_ _ | refine Bel.setCell ?_ (by simp <;> omega) _ | refine Bel.trans ?_ (by assumption))) hb)
  replace HY := Lib.hid (HY.out.bel HK.out)
  replace HB := Lib.hid (HB.out.trans HK.out)
  replace HI4 := Lib.hid (HI4.out.bel HK.out)
  replace z0 := HK.out.cell z0
  replace z3 := HK.out.cell z3
  have lz0 := cell_lt z0
  have lz3 := cell_lt z3
  clear y0 y1 y2 y3 y4 y5 ly
  obtain ⟨y0, y1, y2, y3, y4, y5⟩ := HY.out
  have ly := cell_lt y0
  clear hb HK
  go_wp2
  refine wp_region_mixB (Plan.seq [0, 1, 2, 4, 1003, 1005, 1006, 7, 8, 9, 10, 11] .nil) (by kernel_rfl) (by kernel_rfl) (fun hcur => ?_)
  simp only [Plan.seq, Plan.fill, List.getD_cons_zero, List.getD_cons_succ, Nat.reduceLT, ↓reduceIte, Nat.reduceSub]
  apply mix_pure _ rfl
  · intro w' hw'
    have hcr := hw'.cells
    go_simp
    rfl
  intro K hK
  go_simp
  refine hK _ ?_
  clear hK K
  apply mix_pure _ rfl
  · intro w' hw'
    have hcr := hw'.cells
    go_simp
    rfl
  intro K hK
  go_simp
  refine hK _ ?_
  clear hK K
  apply mix_pure _ rfl
  · intro w' hw'
    have hcr := hw'.cells
    go_simp
    rfl
  intro K hK
  go_simp
  refine hK _ ?_
  clear hK K
  apply mix_pure _ rfl
  · intro w' hw'
    have hcr := hw'.cells
    go_simp
    rfl
  intro K hK
  go_simp
  refine hK _ ?_
  clear hK K
  refine mix_act rfl (fun K hK => ?_)
  go_simp
  refine (HWA1.out _ (HB.out.trans hcur)).mono ?_
  rintro e w7 ⟨V7, rfl, hst⟩
  have HS7 := Lib.hid (hst.read (by omega))
  have HI7 := Lib.hid (HI4.out.bel (hcur.trans hst.bel))
  have hcr7 := hst.bel.cells
  simp only []
  refine hK _ _ (hcur.trans hst.bel) (fun hcur => ?_)
  clear hK K hst
  refine mix_act rfl (fun K hK => ?_)
  go_simp
  refine (HCP.out _ _ HI7.out).mono ?_
  rintro e w8 ⟨V8, rfl, hst⟩
  have HS8 := Lib.hid (HS7.out.bel hst.bel)
  have HI8 := Lib.hid (ownInts (l := an) (by omega) hst.own)
  have hcr8 := hst.bel.cells
  simp only []
  refine hK _ _ (hcur.trans hst.bel) (fun hcur => ?_)
  clear hK K hst
  refine mix_act rfl (fun K hK => ?_)
  go_simp
  refine (HAF1.out _ _ _ (HB.out.trans hcur) HS8.out HI8.out).mono ?_
  rintro e w9 ⟨V9, rfl, hV9, hb⟩
  have HI9 := Lib.hid hV9
  simp only []
  refine hK _ _ (hcur.trans hb) (fun hcur => ?_)
  clear hK K hb hV9
  apply mix_pure _ rfl
  · intro w' hw'
    have hcr := hw'.cells
    go_simp
    rfl
  intro K hK
  go_simp
  refine hK _ ?_
  clear hK K
  apply mix_pure _ rfl
  · intro w' hw'
    have hcr := hw'.cells
    go_simp
    rfl
  intro K hK
  go_simp
  refine hK _ ?_
  clear hK K
  apply mix_pure _ rfl
  · intro w' hw'
    have hcr := hw'.cells
    go_simp
    rfl
  intro K hK
  go_simp
  refine hK _ ?_
  clear hK K
  apply mix_pure _ rfl
  · intro w' hw'
    have hcr := hw'.cells
    go_simp
    rfl
  intro K hK
  go_simp
  refine hK _ ?_
  clear hK K
  apply mix_pure _ rfl
  · intro w' hw'
    have hcr := hw'.cells
    go_simp
    rfl
  intro K hK
  go_simp
  refine hK _ ?_
  clear hK K
  refine mix_nil ?_
  have HK := Lib.hid (show Bel w6 w9 from Bel.trans (by repeat (first | assumption | exact Bel.refl _ | refine Bel.drew ?_ | refine Bel.drewN ?_ _ | refine Bel.alloc ?_ _ | refine Bel.setCell ?_ (by simp <;> omega) _ | refine Bel.trans ?_ (by assumption))) hcur)
  replace HY := Lib.hid (HY.out.bel HK.out)
  replace HB := Lib.hid (HB.out.trans HK.out)
  replace HI4 := Lib.hid (HI4.out.bel HK.out)
  replace z0 := HK.out.cell z0
  replace z3 := HK.out.cell z3
  have lz0 := cell_lt z0
  have lz3 := cell_lt z3
  clear y0 y1 y2 y3 y4 y5 ly
  obtain ⟨y0, y1, y2, y3, y4, y5⟩ := HY.out
  have ly := cell_lt y0
  clear hcur HK
  clear HS7 HI7 HS8 HI8 HAF1 HAA1 HCS1
  obtain ⟨ta, tc, tb, toff, hle, hta, _, htc⟩ := HI9.out
  subst hle
  have hixt := idxInts (c := tc) hta
  have HTC := Lib.hid htc
  have HK9 := Lib.hid (Bel.refl w9)
  clear hta htc
  go_wp2_with fail
  refine (HRI.out _ _ (HI9.out.bel (by repeat (first | assumption | exact Bel.refl _ | refine Bel.drew ?_ | refine Bel.drewN ?_ _ | refine Bel.alloc ?_ _ | refine Bel.setCell ?_ (by simp <;> omega) _ | refine Bel.trans ?_ (by assumption))))).mono ?_
  rintro e w10 ⟨rfl, hb⟩
  have HK := Lib.hid (show Bel w9 w10 from Bel.trans (by repeat (first | assumption | exact Bel.refl _ | refine Bel.drew ?_ | refine Bel.drewN ?_ _ | refine Bel.alloc ?_ _ | refine Bel.setCell ?_ (by simp <;> omega) _ | refine Bel.trans ?_ (by assumption))) hb)
  replace HY := Lib.hid (HY.out.bel HK.out)
  replace HB := Lib.hid (HB.out.trans HK.out)
  replace HK9 := Lib.hid (HK9.out.trans HK.out)
  replace HI4 := Lib.hid (HI4.out.bel HK.out)
  replace HI9 := Lib.hid (HI9.out.bel HK.out)
  replace z0 := HK.out.cell z0
  replace z3 := HK.out.cell z3
  have lz0 := cell_lt z0
  have lz3 := cell_lt z3
  clear y0 y1 y2 y3 y4 y5 ly
  obtain ⟨y0, y1, y2, y3, y4, y5⟩ := HY.out
  have ly := cell_lt y0
  clear hb HK
  go_wp2_with fail
  refine (HIA.out _ _ _ (HI9.out.bel (by repeat (first | assumption | exact Bel.refl _ | refine Bel.drew ?_ | refine Bel.drewN ?_ _ | refine Bel.alloc ?_ _ | refine Bel.setCell ?_ (by simp <;> omega) _ | refine Bel.trans ?_ (by assumption))))).mono ?_
  rw [HR5.out]
  rintro e wq ⟨rfl, rfl⟩
  have HZ0 := Lib.hid z0
  go_wp2
  clear y0 y1 y2 y3 y4 y5 ly z0 z3 lz0
  go_loopw [11, 12] (fun V i wr => ∃ k : Nat, k ≤ b.places.length ∧ i = .int .i64 k ∧ IntSt (onTo b l an k) w10 V wr) (fun _ i _ => b.places.length - (intOf i).toNat)
  case atStart => exact ⟨0, by omega, rfl, by rw [HON0.out]; exact IntSt.start w10⟩
  case round =>
    obtain ⟨k, hk, rfl, hst⟩ := hrel
    have HS := Lib.hid hst
    have HBW := Lib.hid (HB.out.trans hst.bel)
    obtain ⟨y0, y1, y2, y3, y4, y5⟩ := HY.out.bel hst.bel
    have ly := cell_lt y0
    have z0 := hst.bel.cell HZ0.out
    have lz0 := cell_lt z0
    have hol := HOL.out k
    by_cases hlt : k < b.places.length
    · have hlti : (k : Int) < (b.places.length : Int) := by omega
      have q0 := HBW.out.cell (HPC.out k hlt)
      have lq := cell_lt q0
      have hmem : at0 b.places k ∈ b.places := getD_mem b.places k 0 hlt
      have HRK := Lib.hid (fun sv wx hx h => HPOST.out (at0 b.places k) hmem sv wx hx h)
      have HMM := Lib.hid (HR7.out (at0 b.places k) hmem)
      have HNK := Lib.hid (HON.out k)
      have HIA4 := Lib.hid (HI4.out.bel hst.bel)
      have HIA9 := Lib.hid (HI9.out.bel hst.bel)
      clear hst hmem
      generalize at0 b.places k = p at *
      generalize ranTo b l p l.length = r at *
      go_wp2
      refine wp_region_mixB (Plan.seq [0, 1, 2, 4, 5, 6, 7, 8, 1003, 1009, 10, 11, 12, 13, 14, 15, 16, 17, 18] .nil) (by kernel_rfl) (by kernel_rfl) (fun hcur => ?_)
      simp only [Plan.seq, Plan.fill, List.getD_cons_zero, List.getD_cons_succ, Nat.reduceLT, ↓reduceIte, Nat.reduceSub]
      apply mix_pure _ rfl
      · intro w' hw'
        have hcr := hw'.cells
        go_simp
        rfl
      intro K hK
      go_simp
      refine hK _ ?_
      clear hK K
      apply mix_pure _ rfl
      · intro w' hw'
        have hcr := hw'.cells
        go_simp
        rfl
      intro K hK
      go_simp
      refine hK _ ?_
      clear hK K
      apply mix_pure _ rfl
      · intro w' hw'
        have hcr := hw'.cells
        go_simp
        rfl
      intro K hK
      go_simp
      refine hK _ ?_
      clear hK K
      apply mix_pure _ rfl
      · intro w' hw'
        have hcr := hw'.cells
        go_simp
        rfl
      intro K hK
      go_simp
      refine hK _ ?_
      clear hK K
      apply mix_pure _ rfl
      · intro w' hw'
        have hcr := hw'.cells
        go_simp
        rfl
      intro K hK
      go_simp
      refine hK _ ?_
      clear hK K
      apply mix_pure _ rfl
      · intro w' hw'
        have hcr := hw'.cells
        go_simp
        rfl
      intro K hK
      go_simp
      refine hK _ ?_
      clear hK K
      apply mix_pure _ rfl
      · intro w' hw'
        have hcr := hw'.cells
        go_simp
        rfl
      intro K hK
      go_simp
      refine hK _ ?_
      clear hK K
      apply mix_pure _ rfl
      · intro w' hw'
        have hcr := hw'.cells
        go_simp
        rfl
      intro K hK
      go_simp
      refine hK _ ?_
      clear hK K
      refine mix_act rfl (fun K hK => ?_)
      go_simp
      refine (HWA1.out _ (HBW.out.trans hcur)).mono ?_
      rintro e w11 ⟨V11, rfl, hst⟩
      have HS11 := Lib.hid (hst.read (by omega))
      have hcr11 := hst.bel.cells
      simp only []
      refine hK _ _ (hcur.trans hst.bel) (fun hcur => ?_)
      clear hK K hst
      refine mix_act rfl (fun K hK => ?_)
      go_simp
      refine (HRK.out _ _ (HBW.out.trans hcur) HS11.out).mono ?_
      rintro e w12 ⟨V12, rfl, hV12, hb⟩
      have HI12 := Lib.hid hV12
      simp only []
      refine hK _ _ (hcur.trans hb) (fun hcur => ?_)
      clear hK K hb hV12
      apply mix_pure _ rfl
      · intro w' hw'
        have hcr := hw'.cells
        go_simp
        rfl
      intro K hK
      go_simp
      refine hK _ ?_
      clear hK K
      apply mix_pure _ rfl
      · intro w' hw'
        have hcr := hw'.cells
        go_simp
        rfl
      intro K hK
      go_simp
      refine hK _ ?_
      clear hK K
      apply mix_pure _ rfl
      · intro w' hw'
        have hcr := hw'.cells
        go_simp
        rfl
      intro K hK
      go_simp
      refine hK _ ?_
      clear hK K
      apply mix_pure _ rfl
      · intro w' hw'
        have hcr := hw'.cells
        go_simp
        rfl
      intro K hK
      go_simp
      refine hK _ ?_
      clear hK K
      apply mix_pure _ rfl
      · intro w' hw'
        have hcr := hw'.cells
        go_simp
        rfl
      intro K hK
      go_simp
      refine hK _ ?_
      clear hK K
      apply mix_pure _ rfl
      · intro w' hw'
        have hcr := hw'.cells
        go_simp
        rfl
      intro K hK
      go_simp
      refine hK _ ?_
      clear hK K
      apply mix_pure _ rfl
      · intro w' hw'
        have hcr := hw'.cells
        go_simp
        rfl
      intro K hK
      go_simp
      refine hK _ ?_
      clear hK K
      apply mix_pure _ rfl
      · intro w' hw'
        have hcr := hw'.cells
        go_simp
        rfl
      intro K hK
      go_simp
      refine hK _ ?_
      clear hK K
      apply mix_pure _ rfl
      · intro w' hw'
        have hcr := hw'.cells
        go_simp
        rfl
      intro K hK
      go_simp
      refine hK _ ?_
      clear hK K
      refine mix_nil ?_
      have HK12 := Lib.hid hcur
      have HST12 := Lib.hid (HS.out.keep hcur)
      clear hcur y0 y1 y2 y3 y4 y5 ly z0 lz0 q0 lq HS11
      by_cases he : r.2 = an
      · have HNE := Lib.hid (HNK.out.trans (if_pos he))
        have hin := HMM.out he
        have HSB := Lib.hid (show sameB r.2 an = true by unfold sameB; exact decide_eq_true he)
        clear he HNK HMM
        go_wp2_with fail
        refine (SameInts_any _ _ r.2 an _ HI12.out (HIA4.out.bel HK12.out)).mono ?_
        rw [HSB.out]
        rintro e w13 ⟨rfl, hb⟩
        have HST13 := Lib.hid (HST12.out.keep hb)
        have HIB9 := Lib.hid ((HIA9.out.bel HK12.out).bel hb)
        clear hb
        go_wp2_with fail
        refine (HIA.out _ _ _ HIB9.out).mono ?_
        rw [hin]
        rintro e wq ⟨rfl, rfl⟩
        clear hin
        go_wp2_with (at_builtin; refine wpList_append_where rfl _ _ 23 rfl 3 i1 (.int .i64 0) 1 8 Tryd.underlying23 HI1.out HZ1.out hs1 hb1 rfl (by decide) _ (onTo b l an k).length ((onTo b l an k).map (Value.int .i64)) rfl (ownsRow_bel HST13.out.own ((Bel.refl w13).alloc _)) ⟨w13.heap.size, 0, none⟩ 1 1 [.int .i64 r.1] rfl rfl (cell_one_new _ _ _) (fun y hy => by simp at hy; subst hy; rfl) (by unfold maxLen; omega) (by omega) ?_; intro V' w14 hown hgrow hwhere)
        have HST14 := Lib.hid ((HST13.out.keep ((Bel.refl w13).alloc _)).next hown hgrow hwhere)
        clear hown hgrow hwhere
        go_wp2
        go_roundw
        case rel => exact ⟨k + 1, by omega, by go_num, by rw [HNE.out]; exact HST14.out⟩
        case measure => simp [intOf]; omega
      · have HNE := Lib.hid (HNK.out.trans (if_neg he))
        have HSB := Lib.hid (show sameB r.2 an = false by unfold sameB; exact decide_eq_false he)
        clear he HNK HMM
        go_wp2_with fail
        refine (SameInts_any _ _ r.2 an _ HI12.out (HIA4.out.bel HK12.out)).mono ?_
        rw [HSB.out]
        rintro e w13 ⟨rfl, hb⟩
        have HST13 := Lib.hid (HST12.out.keep hb)
        clear hb
        go_wp2
        go_roundw
        case rel => exact ⟨k + 1, by omega, by go_num, by rw [HNE.out]; exact HST13.out⟩
        case measure => simp [intOf]; omega
    · have hlti : ¬ (k : Int) < (b.places.length : Int) := by omega
      obtain rfl : k = b.places.length := by omega
      have HRD2 := Lib.hid (ownInts (by omega) hst.own)
      have HTC2 := Lib.hid (fun i (hi : i < pl.length) => (HK9.out.trans hst.bel).cell (HTC.out i hi))
      clear hst z0 lz0
      go_wp2
      clear y0 y1 y2 y3 y4 y5 ly
      go_loopw [17] (fun i wx => ∃ k : Nat, k ≤ pl.length ∧ i = .int .i64 k ∧ Bel wr wx) (fun i _ => pl.length - (intOf i).toNat)
      case atStart => exact ⟨0, by omega, rfl, Bel.refl _⟩
      case round =>
        obtain ⟨k, hk, rfl, hw⟩ := hrel
        by_cases hlt : k < pl.length
        · have hlti2 : (k : Int) < (pl.length : Int) := by omega
          have q0 := hw.cell (HTC2.out k hlt)
          have hin := HR8.out _ (getD_mem pl k 0 hlt)
          have HIF := Lib.hid (fun xv wx hx => In_any xv (onTo b l an b.places.length) (at0 pl k) wx hx)
          have HIN2 := Lib.hid (show inB (onTo b l an b.places.length) (at0 pl k) = true from hin)
          have HRD3 := Lib.hid (HRD2.out.bel hw)
          have HW := Lib.hid hw
          rw [HIN2.out] at HIF
          clear hin hw
          generalize at0 pl k = x at *
          go_wp2_with fail
          refine (HIF.out _ _ HRD3.out).mono ?_
          rintro e wq ⟨rfl, rfl⟩
          go_wp2
          go_roundw
          case rel => exact ⟨k + 1, by omega, by go_num, HW.out⟩
          case measure => simp [intOf]; omega
        · have hlti2 : ¬ (k : Int) < (pl.length : Int) := by omega
          have HF0 := Lib.hid (HBW.out.trans hw)
          clear hw
          go_wp2_with fail
          refine (HWK.out _ HF0.out).mono ?_
          rintro e w15 ⟨rfl, hb⟩
          have HF := Lib.hid (HF0.out.trans hb)
          clear hb
          go_wp2
          go_ret
          exact ⟨rfl, HF.out⟩
end Go.Proofs.YtogiidkofddhaaaDoor
