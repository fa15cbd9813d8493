/-
  counts: Idle.
-/
import Derived.Test.YtoiajjdhgffdaaaIdleV
import Derived.Test.YtoiajjdhgffdaaaCopied
import Derived.Test.YtoiajjdhgffdaaaTold
import Derived.Deep.DeepCutAuto
namespace Go.Proofs.Ytoiajjdhgffdaaa
open Go Go.RowKit
set_option maxHeartbeats 4000000
set_option maxRecDepth 100000
theorem ownInts {w : World} {x : Value} {l : List Int} (hl : l.length ≤ 140737488355328) (hx : w.ownsRow 0 3 1 x l.length (l.map (Value.int .i64))) : IntsAt w x l :=
  (Off.own (v := .slice none 0 0) hl hx (fun g h => by simp [Value.ownBlock] at h)).now
theorem idle_yes {t : CT} {n : Nat} (h : idleB t n = true) : idleTo t (n + 1) = idleTo t n ++ [(n : Int)] := by show (if idleB t n = true then _ else _) = _; rw [if_pos h]
theorem idle_no {t : CT} {n : Nat} (h : idleB t n = false) : idleTo t (n + 1) = idleTo t n := by show (if idleB t n = true then _ else _) = _; rw [if_neg (by simp [h])]
/-- A list that the call makes. -/
structure IntSt (l : List Int) (w0 : World) (V : Value) (wr : World) : Prop where
  own : wr.ownsRow 0 3 1 V l.length (l.map (Value.int .i64))
  far : ∀ g, V.ownBlock = some g → w0.heap.size ≤ g
  bel : Bel w0 wr
theorem IntSt.start (w0 : World) : IntSt [] w0 (.slice none 0 0) w0 := ⟨World.ownsRow_nil w0 0 _ 1, fun g h => by simp [Value.ownBlock] at h, Bel.refl _⟩
theorem IntSt.keep {l : List Int} {w0 wr wx : World} {V : Value} (h : IntSt l w0 V wr) (k : Bel wr wx) : IntSt l w0 V wx := ⟨ownsRow_bel h.own k, h.far, h.bel.trans k⟩
theorem IntSt.next {l : List Int} {w0 wa w' : World} {V V' : Value} {x : Int} (h : IntSt l w0 V wa)
    (ho : w'.ownsRow 0 3 1 V' (l.length + 1) (l.map (Value.int .i64) ++ [.int .i64 x])) (hg : wa.grownBy w' V.ownBlock) (hv : V'.ownBlock = V.ownBlock ∨ V'.ownBlock = some wa.heap.size) :
    IntSt (l ++ [x]) w0 V' w' := by
  refine ⟨by simpa using ho, fun g q => ?_, h.bel.grown hg h.far⟩
  rcases hv with e | e
  · exact h.far g (by rw [← e]; exact q)
  · rw [e] at q; injection q with q; have := h.bel.szle; omega
theorem set2at {w : World} {p : Nat} {a b u0 u1 : Value} (h0 : w.cell? ⟨p, 0, none⟩ = some u0) (h1 : w.cell? ⟨p, 1, none⟩ = some u1) :
    ((w.setCell ⟨p, 0, none⟩ a).setCell ⟨p, 1, none⟩ b).cell? ⟨p, 0, none⟩ = some a ∧ ((w.setCell ⟨p, 0, none⟩ a).setCell ⟨p, 1, none⟩ b).cell? ⟨p, 1, none⟩ = some b := by
  refine ⟨?_, World.cell?_setCell_same (u := u1) _ _ _ ?_⟩
  · rw [World.cell?_setCell_other _ _ _ _ (by intro q; injection q with _ q2; omega)]
    exact World.cell?_setCell_same _ _ _ h0
  · rw [World.cell?_setCell_other _ _ _ _ (by intro q; injection q with _ q2; omega)]
    exact h1
def IdlePost (t : CT) (w : World) (e : Ending) (w' : World) : Prop :=
  (errR t true ≠ 0 ∧ e = .returned (.tuple #[.slice none 0 0, .int .i64 (errR t true)]) ∧ Bel w w') ∨
  (errR t true = 0 ∧ ∃ v, e = .returned (.tuple #[v, .int .i64 0]) ∧ IntsAt w' v (idleL t) ∧ Bel w w')
theorem Idle_any (t : CT) (v : Value) (w : World) (hv : TrapAt w v t) : Calls Try.prog 48 #[v] w (IdlePost t w) := by
  have HV := Lib.hid hv
  obtain ⟨ov, wv, rfl, ⟨a, cc, b, off, rv, rfl, _⟩, ⟨wa, wc, wb, woff, rfl, hwa, hwlen, hwc⟩⟩ := hv
  by_cases he : errR t true = 0
  · have HE := Lib.hid he
    obtain ⟨hval, _, hone⟩ := errR_zero he
    have hf := fit_of_valid hval
    have HF := Lib.hid hf
    obtain ⟨f1, f2, f3, f4, f5, _⟩ := fit_of_valid hval
    have hw8 : t.ws.length ≤ 8 := (validB_bounds hval).2.2.2.1
    have HP := Lib.hid (fun wz hz => open_ok t (.slice a t.op.length cc) (.slice wa t.ws.length wc) true wz hz HE.out)
    have HST := Lib.hid (fun (n : Nat) wx (hx : TrapAt wx (.agg #[.int .i64 t.C, .int .i64 t.T, .slice a t.op.length cc, .slice wa t.ws.length wc]) t) => (set_any t n _ wx hx hval (safeWords hf hw8 n)).mono (R' := fun e w' => SomeTrap t.C t.T (.slice a t.op.length cc) (.slice wa t.ws.length wc) (setMat t n) wx e w') fun e w' h => by
      obtain ⟨ov, wv, e1, h⟩ := h
      simp only [Value.agg.injEq, Array.mk.injEq, List.cons.injEq] at e1
      obtain ⟨_, _, e2, e3, _⟩ := e1
      rw [← e2, ← e3] at h
      exact h)
    have HSF := Lib.hid (fun (n : Nat) (hn : n < t.ws.length) => (exact_skip hf (one_skip hn hone)).safe)
    have hixw := idxWords (c := wc) hwa
    have HWC := Lib.hid hwc
    obtain ⟨i1, hi1, hz1, hs1, hb1⟩ := info_parts mkInt
    have HI1 := Lib.hid hi1
    have HZ1 := Lib.hid hz1
    clear hi1 hz1 he hval hone hf f5 hwa hwc
    go_enter Try.func48, Try.ntmps48
    go_wp2_with fail
    refine (HP.out _ (HV.out.bel (by repeat (first | assumption | exact Bel.refl _ | refine Bel.drew ?_ | refine Bel.drewN ?_ _ | refine Bel.alloc ?_ _ | refine Bel.setCell ?_ (by simp <;> omega) _ | refine Bel.trans ?_ (by assumption))))).mono ?_
    rintro e w1 ⟨tb, rfl, _, _, hb⟩
    have x0 : w1.cell? ⟨w.heap.size, 0, none⟩ = some (.int .i64 t.C) := hb.cell ((row_facts (new_row rfl)).1 0)
    have x1 : w1.cell? ⟨w.heap.size, 1, none⟩ = some (.int .i64 t.T) := hb.cell ((row_facts (new_row rfl)).1 1)
    have x2 : w1.cell? ⟨w.heap.size, 2, none⟩ = some (.slice a t.op.length cc) := hb.cell ((row_facts (new_row rfl)).1 2)
    have x3 : w1.cell? ⟨w.heap.size, 3, none⟩ = some (.slice wa t.ws.length wc) := hb.cell ((row_facts (new_row rfl)).1 3)
    have HX := Lib.hid (And.intro x0 (And.intro x1 (And.intro x2 x3)))
    have HB1 := Lib.hid (show Bel w w1 from Bel.trans (by repeat (first | assumption | exact Bel.refl _ | refine Bel.drew ?_ | refine Bel.drewN ?_ _ | refine Bel.alloc ?_ _ | refine Bel.setCell ?_ (by simp <;> omega) _ | refine Bel.trans ?_ (by assumption))) hb)
    clear hb x0 x1 x2
    go_wp2
    clear x3
    go_loopw [6, 21] (fun V i wr => ∃ n : Nat, n ≤ t.ws.length ∧ i = .int .i64 n ∧ IntSt (idleTo t n) w1 V wr) (fun _ i _ => t.ws.length - (intOf i).toNat)
    case atStart => exact ⟨0, by omega, rfl, IntSt.start w1⟩
    case round =>
      obtain ⟨n, hn, rfl, hR⟩ := hrel
      have HR := Lib.hid hR
      clear hR
      by_cases hlt : n < t.ws.length
      · obtain ⟨c0, c1, c2, c3⟩ := HWC.out n hlt
        have HBR := Lib.hid (HB1.out.trans HR.out.bel)
        replace c0 := HBR.out.cell c0
        replace c1 := HBR.out.cell c1
        replace c2 := HBR.out.cell c2
        replace c3 := HBR.out.cell c3
        obtain ⟨⟨w1', w2⟩, ⟨w3, w4⟩, _⟩ := HF.out.word n hlt
        have HID := Lib.hid (show idleB t n = (decide ((atW t.ws n).low ≤ skLo t n (atW t.ws n).time (atW t.ws n).chamber) && decide (skHi t n (atW t.ws n).time (atW t.ws n).chamber ≤ (atW t.ws n).high)) from rfl)
        have HLO := Lib.hid (show skLo t n (atW t.ws n).time (atW t.ws n).chamber = -(setMat t n (nd t.C (atW t.ws n).time (atW t.ws n).chamber) (nd t.C (atW t.ws n).time ((atW t.ws n).chamber + 1))) from rfl)
        have HHI := Lib.hid (show skHi t n (atW t.ws n).time (atW t.ws n).chamber = setMat t n (nd t.C (atW t.ws n).time ((atW t.ws n).chamber + 1)) (nd t.C (atW t.ws n).time (atW t.ws n).chamber) from rfl)
        generalize atW t.ws n = x at *
        have hSn := HSF.out n hlt
        go_wp2
        generalize hWb : wr.alloc _ = Wb
        have hBb : Bel wr Wb := by rw [← hWb]; exact (Bel.refl wr).alloc _
        have b0 : Wb.cell? ⟨wr.heap.size, 0, none⟩ = some (.int .i64 x.time) := by rw [← hWb]; exact (row_facts (new_row rfl)).1 0
        have b1 : Wb.cell? ⟨wr.heap.size, 1, none⟩ = some (.int .i64 x.chamber) := by rw [← hWb]; exact (row_facts (new_row rfl)).1 1
        have b2 : Wb.cell? ⟨wr.heap.size, 2, none⟩ = some (.int .i64 x.low) := by rw [← hWb]; exact (row_facts (new_row rfl)).1 2
        have b3 : Wb.cell? ⟨wr.heap.size, 3, none⟩ = some (.int .i64 x.high) := by rw [← hWb]; exact (row_facts (new_row rfl)).1 3
        have lb0 := cell_lt b0
        have HRB := Lib.hid (HR.out.keep hBb)
        have HBB := Lib.hid (HBR.out.trans hBb)
        have x0 := (HR.out.bel.trans hBb).cell HX.out.1
        have x1 := (HR.out.bel.trans hBb).cell HX.out.2.1
        have x2 := (HR.out.bel.trans hBb).cell HX.out.2.2.1
        have x3 := (HR.out.bel.trans hBb).cell HX.out.2.2.2
        have lx0 := cell_lt x0
        clear hWb hBb c0 c1 c2 c3
        generalize skLo t n x.time x.chamber = lo at *
        generalize skHi t n x.time x.chamber = hi at *
        have HVB := Lib.hid (HV.out.bel HBB.out)
        go_upto_region 8 with fail
        go_cut [9] (fun s9 wx => ∃ p : Nat, s9 = .pointer (some ⟨p, 0, none⟩) ∧ Bel Wb wx ∧ wx.cell? ⟨p, 0, none⟩ = some (.int .i64 lo) ∧ wx.cell? ⟨p, 1, none⟩ = some (.int .i64 hi))
        case first =>
          refine wp_region_mixB (Plan.seq [0, 1, 3, 4, 5, 6] (.both 2 (.both 7 (Plan.seq [1008, 1009] .nil) 8 (Plan.seq [1007, 1009] .nil)) 8 (Plan.seq [1002, 1007, 1009] .nil))) (by kernel_rfl) (by kernel_rfl) (fun hcur => ?_)
          simp only [Plan.seq, Plan.fill, List.getD_cons_zero, List.getD_cons_succ, Nat.reduceLT, ↓reduceIte, Nat.reduceSub]
          apply mix_pure _ rfl
          · intro w' hw'
            have hcr := hw'.cells
            go_simp
            rfl
          intro K hK
          go_simp
          refine hK _ ?_
          clear hK K
          apply mix_pure _ rfl
          · intro w' hw'
            have hcr := hw'.cells
            go_simp
            rfl
          intro K hK
          go_simp
          refine hK _ ?_
          clear hK K
          apply mix_pure _ rfl
          · intro w' hw'
            have hcr := hw'.cells
            go_simp
            rfl
          intro K hK
          go_simp
          refine hK _ ?_
          clear hK K
          apply mix_pure _ rfl
          · intro w' hw'
            have hcr := hw'.cells
            go_simp
            rfl
          intro K hK
          go_simp
          refine hK _ ?_
          clear hK K
          apply mix_pure _ rfl
          · intro w' hw'
            have hcr := hw'.cells
            go_simp
            rfl
          intro K hK
          go_simp
          refine hK _ ?_
          clear hK K
          apply mix_pure _ rfl
          · intro w' hw'
            have hcr := hw'.cells
            go_simp
            rfl
          intro K hK
          go_simp
          refine hK _ ?_
          clear hK K
          refine mix_both ?_ ?_
          · refine mix_act rfl (fun K hK => ?_)
            go_simp
            refine (HST.out n _ (HVB.out.bel hcur)).mono ?_
            rintro e w5 ⟨tb, rfl, htb, hT, hb⟩
            have hcr5 := hb.cells
            have hfr5 := hb.frozens
            have hz5 := hb.szle
            (try simp only [World.size_drew] at hz5)
            have z5 : Wb.heap.size ≤ w5.heap.size := Nat.le_trans hcur.szle hb.szle
            try have z5b : Wb.heap.size < w5.heap.size := by omega
            simp only []
            refine hK _ _ (hcur.trans hb) (fun hcur => ?_)
            clear hK K
            refine mix_both ?_ ?_
            · refine mix_act rfl (fun K hK => ?_)
              go_simp
              refine (tfish_any tb t.C t.T x.time x.chamber _ _ (setMat t n) _ (hT.bel (by repeat (first | assumption | exact Bel.refl _ | refine Bel.drew ?_ | refine Bel.drewN ?_ _ | refine Bel.alloc ?_ _ | refine Bel.setCell ?_ (by simp <;> omega) _ | refine Bel.trans ?_ (by assumption)))) hSn w1' (by omega) w3 w4 f2).mono ?_
              rintro e w6 ⟨rfl, hb⟩
              rw [← HLO.out, ← HHI.out]
              have hcr6 := hb.cells
              have hfr6 := hb.frozens
              have hz6 := hb.szle
              (try simp only [World.size_alloc, World.size_drew, World.size_setCell, World.heap_drewN] at hz6)
              have z6 : Wb.heap.size ≤ w6.heap.size := Nat.le_trans hcur.szle hb.szle
              try have z6a : w5.heap.size < w6.heap.size := by omega
              try have z6b : Wb.heap.size < w6.heap.size := by omega
              simp only []
              refine hK _ _ (hcur.trans hb) (fun hcur => ?_)
              clear hK K
              refine mix_act rfl (fun K hK => ?_)
              go_simp
              refine hK _ _ (by repeat (first | assumption | exact Bel.refl _ | refine Bel.drew ?_ | refine Bel.drewN ?_ _ | refine Bel.alloc ?_ _ | refine Bel.setCell ?_ (by simp <;> omega) _ | refine Bel.trans ?_ (by assumption))) (fun hcur => ?_)
              clear hK K
              refine mix_act rfl (fun K hK => ?_)
              go_simp
              refine hK _ _ (by repeat (first | assumption | exact Bel.refl _ | refine Bel.drew ?_ | refine Bel.drewN ?_ _ | refine Bel.alloc ?_ _ | refine Bel.setCell ?_ (by simp <;> omega) _ | refine Bel.trans ?_ (by assumption))) (fun hcur => ?_)
              clear hK K
              refine mix_nil ?_
              go_wp2_with fail
              go_meet
              first
                | exact ⟨_, rfl, (by repeat (first | assumption | exact Bel.refl _ | refine Bel.drew ?_ | refine Bel.drewN ?_ _ | refine Bel.alloc ?_ _ | refine Bel.setCell ?_ (by simp <;> omega) _ | refine Bel.trans ?_ (by assumption))), (row_facts (new_row rfl)).1 0, (row_facts (new_row rfl)).1 1⟩
                | (have q0 : w6.cell? ⟨w5.heap.size, 0, none⟩ = some (.int .i64 0) := (hcr6 ⟨w5.heap.size, 0, none⟩ (by simp)).trans ((row_facts (new_row rfl)).1 0)
                   have q1 : w6.cell? ⟨w5.heap.size, 1, none⟩ = some (.int .i64 0) := (hcr6 ⟨w5.heap.size, 1, none⟩ (by simp)).trans ((row_facts (new_row rfl)).1 1)
                   exact ⟨_, rfl, (by repeat (first | assumption | exact Bel.refl _ | refine Bel.drew ?_ | refine Bel.drewN ?_ _ | refine Bel.alloc ?_ _ | refine Bel.setCell ?_ (by simp <;> omega) _ | refine Bel.trans ?_ (by assumption))), (set2at q0 q1).1, (set2at q0 q1).2⟩)
                | (have q0 : w6.cell? ⟨Wb.heap.size, 0, none⟩ = some (.int .i64 0) := (hcr6 ⟨Wb.heap.size, 0, none⟩ z5b).trans ((hcr5 ⟨Wb.heap.size, 0, none⟩ (by simp)).trans ((row_facts (new_row rfl)).1 0))
                   have q1 : w6.cell? ⟨Wb.heap.size, 1, none⟩ = some (.int .i64 0) := (hcr6 ⟨Wb.heap.size, 1, none⟩ z5b).trans ((hcr5 ⟨Wb.heap.size, 1, none⟩ (by simp)).trans ((row_facts (new_row rfl)).1 1))
                   exact ⟨_, rfl, (by repeat (first | assumption | exact Bel.refl _ | refine Bel.drew ?_ | refine Bel.drewN ?_ _ | refine Bel.alloc ?_ _ | refine Bel.setCell ?_ (by simp <;> omega) _ | refine Bel.trans ?_ (by assumption))), (set2at q0 q1).1, (set2at q0 q1).2⟩)
            · refine mix_act rfl (fun K hK => ?_)
              go_simp
              refine hK _ _ (by repeat (first | assumption | exact Bel.refl _ | refine Bel.drew ?_ | refine Bel.drewN ?_ _ | refine Bel.alloc ?_ _ | refine Bel.setCell ?_ (by simp <;> omega) _ | refine Bel.trans ?_ (by assumption))) (fun hcur => ?_)
              clear hK K
              refine mix_act rfl (fun K hK => ?_)
              go_simp
              refine (tfish_any tb t.C t.T x.time x.chamber _ _ (setMat t n) _ (hT.bel (by repeat (first | assumption | exact Bel.refl _ | refine Bel.drew ?_ | refine Bel.drewN ?_ _ | refine Bel.alloc ?_ _ | refine Bel.setCell ?_ (by simp <;> omega) _ | refine Bel.trans ?_ (by assumption)))) hSn w1' (by omega) w3 w4 f2).mono ?_
              rintro e w6 ⟨rfl, hb⟩
              rw [← HLO.out, ← HHI.out]
              have hcr6 := hb.cells
              have hfr6 := hb.frozens
              have hz6 := hb.szle
              (try simp only [World.size_alloc] at hz6)
              have z6 : Wb.heap.size ≤ w6.heap.size := Nat.le_trans hcur.szle hb.szle
              try have z6a : w5.heap.size < w6.heap.size := by omega
              try have z6b : Wb.heap.size < w6.heap.size := by omega
              simp only []
              refine hK _ _ (hcur.trans hb) (fun hcur => ?_)
              clear hK K
              refine mix_act rfl (fun K hK => ?_)
              go_simp
              refine hK _ _ (by repeat (first | assumption | exact Bel.refl _ | refine Bel.drew ?_ | refine Bel.drewN ?_ _ | refine Bel.alloc ?_ _ | refine Bel.setCell ?_ (by simp <;> omega) _ | refine Bel.trans ?_ (by assumption))) (fun hcur => ?_)
              clear hK K
              refine mix_nil ?_
              go_wp2_with fail
              go_meet
              first
                | exact ⟨_, rfl, (by repeat (first | assumption | exact Bel.refl _ | refine Bel.drew ?_ | refine Bel.drewN ?_ _ | refine Bel.alloc ?_ _ | refine Bel.setCell ?_ (by simp <;> omega) _ | refine Bel.trans ?_ (by assumption))), (row_facts (new_row rfl)).1 0, (row_facts (new_row rfl)).1 1⟩
                | (have q0 : w6.cell? ⟨w5.heap.size, 0, none⟩ = some (.int .i64 0) := (hcr6 ⟨w5.heap.size, 0, none⟩ (by simp)).trans ((row_facts (new_row rfl)).1 0)
                   have q1 : w6.cell? ⟨w5.heap.size, 1, none⟩ = some (.int .i64 0) := (hcr6 ⟨w5.heap.size, 1, none⟩ (by simp)).trans ((row_facts (new_row rfl)).1 1)
                   exact ⟨_, rfl, (by repeat (first | assumption | exact Bel.refl _ | refine Bel.drew ?_ | refine Bel.drewN ?_ _ | refine Bel.alloc ?_ _ | refine Bel.setCell ?_ (by simp <;> omega) _ | refine Bel.trans ?_ (by assumption))), (set2at q0 q1).1, (set2at q0 q1).2⟩)
                | (have q0 : w6.cell? ⟨Wb.heap.size, 0, none⟩ = some (.int .i64 0) := (hcr6 ⟨Wb.heap.size, 0, none⟩ z5b).trans ((hcr5 ⟨Wb.heap.size, 0, none⟩ (by simp)).trans ((row_facts (new_row rfl)).1 0))
                   have q1 : w6.cell? ⟨Wb.heap.size, 1, none⟩ = some (.int .i64 0) := (hcr6 ⟨Wb.heap.size, 1, none⟩ z5b).trans ((hcr5 ⟨Wb.heap.size, 1, none⟩ (by simp)).trans ((row_facts (new_row rfl)).1 1))
                   exact ⟨_, rfl, (by repeat (first | assumption | exact Bel.refl _ | refine Bel.drew ?_ | refine Bel.drewN ?_ _ | refine Bel.alloc ?_ _ | refine Bel.setCell ?_ (by simp <;> omega) _ | refine Bel.trans ?_ (by assumption))), (set2at q0 q1).1, (set2at q0 q1).2⟩)
          · refine mix_act rfl (fun K hK => ?_)
            go_simp
            refine hK _ _ (by repeat (first | assumption | exact Bel.refl _ | refine Bel.drew ?_ | refine Bel.drewN ?_ _ | refine Bel.alloc ?_ _ | refine Bel.setCell ?_ (by simp <;> omega) _ | refine Bel.trans ?_ (by assumption))) (fun hcur => ?_)
            clear hK K
            refine mix_act rfl (fun K hK => ?_)
            go_simp
            refine (HST.out n _ (HVB.out.bel hcur)).mono ?_
            rintro e w5 ⟨tb, rfl, htb, hT, hb⟩
            have hcr5 := hb.cells
            have hfr5 := hb.frozens
            have hz5 := hb.szle
            (try simp only [World.size_alloc, World.size_drew] at hz5)
            have z5 : Wb.heap.size ≤ w5.heap.size := Nat.le_trans hcur.szle hb.szle
            try have z5b : Wb.heap.size < w5.heap.size := by omega
            simp only []
            refine hK _ _ (hcur.trans hb) (fun hcur => ?_)
            clear hK K
            refine mix_act rfl (fun K hK => ?_)
            go_simp
            refine (tfish_any tb t.C t.T x.time x.chamber _ _ (setMat t n) _ (hT.bel (by repeat (first | assumption | exact Bel.refl _ | refine Bel.drew ?_ | refine Bel.drewN ?_ _ | refine Bel.alloc ?_ _ | refine Bel.setCell ?_ (by simp <;> omega) _ | refine Bel.trans ?_ (by assumption)))) hSn w1' (by omega) w3 w4 f2).mono ?_
            rintro e w6 ⟨rfl, hb⟩
            rw [← HLO.out, ← HHI.out]
            have hcr6 := hb.cells
            have hfr6 := hb.frozens
            have hz6 := hb.szle
            (try simp only [World.size_alloc, World.size_drew, World.size_setCell, World.heap_drewN] at hz6)
            have z6 : Wb.heap.size ≤ w6.heap.size := Nat.le_trans hcur.szle hb.szle
            try have z6a : w5.heap.size < w6.heap.size := by omega
            try have z6b : Wb.heap.size < w6.heap.size := by omega
            simp only []
            refine hK _ _ (hcur.trans hb) (fun hcur => ?_)
            clear hK K
            refine mix_act rfl (fun K hK => ?_)
            go_simp
            refine hK _ _ (by repeat (first | assumption | exact Bel.refl _ | refine Bel.drew ?_ | refine Bel.drewN ?_ _ | refine Bel.alloc ?_ _ | refine Bel.setCell ?_ (by simp <;> omega) _ | refine Bel.trans ?_ (by assumption))) (fun hcur => ?_)
            clear hK K
            refine mix_nil ?_
            go_wp2_with fail
            go_meet
            first
              | exact ⟨_, rfl, (by repeat (first | assumption | exact Bel.refl _ | refine Bel.drew ?_ | refine Bel.drewN ?_ _ | refine Bel.alloc ?_ _ | refine Bel.setCell ?_ (by simp <;> omega) _ | refine Bel.trans ?_ (by assumption))), (row_facts (new_row rfl)).1 0, (row_facts (new_row rfl)).1 1⟩
              | (have q0 : w6.cell? ⟨w5.heap.size, 0, none⟩ = some (.int .i64 0) := (hcr6 ⟨w5.heap.size, 0, none⟩ (by simp)).trans ((row_facts (new_row rfl)).1 0)
                 have q1 : w6.cell? ⟨w5.heap.size, 1, none⟩ = some (.int .i64 0) := (hcr6 ⟨w5.heap.size, 1, none⟩ (by simp)).trans ((row_facts (new_row rfl)).1 1)
                 exact ⟨_, rfl, (by repeat (first | assumption | exact Bel.refl _ | refine Bel.drew ?_ | refine Bel.drewN ?_ _ | refine Bel.alloc ?_ _ | refine Bel.setCell ?_ (by simp <;> omega) _ | refine Bel.trans ?_ (by assumption))), (set2at q0 q1).1, (set2at q0 q1).2⟩)
              | (have q0 : w6.cell? ⟨Wb.heap.size, 0, none⟩ = some (.int .i64 0) := (hcr6 ⟨Wb.heap.size, 0, none⟩ z5b).trans ((hcr5 ⟨Wb.heap.size, 0, none⟩ (by simp)).trans ((row_facts (new_row rfl)).1 0))
                 have q1 : w6.cell? ⟨Wb.heap.size, 1, none⟩ = some (.int .i64 0) := (hcr6 ⟨Wb.heap.size, 1, none⟩ z5b).trans ((hcr5 ⟨Wb.heap.size, 1, none⟩ (by simp)).trans ((row_facts (new_row rfl)).1 1))
                 exact ⟨_, rfl, (by repeat (first | assumption | exact Bel.refl _ | refine Bel.drew ?_ | refine Bel.drewN ?_ _ | refine Bel.alloc ?_ _ | refine Bel.setCell ?_ (by simp <;> omega) _ | refine Bel.trans ?_ (by assumption))), (set2at q0 q1).1, (set2at q0 q1).2⟩)
        case rest =>
          obtain ⟨p, rfl, hBc, e0, e1⟩ := hcut
          replace b0 := hBc.cell b0
          replace b1 := hBc.cell b1
          replace b2 := hBc.cell b2
          replace b3 := hBc.cell b3
          have HRC := Lib.hid (HRB.out.keep hBc)
          clear x0 x1 x2 x3 lx0 lb0 hBc hSn w1' w2 w3 w4
          by_cases d1 : x.low ≤ lo
          · have q1 : decide (x.low ≤ lo) = true := decide_eq_true d1
            by_cases d2 : hi ≤ x.high
            · have q2 : decide (hi ≤ x.high) = true := decide_eq_true d2
              have HY := Lib.hid (idle_yes (t := t) (n := n) (by rw [HID.out, q1, q2]; rfl))
              have hll := (idleTo_facts t n).1
              go_wp2_with (at_builtin; refine wpList_append_where rfl _ _ 42 rfl 3 i1 (.int .i64 0) 1 8 Try.underlying42 HI1.out HZ1.out hs1 hb1 rfl (by decide) _ (idleTo t n).length ((idleTo t n).map (Value.int .i64)) rfl (ownsRow_bel HRC.out.own ((Bel.refl wc).alloc _)) ⟨wc.heap.size, 0, none⟩ 1 1 [.int .i64 n] rfl rfl (cell_one_new _ _ _) (fun y hy => by simp at hy; subst hy; rfl) (by unfold maxLen; omega) (by omega) ?_)
              intro V' w7 hown7 hgrow7 hwhere7
              have HN := Lib.hid (IntSt.next (HRC.out.keep ((Bel.refl wc).alloc _)) hown7 hgrow7 (by rw [World.size_alloc]; exact hwhere7))
              rw [← HY.out] at HN
              clear hown7 hgrow7 hwhere7
              go_wp2
              go_roundw
              case rel => exact ⟨n + 1, by omega, by go_num, HN.out⟩
              case measure => simp [intOf]; omega
            · have q2 : decide (hi ≤ x.high) = false := decide_eq_false d2
              have HY := Lib.hid (idle_no (t := t) (n := n) (by rw [HID.out, q1, q2]; rfl))
              have HN := Lib.hid HRC.out
              rw [← HY.out] at HN
              go_wp2
              go_roundw
              case rel => exact ⟨n + 1, by omega, by go_num, HN.out⟩
              case measure => simp [intOf]; omega
          · have q1 : decide (x.low ≤ lo) = false := decide_eq_false d1
            have HY := Lib.hid (idle_no (t := t) (n := n) (by rw [HID.out, q1]; rfl))
            have HN := Lib.hid HRC.out
            rw [← HY.out] at HN
            go_wp2
            go_roundw
            case rel => exact ⟨n + 1, by omega, by go_num, HN.out⟩
            case measure => simp [intOf]; omega
      · have hnl : n = t.ws.length := by omega
        subst hnl
        have HI := Lib.hid (ownInts (by have := (idleTo_facts t t.ws.length).1; omega) HR.out.own)
        have HB := Lib.hid (HB1.out.trans HR.out.bel)
        go_wp2
        exact bodyPost_ret (v := .tuple #[u6, .int .i64 0]) (by simp [results, Try.results48, go_sem, *]) rfl (.inr ⟨HE.out, _, rfl, HI.out, HB.out⟩)
  · have hne : (errR t true != 0) = true := by rw [bne_iff_ne]; exact he
    have HE := Lib.hid he
    have HP := Lib.hid (fun wz hz => open_err t (.slice a t.op.length cc) (.slice wa t.ws.length wc) true wz hz HE.out)
    clear he
    go_enter Try.func48, Try.ntmps48
    go_wp2_with fail
    refine (HP.out _ (HV.out.bel (by repeat (first | assumption | exact Bel.refl _ | refine Bel.drew ?_ | refine Bel.drewN ?_ _ | refine Bel.alloc ?_ _ | refine Bel.setCell ?_ (by simp <;> omega) _ | refine Bel.trans ?_ (by assumption))))).mono ?_
    rintro e w1 ⟨rfl, hb⟩
    have HW1 := Lib.hid (show Bel w w1 from (Bel.refl w |>.alloc _).trans hb)
    clear hb
    go_wp2
    exact bodyPost_ret (v := .tuple #[.slice none 0 0, .int .i64 (errR t true)]) (by simp [results, Try.results48, go_sem, *]) rfl (.inl ⟨HE.out, rfl, HW1.out⟩)
end Go.Proofs.Ytoiajjdhgffdaaa
