/-
  counts: set and open.
-/
import Derived.Test.YtkdcdhkhadhcfaaCheck
import Derived.Test.YtkdcdhkhadhcfaaSetM
namespace Go.Proofs.Ytkdcdhkhadhcfaa
open Go Go.RowKit
set_option maxHeartbeats 1000000
set_option maxRecDepth 100000
theorem zeroTrap : Try.zeroCells153 = #[.int .i64 0, .int .i64 0, .slice none 0 0, .slice none 0 0] ++ Array.replicate 441 (.int .i64 0) := by kernel_rfl
theorem zeroTrap_at (j : Nat) (h1 : 4 ≤ j) (h2 : j < 445) : Try.zeroCells153[j]? = some (.int .i64 0) := by
  rw [zeroTrap, Array.getElem?_append_right (by simpa using h1)]
  simp [Array.getElem?_replicate]
  omega
/-- The set's result. -/
def SomeTrap (C T : Int) (ov wv : Value) (M : Nat → Nat → Int) (w : World) (e : Ending) (w' : World) : Prop :=
  ∃ tb, e = .returned (.pointer (some ⟨tb, 0, none⟩)) ∧ w.heap.size ≤ tb ∧ TrapP w' tb C T ov wv M ∧ Bel w w'
/-- All that a walk of words owes. -/
def SafeWords (t : CT) (without : Int) : Prop := ∀ k, k < t.ws.length → Safe (wTo t.C t.ws without (tTo t.C t.op t.T.toNat) k) ∧
  ((k : Int) ≠ without → Safe (lim (nd t.C (atW t.ws k).time ((atW t.ws k).chamber + 1)) (nd t.C (atW t.ws k).time (atW t.ws k).chamber) (atW t.ws k).high (wTo t.C t.ws without (tTo t.C t.op t.T.toNat) k)))
theorem set_any (t : CT) (without : Int) (v : Value) (w : World) (hv : TrapAt w v t) (hval : validB t = true) (hsafe : SafeWords t without) :
    Calls Try.prog 101 #[v, .int .i64 without] w (fun e w' => ∃ ov wv, v = .agg #[.int .i64 t.C, .int .i64 t.T, ov, wv] ∧ SomeTrap t.C t.T ov wv (setMat t without) w e w') := by
  obtain ⟨ov, wv, rfl, hrows, hwords⟩ := hv
  obtain ⟨⟨b1, b2⟩, ⟨b3, b4⟩, hopl, hwl, hrb, hwb⟩ := validB_bounds hval
  have HOPL := Lib.hid hopl
  have HRB := Lib.hid hrb
  have HWB := Lib.hid hwb
  have HS := Lib.hid hsafe
  have HROWS := Lib.hid hrows
  have HWORDS := Lib.hid hwords
  clear hopl hrb hwb hsafe hval hrows hwords
  have HP : Hid (∀ e w', SomeTrap t.C t.T ov wv (setMat t without) w e w' → ∃ ov' wv', Value.agg #[.int .i64 t.C, .int .i64 t.T, ov, wv] = .agg #[.int .i64 t.C, .int .i64 t.T, ov', wv'] ∧ SomeTrap t.C t.T ov' wv' (setMat t without) w e w') :=
    Lib.hid fun e w' h => ⟨ov, wv, rfl, h⟩
  refine Calls.mono (R := SomeTrap t.C t.T ov wv (setMat t without) w) ?_ HP.out
  clear HP
  obtain ⟨oa, oc, ob, ooff, rv, rfl, hoa, holen, hoc⟩ := HROWS.out
  have hixo := idxRows (c := oc) hoa
  have HOC := Lib.hid hoc
  clear HROWS hoa hoc
  obtain ⟨wa, wc, wb, woff, rfl, hwa, hwlen, hwc⟩ := HWORDS.out
  have hixw := idxWords (c := wc) hwa
  have HWC := Lib.hid hwc
  clear hwa hwc
  go_enter Try.func101, Try.ntmps101
  go_wp2
  generalize hZ : (((Try.zeroCells153.setIfInBounds 0 (Value.int IntKind.i64 t.C)).setIfInBounds 1 (Value.int IntKind.i64 t.T)).setIfInBounds 2 (.slice oa t.op.length oc)).setIfInBounds 3 (.slice wa t.ws.length wc) = Z
  generalize hW0 : (w.alloc (Obj.cells #[Value.int IntKind.i64 t.C, Value.int IntKind.i64 t.T, .slice oa t.op.length oc, .slice wa t.ws.length wc] 47)).alloc _ = W0
  have hB0 : Bel w W0 := by rw [← hW0]; exact (by repeat (first | assumption | exact Bel.refl _ | refine Bel.drew ?_ | refine Bel.drewN ?_ _ | refine Bel.alloc ?_ _ | refine Bel.setCell ?_ (by simp <;> omega) _ | refine Bel.trans ?_ (by assumption)))
  have hsz : W0.heap.size = w.heap.size + 2 := by rw [← hW0]; simp
  have hbx0 : W0.cell? ⟨w.heap.size, 0, none⟩ = some (.int .i64 t.C) := by rw [← hW0]; simp [World.cell?_alloc_lt]
  have hbx1 : W0.cell? ⟨w.heap.size, 1, none⟩ = some (.int .i64 t.T) := by rw [← hW0]; simp [World.cell?_alloc_lt]
  have hbx2 : W0.cell? ⟨w.heap.size, 2, none⟩ = some (.slice oa t.op.length oc) := by rw [← hW0]; simp [World.cell?_alloc_lt]
  have hbx3 : W0.cell? ⟨w.heap.size, 3, none⟩ = some (.slice wa t.ws.length wc) := by rw [← hW0]; simp [World.cell?_alloc_lt]
  have hT0 : TrapP W0 (w.heap.size + 1) t.C t.T (.slice oa t.op.length oc) (.slice wa t.ws.length wc) (fillTo 0) := by
    have e : (w.alloc (Obj.cells #[Value.int IntKind.i64 t.C, Value.int IntKind.i64 t.T, .slice oa t.op.length oc, .slice wa t.ws.length wc] 47)).heap.size = w.heap.size + 1 := by simp
    have hc : ∀ j, W0.cell? ⟨w.heap.size + 1, j, none⟩ = Z[j]? := by
      intro j; rw [← hW0, ← e]; exact World.cell?_alloc_new ..
    have hZs : Z.size = 445 := by rw [← hZ]; simp [zeroTrap]
    refine ⟨?_, ?_, ?_, ?_, ?_, ?_, ⟨Z, by rw [← hW0, ← e]; exact heap_alloc_new .., hZs⟩⟩
    · rw [hc, ← hZ]; simp [zeroTrap]
    · rw [hc, ← hZ]; simp [zeroTrap]
    · rw [hc, ← hZ]; simp [zeroTrap]
    · rw [hc, ← hZ]; simp [zeroTrap]
    · intro a ha c hc2
      rw [hc, ← hZ, Array.getElem?_setIfInBounds_ne (by omega), Array.getElem?_setIfInBounds_ne (by omega), Array.getElem?_setIfInBounds_ne (by omega), Array.getElem?_setIfInBounds_ne (by omega), zeroTrap_at _ (by omega) (by omega)]
      unfold fillTo; rw [if_neg (by omega)]
    · intro o; rw [← hW0, ← e]; exact World.frozen?_alloc_new ..
  clear hW0 hZ
  generalize hF : w.heap.size + 1 = tb at *
  have htb : w.heap.size < tb := by omega
  have htb2 : tb < W0.heap.size := by omega
  have hne : w.heap.size ≠ tb := by omega
  clear hF
  generalize hbxn : w.heap.size = bx at *
  have HBXN := Lib.hid hbxn
  clear hbxn
  -- the places of the matrix
  go_loopw [17] (fun i wr => ∃ n : Nat, n ≤ 21 ∧ i = .int .i64 n ∧ Turn tb 4 445 W0 wr ∧ MatAt wr tb 4 (fillTo (n * 21))) (fun i _ => 21 - (intOf i).toNat)
  case atStart => exact ⟨0, by omega, rfl, Turn.refl _ _ _ _, hT0.mat⟩
  case round =>
    obtain ⟨i, hi, rfl, hO, hM⟩ := hrel
    by_cases hlt : i < 21
    · have hii : (i : Int) < 21 := by omega
      go_wp2
      go_loopw [20] (fun i' wr => ∃ n : Nat, n ≤ 21 ∧ i' = .int .i64 n ∧ Turn tb 4 445 W0 wr ∧ MatAt wr tb 4 (fillTo (i * 21 + n))) (fun i _ => 21 - (intOf i).toNat)
      case atStart => exact ⟨0, by omega, rfl, hO, hM⟩
      case round =>
        obtain ⟨k, hk, rfl, hO, hM⟩ := hrel
        by_cases hltk : k < 21
        · have hki : (k : Int) < 21 := by omega
          have hck := hM i hlt k hltk
          have hcf : wr.frozen? ⟨tb, 4 + i * 21 + k, none⟩ = false := by rw [hO.frozen _ htb2]; exact hT0.fz _
          by_cases hik : i = k
          · have hb : ((i : Int) != (k : Int)) = false := by simp [hik]
            have HM := Lib.hid (hM.congr (M' := fillTo (i * 21 + (k + 1))) fun a c ha hc => by rw [← hik]; exact fillTo_eq i hlt a c hc)
            have HO := Lib.hid hO
            clear hM hO hik hck
            go_wp2
            go_roundw
            case rel => exact ⟨k + 1, by omega, by go_num, HO.out, HM.out⟩
            case measure => simp [intOf]; omega
          · have hb : ((i : Int) != (k : Int)) = true := by rw [bne_iff_ne]; omega
            have HM := Lib.hid ((hM.setCell hlt hltk 1048576).congr (M' := fillTo (i * 21 + (k + 1))) fun a c ha hc => fillTo_ne i k hltk hik a c hc)
            have HO := Lib.hid (hO.trans ((Only.refl tb 4 445 wr).setCell (o := 4 + i * 21 + k) (by omega) (by omega) (.int .i64 1048576)).turn)
            clear hM hO hik
            go_wp2
            go_roundw
            case rel => exact ⟨k + 1, by omega, by go_num, HO.out, HM.out⟩
            case measure => simp [intOf]; omega
        · have HM := Lib.hid (show MatAt wr tb 4 (fillTo ((i + 1) * 21)) by rw [show (i + 1) * 21 = i * 21 + k by omega]; exact hM)
          clear hM
          go_wp2
          go_roundw
          case rel => exact ⟨i + 1, by omega, by go_num, hO, HM.out⟩
          case measure => simp [intOf]; omega
    · have hM' : MatAt wr tb 4 M0 := hM.congr fun a c ha hc => by rw [show i * 21 = 441 by omega]; exact (fillTo_end a c ha hc).symm
      have hT1 := hT0.turn hO hM'
      have HO := Lib.hid hO
      have q0 := hO.other hne hbx0
      have q1 := hO.other hne hbx1
      have q2 := hO.other hne hbx2
      have q3 := hO.other hne hbx3
      clear hM hM' hT0
      have hd0 : (tTo t.C t.op 0) = M0 := rfl
      go_wp2
      clear q0 q1 q2 q3
      go_loopw [37] (fun i wr => ∃ n : Nat, n ≤ t.T.toNat ∧ i = .int .i64 n ∧ Turn tb 4 445 W0 wr ∧ TrapP wr tb t.C t.T (.slice oa t.op.length oc) (.slice wa t.ws.length wc) (tTo t.C t.op n)) (fun i _ => t.T.toNat - (intOf i).toNat)
      case atStart => exact ⟨0, by omega, rfl, HO.out, hT1⟩
      case round =>
        clear hO hT1 HO
        obtain ⟨n, hn, rfl, hO, hT⟩ := hrel
        by_cases hltn : n < t.T.toNat
        · have hni : (n : Int) < t.T := by omega
          have n0 := (nd_val (C := t.C) (time := n) (chamber := 0) (by omega) (by omega) (by omega) (by omega) b2).1
          have hnn : NonNeg (tTo t.C t.op n) := NonNeg.tTo n
          have q0 := hO.other hne hbx0
          have q1 := hO.other hne hbx1
          have q2 := hO.other hne hbx2
          have q3 := hO.other hne hbx3
          have qf : ∀ o, wr.frozen? ⟨tb, o, none⟩ = false := hT.fz
          go_wp2
          refine wp_region_mixTB (Plan.seq [0, 1, 2, 3, 4, 1005] .nil) (by kernel_rfl) (by kernel_rfl) (fun hcur => ?_)
          simp only [Plan.seq, Plan.fill, List.getD_cons_zero, List.getD_cons_succ, Nat.reduceLT, ↓reduceIte, Nat.reduceSub]
          apply mix_pure _ rfl
          · intro w' hw'
            have hcr := hw'.cells
            go_simp
            rfl
          intro K hK
          go_simp
          refine hK _ ?_
          clear hK K
          apply mix_pure _ rfl
          · intro w' hw'
            have hcr := hw'.cells
            go_simp
            rfl
          intro K hK
          go_simp
          refine hK _ ?_
          clear hK K
          apply mix_pure _ rfl
          · intro w' hw'
            have hcr := hw'.cells
            go_simp
            rfl
          intro K hK
          go_simp
          refine hK _ ?_
          clear hK K
          apply mix_pure _ rfl
          · intro w' hw'
            have hcr := hw'.cells
            go_simp
            rfl
          intro K hK
          go_simp
          refine hK _ ?_
          clear hK K
          apply mix_pure _ rfl
          · intro w' hw'
            have hcr := hw'.cells
            go_simp
            rfl
          intro K hK
          go_simp
          refine hK _ ?_
          clear hK K
          refine mix_act rfl (fun K hK => ?_)
          go_simp
          refine (node_any _ _ _ _ _ _ _ _ _ (by first | assumption | exact TrapP.bel ‹_› (by repeat (first | assumption | exact Bel.refl _ | refine Bel.drew ?_ | refine Bel.drewN ?_ _ | refine Bel.alloc ?_ _ | refine Bel.setCell ?_ (by simp <;> omega) _ | refine Bel.trans ?_ (by assumption)))) (by omega) (by omega) (by omega) (by omega) (by omega)).mono ?_
          rintro e w' ⟨rfl, rfl⟩
          simp only []
          refine hK _ _ hcur (fun hcur => ?_)
          clear hK K
          refine mix_tailK rfl (fun K hK => ?_)
          go_simp
          refine (limit_any tb 4 0 _ 40 _ _ (by omega) n0 (by omega) (by omega) hnn.safe (hT.mat.bel hcur) (fun o => qf o)).mono ?_
          rintro e w' ⟨rfl, hO1, hM1⟩
          simp only []
          refine hK _ _ ?_
          clear hK K
          have hOT := hO.drew.trans hO1.turn
          have hTT := hT.turn ((Turn.refl tb 4 445 wr).drew.trans hO1.turn) hM1
          have p0 := hOT.other hne hbx0
          have hnn1 : NonNeg (lim 0 (nd t.C n 0) 40 (tTo t.C t.op n)) := hnn.lim (by omega) _ _
          clear hO hT hO1 hM1 q0 q1 q2 q3 qf n0 hcur
          have hT2 : ∃ X, X = lim 0 (nd t.C n 0) 40 (tTo t.C t.op n) := ⟨_, rfl⟩
          obtain ⟨X, hX⟩ := hT2
          rw [← hX] at hTT hnn1
          have HX := Lib.hid hX
          clear hX
          go_wp2
          clear p0
          go_loopw [49] (fun j wr => ∃ c : Nat, c ≤ t.C.toNat ∧ j = .int .i64 c ∧ Turn tb 4 445 W0 wr ∧ TrapP wr tb t.C t.T (.slice oa t.op.length oc) (.slice wa t.ws.length wc) (chTo t.C t.op n c X)) (fun j _ => t.C.toNat - (intOf j).toNat)
          case atStart => exact ⟨0, by omega, rfl, hOT, hTT⟩
          case round =>
            clear hOT hTT
            obtain ⟨c, hc, rfl, hO, hT⟩ := hrel
            by_cases hltc : c < t.C.toNat
            · have hci : (c : Int) < t.C := by omega
              have n1 := (nd_val (C := t.C) (time := n) (chamber := c) (by omega) (by omega) (by omega) (by omega) b2).1
              have n2 := (nd_val (C := t.C) (time := n) (chamber := c + 1) (by omega) (by omega) (by omega) (by omega) b2).1
              have hnc : NonNeg (chTo t.C t.op n c X) := hnn1.chTo c
              have HCH := Lib.hid (show chTo t.C t.op n (c + 1) X = chStep t.C t.op n c (chTo t.C t.op n c X) from rfl)
              generalize chTo t.C t.op n c X = Y at *
              have q0 := hO.other hne hbx0
              have q1 := hO.other hne hbx1
              have q2 := hO.other hne hbx2
              have q3 := hO.other hne hbx3
              have qf : ∀ o, wr.frozen? ⟨tb, o, none⟩ = false := hT.fz
              by_cases hn0 : n = 0
              · have hbn : ((n : Int) == 0) = true := by simp [hn0]
                have HR : Hid (chStep t.C t.op n c Y = lim (nd t.C n c) (nd t.C n (c + 1)) 0 Y) := Lib.hid (by unfold chStep; simp only []; rw [if_pos hn0])
                clear hn0
                go_wp2
                refine wp_region_mixTB (Plan.seq [0, 1, 2, 3, 4, 5, 7, 8, 9, 10, 1006, 1011] .nil) (by kernel_rfl) (by kernel_rfl) (fun hcur => ?_)
                simp only [Plan.seq, Plan.fill, List.getD_cons_zero, List.getD_cons_succ, Nat.reduceLT, ↓reduceIte, Nat.reduceSub]
                apply mix_pure _ rfl
                · intro w' hw'
                  have hcr := hw'.cells
                  go_simp
                  rfl
                intro K hK
                go_simp
                refine hK _ ?_
                clear hK K
                apply mix_pure _ rfl
                · intro w' hw'
                  have hcr := hw'.cells
                  go_simp
                  rfl
                intro K hK
                go_simp
                refine hK _ ?_
                clear hK K
                apply mix_pure _ rfl
                · intro w' hw'
                  have hcr := hw'.cells
                  go_simp
                  rfl
                intro K hK
                go_simp
                refine hK _ ?_
                clear hK K
                apply mix_pure _ rfl
                · intro w' hw'
                  have hcr := hw'.cells
                  go_simp
                  rfl
                intro K hK
                go_simp
                refine hK _ ?_
                clear hK K
                apply mix_pure _ rfl
                · intro w' hw'
                  have hcr := hw'.cells
                  go_simp
                  rfl
                intro K hK
                go_simp
                refine hK _ ?_
                clear hK K
                apply mix_pure _ rfl
                · intro w' hw'
                  have hcr := hw'.cells
                  go_simp
                  rfl
                intro K hK
                go_simp
                refine hK _ ?_
                clear hK K
                apply mix_pure _ rfl
                · intro w' hw'
                  have hcr := hw'.cells
                  go_simp
                  rfl
                intro K hK
                go_simp
                refine hK _ ?_
                clear hK K
                apply mix_pure _ rfl
                · intro w' hw'
                  have hcr := hw'.cells
                  go_simp
                  rfl
                intro K hK
                go_simp
                refine hK _ ?_
                clear hK K
                apply mix_pure _ rfl
                · intro w' hw'
                  have hcr := hw'.cells
                  go_simp
                  rfl
                intro K hK
                go_simp
                refine hK _ ?_
                clear hK K
                apply mix_pure _ rfl
                · intro w' hw'
                  have hcr := hw'.cells
                  go_simp
                  first | (rw [IntWalk.i64_in]; all_goals first | omega | rfl) | rfl
                intro K hK
                go_simp
                refine hK _ ?_
                clear hK K
                refine mix_act rfl (fun K hK => ?_)
                go_simp
                refine (node_any _ _ _ _ _ _ _ _ _ (by first | assumption | exact TrapP.bel ‹_› (by repeat (first | assumption | exact Bel.refl _ | refine Bel.drew ?_ | refine Bel.drewN ?_ _ | refine Bel.alloc ?_ _ | refine Bel.setCell ?_ (by simp <;> omega) _ | refine Bel.trans ?_ (by assumption)))) (by omega) (by omega) (by omega) (by omega) (by omega)).mono ?_
                rintro e w' ⟨rfl, rfl⟩
                simp only []
                refine hK _ _ hcur (fun hcur => ?_)
                clear hK K
                refine mix_act rfl (fun K hK => ?_)
                go_simp
                refine (node_any _ _ _ _ _ _ _ _ _ (by first | assumption | exact TrapP.bel ‹_› (by repeat (first | assumption | exact Bel.refl _ | refine Bel.drew ?_ | refine Bel.drewN ?_ _ | refine Bel.alloc ?_ _ | refine Bel.setCell ?_ (by simp <;> omega) _ | refine Bel.trans ?_ (by assumption)))) (by omega) (by omega) (by omega) (by omega) (by omega)).mono ?_
                rintro e w' ⟨rfl, rfl⟩
                simp only []
                refine hK _ _ hcur (fun hcur => ?_)
                clear hK K
                refine mix_tailK rfl (fun K hK => ?_)
                go_simp
                refine (limit_any tb 4 _ _ 0 _ _ n1 n2 (by omega) (by omega) hnc.safe (hT.mat.bel hcur) (fun o => qf o)).mono ?_
                rintro e w' ⟨rfl, hO1, hM1⟩
                simp only []
                refine hK _ _ ?_
                clear hK K
                have hOT := hO.drew.trans hO1.turn
                have hTT := hT.turn ((Turn.refl tb 4 445 wr).drew.trans hO1.turn) hM1
                clear hO hT hO1 hM1 q0 q1 q2 q3 qf hcur
                go_wp2
                go_roundw
                case rel => exact ⟨c + 1, by omega, by go_num, hOT, by rw [HCH.out, HR.out]; exact hTT⟩
                case measure => simp [intOf]; omega
              · have hbn : ((n : Int) == 0) = false := by simp [hn0]
                have ek : (n : Int) - 1 = ((n - 1 : Nat) : Int) := by omega
                have n3 := (nd_val (C := t.C) (time := (n - 1 : Nat)) (chamber := c) (by omega) (by omega) (by omega) (by omega) b2).1
                have hlo : n - 1 < t.op.length := by have := HOPL.out; omega
                have hnc1 : NonNeg (lim (nd t.C n c) (nd t.C n (c + 1)) 0 Y) := hnc.lim (by omega) _ _
                have hnc2 : NonNeg (lim (nd t.C n c) (nd t.C (n - 1 : Nat) c) 0 (lim (nd t.C n c) (nd t.C n (c + 1)) 0 Y)) := hnc1.lim (by omega) _ _
                have HR : Hid (chStep t.C t.op n c Y = if inB (atL t.op (n - 1)) c then lim (nd t.C n c) (nd t.C (n - 1 : Nat) c) 0 (lim (nd t.C n c) (nd t.C n (c + 1)) 0 Y)
                  else lim (nd t.C (n - 1 : Nat) c) (nd t.C n c) 0 (lim (nd t.C n c) (nd t.C (n - 1 : Nat) c) 0 (lim (nd t.C n c) (nd t.C n (c + 1)) 0 Y))) :=
                  Lib.hid (by unfold chStep; simp only []; rw [if_neg hn0])
                clear hn0
                go_wp2
                refine wp_region_mixTB (Plan.seq [0, 1, 2, 3, 4, 5, 7, 8, 9, 10, 1006, 1011] .nil) (by kernel_rfl) (by kernel_rfl) (fun hcur => ?_)
                simp only [Plan.seq, Plan.fill, List.getD_cons_zero, List.getD_cons_succ, Nat.reduceLT, ↓reduceIte, Nat.reduceSub]
                apply mix_pure _ rfl
                · intro w' hw'
                  have hcr := hw'.cells
                  go_simp
                  rfl
                intro K hK
                go_simp
                refine hK _ ?_
                clear hK K
                apply mix_pure _ rfl
                · intro w' hw'
                  have hcr := hw'.cells
                  go_simp
                  rfl
                intro K hK
                go_simp
                refine hK _ ?_
                clear hK K
                apply mix_pure _ rfl
                · intro w' hw'
                  have hcr := hw'.cells
                  go_simp
                  rfl
                intro K hK
                go_simp
                refine hK _ ?_
                clear hK K
                apply mix_pure _ rfl
                · intro w' hw'
                  have hcr := hw'.cells
                  go_simp
                  rfl
                intro K hK
                go_simp
                refine hK _ ?_
                clear hK K
                apply mix_pure _ rfl
                · intro w' hw'
                  have hcr := hw'.cells
                  go_simp
                  rfl
                intro K hK
                go_simp
                refine hK _ ?_
                clear hK K
                apply mix_pure _ rfl
                · intro w' hw'
                  have hcr := hw'.cells
                  go_simp
                  rfl
                intro K hK
                go_simp
                refine hK _ ?_
                clear hK K
                apply mix_pure _ rfl
                · intro w' hw'
                  have hcr := hw'.cells
                  go_simp
                  rfl
                intro K hK
                go_simp
                refine hK _ ?_
                clear hK K
                apply mix_pure _ rfl
                · intro w' hw'
                  have hcr := hw'.cells
                  go_simp
                  rfl
                intro K hK
                go_simp
                refine hK _ ?_
                clear hK K
                apply mix_pure _ rfl
                · intro w' hw'
                  have hcr := hw'.cells
                  go_simp
                  rfl
                intro K hK
                go_simp
                refine hK _ ?_
                clear hK K
                apply mix_pure _ rfl
                · intro w' hw'
                  have hcr := hw'.cells
                  go_simp
                  first | (rw [IntWalk.i64_in]; all_goals first | omega | rfl) | rfl
                intro K hK
                go_simp
                refine hK _ ?_
                clear hK K
                refine mix_act rfl (fun K hK => ?_)
                go_simp
                refine (node_any _ _ _ _ _ _ _ _ _ (by first | assumption | exact TrapP.bel ‹_› (by repeat (first | assumption | exact Bel.refl _ | refine Bel.drew ?_ | refine Bel.drewN ?_ _ | refine Bel.alloc ?_ _ | refine Bel.setCell ?_ (by simp <;> omega) _ | refine Bel.trans ?_ (by assumption)))) (by omega) (by omega) (by omega) (by omega) (by omega)).mono ?_
                rintro e w' ⟨rfl, rfl⟩
                simp only []
                refine hK _ _ hcur (fun hcur => ?_)
                clear hK K
                refine mix_act rfl (fun K hK => ?_)
                go_simp
                refine (node_any _ _ _ _ _ _ _ _ _ (by first | assumption | exact TrapP.bel ‹_› (by repeat (first | assumption | exact Bel.refl _ | refine Bel.drew ?_ | refine Bel.drewN ?_ _ | refine Bel.alloc ?_ _ | refine Bel.setCell ?_ (by simp <;> omega) _ | refine Bel.trans ?_ (by assumption)))) (by omega) (by omega) (by omega) (by omega) (by omega)).mono ?_
                rintro e w' ⟨rfl, rfl⟩
                simp only []
                refine hK _ _ hcur (fun hcur => ?_)
                clear hK K
                refine mix_tailK rfl (fun K hK => ?_)
                go_simp
                refine (limit_any tb 4 _ _ 0 _ _ n1 n2 (by omega) (by omega) hnc.safe (hT.mat.bel hcur) (fun o => qf o)).mono ?_
                rintro e w' ⟨rfl, hO1, hM1⟩
                simp only []
                refine hK _ _ ?_
                clear hK K
                have hOT := hO.drew.trans hO1.turn
                have hTT := hT.turn ((Turn.refl tb 4 445 wr).drew.trans hO1.turn) hM1
                clear hO hT hO1 hM1 q0 q1 q2 q3 qf hcur hnc n2
                go_wp2_with (first | (go_at_call 105; refine (node_any _ _ _ _ _ _ _ _ _ (by first | assumption | exact TrapP.bel ‹_› (by repeat (first | assumption | exact Bel.refl _ | refine Bel.drew ?_ | refine Bel.drewN ?_ _ | refine Bel.alloc ?_ _ | refine Bel.setCell ?_ (by simp <;> omega) _ | refine Bel.trans ?_ (by assumption)))) (by omega) (by omega) (by omega) (by omega) (by omega)).mono ?_; rintro e w' ⟨rfl, rfl⟩))
                refine (limit_any tb 4 _ _ 0 _ _ n1 n3 (by omega) (by omega) hnc1.safe hTT.mat (fun o => hTT.fz o)).mono ?_
                rintro e w2 ⟨rfl, hO2, hM2⟩
                have hOT2 := hOT.trans hO2.turn
                have hTT2 := hTT.turn hO2.turn hM2
                have q2 := hOT2.other hne hbx2
                have hBw2 := hOT2.bel hB0 (by have := HBXN.out; omega)
                have hrow := hBw2.cell (HOC.out (n - 1) hlo).1
                have HI := Lib.hid ((HOC.out (n - 1) hlo).2.bel hBw2)
                clear hOT hTT hO2 hM2 hnc1
                cases hin : inB (atL t.op (n - 1)) c
                · rw [hin] at HR
                  go_wp2_with (go_at_call 71; refine (Contains_any _ (atL t.op (n - 1)) _ _ HI.out).mono ?_; rintro e w3 ⟨rfl, hb⟩)
                  have hTT3 := hTT2.bel hb
                  refine (limit_any tb 4 _ _ 0 _ _ n3 n1 (by omega) (by omega) hnc2.safe hTT3.mat (fun o => hTT3.fz o)).mono ?_
                  rintro e w4 ⟨rfl, hO4, hM4⟩
                  have hOT4 := (hOT2.trans (hb.turn tb 4 445)).trans hO4.turn
                  have hTT4 := hTT3.turn hO4.turn hM4
                  clear hO4 hM4 hTT3 hTT2 hOT2 hb hBw2 hrow q2
                  go_wp2
                  go_roundw
                  case rel => exact ⟨c + 1, by omega, by go_num, hOT4, by rw [HCH.out, HR.out]; exact hTT4⟩
                  case measure => simp [intOf]; omega
                · rw [hin] at HR
                  go_wp2_with (go_at_call 71; refine (Contains_any _ (atL t.op (n - 1)) _ _ HI.out).mono ?_; rintro e w3 ⟨rfl, hb⟩)
                  have hTT3 := hTT2.bel hb
                  have hOT3 := hOT2.trans (hb.turn tb 4 445)
                  clear hTT2 hOT2 hb hBw2 hrow q2
                  go_roundw
                  case rel => exact ⟨c + 1, by omega, by go_num, hOT3, by rw [HCH.out, HR.out]; exact hTT3⟩
                  case measure => simp [intOf]; omega
            · have HTS := Lib.hid (show chTo t.C t.op n c X = tTo t.C t.op (n + 1) by rw [HX.out, show c = t.C.toNat by omega]; rfl)
              go_wp2
              go_roundw
              case rel => exact ⟨n + 1, by omega, by go_num, hO, by rw [← HTS.out]; exact hT⟩
              case measure => simp [intOf]; omega
        · have q3 := hO.other hne hbx3
          have HTT := Lib.hid (show tTo t.C t.op n = tTo t.C t.op t.T.toNat by rw [show n = t.T.toNat by omega])
          rw [HTT.out] at hT
          go_wp2
          clear q3
          go_loopw [102] (fun i wr => ∃ n : Nat, n ≤ t.ws.length ∧ i = .int .i64 n ∧ Turn tb 4 445 W0 wr ∧ TrapP wr tb t.C t.T (.slice oa t.op.length oc) (.slice wa t.ws.length wc) (wTo t.C t.ws without (tTo t.C t.op t.T.toNat) n)) (fun i _ => t.ws.length - (intOf i).toNat)
          case atStart => exact ⟨0, by omega, rfl, hO, hT⟩
          case round =>
            clear hO hT
            obtain ⟨k, hk, rfl, hO, hT⟩ := hrel
            by_cases hltk : k < t.ws.length
            · have hBw := hO.bel hB0 (by have := HBXN.out; omega)
              obtain ⟨k0, k1, k2, k3⟩ := HWC.out k hltk
              have k0 := hBw.cell k0
              have k1 := hBw.cell k1
              have k2 := hBw.cell k2
              have k3 := hBw.cell k3
              have hbl := cell_lt k0
              obtain ⟨⟨m1, m2⟩, ⟨m3, m4⟩, m5, m6, m7⟩ := isWordB_bounds b1 b2 b3 b4 (allB_iff.1 HWB.out k hltk)
              obtain ⟨hs1, hs2⟩ := HS.out k hltk
              have HST := Lib.hid (show wTo t.C t.ws without (tTo t.C t.op t.T.toNat) (k + 1) = if (k : Int) = without then wTo t.C t.ws without (tTo t.C t.op t.T.toNat) k else wordM t.C (atW t.ws k) (wTo t.C t.ws without (tTo t.C t.op t.T.toNat) k) from rfl)
              generalize wTo t.C t.ws without (tTo t.C t.op t.T.toNat) k = Y at *
              generalize hx : atW t.ws k = x at *
              by_cases hkw : (k : Int) = without
              · have hbk : ((k : Int) != without) = false := by simp [hkw]
                rw [if_pos hkw] at HST
                clear hkw
                go_wp2
                go_roundw
                case rel => exact ⟨k + 1, by omega, by go_num, hO.alloc _, by rw [HST.out]; exact hT.bel (by repeat (first | assumption | exact Bel.refl _ | refine Bel.drew ?_ | refine Bel.drewN ?_ _ | refine Bel.alloc ?_ _ | refine Bel.setCell ?_ (by simp <;> omega) _ | refine Bel.trans ?_ (by assumption)))⟩
                case measure => simp [intOf]; omega
              · have hbk : ((k : Int) != without) = true := by rw [bne_iff_ne]; exact hkw
                have hs2 := Lib.hid (hs2 hkw)
                rw [if_neg hkw] at HST
                clear hkw
                go_wp2_with fail
                refine (word_any tb t.C t.T _ _ x Y _ (hT.bel (by repeat (first | assumption | exact Bel.refl _ | refine Bel.drew ?_ | refine Bel.drewN ?_ _ | refine Bel.alloc ?_ _ | refine Bel.setCell ?_ (by simp <;> omega) _ | refine Bel.trans ?_ (by assumption)))) hs1 hs2.out m1 (by omega) m3 m4 b2 m5 m6 m7).mono ?_
                rintro e w' ⟨rfl, hT1, hTT1⟩
                have hOO := (hO.alloc _).trans hT1
                clear hO hT hT1
                go_wp2
                go_roundw
                case rel => exact ⟨k + 1, by omega, by go_num, hOO, by rw [HST.out]; exact hTT1⟩
                case measure => simp [intOf]; omega
            · have HE := Lib.hid (show wTo t.C t.ws without (tTo t.C t.op t.T.toNat) k = setMat t without by unfold setMat; rw [show k = t.ws.length by omega])
              have hBw := hO.bel hB0 (by have := HBXN.out; omega)
              go_wp2
              go_ret
              exact ⟨tb, rfl, by have := HBXN.out; omega, by rw [← HE.out]; exact hT, hBw⟩
end Go.Proofs.Ytkdcdhkhadhcfaa
