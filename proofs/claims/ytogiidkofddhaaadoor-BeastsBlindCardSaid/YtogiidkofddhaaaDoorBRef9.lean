/-
  beasts: the reference's with.
-/
import Derived.Test.YtogiidkofddhaaaDoorBRV
import Derived.Test.YtogiidkofddhaaaDoorBRef5
import Derived.Test.YtogiidkofddhaaaDoorBCopy
import Derived.Test.YtogiidkofddhaaaDoorBScript
import Derived.Test.YtogiidkofddhaaaDoorBRef3
import Derived.Test.YtogiidkofddhaaaDoorBWith
namespace Go.Proofs.YtogiidkofddhaaaDoor
set_option linter.unusedVariables false
open Go Go.RowKit Go.Shelf
set_option maxHeartbeats 4000000
set_option maxRecDepth 100000
theorem ofTo_add {l : List Int} (ha : Asc l) (hl : ∀ p, p ∈ l → -1 ≤ p) {k : Nat} (hk : k < l.length) : ofL (l.take (k + 1)) = ofL (l.take k) + bitP (at0 l k) := by
  have hk0 : at0 l k = l[k] := by unfold at0; exact getD_lt l k 0 hk
  have hlt : ofL (l.take k) < 2 ^ (at0 l k + 1).toNat := lt_of_bits fun i hi => by
    obtain ⟨p, hp, e⟩ := (ofL_bit _ _).1 hi
    obtain ⟨j, hj, hje⟩ := List.getElem_of_mem hp
    rw [List.length_take] at hj
    have h1 := List.pairwise_iff_getElem.1 ha j k (by omega) hk (by omega)
    rw [List.getElem_take] at hje
    have h2 := hl p (List.mem_of_mem_take hp)
    rw [hje] at h1
    omega
  have e : ofL (l.take (k + 1)) = ofL (l.take k) ||| bitP (at0 l k) := by
    rw [List.take_succ_eq_append_getElem hk]
    unfold ofL
    rw [List.foldl_append, hk0]
    rfl
  rw [e]
  have := Nat.two_pow_add_eq_or_of_lt hlt 1
  unfold bitP
  rw [Nat.mul_one] at this
  rw [Nat.or_comm, ← this, Nat.add_comm]
theorem R6Some_any (v : Value) (l : List Int) (w : World) (hv : IntsAt w v l) (ha : Asc l) (hl : ∀ p, p ∈ l → -1 ≤ p ∧ p ≤ 6) : Calls Tryd.prog 70 #[v] w fun e w' => e = .returned (.int .i64 (ofL l)) ∧ Bel w w' := by
  obtain ⟨a, c, b, off, rfl, hpa, ⟨hlen, _⟩, hc⟩ := hv
  have hix := idxInts (c := c) hpa
  have HC := Lib.hid hc
  have H0 := Lib.hid (show (0 : Int) = ((ofL (l.take 0) : Nat) : Int) by rw [List.take_zero]; rfl)
  have HS := Lib.hid (fun k (hk : k < l.length) => ofTo_add ha (fun p hp => (hl p hp).1) hk)
  have HE := Lib.hid (show ofL (l.take l.length) = ofL l by rw [List.take_length])
  have HR := Lib.hid (fun k (hk : k < l.length) => hl _ (getD_mem l k 0 hk))
  have HB := Lib.hid (fun k => ofL_lt (l := l.take k) (n := 7) fun p hp => by have := hl p (List.mem_of_mem_take hp); omega)
  have HP := Lib.hid (fun p (h : p ≤ 6) => bitP_lt (p := p) h)
  clear ha hl hpa hc
  go_enter Tryd.func70, Tryd.ntmps70
  go_wp2
  go_loopw [3, 4] (fun s i wr => ∃ k : Nat, k ≤ l.length ∧ i = .int .i64 k ∧ s = .int .i64 ((ofL (l.take k) : Nat) : Int) ∧ Bel w wr) (fun _ i _ => l.length - (intOf i).toNat)
  case atStart => exact ⟨0, by omega, rfl, by rw [← H0.out], Bel.refl _⟩
  case round =>
    obtain ⟨k, hk, rfl, rfl, hB⟩ := hrel
    have HBW := Lib.hid hB
    by_cases hlt : k < l.length
    · have hlti : (k : Int) < (l.length : Int) := by omega
      have q0 := hB.cell (HC.out k hlt)
      have lq := cell_lt q0
      have hr : -1 ≤ at0 l k ∧ at0 l k ≤ 6 := HR.out k hlt
      have hs := HS.out k hlt
      have hb := HB.out k
      have hp := HP.out (at0 l k) hr.2
      have e2 : (2 : Int) ^ (at0 l k + 1).toNat = ((bitP (at0 l k) : Nat) : Int) := by unfold bitP; simp
      have HN := Lib.hid (show ((ofL (l.take (k + 1)) : Nat) : Int) = ((ofL (l.take k) : Nat) : Int) + ((bitP (at0 l k) : Nat) : Int) by rw [hs]; simp)
      clear hB hs
      generalize at0 l k = p at *
      generalize ofL (l.take k) = s at *
      generalize bitP p = q at *
      go_wp2
      go_roundw
      case rel => exact ⟨k + 1, by omega, by go_num, by rw [HN.out], HBW.out⟩
      case measure => simp [intOf]; omega
    · have hlti : ¬ (k : Int) < (l.length : Int) := by omega
      obtain rfl : k = l.length := by omega
      clear hB
      go_wp2
      go_ret
      exact ⟨rfl, HBW.out⟩
theorem plTo_stop {m k : Nat} (hk : k ≤ 8) (hm : m < 256) (h : m / 2 ^ k = 0) : plTo m k = plOf m := by
  have hlt : m < 2 ^ k := by
    rcases Nat.lt_or_ge m (2 ^ k) with q | q
    · exact q
    · have := Nat.div_pos q (Nat.two_pow_pos k)
      omega
  have key : ∀ j, plTo m (k + j) = plTo m k := by
    intro j
    induction j with
    | zero => rfl
    | succ j ih =>
      show (if m.testBit (k + j) then plTo m (k + j) ++ [((k + j : Nat) : Int) - 1] else plTo m (k + j)) = _
      rw [Nat.testBit_lt_two_pow (Nat.lt_of_lt_of_le hlt (Nat.pow_le_pow_right (by omega) (by omega)))]
      exact ih
  have := key (8 - k)
  rw [show k + (8 - k) = 8 by omega] at this
  exact this.symm
theorem R6PlacesOf_any (m : Nat) (hm : m < 256) (w : World) : Calls Tryd.prog 106 #[.int .i64 (m : Int)] w fun e w' => ∃ V, e = .returned V ∧ IntSt (plOf m) w V w' := by
  obtain ⟨i1, hi1, hz1, hs1, hb1⟩ := info_parts mkInt
  have HI1 := Lib.hid hi1
  have HZ1 := Lib.hid hz1
  have HE := Lib.hid (fun k (hk : k ≤ 8) (h : m / 2 ^ k = 0) => plTo_stop hk hm h)
  have H8 := Lib.hid (fun k (hk : k ≤ 8) (h : 0 < m / 2 ^ k) => show k < 8 by
    rcases Nat.lt_or_ge k 8 with q | q
    · exact q
    · have : k = 8 := by omega
      subst this
      rw [Nat.div_eq_of_lt hm] at h
      omega)
  have HL := Lib.hid (fun k (hk : k ≤ 8) => Nat.le_trans (plTo_len (m := m) k) hk)
  have HS := Lib.hid (fun k => show plTo m (k + 1) = if m.testBit k then plTo m k ++ [(k : Int) - 1] else plTo m k from rfl)
  have HT := Lib.hid (fun k => show m.testBit k = decide (m / 2 ^ k % 2 = 1) from Nat.testBit_eq_decide_div_mod_eq)
  have HD := Lib.hid (fun k => show m / 2 ^ (k + 1) = m / 2 ^ k / 2 by rw [Nat.pow_succ, Nat.div_div_eq_div_mul])
  have HM := Lib.hid (fun k => show m / 2 ^ k < 256 from Nat.lt_of_le_of_lt (Nat.div_le_self ..) hm)
  have H0 := Lib.hid (show m / 2 ^ 0 = m by simp)
  clear hi1 hz1
  go_enter Tryd.func106, Tryd.ntmps106
  go_wp2
  go_loopw [0, 3, 4] (fun s V p wr => ∃ k : Nat, k ≤ 8 ∧ s = .int .i64 ((m / 2 ^ k : Nat) : Int) ∧ p = .int .i64 ((k : Int) - 1) ∧ IntSt (plTo m k) w V wr) (fun s _ _ _ => (intOf s).toNat)
  case atStart => exact ⟨0, by omega, by rw [H0.out], rfl, IntSt.start w⟩
  case round =>
    obtain ⟨k, hk, rfl, rfl, hst⟩ := hrel
    have HST := Lib.hid hst
    have hm2 := HM.out k
    have h8 := H8.out k hk
    have HE1 := Lib.hid (HE.out k hk)
    have HS1 := Lib.hid (HS.out k)
    have HD1 := Lib.hid (HD.out k)
    have hl := HL.out k hk
    rw [HT.out k] at HS1
    clear hst
    generalize m / 2 ^ k = s at *
    by_cases h0 : 0 < s
    · have h0i : (0 : Int) < (s : Int) := by omega
      have hk8 := h8 h0
      clear h8
      have e2 : Int.tmod (s : Int) 2 = ((s % 2 : Nat) : Int) := rfl
      have e3 : Int.tdiv (s : Int) 2 = ((s / 2 : Nat) : Int) := rfl
      by_cases h1 : s % 2 = 1
      · have HN := Lib.hid (HS1.out.trans (if_pos (by simpa using h1)))
        have hs1' : Int.tmod (s : Int) 2 = 1 := by rw [e2, h1]; rfl
        go_wp2_with (at_builtin; refine wpList_append_where rfl _ _ 23 rfl 3 i1 (.int .i64 0) 1 8 Tryd.underlying23 HI1.out HZ1.out hs1 hb1 rfl (by decide) _ (plTo m k).length ((plTo m k).map (Value.int .i64)) rfl (ownsRow_bel HST.out.own ((Bel.refl wr).alloc _)) ⟨wr.heap.size, 0, none⟩ 1 1 [.int .i64 ((k : Int) - 1)] rfl rfl (cell_one_new _ _ _) (fun y hy => by simp at hy; subst hy; rfl) (by unfold maxLen; omega) (by omega) ?_; intro V' w6 hown hgrow hwhere)
        have HNX := Lib.hid ((HST.out.keep ((Bel.refl wr).alloc _)).next hown hgrow hwhere)
        clear hown hgrow hwhere
        go_wp2
        go_roundw
        case rel => exact ⟨k + 1, by omega, by rw [HD1.out, show ((s / 2 : Nat) : Int) = (s : Int) / 2 by omega], by go_num, by rw [HN.out]; exact HNX.out⟩
        case measure => simp [intOf]; omega
      · have HN := Lib.hid (HS1.out.trans (if_neg (by simpa using h1)))
        have hs1' : ¬ Int.tmod (s : Int) 2 = 1 := by rw [e2]; omega
        go_wp2
        go_roundw
        case rel => exact ⟨k + 1, by omega, by rw [HD1.out, show ((s / 2 : Nat) : Int) = (s : Int) / 2 by omega], by go_num, by rw [HN.out]; exact HST.out⟩
        case measure => simp [intOf]; omega
    · have h0i : ¬ (0 : Int) < (s : Int) := by omega
      have HF := Lib.hid (HE1.out (by omega))
      go_wp2
      exact bodyPost_ret (v := u3) (by simp [results, Tryd.results106, go_sem]) rfl ⟨_, rfl, by rw [← HF.out]; exact HST.out⟩
end Go.Proofs.YtogiidkofddhaaaDoor
namespace Go.Proofs.YtogiidkofddhaaaDoor
set_option linter.unusedVariables false
open Go Go.RowKit Go.Shelf
set_option maxHeartbeats 4000000
set_option maxRecDepth 100000
def drTo (k : Nat) : List BS := (List.range k).map fun (i : Nat) => (⟨1, (i : Int)⟩ : BS)
def lkTo (b : BT) (k : Nat) : List BS := drTo b.doors.length ++ (b.seen.take k).map fun c => (⟨2, c⟩ : BS)
theorem drTo_succ (k : Nat) : drTo (k + 1) = drTo k ++ [⟨1, (k : Int)⟩] := by unfold drTo; rw [List.range_succ, List.map_append]; rfl
theorem drTo_len (k : Nat) : (drTo k).length = k := by unfold drTo; simp
theorem lkTo_succ {b : BT} {k : Nat} (h : k < b.seen.length) : lkTo b (k + 1) = lkTo b k ++ [⟨2, at0 b.seen k⟩] := by
  have e : at0 b.seen k = b.seen[k] := by unfold at0; exact getD_lt b.seen k 0 h
  unfold lkTo
  rw [List.take_succ_eq_append_getElem h, List.map_append, ← List.append_assoc, e]
  rfl
theorem lkTo_zero (b : BT) : lkTo b 0 = drTo b.doors.length := by unfold lkTo; simp
theorem lkTo_len {b : BT} {k : Nat} (h : k ≤ b.seen.length) : (lkTo b k).length = b.doors.length + k := by unfold lkTo; rw [List.length_append, drTo_len]; simp; omega
theorem stepsR_true (b : BT) : lkTo b b.seen.length = stepsR b true := by unfold lkTo stepsR drTo; rw [List.take_length]; rfl
theorem stepsR_false (b : BT) : drTo b.doors.length = stepsR b false := by unfold stepsR drTo; simp
theorem R6Steps_any (b : BT) (looks : Bool) (v : Value) (w : World) (hv : BTrapAt w v b) (h1 : b.doors.length ≤ 1000) (h2 : b.seen.length ≤ 1000) :
    Calls Tryd.prog 90 #[v, .bool looks] w fun e w' => ∃ V, e = .returned V ∧ StepSt (stepsR b looks) w V w' := by
  obtain ⟨da, dc, sa, sc, pa, pc, rfl, _, hs, _⟩ := hv.open
  obtain ⟨sb, soff, hsa, _, _, hsc⟩ := hs.open
  have hix := idxInts (c := sc) hsa
  have HSC := Lib.hid hsc
  obtain ⟨i1, hi1, hz1, hs1, hb1⟩ := info_parts mkStep
  have HI1 := Lib.hid hi1
  have HZ1 := Lib.hid hz1
  have HBX := Lib.hid (fun wx hx => (BoxB.new (w := w) (b := b) (dv := .slice da b.doors.length dc) (sv := .slice sa b.seen.length sc) (pv := .slice pa b.places.length pc) (T := 25)).bel (w' := wx) hx)
  have HD := Lib.hid (fun k => drTo_succ k)
  have HD0 := Lib.hid (show drTo 0 = [] from rfl)
  have HDL := Lib.hid (fun k => drTo_len k)
  have HL := Lib.hid (fun k (hk : k < b.seen.length) => lkTo_succ hk)
  have HL0 := Lib.hid (lkTo_zero b)
  have HLL := Lib.hid (fun k (hk : k ≤ b.seen.length) => lkTo_len hk)
  have HT := Lib.hid (stepsR_true b)
  have HF := Lib.hid (stepsR_false b)
  clear hv hs hsa hsc hi1 hz1
  go_enter Tryd.func90, Tryd.ntmps90
  go_wp2
  generalize hW0 : World.alloc _ _ = W0
  have HB := Lib.hid (show Bel w W0 by rw [← hW0]; exact (Bel.refl w).alloc _)
  have HY := Lib.hid (HBX.out W0 (by rw [← hW0]; exact Bel.refl _))
  clear hW0 HBX
  go_loopw [5, 6] (fun V i wr => ∃ k : Nat, k ≤ b.doors.length ∧ i = .int .i64 k ∧ StepSt (drTo k) W0 V wr) (fun _ i _ => b.doors.length - (intOf i).toNat)
  case atStart => exact ⟨0, by omega, rfl, by rw [HD0.out]; exact StepSt.start W0⟩
  case round =>
    obtain ⟨k, hk, rfl, hst⟩ := hrel
    have HST := Lib.hid hst
    obtain ⟨y0, y1, y2, y3, y4, y5⟩ := HY.out.bel hst.bel
    have ly := cell_lt y0
    have hdl := HDL.out k
    by_cases hlt : k < b.doors.length
    · have hlti : (k : Int) < (b.doors.length : Int) := by omega
      clear hst
      go_wp2_with (at_builtin; refine wpList_append_where rfl _ _ 29 rfl 50 i1 (.agg #[.int .i64 0, .int .i64 0]) 2 16 Tryd.underlying29 HI1.out HZ1.out hs1 hb1 rfl (by decide) _ (drTo k).length (stepCells (drTo k)) rfl (ownsRow_bel HST.out.own ((Bel.refl wr).alloc _)) ⟨wr.heap.size, 0, none⟩ 1 1 [.int .i64 1, .int .i64 (k : Int)] rfl rfl (fun j u hu => by rw [addr_off, Nat.zero_add, (row_facts (new_row rfl)).1]; simpa using hu) (fun y hy => by simp at hy; rcases hy with rfl | rfl <;> rfl) (by unfold maxLen; omega) (by omega) ?_; intro V' w6 hown hgrow hwhere)
      have HNX := Lib.hid ((HST.out.keep ((Bel.refl wr).alloc _)).next (x := ⟨1, (k : Int)⟩) hown hgrow hwhere)
      clear hown hgrow hwhere
      go_wp2
      go_roundw
      case rel => exact ⟨k + 1, by omega, by go_num, by rw [HD.out]; exact HNX.out⟩
      case measure => simp [intOf]; omega
    · have hlti : ¬ (k : Int) < (b.doors.length : Int) := by omega
      obtain rfl : k = b.doors.length := by omega
      clear hst
      cases looks
      · have HSF := Lib.hid (show StepSt (stepsR b false) W0 _ wr by rw [← HF.out]; exact HST.out)
        go_wp2
        clear y0 y1 y2 y3 y4 y5 ly
        go_loopw [5, 7] (fun V i wx => i = .int .i64 0 ∧ StepSt (stepsR b false) W0 V wx) (fun _ i _ => 0)
        case atStart => exact ⟨rfl, HSF.out⟩
        case round =>
          obtain ⟨rfl, hst2⟩ := hrel
          have HST2 := Lib.hid hst2
          obtain ⟨y0, y1, y2, y3, y4, y5⟩ := HY.out.bel hst2.bel
          have ly := cell_lt y0
          clear hst2
          go_wp2
          all_goals exact bodyPost_ret (v := u5) (by simp [results, Tryd.results90, go_sem]) rfl ⟨_, rfl, ⟨HST2.out.own, fun g hg => Nat.le_trans HB.out.szle (HST2.out.far g hg), HB.out.trans HST2.out.bel⟩⟩
      · have HSF := Lib.hid (show StepSt (lkTo b 0) W0 _ wr by rw [HL0.out]; exact HST.out)
        go_wp2
        clear y0 y1 y2 y3 y4 y5 ly
        go_loopw [5, 7] (fun V i wx => ∃ k : Nat, k ≤ b.seen.length ∧ i = .int .i64 k ∧ StepSt (lkTo b k) W0 V wx) (fun _ i _ => b.seen.length - (intOf i).toNat)
        case atStart => exact ⟨0, by omega, rfl, HSF.out⟩
        case round =>
          obtain ⟨k, hk, rfl, hst2⟩ := hrel
          have HST2 := Lib.hid hst2
          obtain ⟨y0, y1, y2, y3, y4, y5⟩ := HY.out.bel hst2.bel
          have ly := cell_lt y0
          have hll := HLL.out k hk
          by_cases hlt : k < b.seen.length
          · have hlti : (k : Int) < (b.seen.length : Int) := by omega
            have q0 := (HB.out.trans hst2.bel).cell (HSC.out k hlt)
            have lq := cell_lt q0
            have HN := Lib.hid (HL.out k hlt)
            clear hst2
            generalize at0 b.seen k = c at *
            go_wp2_with (at_builtin; refine wpList_append_where rfl _ _ 29 rfl 50 i1 (.agg #[.int .i64 0, .int .i64 0]) 2 16 Tryd.underlying29 HI1.out HZ1.out hs1 hb1 rfl (by decide) _ (lkTo b k).length (stepCells (lkTo b k)) rfl (ownsRow_bel HST2.out.own ((Bel.refl wr).alloc _)) ⟨wr.heap.size, 0, none⟩ 1 1 [.int .i64 2, .int .i64 c] rfl rfl (fun j u hu => by rw [addr_off, Nat.zero_add, (row_facts (new_row rfl)).1]; simpa using hu) (fun y hy => by simp at hy; rcases hy with rfl | rfl <;> rfl) (by unfold maxLen; omega) (by omega) ?_; intro V' w6 hown hgrow hwhere)
            have HNX := Lib.hid ((HST2.out.keep ((Bel.refl wr).alloc _)).next (x := ⟨2, c⟩) hown hgrow hwhere)
            clear hown hgrow hwhere
            go_wp2
            go_roundw
            case rel => exact ⟨k + 1, by omega, by go_num, by rw [HN.out]; exact HNX.out⟩
            case measure => simp [intOf]; omega
          · have hlti : ¬ (k : Int) < (b.seen.length : Int) := by omega
            obtain rfl : k = b.seen.length := by omega
            clear hst2
            go_wp2
            exact bodyPost_ret (v := u5) (by simp [results, Tryd.results90, go_sem]) rfl ⟨_, rfl, by rw [← HT.out]; exact ⟨HST2.out.own, fun g hg => Nat.le_trans HB.out.szle (HST2.out.far g hg), HB.out.trans HST2.out.bel⟩⟩
end Go.Proofs.YtogiidkofddhaaaDoor
namespace Go.Proofs.YtogiidkofddhaaaDoor
set_option linter.unusedVariables false
open Go Go.RowKit Go.Shelf
set_option maxHeartbeats 4000000
set_option maxRecDepth 100000
def thL (c : Int) (ps : List Int) : List Int := ps.filter fun p => decide (p = c)
def noL (c : Int) (ps : List Int) : List Int := ps.filter fun p => !decide (p = c)
def neR (l : List Int) : List (List Int) := if l = [] then [] else [l]
def partsL (b : BT) (ps : List Int) (x : BS) : List (List Int) :=
  if x.k = 1 then [plOf (mvB (atD b.doors x.x.toNat) (ofL ps))] else neR (thL x.x ps) ++ neR (noL x.x ps)
theorem plOf_nil {m : Nat} (hm : m < 256) : plOf m = [] ↔ m = 0 := by
  constructor
  · intro h
    have := ofL_plOf hm
    rw [h] at this
    exact this.symm
  · rintro rfl; rfl
theorem thL_plOf {m : Nat} (hm : m < 256) {c : Int} (hc : -1 ≤ c) : thL c (plOf m) = plOf (m &&& bitP c) := by
  have h2 : m &&& bitP c < 256 := Nat.lt_of_le_of_lt Nat.and_le_left hm
  refine asc_ext ((plTo_asc m 8).filter _) (plTo_asc _ 8) fun p => ?_
  unfold thL
  rw [List.mem_filter, decide_eq_true_eq]
  show p ∈ plOf m ∧ p = c ↔ p ∈ plOf _
  rw [mem_plOf hm, mem_plOf h2, yes_bit, Bool.and_eq_true, decide_eq_true_eq]
  constructor
  · rintro ⟨⟨h3, h4⟩, rfl⟩; exact ⟨⟨h3, rfl⟩, h4⟩
  · rintro ⟨⟨h3, h5⟩, h4⟩; exact ⟨⟨h3, h4⟩, by omega⟩
theorem noL_plOf {m : Nat} (hm : m < 256) {c : Int} (hc : -1 ≤ c) : noL c (plOf m) = plOf (m ^^^ (m &&& bitP c)) := by
  have h2 : m ^^^ (m &&& bitP c) < 256 := Nat.xor_lt_two_pow (n := 8) hm (Nat.lt_of_le_of_lt Nat.and_le_left hm)
  refine asc_ext ((plTo_asc m 8).filter _) (plTo_asc _ 8) fun p => ?_
  unfold noL
  rw [List.mem_filter, Bool.not_eq_true', decide_eq_false_iff_not]
  show p ∈ plOf m ∧ ¬ p = c ↔ p ∈ plOf _
  rw [mem_plOf hm, mem_plOf h2, no_bit, Bool.and_eq_true, decide_eq_true_eq]
  constructor
  · rintro ⟨⟨h3, h4⟩, h5⟩; exact ⟨⟨h3, by omega⟩, h4⟩
  · rintro ⟨⟨h3, h5⟩, h4⟩; exact ⟨⟨h3, h4⟩, by rintro rfl; exact h5 rfl⟩
theorem neR_plOf {m : Nat} (hm : m < 256) : neR (plOf m) = (if m = 0 then [] else [m]).map plOf := by
  unfold neR
  by_cases h : m = 0
  · rw [if_pos ((plOf_nil hm).2 h), if_pos h]; rfl
  · rw [if_neg fun q => h ((plOf_nil hm).1 q), if_neg h]; rfl
theorem partsL_eq (b : BT) {m : Nat} (hm : m < 256) {x : BS} (hx : x.k = 1 ∨ -1 ≤ x.x) : partsL b (plOf m) x = (partsM b m x).map plOf := by
  unfold partsL partsM
  by_cases h : x.k = 1
  · rw [if_pos h, if_pos h, ofL_plOf hm]; rfl
  · have hc : -1 ≤ x.x := by rcases hx with q | q; exact absurd q h; exact q
    rw [if_neg h, if_neg h, thL_plOf hm hc, noL_plOf hm hc, List.map_append, neR_plOf (Nat.lt_of_le_of_lt Nat.and_le_left hm), neR_plOf (Nat.xor_lt_two_pow (n := 8) hm (Nat.lt_of_le_of_lt Nat.and_le_left hm))]
/-- Two lists that the call makes side by side. -/
structure TwoSt (l k : List Int) (w0 : World) (V U : Value) (wr : World) : Prop where
  own1 : wr.ownsRow 0 3 1 V l.length (l.map (Value.int .i64))
  own2 : wr.ownsRow 0 3 1 U k.length (k.map (Value.int .i64))
  far1 : ∀ g, V.ownBlock = some g → w0.heap.size ≤ g
  far2 : ∀ g, U.ownBlock = some g → w0.heap.size ≤ g
  ne : ∀ g, V.ownBlock = some g → U.ownBlock ≠ some g
  bel : Bel w0 wr
theorem TwoSt.start (w0 : World) : TwoSt [] [] w0 (.slice none 0 0) (.slice none 0 0) w0 :=
  ⟨World.ownsRow_nil w0 0 _ 1, World.ownsRow_nil w0 0 _ 1, fun g h => by simp [Value.ownBlock] at h, fun g h => by simp [Value.ownBlock] at h, fun g h => by simp [Value.ownBlock] at h, Bel.refl _⟩
theorem TwoSt.keep {l k : List Int} {w0 wr wx : World} {V U : Value} (h : TwoSt l k w0 V U wr) (q : Bel wr wx) : TwoSt l k w0 V U wx :=
  ⟨ownsRow_bel h.own1 q, ownsRow_bel h.own2 q, h.far1, h.far2, h.ne, h.bel.trans q⟩
theorem TwoSt.swap {l k : List Int} {w0 wr : World} {V U : Value} (h : TwoSt l k w0 V U wr) : TwoSt k l w0 U V wr :=
  ⟨h.own2, h.own1, h.far2, h.far1, fun g e q => h.ne g q e, h.bel⟩
theorem TwoSt.next {l k : List Int} {w0 wa w' : World} {V U V' : Value} {x : Int} (h : TwoSt l k w0 V U wa)
    (ho : w'.ownsRow 0 3 1 V' (l.length + 1) (l.map (Value.int .i64) ++ [.int .i64 x])) (hg : wa.grownBy w' V.ownBlock) (hv : V'.ownBlock = V.ownBlock ∨ V'.ownBlock = some wa.heap.size) :
    TwoSt (l ++ [x]) k w0 V' U w' := by
  refine ⟨by simpa using ho, own_keep h.own2 fun g e => hg.block g (own_lt h.own2 e) fun q => h.ne g q.symm e, fun g q => ?_, h.far2, fun g q e => ?_, h.bel.grown hg h.far1⟩
  · rcases hv with e | e
    · exact h.far1 g (by rw [← e]; exact q)
    · rw [e] at q; injection q with q; have := h.bel.szle; omega
  · rcases hv with e2 | e2
    · exact h.ne g (by rw [← e2]; exact q) e
    · rw [e2] at q; injection q with q; have := own_lt h.own2 e; omega
/-- A row of the call's own reads as ints in every world that differs elsewhere. -/
theorem offOwn {w : World} {v x : Value} {l : List Int} (hl : l.length ≤ 140737488355328) (hx : w.ownsRow 0 3 1 x l.length (l.map (Value.int .i64))) (hv : ∀ g, v.ownBlock = some g → x.ownBlock ≠ some g) : Off w v fun w' => IntsAt w' x l := by
  intro w' hs hk
  refine ownInts hl (own_keep hx fun g hg => hk g (own_lt hx hg) fun q => hv g q.symm hg)
theorem mkInts : (Tryd.prog.info? 23).map (fun i => (i.zero, i.size, i.bytes)) = some (some (.slice none 0 0), 1, 24) := by kernel_rfl
/-- A list of lists that the call makes. -/
structure OutSt (rows : List (List Int)) (w0 : World) (X : Value) (wr : World) : Prop where
  own : OwnRows wr X rows
  far : ∀ g, X.ownBlock = some g → w0.heap.size ≤ g
  bel : Bel w0 wr
theorem OutSt.next {rows : List (List Int)} {row : List Int} {w0 wa w' : World} {X X' V : Value} {vs : List Value} (h1 : wa.ownsRow 0 23 1 X rows.length vs)
    (h2 : ∀ j, j < rows.length → Off wa X fun w' => IntsAt w' (vs.getD j undef) (atL rows j)) (hf : ∀ g, X.ownBlock = some g → w0.heap.size ≤ g) (hb : Bel w0 wa)
    (hl : row.length ≤ 140737488355328) (hr : wa.ownsRow 0 3 1 V row.length (row.map (Value.int .i64))) (hne : ∀ g, X.ownBlock = some g → V.ownBlock ≠ some g)
    (ho : w'.ownsRow 0 23 1 X' (rows.length + 1) (vs ++ [V])) (hg : wa.grownBy w' X.ownBlock) (hv : X'.ownBlock = X.ownBlock ∨ X'.ownBlock = some wa.heap.size) : OutSt (rows ++ [row]) w0 X' w' := by
  refine ⟨OwnRows.add h1 h2 (offOwn hl hr hne) ho hg hv, fun g q => ?_, hb.grown hg hf⟩
  rcases hv with e | e
  · exact hf g (by rw [← e]; exact q)
  · rw [e] at q; injection q with q; have := hb.szle; omega
/-- The first row. -/
theorem OutSt.first {row : List Int} {w0 wa w' : World} {X V : Value} (hb : Bel w0 wa) (hl : row.length ≤ 140737488355328) (hr : wa.ownsRow 0 3 1 V row.length (row.map (Value.int .i64)))
    (ho : w'.ownsRow 0 23 1 X (0 + 1) ([] ++ [V])) (hg : wa.grownBy w' (Value.slice none 0 0).ownBlock) (hv : X.ownBlock = (Value.slice none 0 0).ownBlock ∨ X.ownBlock = some wa.heap.size) : OutSt [row] w0 X w' :=
  OutSt.next (rows := []) (X := .slice none 0 0) (World.ownsRow_nil wa 0 _ 1) (fun j hj => absurd hj (by simp)) (fun g h => by simp [Value.ownBlock] at h) hb hl hr (fun g h => by simp [Value.ownBlock] at h) ho hg hv
theorem TwoSt.slices {l k : List Int} {w0 wr : World} {V U : Value} (h : TwoSt l k w0 V U wr) : (∃ a c, V = .slice a l.length c) ∧ ∃ a c, U = .slice a k.length c := by
  constructor
  · rcases h.own1.2 with ⟨rfl, e⟩ | ⟨g, cap, cur, rfl, _⟩
    · exact ⟨none, 0, by rw [e]⟩
    · exact ⟨_, _, rfl⟩
  · rcases h.own2.2 with ⟨rfl, e⟩ | ⟨g, cap, cur, rfl, _⟩
    · exact ⟨none, 0, by rw [e]⟩
    · exact ⟨_, _, rfl⟩
/-- The first of two rows. -/
theorem OutSt.both {L M : List Int} {w0 wr wa w' : World} {X V U : Value} (h : TwoSt L M w0 V U wr) (k : Bel wr wa) (hl : L.length ≤ 140737488355328)
    (ho : w'.ownsRow 0 23 1 X (0 + 1) ([] ++ [V])) (hg : wa.grownBy w' (Value.slice none 0 0).ownBlock) (hv : X.ownBlock = (Value.slice none 0 0).ownBlock ∨ X.ownBlock = some wa.heap.size) :
    OutSt [L] w0 X w' ∧ w'.ownsRow 0 3 1 U M.length (M.map (Value.int .i64)) ∧ ∀ g, X.ownBlock = some g → U.ownBlock ≠ some g := by
  have q := ownsRow_bel h.own2 k
  refine ⟨OutSt.first (h.bel.trans k) hl (ownsRow_bel h.own1 k) ho hg hv, own_keep q fun g e => hg.block g (own_lt q e) (by simp [Value.ownBlock]), fun g e e2 => ?_⟩
  rcases hv with e3 | e3
  · rw [e3] at e; simp [Value.ownBlock] at e
  · rw [e3] at e; injection e with e; have := own_lt q e2; omega
theorem OutSt.rows {rows : List (List Int)} {w0 wr : World} {X : Value} (h : OutSt rows w0 X wr) (hl : rows.length ≤ 140737488355328) : RowsAt wr X rows := h.own.rows hl
theorem one_row {w : World} {V : Value} {l : List Int} {T : TypeId} (h : IntsAt w V l) : RowsAt (w.alloc (.cells #[V] T)) (.slice (some ⟨w.heap.size, 0, none⟩) 1 1) [l] := by
  refine ⟨some ⟨w.heap.size, 0, none⟩, 1, w.heap.size, 0, fun _ => V, rfl, fun _ => rfl, by simp, fun i hi => ?_⟩
  have : i = 0 := by simpa using hi
  subst this
  exact ⟨(row_facts (new_row rfl)).1 0, h.bel ((Bel.refl w).alloc _)⟩
theorem th_succ {c : Int} {ps : List Int} {k : Nat} (h : k < ps.length) : (at0 ps k = c → thL c (ps.take (k + 1)) = thL c (ps.take k) ++ [at0 ps k] ∧ noL c (ps.take (k + 1)) = noL c (ps.take k)) ∧
    (¬ at0 ps k = c → thL c (ps.take (k + 1)) = thL c (ps.take k) ∧ noL c (ps.take (k + 1)) = noL c (ps.take k) ++ [at0 ps k]) := by
  have e : at0 ps k = ps[k] := by unfold at0; exact getD_lt ps k 0 h
  unfold thL noL
  rw [List.take_succ_eq_append_getElem h, List.filter_append, List.filter_append, e]
  constructor
  · intro q
    simp [q]
  · intro q
    simp [q]
theorem th_len {c : Int} {ps : List Int} : (thL c ps).length ≤ ps.length ∧ (noL c ps).length ≤ ps.length := ⟨List.length_filter_le .., List.length_filter_le ..⟩
theorem R6Parts_any (b : BT) (hval : validT b = true) (ps : List Int) (hps : ps.length ≤ 1000) (hin : ∀ p, p ∈ ps → -1 ≤ p ∧ p ≤ b.n - 1) (x : BS) (hx : IsStp b x) (v pv : Value) (w : World) (hv : BTrapAt w v b) (hp : IntsAt w pv ps) :
    Calls Tryd.prog 72 #[v, pv, .agg #[.int .i64 x.k, .int .i64 x.x]] w fun e w' => ∃ V, e = .returned V ∧ RowsAt w' V (partsL b ps x) ∧ Bel w w' := by
  have HX := Lib.hid (show partsL b ps x = if x.k = 1 then [plOf (mvB (atD b.doors x.x.toNat) (ofL ps))] else neR (thL x.x ps) ++ neR (noL x.x ps) from rfl)
  have HM0 := Lib.hid (fun j hj wx (hx : Bel w wx) => R6MoveOf_any b hval ps hin j hj v pv wx (hv.bel hx) (hp.bel hx))
  obtain ⟨da, dc, sa, sc, pa, pc, rfl, _, _, _⟩ := hv.open
  obtain ⟨qa, qc, qb, qoff, rfl, hqa, ⟨hql, _⟩, hqc⟩ := hp
  clear hv hval hin
  rcases hx with ⟨e, g1, g2⟩ | ⟨e, g⟩
  · have b1 : (x.k == 1) = true := by simpa using e
    have HE := Lib.hid (HX.out.trans (if_pos e))
    obtain ⟨j, hj⟩ : ∃ j : Nat, x.x = j := ⟨x.x.toNat, by omega⟩
    have hj2 : j < b.doors.length := by omega
    rw [hj, Int.toNat_natCast] at HE
    rw [hj]
    have HM := Lib.hid (HM0.out j hj2)
    have HLN := Lib.hid (show (plOf (mvB (atD b.doors j) (ofL ps))).length ≤ 140737488355328 by have := plTo_len (m := mvB (atD b.doors j) (ofL ps)) 8; unfold plOf; omega)
    generalize plOf (mvB (atD b.doors j) (ofL ps)) = L at *
    rw [HE.out]
    clear e g1 g2 hj HX HM0 HE hqa hqc
    go_enter Tryd.func72, Tryd.ntmps72
    go_wp2_with fail
    refine (HM.out _ (by repeat (first | assumption | exact Bel.refl _ | refine Bel.drew ?_ | refine Bel.drewN ?_ _ | refine Bel.alloc ?_ _ | refine Bel.setCell ?_ (by simp <;> omega) _ | refine Bel.trans ?_ (by assumption)))).mono ?_
    rintro e w3 ⟨V, rfl, hst⟩
    have HI := Lib.hid (ownInts HLN.out hst.own)
    have HB := Lib.hid (show Bel w w3 from Bel.trans (by repeat (first | assumption | exact Bel.refl _ | refine Bel.drew ?_ | refine Bel.drewN ?_ _ | refine Bel.alloc ?_ _ | refine Bel.setCell ?_ (by simp <;> omega) _ | refine Bel.trans ?_ (by assumption))) hst.bel)
    have hsl := HI.out
    obtain ⟨va, vc, vb, voff, rfl, -⟩ := hsl
    have HR := Lib.hid (fun T => one_row (T := T) HI.out)
    clear hst
    go_wp2
    go_ret
    exact ⟨_, rfl, HR.out _, HB.out.alloc _⟩
  · have b1 : (x.k == 1) = false := by rw [beq_eq_false_iff_ne]; omega
    have HE := Lib.hid (HX.out.trans (if_neg (by omega)))
    have hixq := idxInts (c := qc) hqa
    have HQ := Lib.hid hqc
    obtain ⟨i1, hi1, hz1, hs1, hb1⟩ := info_parts mkInt
    have HI1 := Lib.hid hi1
    have HZ1 := Lib.hid hz1
    obtain ⟨i2, hi2, hz2, hs2, hb2⟩ := info_parts mkInts
    have HI2 := Lib.hid hi2
    have HZ2 := Lib.hid hz2
    clear e g HX HM0 hqa hqc hi1 hz1 hi2 hz2
    generalize x.x = c at *
    have HTS := Lib.hid (fun k (hk : k < ps.length) => th_succ (c := c) hk)
    have HTL := Lib.hid (fun k (hk : k ≤ ps.length) => show (thL c (ps.take k)).length ≤ 1000 ∧ (noL c (ps.take k)).length ≤ 1000 by have := th_len (c := c) (ps := ps.take k); rw [List.length_take] at this; omega)
    have HT0 := Lib.hid (show thL c (ps.take 0) = [] ∧ noL c (ps.take 0) = [] from ⟨rfl, rfl⟩)
    go_enter Tryd.func72, Tryd.ntmps72
    go_wp2
    generalize hW0 : World.alloc _ _ = W0
    have HB := Lib.hid (show Bel w W0 by rw [← hW0]; exact ((Bel.refl w).alloc _).alloc _)
    have HX1 := Lib.hid (show W0.cell? ⟨w.heap.size + 1, 1, none⟩ = some (.int .i64 c) by rw [← hW0]; exact (row_facts (new_row (by simp))).1 1)
    clear hW0
    go_loopw [7, 8, 9] (fun V U i wr => ∃ k : Nat, k ≤ ps.length ∧ i = .int .i64 k ∧ TwoSt (thL c (ps.take k)) (noL c (ps.take k)) W0 V U wr) (fun _ _ i _ => ps.length - (intOf i).toNat)
    case atStart => exact ⟨0, by omega, rfl, by rw [HT0.out.1, HT0.out.2]; exact TwoSt.start W0⟩
    case round =>
      obtain ⟨k, hk, rfl, hst⟩ := hrel
      have HST := Lib.hid hst
      have hB := hst.bel
      obtain ⟨l1, l2⟩ := HTL.out k hk
      by_cases hlt : k < ps.length
      · have hlti : (k : Int) < (ps.length : Int) := by omega
        have q0 := (HB.out.trans hB).cell (HQ.out k hlt)
        have lq := cell_lt q0
        have x1 := hB.cell HX1.out
        have lx := cell_lt x1
        obtain ⟨t1, t2⟩ := HTS.out k hlt
        have HT1 := Lib.hid t1
        have HT2 := Lib.hid t2
        clear hst hB t1 t2
        by_cases hp : at0 ps k = c
        · have hpe : (at0 ps k == c) = true := by simpa using hp
          obtain ⟨n1, n2⟩ := HT1.out hp
          have HN1 := Lib.hid n1
          have HN2 := Lib.hid n2
          clear n1 n2 hp HT1 HT2
          generalize at0 ps k = p at *
          go_wp2
          refine wp_region_mixB (Plan.seq [0, 1, 2, 3, 4, 5, 6] .nil) (by kernel_rfl) (by kernel_rfl) (fun hcur => ?_)
          simp only [Plan.seq, Plan.fill, List.getD_cons_zero, List.getD_cons_succ, Nat.reduceLT, ↓reduceIte]
          apply mix_pure _ rfl
          · intro w' hw'
            have hcr := hw'.cells
            go_simp
            rfl
          intro K hK
          go_simp
          refine hK _ ?_
          clear hK K
          apply mix_pure _ rfl
          · intro w' hw'
            have hcr := hw'.cells
            go_simp
            rfl
          intro K hK
          go_simp
          refine hK _ ?_
          clear hK K
          apply mix_pure _ rfl
          · intro w' hw'
            have hcr := hw'.cells
            go_simp
            rfl
          intro K hK
          go_simp
          refine hK _ ?_
          clear hK K
          apply mix_pure _ rfl
          · intro w' hw'
            have hcr := hw'.cells
            go_simp
            rfl
          intro K hK
          go_simp
          refine hK _ ?_
          clear hK K
          apply mix_pure _ rfl
          · intro w' hw'
            have hcr := hw'.cells
            go_simp
            rfl
          intro K hK
          go_simp
          refine hK _ ?_
          clear hK K
          apply mix_pure _ rfl
          · intro w' hw'
            have hcr := hw'.cells
            go_simp
            rfl
          intro K hK
          go_simp
          refine hK _ ?_
          clear hK K
          apply mix_pure _ rfl
          · intro w' hw'
            have hcr := hw'.cells
            go_simp
            rfl
          intro K hK
          go_simp
          refine hK _ ?_
          clear hK K
          refine mix_nil ?_
          have HST2 := Lib.hid (HST.out.keep hcur)
          replace q0 := hcur.cell q0
          have lq := cell_lt q0
          clear hcur x1 lx
          generalize World.drew _ = wd at *
          go_wp2_with (at_builtin; refine wpList_append_where rfl _ _ 23 rfl 3 i1 (.int .i64 0) 1 8 Tryd.underlying23 HI1.out HZ1.out hs1 hb1 rfl (by decide) _ (thL c (ps.take k)).length ((thL c (ps.take k)).map (Value.int .i64)) rfl (ownsRow_bel HST2.out.own1 ((Bel.refl _).alloc _)) ⟨wd.heap.size, 0, none⟩ 1 1 [.int .i64 _] rfl rfl (cell_one_new _ _ _) (fun y hy => by simp at hy; subst hy; rfl) (by unfold maxLen; omega) (by omega) ?_; intro V' w7 hown hgrow hwhere)
          have HNX := Lib.hid ((HST2.out.keep ((Bel.refl _).alloc _)).next hown hgrow hwhere)
          clear hown hgrow hwhere q0 lq
          go_wp2
          go_roundw
          case rel => exact ⟨k + 1, by omega, by go_num, by rw [HN1.out, HN2.out]; exact HNX.out⟩
          case measure => simp [intOf]; omega
        · have hpe : (at0 ps k == c) = false := by simpa using hp
          obtain ⟨n1, n2⟩ := HT2.out hp
          have HN1 := Lib.hid n1
          have HN2 := Lib.hid n2
          clear n1 n2 hp HT1 HT2
          generalize at0 ps k = p at *
          go_wp2
          refine wp_region_mixB (Plan.seq [0, 1, 2, 3, 4, 5, 6] .nil) (by kernel_rfl) (by kernel_rfl) (fun hcur => ?_)
          simp only [Plan.seq, Plan.fill, List.getD_cons_zero, List.getD_cons_succ, Nat.reduceLT, ↓reduceIte]
          apply mix_pure _ rfl
          · intro w' hw'
            have hcr := hw'.cells
            go_simp
            rfl
          intro K hK
          go_simp
          refine hK _ ?_
          clear hK K
          apply mix_pure _ rfl
          · intro w' hw'
            have hcr := hw'.cells
            go_simp
            rfl
          intro K hK
          go_simp
          refine hK _ ?_
          clear hK K
          apply mix_pure _ rfl
          · intro w' hw'
            have hcr := hw'.cells
            go_simp
            rfl
          intro K hK
          go_simp
          refine hK _ ?_
          clear hK K
          apply mix_pure _ rfl
          · intro w' hw'
            have hcr := hw'.cells
            go_simp
            rfl
          intro K hK
          go_simp
          refine hK _ ?_
          clear hK K
          apply mix_pure _ rfl
          · intro w' hw'
            have hcr := hw'.cells
            go_simp
            rfl
          intro K hK
          go_simp
          refine hK _ ?_
          clear hK K
          apply mix_pure _ rfl
          · intro w' hw'
            have hcr := hw'.cells
            go_simp
            rfl
          intro K hK
          go_simp
          refine hK _ ?_
          clear hK K
          apply mix_pure _ rfl
          · intro w' hw'
            have hcr := hw'.cells
            go_simp
            rfl
          intro K hK
          go_simp
          refine hK _ ?_
          clear hK K
          refine mix_nil ?_
          have HST2 := Lib.hid (HST.out.keep hcur)
          replace q0 := hcur.cell q0
          have lq := cell_lt q0
          clear hcur x1 lx
          generalize World.drew _ = wd at *
          go_wp2_with (at_builtin; refine wpList_append_where rfl _ _ 23 rfl 3 i1 (.int .i64 0) 1 8 Tryd.underlying23 HI1.out HZ1.out hs1 hb1 rfl (by decide) _ (noL c (ps.take k)).length ((noL c (ps.take k)).map (Value.int .i64)) rfl (ownsRow_bel HST2.out.own2 ((Bel.refl _).alloc _)) ⟨wd.heap.size, 0, none⟩ 1 1 [.int .i64 _] rfl rfl (cell_one_new _ _ _) (fun y hy => by simp at hy; subst hy; rfl) (by unfold maxLen; omega) (by omega) ?_; intro V' w7 hown hgrow hwhere)
          have HNX := Lib.hid ((HST2.out.keep ((Bel.refl _).alloc _)).swap.next hown hgrow hwhere).swap
          clear hown hgrow hwhere q0 lq
          go_wp2
          go_roundw
          case rel => exact ⟨k + 1, by omega, by go_num, by rw [HN1.out, HN2.out]; exact HNX.out⟩
          case measure => simp [intOf]; omega
      · have hlti : ¬ (k : Int) < (ps.length : Int) := by omega
        obtain rfl : k = ps.length := by omega
        rw [List.take_length] at HST hst l1 l2
        obtain ⟨⟨va, vc, hV⟩, ⟨ua, uc, hU⟩⟩ := hst.slices
        subst hV hU
        clear hst hB HTS HTL HT0 HX1 HQ
        generalize thL c ps = L at *
        generalize noL c ps = M at *
        by_cases hL : L = []
        · subst hL
          by_cases hM : M = []
          · subst hM
            go_wp2
            go_ret
            exact ⟨.slice none 0 0, rfl, by rw [HE.out]; exact (OwnRows.nil _).rows (by simp), HB.out.trans HST.out.bel⟩
          · have hMi : (0 : Int) < (M.length : Int) := by have := List.length_pos_iff.2 hM; omega
            have HNE := Lib.hid (show neR ([] : List Int) ++ neR M = [M] by unfold neR; rw [if_pos rfl, if_neg hM]; rfl)
            clear hM
            go_wp2_with (at_builtin; refine wpList_append_where rfl _ _ 93 rfl 23 i2 (.slice none 0 0) 1 24 Tryd.underlying93 HI2.out HZ2.out hs2 hb2 rfl (by decide) _ 0 [] rfl (World.ownsRow_nil _ 0 _ 1) ⟨wr.heap.size, 0, none⟩ 1 1 [.slice _ _ _] rfl rfl (cell_one_new _ _ _) (fun y hy => by simp at hy; subst hy; rfl) (by unfold maxLen; omega) (by omega) ?_; intro V' w7 hown hgrow hwhere)
            have HO := Lib.hid (OutSt.first (w0 := W0) (row := M) (HST.out.bel.trans ((Bel.refl _).alloc _)) (by omega) (ownsRow_bel HST.out.own2 ((Bel.refl _).alloc _)) hown hgrow hwhere)
            clear hown hgrow hwhere
            go_wp2
            go_ret
            exact ⟨V', rfl, by rw [HE.out, HNE.out]; exact HO.out.rows (by simp), HB.out.trans HO.out.bel⟩
        · have hLi : (0 : Int) < (L.length : Int) := by have := List.length_pos_iff.2 hL; omega
          by_cases hM : M = []
          · subst hM
            have HNE := Lib.hid (show neR L ++ neR ([] : List Int) = [L] by unfold neR; rw [if_neg hL, if_pos rfl]; rfl)
            clear hL
            go_wp2_with (at_builtin; refine wpList_append_where rfl _ _ 93 rfl 23 i2 (.slice none 0 0) 1 24 Tryd.underlying93 HI2.out HZ2.out hs2 hb2 rfl (by decide) _ 0 [] rfl (World.ownsRow_nil _ 0 _ 1) ⟨wr.heap.size, 0, none⟩ 1 1 [.slice _ _ _] rfl rfl (cell_one_new _ _ _) (fun y hy => by simp at hy; subst hy; rfl) (by unfold maxLen; omega) (by omega) ?_; intro V' w7 hown hgrow hwhere)
            have HO := Lib.hid (OutSt.first (w0 := W0) (row := L) (HST.out.bel.trans ((Bel.refl _).alloc _)) (by omega) (ownsRow_bel HST.out.own1 ((Bel.refl _).alloc _)) hown hgrow hwhere)
            clear hown hgrow hwhere
            go_wp2
            go_ret
            exact ⟨V', rfl, by rw [HE.out, HNE.out]; exact HO.out.rows (by simp), HB.out.trans HO.out.bel⟩
          · have hMi : (0 : Int) < (M.length : Int) := by have := List.length_pos_iff.2 hM; omega
            have HNE := Lib.hid (show neR L ++ neR M = [L] ++ [M] by unfold neR; rw [if_neg hL, if_neg hM])
            clear hL hM
            go_wp2_with (first
              | (at_builtin; refine wpList_append_where rfl _ _ 93 rfl 23 i2 (.slice none 0 0) 1 24 Tryd.underlying93 HI2.out HZ2.out hs2 hb2 rfl (by decide) _ 0 [] rfl (World.ownsRow_nil _ 0 _ 1) ⟨wr.heap.size, 0, none⟩ 1 1 [.slice _ _ _] rfl rfl (cell_one_new _ _ _) (fun y hy => by simp at hy; subst hy; rfl) (by unfold maxLen; omega) (by omega) ?_; intro V' w7 hown hgrow hwhere; obtain ⟨o1, o2, o3⟩ := OutSt.both (w0 := W0) HST.out ((Bel.refl _).alloc _) (by omega) hown hgrow hwhere; have HO1 := Lib.hid o1; have HO2 := Lib.hid o2; have HO3 := Lib.hid o3; obtain ⟨vs, p1, p2⟩ := o1.own; have HP1 := Lib.hid p1; have HP2 := Lib.hid p2; clear hown hgrow hwhere o1 o2 o3 p1 p2)
              | (at_builtin; refine wpList_append_where rfl _ _ 93 rfl 23 i2 (.slice none 0 0) 1 24 Tryd.underlying93 HI2.out HZ2.out hs2 hb2 rfl (by decide) _ 1 vs rfl (ownsRow_bel HP1.out ((Bel.refl _).alloc _)) ⟨w7.heap.size, 0, none⟩ 1 1 [.slice _ _ _] rfl rfl (cell_one_new _ _ _) (fun y hy => by simp at hy; subst hy; rfl) (by unfold maxLen; omega) (by omega) ?_; intro V'' w8 hown hgrow hwhere))
            have HO := Lib.hid (OutSt.next (w0 := W0) (rows := [L]) (row := M) (ownsRow_bel HP1.out ((Bel.refl _).alloc _)) (fun j hj => (HP2.out j hj).bel ((Bel.refl _).alloc _)) HO1.out.far (HO1.out.bel.trans ((Bel.refl _).alloc _)) (by omega) (ownsRow_bel HO2.out ((Bel.refl _).alloc _)) HO3.out hown hgrow hwhere)
            clear hown hgrow hwhere
            go_wp2
            go_ret
            exact ⟨V'', rfl, by rw [HE.out, HNE.out]; exact HO.out.rows (by simp), HB.out.trans HO.out.bel⟩
end Go.Proofs.YtogiidkofddhaaaDoor
namespace Go.Proofs.YtogiidkofddhaaaDoor
set_option linter.unusedVariables false
open Go Go.RowKit Go.Shelf
set_option maxHeartbeats 4000000
set_option maxRecDepth 100000
theorem infoRow : ∃ i, Tryd.prog.info? 23 = some i := Option.isSome_iff_exists.1 (by kernel_rfl)
theorem cellsRow : Tryd.prog.cellsOf 23 = 1 := by kernel_rfl
theorem idxRows {a : Option Addr} {n c b off : Nat} (ha : 0 < n → a = some ⟨b, off, none⟩) :
    ∀ (w : World) (i : Nat), i < n → (Instr.indexAt 93 (.slice a n c) (.int .i64 i)).run Tryd.prog w = .ok (.pointer (some ⟨b, off + i, none⟩)) w := by
  obtain ⟨i0, hi0⟩ := infoRow
  have h := idxRule (P := Tryd.prog) 93 23 1 Tryd.underlying93 hi0 cellsRow (c := c) ha
  simpa using h
theorem plOf_in {b : BT} (hb : Okb b) {m : Nat} (hm : Dom b m) : ∀ p, p ∈ plOf m → -1 ≤ p ∧ p ≤ b.n - 1 := fun p hp => by
  have h256 := Dom.lt256 hb hm
  obtain ⟨h1, h2⟩ := (mem_plOf h256).1 hp
  have := bit_lt hm.2 h1
  have := hb.n1
  omega
theorem plOf_len (m : Nat) : (plOf m).length ≤ 8 := plTo_len 8
theorem atL_map {l : List Nat} {k : Nat} (h : k < l.length) : atL (l.map plOf) k = plOf (atN l k) := by
  unfold atL atN; simp [List.getD, h]
theorem wrst_succ {c : List Int} {l : List Nat} {k : Nat} (h : k < l.length) : wrst c (l.take (k + 1)) = max (wrst c (l.take k)) (at0 c (atN l k)) := by
  have e : atN l k = l[k] := by unfold atN; exact getD_lt l k 0 h
  unfold wrst
  rw [List.take_succ_eq_append_getElem h, List.foldl_append, e]
  rfl
theorem partsM_dom {b : BT} (hb : Okb b) {looks : Bool} {m : Nat} (hm : Dom b m) {x : BS} (hx : x ∈ stepsR b looks) : (∀ t, t ∈ partsM b m x → Dom b t) ∧ (partsM b m x).length ≤ 2 := by
  refine ⟨fun t ht => ?_, ?_⟩
  · rcases parts_step hm.1 hx with h | h
    · exact (steps_dom hb hm h).2 t ht
    · rw [h] at ht; rw [List.mem_singleton.1 ht]; exact hm
  · unfold partsM
    split
    · simp
    · split <;> split <;> simp
/-- A table of costs. -/
structure CostT (b : BT) (c : List Int) : Prop where
  len : c.length = 2 ^ (b.n.toNat + 1)
  lo : ∀ k, Dom b k → 0 ≤ at0 c k
  hi : ∀ k, Dom b k → at0 c k ≤ 1099511627776
theorem R6with_any (b : BT) (hval : validT b = true) (looks : Bool) (per stp : Int) (hps : 1 ≤ per ∧ per ≤ 1000 ∧ 0 ≤ stp ∧ stp ≤ 1) (c : List Int) (hc : CostT b c) (m : Nat) (hm : Dom b m) (x : BS) (hx : x ∈ stepsR b looks)
    (v cv pv : Value) (w : World) (hv : BTrapAt w v b) (hcv : IntsAt w cv c) (hp : IntsAt w pv (plOf m)) :
    Calls Tryd.prog 91 #[v, cv, pv, .agg #[.int .i64 x.k, .int .i64 x.x], .int .i64 per, .int .i64 stp] w fun e w' => e = .returned (.int .i64 (withR b c m x per stp)) ∧ Bel w w' := by
  have hok := okb_iff.1 hval
  have hst := stepsR_stp hx
  have h256 := Dom.lt256 hok hm
  obtain ⟨hpd, hpl⟩ := partsM_dom hok hm hx
  have hcs := cost_stp hok hst
  have HPA := Lib.hid (fun wx (hx : Bel w wx) => R6Parts_any b hval (plOf m) (by have := plOf_len m; omega) (plOf_in hok hm) x hst v pv wx (hv.bel hx) (hp.bel hx))
  rw [partsL_eq b h256 (by rcases hst with ⟨e, _⟩ | ⟨_, e⟩; exact .inl e; exact .inr (by have := hok.si _ e; omega))] at HPA
  have HCO := Lib.hid (fun wx (hx : Bel w wx) => R6CostOf_any b hval x hst v wx (hv.bel hx))
  have HW := Lib.hid (show withR b c m x per stp = min 1099511627776 (costS b x * per + stp + wrst c (partsM b m x)) from rfl)
  generalize hl : partsM b m x = l at *
  have HSO := Lib.hid (fun (k : Nat) (hk : k < l.length) rv wx (hr : IntsAt wx rv (atL (l.map plOf) k)) => by
    have ht := hpd _ (getD_mem l k 0 hk)
    have h256 := Dom.lt256 hok ht
    have hi := plOf_in hok ht
    have hn2 := hok.n2
    rw [atL_map hk] at hr
    have q := R6Some_any rv (plOf (atN l k)) wx hr (plTo_asc _ 8) fun p hp => by have := hi p hp; omega
    rw [show ofL (plOf (atN l k)) = atN l k from ofL_plOf h256] at q
    exact q)
  have HIN := Lib.hid (fun (k : Nat) (hk : k < l.length) => show atN l k < c.length ∧ 0 ≤ at0 c (atN l k) ∧ at0 c (atN l k) ≤ 1099511627776 by
    have ht := hpd _ (getD_mem l k 0 hk)
    exact ⟨by rw [hc.len]; exact ht.2, hc.lo _ ht, hc.hi _ ht⟩)
  have HWS := Lib.hid (fun (k : Nat) (hk : k < l.length) => wrst_succ (c := c) hk)
  have HW0 := Lib.hid (show wrst c (l.take 0) = 0 from rfl)
  have HWA := Lib.hid (show wrst c (l.take l.length) = wrst c l by rw [List.take_length])
  have HWI := Lib.hid (fun (k : Nat) => show 0 ≤ wrst c (l.take k) ∧ wrst c (l.take k) ≤ 1099511627776 from
    ⟨wrst_ge.1, wrst_le (by omega) fun t ht => hc.hi _ (hpd t (List.mem_of_mem_take ht))⟩)
  have hml : (l.map plOf).length = l.length := by simp
  generalize hrows : l.map plOf = rows at *
  obtain ⟨da, dc, sa, sc, pa, pc, rfl, _, _, _⟩ := hv.open
  obtain ⟨ca, cc, cb, coff, rfl, hca, ⟨hcl, _⟩, hcc⟩ := hcv
  obtain ⟨qa, qc, qb, qoff, rfl, -⟩ := hp
  have hixc := idxInts (c := cc) hca
  have HC := Lib.hid hcc
  have HBX := Lib.hid (fun T2 y wx hx => (BoxB.new (w := w) (b := b) (dv := .slice da b.doors.length dc) (sv := .slice sa b.seen.length sc) (pv := .slice pa b.places.length pc) (T := 25)).bel (w' := wx) (Bel.trans ((Bel.refl _).alloc (.cells y T2)) hx))
  rw [HW.out]
  generalize costS b x = s at *
  have hp1 : s * per ≤ 29 * 1000 := by
    have := Int.mul_le_mul hcs.2 hps.2.1 (by omega) (by omega)
    omega
  have hp0 : 0 ≤ s * per := Int.mul_nonneg (by omega) (by omega)
  have hw1 : IntKind.i64.wrap (s * per) = s * per := IntWalk.i64_in _ (by omega)
  have hw2 : IntKind.i64.wrap (s * per + stp) = s * per + stp := IntWalk.i64_in _ (by omega)
  have HW3 := Lib.hid (show IntKind.i64.wrap (s * per + stp + wrst c l) = s * per + stp + wrst c l by
    have := HWI.out l.length
    rw [HWA.out] at this
    exact IntWalk.i64_in _ (by omega))
  generalize hpr : s * per = pr at *
  clear hv hca hcc hpd hc hval hok hst hm hx hcs hl hrows HW h256
  go_enter Tryd.func91, Tryd.ntmps91
  go_wp2_with fail
  refine (HPA.out _ (by repeat (first | assumption | exact Bel.refl _ | refine Bel.drew ?_ | refine Bel.drewN ?_ _ | refine Bel.alloc ?_ _ | refine Bel.setCell ?_ (by simp <;> omega) _ | refine Bel.trans ?_ (by assumption)))).mono ?_
  rintro e w3 ⟨V, rfl, hr, hb⟩
  have HB := Lib.hid (show Bel w w3 from Bel.trans (by repeat (first | assumption | exact Bel.refl _ | refine Bel.drew ?_ | refine Bel.drewN ?_ _ | refine Bel.alloc ?_ _ | refine Bel.setCell ?_ (by simp <;> omega) _ | refine Bel.trans ?_ (by assumption))) hb)
  have HY := Lib.hid (HBX.out _ _ _ hb)
  have HX := Lib.hid (show w3.cell? ⟨w.heap.size + 1, 0, none⟩ = some (.int .i64 x.k) ∧ w3.cell? ⟨w.heap.size + 1, 1, none⟩ = some (.int .i64 x.x) from ⟨hb.cell ((row_facts (new_row (by simp))).1 0), hb.cell ((row_facts (new_row (by simp))).1 1)⟩)
  obtain ⟨ra, rc, rb, roff, rv, rfl, hra, _, hrc⟩ := hr
  have HR := Lib.hid hrc
  have hixr := idxRows (c := rc) hra
  rw [hml] at hixr
  clear hb hra hrc HBX HPA
  go_wp2
  go_loopw [14, 15] (fun vs vi wr => ∃ k : Nat, k ≤ l.length ∧ vi = .int .i64 k ∧ vs = .int .i64 (wrst c (l.take k)) ∧ Bel w3 wr) (fun _ vi _ => l.length - (intOf vi).toNat)
  case atStart => exact ⟨0, by omega, rfl, by rw [HW0.out], Bel.refl _⟩
  case round =>
    obtain ⟨k, hk, rfl, rfl, hw⟩ := hrel
    have HWR := Lib.hid hw
    obtain ⟨i1, i2⟩ := HWI.out k
    by_cases hlt : k < l.length
    · have hlti : (k : Int) < (l.length : Int) := by omega
      have hltl := hlt
      obtain ⟨r0, r1⟩ := HR.out k (by omega)
      replace r0 := hw.cell r0
      have hsl := r1
      obtain ⟨xa, xc, xb, xoff, hxe, -⟩ := hsl
      have HSK := Lib.hid (HSO.out k hltl _ wr (r1.bel hw))
      rw [hxe] at r0 HSK
      have lr := cell_lt r0
      obtain ⟨t1, t2, t3⟩ := HIN.out k hltl
      have HWN := Lib.hid (HWS.out k hltl)
      have q0 := (HB.out.trans hw).cell (HC.out _ t1)
      clear r1 hxe hw hltl
      generalize atN l k = t at *
      generalize at0 c t = y at *
      generalize wrst c (l.take k) = s0 at *
      go_wp2_with fail
      refine HSK.out.mono ?_
      rintro e w5 ⟨rfl, hb5⟩
      replace q0 := hb5.cell q0
      have lq := cell_lt q0
      have HWR5 := Lib.hid (HWR.out.trans hb5)
      clear hb5 r0 lr
      go_wp2
      go_roundw
      case rel => exact ⟨k + 1, by omega, by go_num, by rw [HWN.out]; congr 1; split <;> omega, HWR5.out⟩
      case measure => simp [intOf]; omega
    · have hlti : ¬ (k : Int) < (l.length : Int) := by omega
      obtain rfl : k = l.length := by omega
      rw [HWA.out] at i1 i2
      rw [HWA.out]
      have hw3 := HW3.out
      have HCOr := Lib.hid (HCO.out wr (HB.out.trans hw))
      obtain ⟨y0, y1, y2, y3, y4, y5⟩ := HY.out.bel hw
      have ly := cell_lt y0
      have x0 := hw.cell HX.out.1
      have x1 := hw.cell HX.out.2
      have lx := cell_lt x0
      clear hw
      generalize hs0 : wrst c l = s0 at *
      have HS0 := Lib.hid hs0
      clear hs0
      go_wp2_with fail
      refine HCOr.out.mono ?_
      rintro e w5 ⟨rfl, hb5⟩
      have HWR5 := Lib.hid (HB.out.trans (HWR.out.trans hb5))
      clear hb5 y0 y1 y2 y3 y4 y5 ly x0 x1 lx
      go_wp2
      all_goals
        go_ret
        refine ⟨ri ?_, HWR5.out⟩
        rw [HS0.out]
        omega
end Go.Proofs.YtogiidkofddhaaaDoor
