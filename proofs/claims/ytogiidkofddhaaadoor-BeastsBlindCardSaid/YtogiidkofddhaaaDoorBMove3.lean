/-
  beasts: Move.
-/
import Derived.Test.YtogiidkofddhaaaDoorBCheck
import Derived.Test.YtogiidkofddhaaaDoorBR
import Derived.Laws.BitsLemmas
namespace Go.Proofs.YtogiidkofddhaaaDoor
set_option linter.unusedVariables false
open Go Go.RowKit
set_option maxHeartbeats 2000000
set_option maxRecDepth 100000
theorem u8or {a b : Nat} (ha : a < 256) (hb : b < 256) : bits .or .u8 (a : Int) (b : Int) = ((a ||| b : Nat) : Int) := (bits_nat .u8 8 (by decide) wraps_u8 a b ha hb).2
theorem u8and {a b : Nat} (ha : a < 256) (hb : b < 256) : bits .and .u8 (a : Int) (b : Int) = ((a &&& b : Nat) : Int) := (bits_nat .u8 8 (by decide) wraps_u8 a b ha hb).1
theorem u8not {a b : Nat} (ha : a < 256) (hb : b < 256) : bits .andNot .u8 (a : Int) (b : Int) = ((a ^^^ (a &&& b) : Nat) : Int) := by
  have e : (BitVec.ofNat 8 a &&& ~~~ BitVec.ofNat 8 b).toNat = a ^^^ (a &&& b) := by
    refine Nat.eq_of_testBit_eq fun i => ?_
    rw [BitVec.testBit_toNat, Nat.testBit_xor, Nat.testBit_and]
    by_cases hi : i < 8
    · rw [BitVec.getLsbD_and, BitVec.getLsbD_not, BitVec.getLsbD_ofNat, BitVec.getLsbD_ofNat]
      simp only [hi, decide_true, Bool.true_and]
      cases a.testBit i <;> cases b.testBit i <;> rfl
    · rw [BitVec.getLsbD_of_ge _ _ (by omega), Nat.testBit_lt_two_pow (Nat.lt_of_lt_of_le ha (Nat.pow_le_pow_right (n := 2) (by omega) (show 8 ≤ i by omega)))]
      rfl
  show IntKind.u8.wrap ((BitVec.ofInt 8 (a : Int) &&& ~~~ BitVec.ofInt 8 (b : Int)).toNat : Int) = _
  rw [BitVec.ofInt_natCast, BitVec.ofInt_natCast, e]
  refine wraps_u8 _ (by omega) ?_
  have : a ^^^ (a &&& b) < 2 ^ 8 := Nat.xor_lt_two_pow ha (Nat.lt_of_le_of_lt Nat.and_le_left ha)
  exact_mod_cast this
theorem bitP_lt {p : Int} (h : p ≤ 6) : bitP p < 256 := lt_of_bits (k := 8) fun i hi => by rw [testBit_bitP, decide_eq_true_eq] at hi; omega
theorem shl_bitP {p : Int} (h : p ≤ 6) : (2 : Int) ^ (p + 1).toNat % 256 = ((bitP p : Nat) : Int) := by
  have := bitP_lt h
  have e : (2 : Int) ^ (p + 1).toNat = ((bitP p : Nat) : Int) := by unfold bitP; simp
  rw [e]
  omega
theorem through_any (d : BD) (p : Int) (w : World) : Calls Tryd.prog 68 #[.agg #[.int .i64 d.a, .int .i64 d.b, .int .i64 d.cost], .int .i64 p] w fun e w' => e = .returned (.int .i64 (thr d p)) ∧ Bel w w' := by
  have H := Lib.hid (show thr d p = if p = -1 then p else if p = d.a then d.b else if p = d.b then d.a else p from rfl)
  by_cases h1 : p = -1
  · rw [if_pos h1] at H
    have b1 : (p == -1) = true := by simpa using h1
    clear h1
    go_enter Tryd.func68, Tryd.ntmps68
    go_wp2
    go_ret
    exact ⟨ri H.out, (by repeat (first | assumption | exact Bel.refl _ | refine Bel.drew ?_ | refine Bel.drewN ?_ _ | refine Bel.alloc ?_ _ | refine Bel.setCell ?_ (by simp <;> omega) _ | refine Bel.trans ?_ (by assumption)))⟩
  rw [if_neg h1] at H
  have b1 : (p == -1) = false := by simpa using h1
  clear h1
  by_cases h2 : p = d.a
  · rw [if_pos h2] at H
    have b2 : (p == d.a) = true := by simpa using h2
    clear h2
    go_enter Tryd.func68, Tryd.ntmps68
    go_wp2
    go_ret
    exact ⟨ri H.out, (by repeat (first | assumption | exact Bel.refl _ | refine Bel.drew ?_ | refine Bel.drewN ?_ _ | refine Bel.alloc ?_ _ | refine Bel.setCell ?_ (by simp <;> omega) _ | refine Bel.trans ?_ (by assumption)))⟩
  rw [if_neg h2] at H
  have b2 : (p == d.a) = false := by simpa using h2
  clear h2
  by_cases h3 : p = d.b
  · rw [if_pos h3] at H
    have b3 : (p == d.b) = true := by simpa using h3
    clear h3
    go_enter Tryd.func68, Tryd.ntmps68
    go_wp2
    go_ret
    exact ⟨ri H.out, (by repeat (first | assumption | exact Bel.refl _ | refine Bel.drew ?_ | refine Bel.drewN ?_ _ | refine Bel.alloc ?_ _ | refine Bel.setCell ?_ (by simp <;> omega) _ | refine Bel.trans ?_ (by assumption)))⟩
  rw [if_neg h3] at H
  have b3 : (p == d.b) = false := by simpa using h3
  clear h3
  go_enter Tryd.func68, Tryd.ntmps68
  go_wp2
  go_ret
  exact ⟨ri H.out, (by repeat (first | assumption | exact Bel.refl _ | refine Bel.drew ?_ | refine Bel.drewN ?_ _ | refine Bel.alloc ?_ _ | refine Bel.setCell ?_ (by simp <;> omega) _ | refine Bel.trans ?_ (by assumption)))⟩
/-- of the first k. -/
def ofTo (l : List Int) (k : Nat) : Nat := ofL (l.take k)
theorem ofTo_succ {l : List Int} {k : Nat} (h : k < l.length) : ofTo l (k + 1) = ofTo l k ||| bitP (at0 l k) := by
  unfold ofTo ofL
  rw [List.take_succ_eq_append_getElem h, List.foldl_append]
  unfold at0
  rw [getD_lt l k 0 h]
  rfl
theorem ofTo_all {l : List Int} {k : Nat} (h : l.length ≤ k) : ofTo l k = ofL l := by unfold ofTo; rw [List.take_of_length_le h]
theorem ofTo_lt {l : List Int} (h : ∀ j, j < l.length → at0 l j ≤ 6) (k : Nat) : ofTo l k < 256 := by
  unfold ofTo
  refine Nat.lt_of_lt_of_le (ofL_lt (n := 7) fun p hp => ?_) (by decide)
  obtain ⟨j, hj, e⟩ := mem_getD _ p 0 hp
  have hj2 : j < l.length := by simp at hj; omega
  have := h j hj2
  unfold at0 at this
  have hjk : j < k := by simp at hj; omega
  rw [show (l.take k).getD j 0 = l.getD j 0 by simp [List.getD, hjk]] at e
  omega
theorem of_any (v : Value) (l : List Int) (w : World) (hv : IntsAt w v l) (hl : ∀ j, j < l.length → -1 ≤ at0 l j ∧ at0 l j ≤ 6) : Calls Tryd.prog 65 #[v] w fun e w' => e = .returned (.int .u8 (ofL l : Int)) ∧ Bel w w' := by
  obtain ⟨a, c, b, off, rfl, ha, ⟨hlen, _⟩, hc⟩ := hv
  have hix := idxInts (c := c) ha
  have HC := Lib.hid hc
  have HL := Lib.hid hl
  clear ha hc hl
  go_enter Tryd.func65, Tryd.ntmps65
  go_wp2
  go_loop [2, 7] (fun s i => ∃ k : Nat, k ≤ l.length ∧ i = .int .i64 k ∧ s = .int .u8 (ofTo l k : Int)) (fun _ i => l.length - (intOf i).toNat)
  case atStart => exact ⟨0, by omega, rfl, rfl⟩
  case round =>
    obtain ⟨k, hk, rfl, rfl⟩ := hrel
    by_cases hlt : k < l.length
    · have hlti : (k : Int) < (l.length : Int) := by omega
      have hck := HC.out k hlt
      obtain ⟨h1, h2⟩ := HL.out k hlt
      have HS := Lib.hid (ofTo_succ hlt)
      have HK := Lib.hid (ofTo_lt (fun j hj => (HL.out j hj).2) k)
      generalize at0 l k = p at *
      go_wp2
      go_round
      case rel => exact ⟨k + 1, by omega, by go_num, by rw [shl_bitP h2, u8or HK.out (bitP_lt h2), HS.out]⟩
      case measure => simp [intOf]; omega
    · have HE := Lib.hid (ofTo_all (l := l) (k := k) (by omega))
      go_wp2
      go_ret
      exact ⟨by rw [HE.out]; rfl, Bel.refl _⟩
theorem shr_cast (m k : Nat) : ((m : Int) / 2 ^ k) = ((m / 2 ^ k : Nat) : Int) := by simp
theorem shr_bit {m k : Nat} (hm : m < 256) : (bits BinOp.and IntKind.u8 ((m : Int) / 2 ^ k) 1 == 1) = m.testBit k := by
  have h1 : m / 2 ^ k < 256 := Nat.lt_of_le_of_lt (Nat.div_le_self _ _) hm
  rw [shr_cast, show (1 : Int) = ((1 : Nat) : Int) from rfl, u8and h1 (by omega), Nat.and_one_is_mod, Nat.testBit_eq_decide_div_mod_eq]
  by_cases g : m / 2 ^ k % 2 = 1
  · rw [g]; rfl
  · rw [decide_eq_false g]
    rw [beq_eq_false_iff_ne]
    omega
theorem shr_ne {m k : Nat} (h : 2 ^ k ≤ m) : ((m : Int) / 2 ^ k != 0) = true := by
  have : 0 < m / 2 ^ k := Nat.div_pos h (Nat.two_pow_pos k)
  rw [shr_cast, bne_iff_ne]
  omega
theorem shr_zero {m k : Nat} (h : m < 2 ^ k) : ((m : Int) / 2 ^ k != 0) = false := by
  rw [shr_cast, Nat.div_eq_of_lt h]; rfl
theorem places_any (m : Nat) (hm : m < 256) (w : World) : Calls Tryd.prog 80 #[.int .u8 (m : Int)] w fun e w' => ∃ v, e = .returned v ∧ IntsAt w' v (plOf m) ∧ Bel w w' := by
  obtain ⟨i1, hi1, hz1, hs1, hb1⟩ := info_parts mkInt
  have HI1 := Lib.hid hi1
  have HZ1 := Lib.hid hz1
  clear hi1 hz1
  go_enter Tryd.func80, Tryd.ntmps80
  go_wp2
  go_loopw [3, 4] (fun V i wr => ∃ k : Nat, k ≤ 8 ∧ i = .int .i64 ((k : Int) - 1) ∧ IntSt (plTo m k) w V wr) (fun _ i _ => (8 - (intOf i + 1)).toNat)
  case atStart => exact ⟨0, by omega, rfl, IntSt.start w⟩
  case round =>
    obtain ⟨k, hk, rfl, hR⟩ := hrel
    have HR := Lib.hid hR
    clear hR
    by_cases hlt : 2 ^ k ≤ m
    · have hz := shr_ne hlt
      have hk8 : k < 8 := by
        rcases Nat.lt_or_ge k 8 with q | q
        · exact q
        · have := Nat.pow_le_pow_right (n := 2) (by omega) q
          omega
      have HB := Lib.hid (shr_bit (k := k) hm)
      have hll : (plTo m k).length ≤ 8 := by
        have : ∀ j, (plTo m j).length ≤ j := by
          intro j
          induction j with
          | zero => exact Nat.le_refl _
          | succ j ih => unfold plTo; split; (· simp; omega); (· omega)
        have := this k
        omega
      clear hlt
      cases hbt : m.testBit k
      · have hb0 : (bits BinOp.and IntKind.u8 ((m : Int) / 2 ^ k) 1 == 1) = false := HB.out.trans hbt
        have HN : Hid (plTo m (k + 1) = plTo m k) := Lib.hid (by show (if m.testBit k = true then _ else _) = _; rw [if_neg (by rw [hbt]; simp)])
        clear hbt
        go_wp2
        go_roundw
        case rel => exact ⟨k + 1, by omega, by go_num, by rw [HN.out]; exact HR.out⟩
        case measure => simp [intOf]; omega
      · have hb0 : (bits BinOp.and IntKind.u8 ((m : Int) / 2 ^ k) 1 == 1) = true := HB.out.trans hbt
        have HN : Hid (plTo m (k + 1) = plTo m k ++ [(k : Int) - 1]) := Lib.hid (by show (if m.testBit k = true then _ else _) = _; rw [if_pos hbt])
        clear hbt
        go_wp2_with (at_builtin; refine wpList_append_where rfl _ _ 23 rfl 3 i1 (.int .i64 0) 1 8 Tryd.underlying23 HI1.out HZ1.out hs1 hb1 rfl (by decide) _ (plTo m k).length ((plTo m k).map (Value.int .i64)) rfl (ownsRow_bel HR.out.own ((Bel.refl wr).alloc _)) ⟨wr.heap.size, 0, none⟩ 1 1 [.int .i64 ((k : Int) - 1)] rfl rfl (cell_one_new _ _ _) (fun y hy => by simp at hy; subst hy; rfl) (by unfold maxLen; omega) (by omega) ?_)
        intro V' w7 hown7 hgrow7 hwhere7
        have HNX := Lib.hid (IntSt.next (HR.out.keep ((Bel.refl wr).alloc _)) hown7 hgrow7 (by rw [World.size_alloc]; exact hwhere7))
        rw [← HN.out] at HNX
        clear hown7 hgrow7 hwhere7
        go_wp2
        go_roundw
        case rel => exact ⟨k + 1, by omega, by go_num, HNX.out⟩
        case measure => simp [intOf]; omega
    · have hz := shr_zero (show m < 2 ^ k by omega)
      have HE := Lib.hid (plOf_to (m := m) (k := k) (by omega) hk)
      have hll : (plTo m k).length ≤ 8 := by
        have : ∀ j, (plTo m j).length ≤ j := by
          intro j
          induction j with
          | zero => exact Nat.le_refl _
          | succ j ih => unfold plTo; split; (· simp; omega); (· omega)
        have := this k
        omega
      have HI := Lib.hid (ownInts (by omega) HR.out.own)
      rw [← HE.out] at HI
      clear hlt
      go_wp2
      go_ret
      exact ⟨_, rfl, HI.out, HR.out.bel⟩
end Go.Proofs.YtogiidkofddhaaaDoor
namespace Go.Proofs.YtogiidkofddhaaaDoor
set_option linter.unusedVariables false
open Go Go.RowKit
set_option maxHeartbeats 2000000
set_option maxRecDepth 100000
def mvTo (d : BD) (l : List Int) (k : Nat) : Nat := (l.take k).foldl (fun s p => s ||| bitP (thr d p)) 0
theorem mvTo_succ {d : BD} {l : List Int} {k : Nat} (h : k < l.length) : mvTo d l (k + 1) = mvTo d l k ||| bitP (thr d (at0 l k)) := by
  unfold mvTo
  rw [List.take_succ_eq_append_getElem h, List.foldl_append]
  unfold at0
  rw [getD_lt l k 0 h]
  rfl
theorem mvTo_lt {d : BD} {l : List Int} (h : ∀ j, j < l.length → thr d (at0 l j) ≤ 6) : ∀ k, k ≤ l.length → mvTo d l k < 256
  | 0, _ => by show (0 : Nat) < 256; omega
  | k + 1, hk => by
    rw [mvTo_succ (by omega)]
    exact Nat.or_lt_two_pow (n := 8) (mvTo_lt h k (by omega)) (bitP_lt (h k (by omega)))
theorem one_ints {w : World} {p : Int} {T : TypeId} : IntsAt (w.alloc (.cells #[.int .i64 p] T)) (.slice (some ⟨w.heap.size, 0, none⟩) 1 1) [p] :=
  ⟨_, 1, w.heap.size, 0, rfl, fun _ => rfl, by simp, fun i hi => by
    have : i = 0 := by simp at hi; omega
    subst this
    exact (row_facts (new_row rfl)).1 0⟩
theorem ofL_one (p : Int) : ofL [p] = bitP p := by unfold ofL; simp
theorem bmove_any (d : BD) (m n : Nat) (hn : n ≤ 5) (hd : OkD n d) (hm : m < 2 ^ (n + 1)) (w : World) :
    Calls Tryd.prog 79 #[.int .u8 (m : Int), .agg #[.int .i64 d.a, .int .i64 d.b, .int .i64 d.cost]] w fun e w' => e = .returned (.int .u8 (mvB d m : Int)) ∧ Bel w w' := by
  have hpow : 2 ^ (n + 1) ≤ 2 ^ 6 := Nat.pow_le_pow_right (n := 2) (by omega) (by omega)
  have h256 : m < 256 := by omega
  have HPL := Lib.hid (fun wx => places_any m h256 wx)
  have hin : ∀ j, j < (plOf m).length → -1 ≤ thr d (at0 (plOf m) j) ∧ thr d (at0 (plOf m) j) ≤ 6 := fun j hj => by
    obtain ⟨i, h1, h2, h3⟩ := mem_plTo.1 (show at0 (plOf m) j ∈ plTo m 8 from getD_mem (plOf m) j 0 hj)
    have := bit_lt hm h2
    have := thr_in hd (p := at0 (plOf m) j) (by omega) (by omega)
    omega
  have HIN := Lib.hid hin
  have HLT := Lib.hid (fun k hk => mvTo_lt (d := d) (l := plOf m) (fun j hj => (hin j hj).2) k hk)
  have HMV := Lib.hid (show mvTo d (plOf m) (plOf m).length = mvB d m by unfold mvTo; rw [List.take_length]; rfl)
  have hll : (plOf m).length ≤ 8 := by
    have : ∀ j, (plTo m j).length ≤ j := by
      intro j
      induction j with
      | zero => exact Nat.le_refl _
      | succ j ih => unfold plTo; split; (· simp; omega); (· omega)
    exact this 8
  clear hin hm hd h256 hpow
  generalize plOf m = l at *
  go_enter Tryd.func79, Tryd.ntmps79
  go_wp2_with fail
  refine (HPL.out _).mono ?_
  rintro e w1 ⟨v, rfl, hv, hb⟩
  have d0 : w1.cell? ⟨w.heap.size, 0, none⟩ = some (.int .i64 d.a) := hb.cell ((row_facts (new_row rfl)).1 0)
  have d1 : w1.cell? ⟨w.heap.size, 1, none⟩ = some (.int .i64 d.b) := hb.cell ((row_facts (new_row rfl)).1 1)
  have d2 : w1.cell? ⟨w.heap.size, 2, none⟩ = some (.int .i64 d.cost) := hb.cell ((row_facts (new_row rfl)).1 2)
  have HX := Lib.hid (And.intro d0 (And.intro d1 d2))
  have HB1 := Lib.hid (show Bel w w1 from Bel.trans (by repeat (first | assumption | exact Bel.refl _ | refine Bel.drew ?_ | refine Bel.drewN ?_ _ | refine Bel.alloc ?_ _ | refine Bel.setCell ?_ (by simp <;> omega) _ | refine Bel.trans ?_ (by assumption))) hb)
  clear hb d0 d1 d2
  obtain ⟨a, c, b, off, rfl, ha, ⟨hlen, _⟩, hc⟩ := hv
  have hix := idxInts (c := c) ha
  have HC := Lib.hid hc
  clear ha hc
  go_wp2
  go_loopw [4, 10] (fun s i wr => ∃ k : Nat, k ≤ l.length ∧ i = .int .i64 k ∧ s = .int .u8 (mvTo d l k : Int) ∧ Bel w1 wr) (fun _ i _ => l.length - (intOf i).toNat)
  case atStart => exact ⟨0, by omega, rfl, rfl, Bel.refl _⟩
  case round =>
    obtain ⟨k, hk, rfl, rfl, hB⟩ := hrel
    have HB := Lib.hid hB
    by_cases hlt : k < l.length
    · have hlti : (k : Int) < (l.length : Int) := by omega
      have hck := hB.cell (HC.out k hlt)
      have lck := cell_lt hck
      obtain ⟨x0, x1, x2⟩ := HX.out
      replace x0 := hB.cell x0
      replace x1 := hB.cell x1
      replace x2 := hB.cell x2
      have lx := cell_lt x0
      obtain ⟨h1, h2⟩ := HIN.out k hlt
      have HS := Lib.hid (mvTo_succ (d := d) hlt)
      have HK := Lib.hid (HLT.out k hk)
      have HTH := Lib.hid (fun wx => through_any d (at0 l k) wx)
      clear hB
      generalize at0 l k = p at *
      generalize hq : thr d p = q at *
      clear hq
      go_wp2_with fail
      refine (HTH.out _).mono ?_
      rintro e w2 ⟨rfl, hb2⟩
      have HB2 := Lib.hid (HB.out.trans hb2)
      clear hb2 x0 x1 x2 lx hck lck
      go_wp2_with fail
      refine (of_any _ [q] _ one_ints (fun j hj => by
        have : j = 0 := by simp at hj; omega
        subst this
        exact ⟨h1, h2⟩)).mono ?_
      rintro e w3 ⟨rfl, hb3⟩
      have HB3 := Lib.hid (HB2.out.trans (Bel.trans (by repeat (first | assumption | exact Bel.refl _ | refine Bel.drew ?_ | refine Bel.drewN ?_ _ | refine Bel.alloc ?_ _ | refine Bel.setCell ?_ (by simp <;> omega) _ | refine Bel.trans ?_ (by assumption))) hb3))
      have HQ := Lib.hid (show (ofL [q] : Int) = (bitP q : Int) by rw [ofL_one])
      rw [HQ.out]
      clear hb3
      go_wp2
      go_roundw
      case rel => exact ⟨k + 1, by omega, by go_num, by rw [u8or HK.out (bitP_lt h2), HS.out], HB3.out⟩
      case measure => simp [intOf]; omega
    · have hkl : k = l.length := by omega
      subst hkl
      have HBF := Lib.hid (HB1.out.trans hB)
      clear hB
      go_wp2
      go_ret
      exact ⟨by rw [HMV.out]; rfl, HBF.out⟩
/-- What Move answers. -/
def moveE (b : BT) (ps : List Int) (n : Int) : Int := if validT b then (if isDoorB b n && risingB ps (-1) (b.n - 1) then 0 else 1) else 60
def moveL (b : BT) (ps : List Int) (n : Int) : List Int := if moveE b ps n = 0 then plOf (mvB (atD b.doors n.toNat) (ofL ps)) else []
def LErr (er : Int) (l : List Int) (w : World) (e : Ending) (w' : World) : Prop := ∃ v, e = .returned (.tuple #[v, .int .i64 er]) ∧ IntsAt w' v l ∧ Bel w w'
end Go.Proofs.YtogiidkofddhaaaDoor
namespace Go.Proofs.YtogiidkofddhaaaDoor
set_option linter.unusedVariables false
open Go Go.RowKit
set_option maxHeartbeats 4000000
set_option maxRecDepth 100000
theorem LErr.err {er : Int} {w w' : World} (hb : Bel w w') : LErr er [] w (.returned (.tuple #[.slice none 0 0, .int .i64 er])) w' := ⟨_, rfl, IntsAt.nil _, hb⟩
theorem valid_n {b : BT} (h : validT b = true) : 1 ≤ b.n ∧ b.n ≤ 5 := ⟨(okb_iff.1 h).n1, (okb_iff.1 h).n2⟩
theorem chkT_ne {b : BT} (h : validT b = true) : (chkT b != 0) = false := by rw [chkT_true h]; rfl
theorem chkT_60 {b : BT} (h : validT b = false) : (chkT b != 0) = true := by rw [chkT_false h]; rfl
theorem bMove_any (b : BT) (v pv : Value) (ps : List Int) (n : Int) (w : World) (hv : BTrapAt w v b) (hp : IntsAt w pv ps) :
    Calls Tryd.prog 27 #[v, pv, .int .i64 n] w (LErr (moveE b ps n) (moveL b ps n) w) := by
  have HV := Lib.hid hv
  have HP := Lib.hid hp
  have HCK := Lib.hid (fun wx hx => bCheck_any b v wx hx)
  have HIS := Lib.hid (fun wx hx => isDoor_any b n v wx hx)
  obtain ⟨dv, sv, qv, rfl, hd, hs, hq⟩ := hv
  obtain ⟨da, dc, db, doff, rfl, hda, ⟨hdl, _⟩, hdc⟩ := hd
  obtain ⟨pa, pc, pb, poff, rfl, hpa, ⟨hpl, _⟩, hpc⟩ := hp
  have hixd := idxDoors (c := dc) hda
  have HDC := Lib.hid hdc
  clear hda hdc hpa hpc hs hq
  cases hval : validT b
  · have HE := Lib.hid (show moveE b ps n = 60 by unfold moveE; rw [hval]; rfl)
    have HL := Lib.hid (show moveL b ps n = [] by unfold moveL; rw [if_neg (by rw [HE.out]; omega)])
    rw [chkT_false hval] at HCK
    rw [HE.out, HL.out]
    clear hval
    go_enter Tryd.func27, Tryd.ntmps27
    go_wp2_with fail
    refine (HCK.out _ (HV.out.bel (by repeat (first | assumption | exact Bel.refl _ | refine Bel.drew ?_ | refine Bel.drewN ?_ _ | refine Bel.alloc ?_ _ | refine Bel.setCell ?_ (by simp <;> omega) _ | refine Bel.trans ?_ (by assumption))))).mono ?_
    rintro e w1 ⟨rfl, hb⟩
    have HB := Lib.hid (show Bel w w1 from Bel.trans (by repeat (first | assumption | exact Bel.refl _ | refine Bel.drew ?_ | refine Bel.drewN ?_ _ | refine Bel.alloc ?_ _ | refine Bel.setCell ?_ (by simp <;> omega) _ | refine Bel.trans ?_ (by assumption))) hb)
    clear hb
    go_wp2
    exact bodyPost_ret (v := .tuple #[.slice none 0 0, .int .i64 60]) (by simp [results, Tryd.results27, go_sem, *]) rfl (LErr.err HB.out)
  rw [chkT_true hval] at HCK
  obtain ⟨n1, n2⟩ := valid_n hval
  cases his : isDoorB b n
  · have HE := Lib.hid (show moveE b ps n = 1 by unfold moveE; rw [hval, his]; rfl)
    have HL := Lib.hid (show moveL b ps n = [] by unfold moveL; rw [if_neg (by rw [HE.out]; omega)])
    rw [his] at HIS
    rw [HE.out, HL.out]
    clear hval his
    go_enter Tryd.func27, Tryd.ntmps27
    go_wp2_with fail
    refine (HCK.out _ (HV.out.bel (by repeat (first | assumption | exact Bel.refl _ | refine Bel.drew ?_ | refine Bel.drewN ?_ _ | refine Bel.alloc ?_ _ | refine Bel.setCell ?_ (by simp <;> omega) _ | refine Bel.trans ?_ (by assumption))))).mono ?_
    rintro e w1 ⟨rfl, hb⟩
    have HB := Lib.hid (show Bel w w1 from Bel.trans (by repeat (first | assumption | exact Bel.refl _ | refine Bel.drew ?_ | refine Bel.drewN ?_ _ | refine Bel.alloc ?_ _ | refine Bel.setCell ?_ (by simp <;> omega) _ | refine Bel.trans ?_ (by assumption))) hb)
    have y : BoxB w1 w.heap.size b _ _ _ := BoxB.bel BoxB.new hb
    obtain ⟨y0, y1, y2, y3, y4, y5⟩ := y
    clear hb
    go_wp2_with fail
    refine (HIS.out _ (HV.out.bel HB.out)).mono ?_
    rintro e w2 ⟨rfl, hb⟩
    have HB2 := Lib.hid (HB.out.trans hb)
    clear hb
    go_wp2
    exact bodyPost_ret (v := .tuple #[.slice none 0 0, .int .i64 1]) (by simp [results, Tryd.results27, go_sem, *]) rfl (LErr.err HB2.out)
  rw [his] at HIS
  have HMV := Lib.hid (fun p tb wx (h : BoxB wx tb b (.slice da b.doors.length dc) sv qv) => move1_any b p tb _ _ _ wx h.c0 h.c1 h.c2 h.c3 h.c4 h.c5)
  have HRI := Lib.hid (fun tb wx (h : BoxB wx tb b (.slice da b.doors.length dc) sv qv) (hx : IntsAt wx (.slice pa ps.length pc) ps) =>
    rising_any (.slice pa ps.length pc) (.func (.func 77) #[] #[.pointer (some ⟨tb, 0, none⟩)]) ps (placeB b.n) wx hx 77 tb rfl (enters_of Tryd.func77 (by kernel_rfl) rfl) (fun p wy hy => HMV.out p tb wy (h.bel hy)))
  simp only [risingP_pl n1 n2] at HRI
  cases hri : risingB ps (-1) (b.n - 1)
  · have HE := Lib.hid (show moveE b ps n = 1 by unfold moveE; rw [hval, his, hri]; rfl)
    have HL := Lib.hid (show moveL b ps n = [] by unfold moveL; rw [if_neg (by rw [HE.out]; omega)])
    rw [hri] at HRI
    rw [HE.out, HL.out]
    clear hval his hri
    go_enter Tryd.func27, Tryd.ntmps27
    go_wp2_with fail
    refine (HCK.out _ (HV.out.bel (by repeat (first | assumption | exact Bel.refl _ | refine Bel.drew ?_ | refine Bel.drewN ?_ _ | refine Bel.alloc ?_ _ | refine Bel.setCell ?_ (by simp <;> omega) _ | refine Bel.trans ?_ (by assumption))))).mono ?_
    rintro e w1 ⟨rfl, hb⟩
    have HB := Lib.hid (show Bel w w1 from Bel.trans (by repeat (first | assumption | exact Bel.refl _ | refine Bel.drew ?_ | refine Bel.drewN ?_ _ | refine Bel.alloc ?_ _ | refine Bel.setCell ?_ (by simp <;> omega) _ | refine Bel.trans ?_ (by assumption))) hb)
    have y : BoxB w1 w.heap.size b _ _ _ := BoxB.bel BoxB.new hb
    have HY := Lib.hid y
    obtain ⟨y0, y1, y2, y3, y4, y5⟩ := y
    clear hb
    go_wp2_with fail
    refine (HIS.out _ (HV.out.bel HB.out)).mono ?_
    rintro e w2 ⟨rfl, hb⟩
    have HB2 := Lib.hid (HB.out.trans hb)
    have HY2 := Lib.hid (HY.out.bel hb)
    clear hb
    go_wp2_with fail
    refine (HRI.out _ _ HY2.out (HP.out.bel HB2.out)).mono ?_
    rintro e w3 ⟨rfl, hb⟩
    have HB3 := Lib.hid (HB2.out.trans hb)
    clear hb
    go_wp2
    exact bodyPost_ret (v := .tuple #[.slice none 0 0, .int .i64 1]) (by simp [results, Tryd.results27, go_sem, *]) rfl (LErr.err HB3.out)
  have HE := Lib.hid (show moveE b ps n = 0 by unfold moveE; rw [hval, his, hri]; rfl)
  have HL := Lib.hid (show moveL b ps n = plOf (mvB (atD b.doors n.toNat) (ofL ps)) by unfold moveL; rw [if_pos HE.out])
  have hin := (rising_asc hri).2
  have hpin : ∀ j, j < ps.length → -1 ≤ at0 ps j ∧ at0 ps j ≤ 6 := fun j hj => by have := hin _ (getD_mem ps j 0 hj); unfold at0; omega
  have hof : ofL ps < 2 ^ (b.n.toNat + 1) := ofL_lt (n := b.n.toNat) fun p hp => by have := hin p hp; omega
  obtain ⟨g1, g2⟩ := withinB_true.1 his
  obtain ⟨k, rfl⟩ : ∃ k : Nat, n = k := ⟨n.toNat, by omega⟩
  have hk : k < b.doors.length := by omega
  have hki : (k : Int) < (b.doors.length : Int) := by omega
  have HDK := Lib.hid (HDC.out k hk)
  have hok := (okb_iff.1 hval).dk k hk
  rw [show b.n = ((b.n.toNat : Nat) : Int) by omega] at hok
  have HOF := Lib.hid (fun wx hx => of_any (.slice pa ps.length pc) ps wx hx hpin)
  have hpow : 2 ^ (b.n.toNat + 1) ≤ 2 ^ 6 := Nat.pow_le_pow_right (n := 2) (by omega) (by omega)
  have HBM := Lib.hid (fun wx => bmove_any (atD b.doors k) (ofL ps) b.n.toNat (by omega) hok hof wx)
  have HPL := Lib.hid (fun wx => places_any (mvB (atD b.doors k) (ofL ps)) (by have := mvB_lt hok hof; omega) wx)
  rw [hri] at HRI
  rw [HE.out, HL.out]
  simp only [Int.toNat_natCast]
  generalize mvB (atD b.doors k) (ofL ps) = mv at *
  generalize ofL ps = ob at *
  generalize atD b.doors k = d at *
  clear hval his hri HE HL hin hpin hof g1 g2 hok hpow
  go_enter Tryd.func27, Tryd.ntmps27
  go_wp2_with fail
  refine (HCK.out _ (HV.out.bel (by repeat (first | assumption | exact Bel.refl _ | refine Bel.drew ?_ | refine Bel.drewN ?_ _ | refine Bel.alloc ?_ _ | refine Bel.setCell ?_ (by simp <;> omega) _ | refine Bel.trans ?_ (by assumption))))).mono ?_
  rintro e w1 ⟨rfl, hb⟩
  have HB := Lib.hid (show Bel w w1 from Bel.trans (by repeat (first | assumption | exact Bel.refl _ | refine Bel.drew ?_ | refine Bel.drewN ?_ _ | refine Bel.alloc ?_ _ | refine Bel.setCell ?_ (by simp <;> omega) _ | refine Bel.trans ?_ (by assumption))) hb)
  have y : BoxB w1 w.heap.size b _ _ _ := BoxB.bel BoxB.new hb
  have HY := Lib.hid y
  obtain ⟨y0, y1, y2, y3, y4, y5⟩ := y
  clear hb
  go_wp2_with fail
  refine (HIS.out _ (HV.out.bel HB.out)).mono ?_
  rintro e w2 ⟨rfl, hb⟩
  have HB2 := Lib.hid (HB.out.trans hb)
  have HY2 := Lib.hid (HY.out.bel hb)
  clear hb y0 y1 y2 y3 y4 y5
  go_wp2_with fail
  refine (HRI.out _ _ HY2.out (HP.out.bel HB2.out)).mono ?_
  rintro e w3 ⟨rfl, hb⟩
  have HB3 := Lib.hid (HB2.out.trans hb)
  have y1 := (HY2.out.bel hb).c1
  have ly := cell_lt y1
  obtain ⟨d0, d1, d2⟩ := HDK.out
  replace d0 := HB3.out.cell d0
  replace d1 := HB3.out.cell d1
  replace d2 := HB3.out.cell d2
  have ld := cell_lt d0
  have HP3 := Lib.hid (HP.out.bel HB3.out)
  clear hb HCK HIS HRI HMV
  go_wp2
  refine wp_region_mixB (Plan.seq [0, 2, 3, 4, 5, 6, 1001, 1007, 1008, 9, 10] .nil) (by kernel_rfl) (by kernel_rfl) (fun hcur => ?_)
  simp only [Plan.seq, Plan.fill, List.getD_cons_zero, List.getD_cons_succ, Nat.reduceLT, ↓reduceIte, Nat.reduceSub]
  apply mix_pure _ rfl
  · intro w' hw'
    have hcr := hw'.cells
    go_simp
    rfl
  intro K hK
  go_simp
  refine hK _ ?_
  clear hK K
  apply mix_pure _ rfl
  · intro w' hw'
    have hcr := hw'.cells
    go_simp
    rfl
  intro K hK
  go_simp
  refine hK _ ?_
  clear hK K
  apply mix_pure _ rfl
  · intro w' hw'
    have hcr := hw'.cells
    go_simp
    rfl
  intro K hK
  go_simp
  refine hK _ ?_
  clear hK K
  apply mix_pure _ rfl
  · intro w' hw'
    have hcr := hw'.cells
    go_simp
    rfl
  intro K hK
  go_simp
  refine hK _ ?_
  clear hK K
  apply mix_pure _ rfl
  · intro w' hw'
    have hcr := hw'.cells
    go_simp
    rfl
  intro K hK
  go_simp
  refine hK _ ?_
  clear hK K
  apply mix_pure _ rfl
  · intro w' hw'
    have hcr := hw'.cells
    go_simp
    rfl
  intro K hK
  go_simp
  refine hK _ ?_
  clear hK K
  refine mix_act rfl (fun K hK => ?_)
  go_simp
  refine (HOF.out _ (HP3.out.bel hcur)).mono ?_
  rintro e w4 ⟨rfl, hb⟩
  have hcr4 := hb.cells
  simp only []
  refine hK _ _ (hcur.trans hb) (fun hcur => ?_)
  clear hK K hb
  refine mix_act rfl (fun K hK => ?_)
  go_simp
  refine (HBM.out _).mono ?_
  rintro e w5 ⟨rfl, hb⟩
  have hcr5 := hb.cells
  simp only []
  refine hK _ _ (hcur.trans hb) (fun hcur => ?_)
  clear hK K hb
  refine mix_act rfl (fun K hK => ?_)
  go_simp
  refine (HPL.out _).mono ?_
  rintro e w6 ⟨vr, rfl, hvr, hb⟩
  have HVR := Lib.hid hvr
  simp only []
  refine hK _ _ (hcur.trans hb) (fun hcur => ?_)
  clear hK K hb hvr
  apply mix_pure _ rfl
  · intro w' hw'
    have hcr := hw'.cells
    go_simp
    rfl
  intro K hK
  go_simp
  refine hK _ ?_
  clear hK K
  apply mix_pure _ rfl
  · intro w' hw'
    have hcr := hw'.cells
    go_simp
    rfl
  intro K hK
  go_simp
  refine hK _ ?_
  clear hK K
  refine mix_nil ?_
  have HF := Lib.hid (HB3.out.trans hcur)
  clear hcur
  go_wp2
  exact bodyPost_ret (v := .tuple #[vr, .int .i64 0]) (by simp [results, Tryd.results27, go_sem, *]) rfl ⟨_, rfl, HVR.out, HF.out⟩
end Go.Proofs.YtogiidkofddhaaaDoor
