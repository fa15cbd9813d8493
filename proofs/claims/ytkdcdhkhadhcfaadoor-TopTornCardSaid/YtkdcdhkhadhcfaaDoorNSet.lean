/-
  anchors: sets of anchors as bits; the numbers of a set, ascending.
-/
import Derived.Test.YtkdcdhkhadhcfaaDoorNV
import Derived.Test.YtkdcdhkhadhcfaaDoorOwnI
import Derived.Laws.Bits64b
import Derived.Lib.TrailingZeros
namespace Go.Proofs.YtkdcdhkhadhcfaaDoor
open Go Go.RowKit
set_option maxHeartbeats 4000000
set_option maxRecDepth 100000
/-! sets -/
theorem has_bits (D i : Nat) (hD : D < 18446744073709551616) : (bits BinOp.and IntKind.u64 ((D : Int) / 2 ^ i) 1 == 1) = D.testBit i := by
  have e : ((D : Int) / 2 ^ i) = ((D / 2 ^ i : Nat) : Int) := by rw [Int.natCast_ediv]; simp
  rw [e, show (1 : Int) = ((1 : Nat) : Int) from rfl, bits_and_u64_nat _ _ (Nat.lt_of_le_of_lt (Nat.div_le_self ..) hD) (by omega), Nat.and_one_is_mod, Nat.testBit_eq_decide_div_mod_eq, Bool.eq_iff_iff]
  simp
  omega
theorem shas_any (D i : Nat) (w : World) (hD : D < 64) (hi : i < 64) : Calls Tryd.prog 102 #[.int .u64 D, .int .i64 i] w fun e w' => e = .returned (.bool (D.testBit i)) ∧ w = w' := by
  have HX := Lib.hid (has_bits D i (by omega))
  go_enter Tryd.func102, Tryd.ntmps102
  go_wp2
  go_ret
  exact ⟨rb (by rw [← HX.out]), rfl⟩
theorem with_bits (D i : Nat) (hD : D < 64) (hi : i < 64) : bits BinOp.or IntKind.u64 (D : Int) (IntKind.u64.wrap (2 ^ i)) = ((D ||| 2 ^ i : Nat) : Int) := by
  have h2 : 2 ^ i < 18446744073709551616 := Nat.pow_lt_pow_right (a := 2) (n := 64) (by omega) hi
  have e : IntKind.u64.wrap (2 ^ i) = ((2 ^ i : Nat) : Int) := by
    rw [IntKind.wrap_u64, show (2 : Int) ^ i = ((2 ^ i : Nat) : Int) by simp]
    generalize 2 ^ i = z at *
    omega
  rw [e, bits_or_u64_nat _ _ (by omega) h2]
theorem swith_any (D i : Nat) (w : World) (hD : D < 64) (hi : i < 64) : Calls Tryd.prog 104 #[.int .u64 D, .int .i64 i] w fun e w' => e = .returned (.int .u64 ((D ||| 2 ^ i : Nat) : Int)) ∧ w = w' := by
  have HX := Lib.hid (with_bits D i hD hi)
  go_enter Tryd.func104, Tryd.ntmps104
  go_wp2
  go_ret
  exact ⟨ri (by rw [← HX.out]), rfl⟩
/-! the least number of a set -/
/-- The library's table lies where it was laid. -/
def BruAt (w : World) : Prop := ∀ j, j < Lib.deBruijn64tab.length → w.cell? ⟨1, j, none⟩ = some (.int .u8 (Lib.deBruijn64tab.getD j 0))
theorem BruAt.bel {w w' : World} (h : BruAt w) (k : Bel w w') : BruAt w' := fun j hj => k.cell (h j hj)
theorem bru_key (x a : Nat) (hx : x < 18446744073709551616) (hx0 : x ≠ 0) (hlow : x &&& (18446744073709551616 - x) = a) :
    IntKind.u64.wrap (bits BinOp.and IntKind.u64 (x : Int) (IntKind.u64.wrap (-(x : Int))) * 285870213051353865) / 288230376151711744 = ((a * 285870213051353865 % 18446744073709551616 / 288230376151711744 : Nat) : Int) := by
  have e1 : IntKind.u64.wrap (-(x : Int)) = ((18446744073709551616 - x : Nat) : Int) := by rw [IntKind.wrap_u64]; omega
  rw [e1, bits_and_u64_nat x _ hx (by omega), hlow, IntKind.wrap_u64]
  omega
theorem tz64_core (x k idx : Nat) (w : World) (hz : ((x : Int) == 0) = false)
    (key : IntKind.u64.wrap (bits BinOp.and IntKind.u64 (x : Int) (IntKind.u64.wrap (-(x : Int))) * 285870213051353865) / 288230376151711744 = (idx : Int))
    (hi : idx < 64) (hk : k < 64) (hcell : w.cell? ⟨1, idx, none⟩ = some (.int .u8 k)) :
    Calls Tryd.prog 106 #[.int .u64 x] w fun e w' => e = .returned (.int .i64 k) ∧ w = w' := by
  go_enter Tryd.func106, Tryd.ntmps106
  go_wp2_with (simp only [key])
  go_ret
  exact ⟨rfl, rfl⟩
theorem tz64_any (x : Nat) (hx : x < 18446744073709551616) (hx0 : x ≠ 0) (w : World) (hT : BruAt w) : Calls Tryd.prog 106 #[.int .u64 x] w fun e w' => e = .returned (.int .i64 (Lib.ctz 64 x)) ∧ w = w' := by
  obtain ⟨hlow, hk⟩ := Lib.lowest_bit 64 x hx0 hx
  obtain ⟨hi, htab⟩ := Lib.deBruijn64_at _ hk
  have hcell := hT _ hi
  rw [htab] at hcell
  exact tz64_core x _ _ w (by simp; omega) (bru_key x _ hx hx0 hlow) hi hk hcell
theorem tz_core (x k : Nat) (w : World) (hx : x < 18446744073709551616) (HC : Hid (Calls Tryd.prog 106 #[.int .u64 x] w fun e w' => e = .returned (.int .i64 k) ∧ w = w')) :
    Calls Tryd.prog 83 #[.int .u64 x] w fun e w' => e = .returned (.int .i64 k) ∧ w = w' := by
  have hw : IntKind.u64.wrap (x : Int) = (x : Int) := by rw [IntKind.wrap_u64]; omega
  go_enter Tryd.func83, Tryd.ntmps83
  go_wp2_with (go_at_call 106; refine HC.out.mono ?_; rintro e w' ⟨rfl, rfl⟩)
  go_ret
  exact ⟨rfl, rfl⟩
theorem tz_any (x : Nat) (hx : x < 18446744073709551616) (hx0 : x ≠ 0) (w : World) (hT : BruAt w) : Calls Tryd.prog 83 #[.int .u64 x] w fun e w' => e = .returned (.int .i64 (Lib.ctz 64 x)) ∧ w = w' :=
  tz_core x _ w hx (Lib.hid (tz64_any x hx hx0 w hT))
/-! the list of a set -/
def Rest (D m s : Nat) : Prop := s < 64 ∧ ∀ j, s.testBit j = (decide (m ≤ j) && D.testBit j)
theorem low_bits : ∀ s : Nat, s < 64 → s ≠ 0 → Lib.ctz 64 s < 6 ∧ s.testBit (Lib.ctz 64 s) = true ∧ (s &&& (s - 1)) < 64 ∧ (∀ j, j < 6 → (s &&& (s - 1)).testBit j = (s.testBit j && !(j == Lib.ctz 64 s))) ∧ ∀ j, j < Lib.ctz 64 s → s.testBit j = false := by decide +kernel
theorem big_bit {s j : Nat} (h : s < 64) (hj : 6 ≤ j) : s.testBit j = false := Nat.testBit_lt_two_pow (Nat.lt_of_lt_of_le h (Nat.pow_le_pow_right (n := 2) (by omega) hj))
theorem Rest.next {D m s : Nat} (h : Rest D m s) (h0 : s ≠ 0) : m ≤ Lib.ctz 64 s ∧ Lib.ctz 64 s < 6 ∧ Rest D (Lib.ctz 64 s + 1) (s &&& (s - 1)) ∧ D.testBit (Lib.ctz 64 s) = true ∧ ∀ j, m ≤ j → j < Lib.ctz 64 s → D.testBit j = false := by
  obtain ⟨h1, h2, h3, h4, h5⟩ := low_bits s h.1 h0
  have h6 := h.2 (Lib.ctz 64 s)
  rw [h2] at h6
  have h7 : m ≤ Lib.ctz 64 s ∧ D.testBit (Lib.ctz 64 s) = true := by
    have := h6.symm
    rw [Bool.and_eq_true, decide_eq_true_eq] at this
    exact this
  refine ⟨h7.1, h1, ⟨h3, fun j => ?_⟩, h7.2, fun j a b => ?_⟩
  · by_cases hj : j < 6
    · rw [h4 j hj, h.2 j]
      by_cases e : j = Lib.ctz 64 s
      · rw [e, beq_self_eq_true, decide_eq_false (show ¬ Lib.ctz 64 s + 1 ≤ Lib.ctz 64 s by omega)]; simp
      · by_cases c : j < Lib.ctz 64 s
        · have := h5 j c
          rw [h.2 j] at this
          rw [this]
          rw [decide_eq_false (show ¬ Lib.ctz 64 s + 1 ≤ j by omega)]; rfl
        · rw [decide_eq_true (show m ≤ j by omega), decide_eq_true (show Lib.ctz 64 s + 1 ≤ j by omega), (by rw [beq_eq_false_iff_ne]; exact e : (j == Lib.ctz 64 s) = false)]; simp
    · rw [big_bit h3 (by omega)]
      have := h.2 j
      rw [big_bit h.1 (by omega), decide_eq_true (show m ≤ j by omega)] at this
      rw [(by simpa using this : D.testBit j = false), Bool.and_false]
  · have := h5 j b
    rw [h.2 j, decide_eq_true a] at this
    simpa using this
theorem blTo_skip {D m : Nat} : ∀ i, m ≤ i → (∀ j, m ≤ j → j < i → D.testBit j = false) → blTo D i = blTo D m
  | 0, h, _ => by rw [show m = 0 by omega]
  | i + 1, h, hz => by
    by_cases e : m = i + 1
    · rw [e]
    · show (if D.testBit i then _ else _) = _
      rw [if_neg (by rw [hz i (by omega) (by omega)]; simp)]
      exact blTo_skip i (by omega) fun j a b => hz j a (by omega)
theorem blTo_next {D m i : Nat} (h : m ≤ i) (hz : ∀ j, m ≤ j → j < i → D.testBit j = false) (hi : D.testBit i = true) : blTo D (i + 1) = blTo D m ++ [(i : Int)] := by
  show (if D.testBit i then _ else _) = _
  rw [if_pos hi, blTo_skip i h hz]
theorem Rest.done {D m : Nat} (h : Rest D m 0) (hm : m ≤ 6) : blOf D = blTo D m :=
  blTo_skip 6 hm fun j a _ => by
    have := h.2 j
    rw [decide_eq_true a, Nat.zero_testBit] at this
    simpa using this.symm
theorem sub_one_bits (s : Nat) (h : s < 64) (h0 : s ≠ 0) : bits BinOp.and IntKind.u64 (s : Int) ((s : Int) - 1) = ((s &&& (s - 1) : Nat) : Int) := by
  rw [show (s : Int) - 1 = ((s - 1 : Nat) : Int) by omega, bits_and_u64_nat _ _ (by omega) (by omega)]
theorem slistF_any (D : Nat) (hD : D < 64) (w : World) (hT : BruAt w) : Calls Tryd.prog 57 #[.int .u64 D] w fun e w' => ∃ v, e = .returned v ∧ IntsAt w' v (blOf D) ∧ Bel w w' ∧ ∀ g, v.ownBlock = some g → w.heap.size ≤ g := by
  obtain ⟨i1, hi1, hz1, hs1, hb1⟩ := info_parts mkInt
  have HI1 := Lib.hid hi1
  have HZ1 := Lib.hid hz1
  have HT := Lib.hid hT
  clear hi1 hz1 hT
  have HST := Lib.hid (show Rest D 0 D from ⟨hD, fun j => by simp⟩)
  go_enter Tryd.func57, Tryd.ntmps57
  go_wp2
  go_loopw [0, 3] (fun sv V wr => ∃ m s : Nat, m ≤ 6 ∧ sv = .int .u64 s ∧ Hid (Rest D m s) ∧ Hid (IntSt (blTo D m) w V wr)) (fun sv _ _ => (intOf sv).toNat)
  case atStart => exact ⟨0, D, by omega, rfl, HST, Lib.hid (IntSt.start w)⟩
  case round =>
    obtain ⟨m, s, hm, rfl, HR, HS⟩ := hrel
    have hs64 := HR.out.1
    by_cases h0 : s = 0
    · have HE := Lib.hid (show blOf D = blTo D m from (by rw [h0] at HR; exact HR.out.done hm))
      have hz : ((s : Int) != 0) = false := by rw [h0]; rfl
      have HI := Lib.hid (HS.out.ints (by have := blTo_len D m; omega))
      rw [← HE.out] at HI
      clear h0
      go_wp2
      go_ret
      exact ⟨_, rfl, HI.out, HS.out.bel, HS.out.far⟩
    · have HN := Lib.hid (HR.out.next h0)
      have hz : ((s : Int) != 0) = true := by rw [bne_iff_ne]; omega
      have hsub := sub_one_bits s hs64 h0
      have HZ := Lib.hid (fun wx (hx : Bel wr wx) => tz_any s (by omega) h0 wx ((HT.out.bel HS.out.bel).bel hx))
      have HNX := Lib.hid (blTo_next HN.out.1 HN.out.2.2.2.2 HN.out.2.2.2.1)
      have HLT := Lib.hid (show s &&& (s - 1) < s from Nat.lt_of_le_of_lt Nat.and_le_right (by omega))
      have hll := blTo_len D m
      obtain ⟨a, c, rfl⟩ := HS.out.len
      have h1 : (1 : Int) ≤ s := by omega
      generalize hi : Lib.ctz 64 s = i at *
      have HI0 := Lib.hid hi
      have hi6 := HN.out.2.1
      clear hi h0
      go_wp2_with (first
        | (go_at_call 83; refine (HZ.out _ (Bel.refl _)).mono ?_; rintro e w' ⟨rfl, rfl⟩)
        | (at_builtin; refine wpList_append_where rfl _ _ 33 rfl 3 i1 (.int .i64 0) 1 8 Tryd.underlying33 HI1.out HZ1.out hs1 hb1 rfl (by decide) _ (blTo D m).length ((blTo D m).map (Value.int .i64)) rfl (ownsRow_bel HS.out.own ((Bel.refl wr).alloc _)) ⟨wr.heap.size, 0, none⟩ 1 1 [.int .i64 i] rfl rfl (cell_one_new _ _ _) (fun y hy => by simp at hy; subst hy; rfl) (by unfold maxLen; omega) (by omega) ?_))
      intro V' w7 hown7 hgrow7 hwhere7
      have HNW := Lib.hid (IntSt.next (HS.out.keep ((Bel.refl wr).alloc _)) hown7 hgrow7 (by rw [World.size_alloc]; exact hwhere7))
      rw [← HNX.out] at HNW
      clear hown7 hgrow7 hwhere7
      go_wp2
      go_roundw
      case rel => exact ⟨i + 1, s &&& (s - 1), by omega, by first | rfl | rw [hsub], Lib.hid HN.out.2.2.1, HNW⟩
      case measure => have := HLT.out; simp [intOf]; omega
theorem slist_any (D : Nat) (hD : D < 64) (w : World) (hT : BruAt w) : Calls Tryd.prog 57 #[.int .u64 D] w fun e w' => ∃ v, e = .returned v ∧ IntsAt w' v (blOf D) ∧ Bel w w' :=
  (slistF_any D hD w hT).mono fun _ _ ⟨v, h1, h2, h3, _⟩ => ⟨v, h1, h2, h3⟩
end Go.Proofs.YtkdcdhkhadhcfaaDoor
