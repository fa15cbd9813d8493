/-
  cuts: arrays of costs as values; nothing.
-/
import Derived.Test.YtkdcdhkhadhcfaaCtPrg
import Derived.Deep.MidRow
namespace Go.Proofs.Ytkdcdhkhadhcfaa
set_option linter.unusedVariables false
open Go Go.RowKit
set_option maxHeartbeats 4000000
set_option maxRecDepth 100000
/-- Costs as a value, and as cells. -/
def icells (c : List Int) : List Value := c.map (Value.int .i64)
def costA (c : List Int) : Value := .agg (icells c).toArray
theorem icells_len (c : List Int) : (icells c).length = c.length := by unfold icells; rw [List.length_map]
theorem infoCo : (Try.prog.info? 164).map (·.size) = some 31 := by kernel_rfl
theorem descCo : ∃ d, Try.prog.underlying 164 = some d ∧ d.isRow = true := ⟨_, Try.underlying164, rfl⟩
theorem bx_range {w : World} {g : Nat} {cs : List Value} (h : Bx w g cs) : w.rangeAt g 0 cs := fun j v hv => by rw [Nat.zero_add]; exact h.c j v hv
theorem load_co {w : World} {g o : Nat} {c : List Int} (h : w.rangeAt g o (icells c)) (hl : c.length = 31) : (Instr.loadAt 164 (.pointer (some ⟨g, o, none⟩))).run Try.prog w = .ok (costA c) w := by
  obtain ⟨d, h1, h2⟩ := descCo
  exact run_loadAt_mid w g o _ (icells c) d h h1 h2 (by rw [icells_len, hl]; exact infoCo)
/-- A load and a store of a whole variable, kept shut. -/
def ldV (t : TypeId) (a : Addr) : Sem Value := loadVar t a
def stV (t : TypeId) (a : Addr) (v : Value) : Sem Unit := storeVar t a v
theorem hide_ld (a : Addr) : loadVar 164 a = ldV 164 a := rfl
theorem hide_st (a : Addr) (v : Value) : storeVar 164 a v = stV 164 a v := rfl
theorem loadV_co {w : World} {g o : Nat} {c : List Int} (h : w.rangeAt g o (icells c)) (hl : c.length = 31) : (ldV 164 ⟨g, o, none⟩).run Try.prog w = .ok (costA c) w := by
  show (loadVar 164 ⟨g, o, none⟩).run Try.prog w = .ok (costA c) w
  obtain ⟨d, h1, h2⟩ := descCo
  exact run_loadVar_mid w g o _ (icells c) d h h1 h2 (by rw [icells_len, hl]; exact infoCo)
theorem icells_one (c : List Int) : (icells c).toArray.all (·.oneCell') = true := all_oneCell_toArray fun v hv => by unfold icells at hv; simp at hv; obtain ⟨q, _, rfl⟩ := hv; rfl
theorem store_co {w : World} {g o : Nat} {c : List Int} (h : w.there g o 31) (hl : c.length = 31) : (Instr.storeAt 164 (.pointer (some ⟨g, o, none⟩)) (costA c)).run Try.prog w = .ok () (w.setCells g o (icells c)) := by
  have := run_storeAt_mid (P := Try.prog) w g o 164 (icells c).toArray (by simpa [icells_len, hl] using h) (by simpa [icells_len, hl] using infoCo) (icells_one c)
  simpa [costA] using this
theorem bx_there {w : World} {g : Nat} {cs : List Value} (h : Bx w g cs) : w.there g 0 cs.length := fun j hj => ⟨by rw [Nat.zero_add, h.c j _ (List.getElem?_eq_getElem hj)]; rfl, h.f _⟩
theorem sz_setCells (g : Nat) : ∀ (vs : List Value) (o : Nat) (w : World), (w.setCells g o vs).heap.size = w.heap.size
  | [], _, _ => rfl
  | v :: vs, o, w => by
    show ((w.setCell ⟨g, o, none⟩ v).setCells g (o + 1) vs).heap.size = _
    rw [sz_setCells g vs, World.size_setCell]
theorem Bel.setCells {a : World} {g : Nat} (hg : a.heap.size ≤ g) : ∀ (vs : List Value) (o : Nat) (w : World), Bel a w → Bel a (w.setCells g o vs)
  | [], _, _, h => h
  | v :: vs, o, w, h => Bel.setCells hg vs (o + 1) _ (h.setCell (p := ⟨g, o, none⟩) hg v)
theorem Bx.row {w : World} {g : Nat} {cs ds : List Value} (h : Bx w g cs) (hl : ds.length = cs.length) : Bx (w.setCells g 0 ds) g ds :=
  ⟨fun j u hu => by
    have := World.rangeAt_setCells_same w g 0 ds (by rw [hl]; exact bx_there h) j u hu
    rw [Nat.zero_add] at this
    exact this, fun o => (World.frozen?_setCells ..).trans (h.f o), by rw [sz_setCells]; exact h.lt⟩
theorem storeV_co {w : World} {g o : Nat} {c : List Int} (h : w.there g o 31) (hl : c.length = 31) : (stV 164 ⟨g, o, none⟩ (costA c)).run Try.prog w = .ok () (w.setCells g o (icells c)) := by
  show (storeVar 164 ⟨g, o, none⟩ (costA c)).run Try.prog w = .ok () (w.setCells g o (icells c))
  have := run_storeVar_mid (P := Try.prog) w g o 164 (icells c).toArray (by simpa [icells_len, hl] using h) (by simpa [icells_len, hl] using infoCo) (icells_one c)
  simpa [costA] using this
attribute [local go_sem ↓] hide_ld hide_st
theorem nothing_any (w : World) : Calls Try.prog 114 #[] w fun e w' => e = .returned (costA noC) ∧ Bel w w' := by
  have HL := Lib.hid farC_len
  have HS := Lib.hid (fun k => show farC (k + 1) = (farC k).set k (1099511627776 : Int) from rfl)
  have HN := Lib.hid (show noC = (farC 31).set 0 0 from rfl)
  go_enter Try.func114, Try.ntmps114
  go_wp2
  generalize hW : World.alloc _ _ = W0
  have HB0 : Hid (Bx W0 w.heap.size (icells (farC 0))) := Lib.hid (by rw [← hW]; exact (Bx.new rfl : Bx _ _ (icells zeroC)))
  have hb0 : Hid (Bel w W0) := Lib.hid (by rw [← hW]; exact (Bel.refl w).alloc _)
  clear hW
  go_loopw [2] (fun i wr => ∃ k : Nat, k ≤ 31 ∧ i = .int .i64 k ∧ Hid (Bx wr w.heap.size (icells (farC k))) ∧ Hid (Bel w wr)) (fun i _ => 31 - (intOf i).toNat)
  case atStart => exact ⟨0, by omega, rfl, HB0, hb0⟩
  case round =>
    obtain ⟨k, hk, rfl, HB, hbr⟩ := hrel
    by_cases hlt : k < 31
    · have hlti : (k : Int) < 31 := by omega
      have HLK := Lib.hid (HL.out k)
      have HSK := Lib.hid (HS.out k)
      have z0 := bx_at0 (l := farC k) HB.out k (by rw [HLK.out]; exact hlt)
      have zf := HB.out.f
      have lz := HB.out.lt
      clear HL HS HN HB0 hb0
      generalize farC k = c at *
      go_wp2
      have HB2 : Hid (Bx (wr.setCell ⟨w.heap.size, k, none⟩ (.int .i64 (1099511627776 : Int))) w.heap.size (icells (c.set k (1099511627776 : Int)))) := Lib.hid (by
        unfold icells
        rw [List.map_set]
        exact HB.out.set (by rw [icells_len, HLK.out]; exact hlt) _)
      go_roundw
      case rel => exact ⟨k + 1, by omega, by go_num, by rw [HSK.out]; exact HB2, Lib.hid (hbr.out.setCell (p := ⟨w.heap.size, k, none⟩) (Nat.le_refl _) _)⟩
      case measure => simp [intOf]; omega
    · have hlti : ¬ (k : Int) < 31 := by omega
      obtain rfl : k = 31 := by omega
      have HL2 := Lib.hid (HL.out 31)
      have z0 := bx_at0 (l := farC 31) HB.out 0 (by rw [HL2.out]; omega)
      have zf := HB.out.f
      have lz := HB.out.lt
      generalize farC 31 = c at *
      have HB2 : Hid (Bx (wr.setCell ⟨w.heap.size, 0, none⟩ (.int .i64 0)) w.heap.size (icells noC)) := Lib.hid (by
        rw [HN.out]
        unfold icells
        rw [List.map_set]
        exact HB.out.set (by rw [icells_len, HL2.out]; omega) _)
      have hld := loadV_co (bx_range HB2.out) noC_len
      have hth : (wr.setCell ⟨w.heap.size, 0, none⟩ (.int .i64 0)).there w.heap.size 0 31 := by have := bx_there HB2.out; rw [icells_len, noC_len] at this; exact this
      have hst := storeV_co hth noC_len
      clear HL HS
      go_wp2
      have hld2 := loadV_co (bx_range (HB2.out.row rfl)) noC_len
      refine bodyPost_ret (v := costA noC) ?_ rfl ⟨rfl, Bel.setCells (Nat.le_refl _) _ _ _ (hbr.out.setCell (p := ⟨w.heap.size, 0, none⟩) (Nat.le_refl _) _)⟩
      simp [results, Try.f114, asAddr, hide_ld, hld2]
end Go.Proofs.Ytkdcdhkhadhcfaa
