/-
  counts: tell, Tell.
-/
import Derived.Test.YtoiajjdhgffdaaaJudge
import Derived.Deep.WholeRow
namespace Go.Proofs.Ytoiajjdhgffdaaa
open Go Go.RowKit
set_option maxHeartbeats 1000000
set_option maxRecDepth 100000
def mx (a b : Int) : Int := if a < b then b else a
/-- the greatest doubt behind k numbers, from lo on -/
def tellTo (C T i c lo : Int) (M : Nat → Nat → Int) : Nat → Int
  | 0 => 0
  | k + 1 => mx (tellTo C T i c lo M k) (dbt C T (wordM C ⟨i, c, lo + k, lo + k⟩ M))
/-- The number that a pointer shows. -/
def curOf (w : World) (v : Value) : Int := match v with
  | .pointer (some a) => intOf ((w.cell? a).getD undef)
  | _ => 0
theorem trapCells_one {w : World} {tb : Nat} {C T : Int} {ov wv : Value} {M : Nat → Nat → Int} (h : TrapP w tb C T ov wv M) (ho : ov.oneCell' = true) (hw : wv.oneCell' = true)
    {cs : Array Value} (h1 : w.heap[tb]? = some (.cells cs 93 (0, 0))) (h2 : cs.size = 445) : cs.all (·.oneCell') = true := by
  have hc : ∀ j, w.cell? ⟨tb, j, none⟩ = cs[j]? := fun j => cell_of_row w tb j cs _ _ h1
  rw [Array.all_eq_true]
  intro j hj
  have e : cs[j]? = some cs[j] := Array.getElem?_eq_getElem hj
  rw [← hc] at e
  by_cases q : j < 4
  · have : j = 0 ∨ j = 1 ∨ j = 2 ∨ j = 3 := by omega
    rcases this with q | q | q | q <;> subst q
    · rw [h.c0] at e; rw [← Option.some.inj e]; rfl
    · rw [h.c1] at e; rw [← Option.some.inj e]; rfl
    · rw [h.c2] at e; rw [← Option.some.inj e]; exact ho
    · rw [h.c3] at e; rw [← Option.some.inj e]; exact hw
  · have m := h.mat ((j - 4) / 21) (by omega) ((j - 4) % 21) (Nat.mod_lt _ (by omega))
    rw [show 4 + (j - 4) / 21 * 21 + (j - 4) % 21 = j by omega] at m
    rw [m] at e; rw [← Option.some.inj e]; rfl
theorem trap_copied {w : World} {tb : Nat} {C T : Int} {ov wv : Value} {M : Nat → Nat → Int} (h : TrapP w tb C T ov wv M)
    {cs : Array Value} (h1 : w.heap[tb]? = some (.cells cs 93 (0, 0))) (h2 : cs.size = 445) {wx : World} :
    TrapP (wx.alloc (.cells cs 93)) wx.heap.size C T ov wv M := by
  have hc : ∀ j, w.cell? ⟨tb, j, none⟩ = cs[j]? := fun j => cell_of_row w tb j cs _ _ h1
  have hn : ∀ j, (wx.alloc (.cells cs 93)).cell? ⟨wx.heap.size, j, none⟩ = cs[j]? := fun j => World.cell?_alloc_new ..
  refine ⟨by rw [hn, ← hc]; exact h.c0, by rw [hn, ← hc]; exact h.c1, by rw [hn, ← hc]; exact h.c2, by rw [hn, ← hc]; exact h.c3, fun i hi k hk => by rw [hn, ← hc]; exact h.mat i hi k hk,
    fun o => World.frozen?_alloc_new .., ⟨cs, heap_alloc_new .., h2⟩⟩
theorem infoTrap : (Try.prog.info? 93).map (·.size) = some 445 := by kernel_rfl
theorem ttell_any (tb : Nat) (C T i c lo hi : Int) (ov wv : Value) (M : Nat → Nat → Int) (w : World) (ht : TrapP w tb C T ov wv M) (hS : Safe M)
    (ho : ov.oneCell' = true) (hw : wv.oneCell' = true)
    (h1 : 0 ≤ i) (h2 : i < T) (h2b : T ≤ 5) (h3 : 0 ≤ c) (h4 : c < C) (h5 : C ≤ 4)
    (hlo : -(M (nd C i c) (nd C i (c + 1))) = lo) (hhi : M (nd C i (c + 1)) (nd C i c) = hi) (hl0 : 0 ≤ lo) (hlh : lo ≤ hi) (hh40 : hi ≤ 40)
    (hsafe : ∀ n, lo ≤ n → n ≤ hi → Safe (lim (nd C i (c + 1)) (nd C i c) n M) ∧ Safe (wordM C ⟨i, c, n, n⟩ M)) :
    Calls Try.prog 88 #[.pointer (some ⟨tb, 0, none⟩), .agg #[.int .i64 i, .int .i64 c]] w fun e w' =>
      e = .returned (.int .i64 (tellTo C T i c lo M (hi + 1 - lo).toNat)) ∧ Bel w w' := by
  have HLO := Lib.hid hlo
  have HHI := Lib.hid hhi
  have HSF := Lib.hid hsafe
  have HT := Lib.hid ht
  clear hlo hhi hsafe
  have hlt := ht.lt
  go_enter Try.func88, Try.ntmps88
  go_wp2_with (go_at_call 74; refine (tfish_any tb C T i c ov wv M _ (HT.out.bel (by repeat (first | assumption | exact Bel.refl _ | refine Bel.drew ?_ | refine Bel.drewN ?_ _ | refine Bel.alloc ?_ _ | refine Bel.setCell ?_ (by simp <;> omega) _ | refine Bel.trans ?_ (by assumption)))) hS h1 (by omega) h3 h4 h5).mono ?_; rintro e w' ⟨rfl, hb⟩; rw [HLO.out, HHI.out]; have hcr := hb.cells; have hz := hb.szle; (try simp only [World.size_alloc] at hz); have z0 : w.heap.size < w'.heap.size := (by omega))
  generalize hNW : w'.alloc _ = W1
  have hsz1 : W1.heap.size = w'.heap.size + 1 := by rw [← hNW]; simp
  have hB1 : Bel w W1 := by rw [← hNW]; exact (by repeat (first | assumption | exact Bel.refl _ | refine Bel.drew ?_ | refine Bel.drewN ?_ _ | refine Bel.alloc ?_ _ | refine Bel.setCell ?_ (by simp <;> omega) _ | refine Bel.trans ?_ (by assumption)))
  have hs0 : W1.cell? ⟨w'.heap.size, 0, none⟩ = some (.int .i64 lo) := by rw [← hNW]; simp
  have hs1 : W1.cell? ⟨w'.heap.size, 1, none⟩ = some (.int .i64 hi) := by rw [← hNW]; simp
  have hsf : ∀ o, W1.frozen? ⟨w'.heap.size, o, none⟩ = false := by intro o; rw [← hNW]; exact World.frozen?_alloc_new ..
  have hp0 : W1.cell? ⟨w.heap.size, 0, none⟩ = some (.int .i64 i) := by rw [← hNW, World.cell?_alloc_lt _ _ _ z0, hcr _ (by simp)]; simp
  have hp1 : W1.cell? ⟨w.heap.size, 1, none⟩ = some (.int .i64 c) := by rw [← hNW, World.cell?_alloc_lt _ _ _ z0, hcr _ (by simp)]; simp
  clear hNW hcr hb
  go_loopw [5, 6] (fun s5 s6 wr => ∃ k sb : Nat, k ≤ (hi + 1 - lo).toNat ∧ s5 = .int .i64 (tellTo C T i c lo M k) ∧ s6 = .pointer (some ⟨sb, 0, none⟩) ∧ wr.cell? ⟨sb, 0, none⟩ = some (.int .i64 (lo + k)) ∧ wr.cell? ⟨sb, 1, none⟩ = some (.int .i64 hi) ∧
      (∀ o, wr.frozen? ⟨sb, o, none⟩ = false) ∧ w.heap.size < sb ∧ Bel w wr ∧ wr.cell? ⟨w.heap.size, 0, none⟩ = some (.int .i64 i) ∧ wr.cell? ⟨w.heap.size, 1, none⟩ = some (.int .i64 c)) (fun _ s6 wr => (hi + 1 - curOf wr s6).toNat)
  case atStart => exact ⟨0, w'.heap.size, by omega, rfl, rfl, by simpa using hs0, hs1, hsf, by omega, hB1, hp0, hp1⟩
  case round =>
    clear hs0 hs1 hsf hp0 hp1 hB1 hsz1
    obtain ⟨k, sb, hk, rfl, rfl, hs0, hs1, hsf, hsb, hBw, hp0, hp1⟩ := hrel
    by_cases hlt2 : lo + (k : Int) ≤ hi
    · have hTw := HT.out.bel hBw
      obtain ⟨cs, hcs1, hcs2⟩ := hTw.shape
      have hone := trapCells_one hTw ho hw hcs1 hcs2
      obtain ⟨sf1, sf2⟩ := HSF.out (lo + k) (by omega) hlt2
      have HMX := Lib.hid (show tellTo C T i c lo M (k + 1) = mx (tellTo C T i c lo M k) (dbt C T (wordM C ⟨i, c, lo + k, lo + k⟩ M)) from rfl)
      have hsbl := cell_lt hs0
      have hpl := cell_lt hp0
      have HI1 := Lib.hid (show (Try.prog.info? 93).map (·.size) = some cs.size by rw [hcs2]; exact infoTrap)
      have HZ := Lib.hid (show Try.zeroCells93.size = cs.size by rw [hcs2, zeroTrap]; simp)
      have HONE := Lib.hid hone
      have HC1 := Lib.hid hcs1
      have HCP := Lib.hid (fun wx => trap_copied (wx := wx) hTw hcs1 hcs2)
      clear hone hcs1 hcs2
      go_wp2_with (first | (refine wpList_load_row rfl 93 _ rfl tb rfl 93 cs (0, 0) _ HC1.out Try.underlying93 rfl HI1.out ?_) | (refine wpList_store_row rfl 93 _ _ rfl wr.heap.size cs rfl rfl 93 Try.zeroCells93 (heap_alloc_new ..) HI1.out HZ.out HONE.out ?_; rw [World.setRow_alloc_new]))
      refine (word_any wr.heap.size C T ov wv ⟨i, c, lo + k, lo + k⟩ M _ (HCP.out wr) hS sf1 h1 (by show i ≤ 4; omega) h3 h4 h5 (by show 0 ≤ lo + (k : Int); omega) (Int.le_refl _) (by show lo + (k : Int) ≤ 40; omega)).mono ?_
      rintro e w2 ⟨rfl, hT2, hTT2⟩
      have HCUR := Lib.hid (show curOf wr (.pointer (some ⟨sb, 0, none⟩)) = lo + k by simp [curOf, hs0, intOf])
      have hA : Bel wr (wr.alloc (.cells cs 93)) := Bel.alloc (Bel.refl _) _
      have hAB := hT2.bel (a := wr) hA (Nat.le_refl _)
      have q0 := hAB.cell hs0
      have q1 := hAB.cell hs1
      have r0 := hAB.cell hp0
      have r1 := hAB.cell hp1
      have qf : ∀ o, w2.frozen? ⟨sb, o, none⟩ = false := fun o => by rw [hAB.frozens _ hsbl]; exact hsf o
      have HBW := Lib.hid (hBw.trans hAB)
      clear hs0 hs1 hp0 hp1 hT2 hA hAB hTw hBw hsf
      go_wp2_with (go_at_call 90; refine (doubt_any wr.heap.size C T ov wv (wordM C ⟨i, c, lo + k, lo + k⟩ M) _ hTT2 sf2 (by omega) h2b (by omega) h5).mono ?_; rintro e w3 ⟨rfl, hb3⟩; have HB3 := Lib.hid hb3; have q0 := hb3.cell q0; have q1 := hb3.cell q1; have r0 := hb3.cell r0; have r1 := hb3.cell r1)
      have hbl := cell_lt r0
      go_roundw
      case rel =>
        refine ⟨k + 1, w3.heap.size, by omega, ?_, rfl, ?_, ?_, ?_, by simp at hbl; omega, (HBW.out.trans HB3.out).alloc _, ?_, ?_⟩
        · rw [HMX.out]; rfl
        · rw [World.cell?_alloc_new]; simp; omega
        · rw [World.cell?_alloc_new]; simp
        · intro o; exact World.frozen?_alloc_new ..
        · rw [World.cell?_alloc_lt _ _ _ hbl]; exact r0
        · rw [World.cell?_alloc_lt _ _ _ (cell_lt r1)]; exact r1
      case measure =>
        have e2 : curOf (w3.alloc (Obj.cells #[Value.int IntKind.i64 (lo + ↑k + 1), Value.int IntKind.i64 hi] 32)) (Value.pointer (some { block := w3.heap.size, off := 0 })) = lo + k + 1 := by
          show intOf (((w3.alloc (Obj.cells #[Value.int IntKind.i64 (lo + ↑k + 1), Value.int IntKind.i64 hi] 32)).cell? ⟨w3.heap.size, 0, none⟩).getD undef) = _
          rw [World.cell?_alloc_new]
          rfl
        rw [HCUR.out, e2]
        omega
    · have hke : (k : Int) = hi + 1 - lo := by omega
      have HK := Lib.hid (show tellTo C T i c lo M k = tellTo C T i c lo M (hi + 1 - lo).toNat by rw [show k = (hi + 1 - lo).toNat by omega])
      have hsbl := cell_lt hs0
      clear hke
      go_wp2
      go_ret
      exact ⟨ri HK.out.symm, hBw⟩
end Go.Proofs.Ytoiajjdhgffdaaa
