/-
  cuts: pieces in memory; truth, between's costs.
-/
import Derived.Test.YtkdcdhkhadhcfaaCtBk
import Derived.Test.YtkdcdhkhadhcfaaCtPr
namespace Go.Proofs.Ytkdcdhkhadhcfaa
set_option linter.unusedVariables false
open Go Go.RowKit
set_option maxHeartbeats 4000000
set_option maxRecDepth 100000
/-- Pieces: the first m are what P says. -/
structure PcAt (w : World) (g n : Nat) (P : Nat → List Int) (m : Nat) : Prop where
  le : m ≤ n
  len : ∀ i, (P i).length = 31
  at_ : ∀ i, i < m → w.rangeAt g (i * 31) (icells (P i))
  there : w.there g 0 (n * 31)
  lt : g < w.heap.size
theorem PcAt.bel {w w' : World} {g n m : Nat} {P : Nat → List Int} (h : PcAt w g n P m) (k : Bel w w') : PcAt w' g n P m :=
  ⟨h.le, h.len, fun i hi j v hv => k.cell (h.at_ i hi j v hv), fun j hj => by
    obtain ⟨h1, h2⟩ := h.there j hj
    obtain ⟨v, hv⟩ := Option.isSome_iff_exists.1 h1
    exact ⟨by rw [k.cell hv]; rfl, (k.frozens _ h.lt).trans h2⟩, Nat.lt_of_lt_of_le h.lt k.szle⟩
theorem PcAt.other {w : World} {g n m q i : Nat} {P : Nat → List Int} (h : PcAt w g n P m) (hq : q ≠ g) (v : Value) : PcAt (w.setCell ⟨q, i, none⟩ v) g n P m :=
  ⟨h.le, h.len, fun i hi j u hu => (World.cell?_setCell_other _ _ _ _ (by intro e; injection e with e1 e2; omega)).trans (h.at_ i hi j u hu), fun j hj => by
    obtain ⟨h1, h2⟩ := h.there j hj
    exact ⟨by rw [World.cell?_setCell_other _ _ _ _ (by intro e; injection e with e1 e2; omega)]; exact h1, (World.frozen?_setCell ..).trans h2⟩, by rw [World.size_setCell]; exact h.lt⟩
theorem PcAt.keep {D : Nat → Prop} {w w' : World} {g n m : Nat} {P : Nat → List Int} (h : PcAt w g n P m) (k : KeepC D w w') (hd : ¬ D g) : PcAt w' g n P m :=
  ⟨h.le, h.len, fun i hi j v hv => k.cell hd (h.at_ i hi j v hv), fun j hj => by
    obtain ⟨h1, h2⟩ := h.there j hj
    obtain ⟨v, hv⟩ := Option.isSome_iff_exists.1 h1
    exact ⟨by rw [k.cell hd hv]; rfl, (k.frozen hd hv).trans h2⟩, Nat.lt_of_lt_of_le h.lt k.size⟩
theorem PcAt.place {w : World} {g n m : Nat} {P : Nat → List Int} (h : PcAt w g n P m) {i : Nat} (hi : i < n) : w.there g (i * 31) 31 := fun j hj => by
  have := h.there (i * 31 + j) (by have : (i + 1) * 31 ≤ n * 31 := Nat.mul_le_mul_right _ hi; rw [Nat.add_mul] at this; omega)
  rw [Nat.zero_add] at this
  exact this
theorem there_set {w : World} {g o n : Nat} {vs : List Value} {o' : Nat} (h : w.there g o n) (h2 : w.there g o' vs.length) : (w.setCells g o' vs).there g o n := fun j hj => by
  obtain ⟨h1, h3⟩ := h j hj
  refine ⟨?_, (World.frozen?_setCells ..).trans h3⟩
  by_cases q : o' ≤ o + j ∧ o + j < o' + vs.length
  · have := World.cell?_setCells_in g vs o' w (fun i hi => (h2 i hi).1) (o + j - o') (by omega)
    rw [show o' + (o + j - o') = o + j by omega] at this
    rw [this]; rfl
  · rw [World.cell?_setCells_out g vs o' w ⟨g, o + j, none⟩ (fun _ _ => by show o + j < o' ∨ o' + vs.length ≤ o + j; omega)]
    exact h1
theorem PcAt.put {w : World} {g n m : Nat} {P : Nat → List Int} (h : PcAt w g n P m) {i : Nat} (hi : i < n) {c : List Int} (hc : c.length = 31) {m' : Nat} (hm : m' ≤ n) (hmi : ∀ j, j < m' → j < m ∨ j = i) :
    PcAt (w.setCells g (i * 31) (icells c)) g n (updL P i c) m' := by
  have hp : w.there g (i * 31) (icells c).length := by rw [icells_len, hc]; exact h.place hi
  refine ⟨hm, fun j => by unfold updL; split; exact hc; exact h.len j, fun j hj => ?_, there_set h.there hp, by rw [sz_setCells]; exact h.lt⟩
  unfold updL
  by_cases e : j = i
  · subst e; rw [if_pos rfl]; exact World.rangeAt_setCells_same _ _ _ _ hp
  · rw [if_neg e]
    have hj2 : j < m := by rcases hmi j hj with q | q; exact q; exact absurd q e
    refine World.rangeAt_setCells_apart (h.at_ j hj2) _ _ _ (.inr ?_)
    rw [icells_len, icells_len, h.len, hc]
    omega
theorem mkCo : ∃ i z, Try.prog.info? 164 = some i ∧ i.zero = some z ∧ i.size = 31 ∧ i.bytes = 248 := by
  have h : (Try.prog.info? 164).map (fun i => (i.zero.isSome, i.size, i.bytes)) = some (true, 31, 248) := by kernel_rfl
  cases q : Try.prog.info? 164 with
  | none => rw [q] at h; cases h
  | some i =>
    rw [q] at h
    simp only [Option.map_some, Option.some.injEq, Prod.mk.injEq] at h
    obtain ⟨z, hz⟩ := Option.isSome_iff_exists.1 h.1
    exact ⟨i, z, rfl, hz, h.2.1, h.2.2⟩
/-- Pieces made anew. -/
theorem run_make_pcs (n : Nat) (hn : n ≤ 8) : ∃ cs : Array Value, cs.size = n * 31 ∧ ∀ w : World,
    (Instr.makeSlice 162 (.int .i64 (n : Int)) (.int .i64 (n : Int))).run Try.prog w = .ok (.slice (some ⟨w.heap.size, 0, none⟩) n n) (w.alloc (.cells cs 164)) := by
  obtain ⟨i1, z, hi1, hz1, hs1, hb1⟩ := mkCo
  refine ⟨madeCells z.cells (n * 31), size_madeCells _ _, fun w => ?_⟩
  have h := run_makeSlice (P := Try.prog) w 162 164 i1 z Try.underlying162 hi1 hz1 .i64 .i64 n n (by omega) (by omega) (by rw [hs1]; simp; omega) (by rw [hb1]; omega) (by omega)
  rw [h, hs1, Int.toNat_natCast]
theorem PcAt.new {w : World} {cs : Array Value} {n : Nat} {T : TypeId} (hs : cs.size = n * 31) (P : Nat → List Int) (hl : ∀ i, (P i).length = 31) {g : Nat} (hg : g = w.heap.size) : PcAt (w.alloc (.cells cs T)) g n P 0 := by
  refine ⟨Nat.zero_le _, hl, fun i hi => by omega, fun j hj => ?_, by rw [World.size_alloc]; omega⟩
  obtain ⟨h1, h2⟩ := row_facts (new_row (w := w) (o := .cells cs T (0, 0)) hg)
  refine ⟨?_, h2 _⟩
  rw [h1, Nat.zero_add, Array.getElem?_eq_getElem (by rw [hs]; exact hj)]; rfl
theorem icell_elems : Try.prog.cellsOf 164 = 31 := by kernel_rfl
theorem idxPc {a : Option Addr} {n c b off : Nat} (ha : 0 < n → a = some ⟨b, off, none⟩) :
    ∀ (w : World) (i : Nat), i < n → (Instr.indexAt 162 (.slice a n c) (.int .i64 i)).run Try.prog w = .ok (.pointer (some ⟨b, off + i * 31, none⟩)) w := by
  obtain ⟨i0, _, hi0, _⟩ := mkCo
  exact idxRule (P := Try.prog) 162 164 31 Try.underlying162 hi0 icell_elems (c := c) ha

/-- A function value that tells what each weight of a part costs. -/
def CostFn (w : World) (f : Nat) (lb : Array Value) (n : Nat) (cost : Nat → Nat → Int) : Prop := ∀ i, i < n → ∀ u, u < 31 → ∀ wx, Bel w wx → Calls Try.prog f (#[.int .i64 i, .int .i64 u] ++ lb) wx fun e w' => e = .returned (.int .i64 (cost i u)) ∧ Bel wx w'
theorem CostFn.bel {w w' : World} {f : Nat} {lb : Array Value} {n : Nat} {cost : Nat → Nat → Int} (h : CostFn w f lb n cost) (k : Bel w w') : CostFn w' f lb n cost := fun i hi u hu wx hb => h i hi u hu wx (k.trans hb)
theorem btw1_any (n : Nat) (val : Nat → Int) (ge p q : Nat) (w : World) (hv : ∀ i, 0 ≤ val i ∧ val i ≤ 99) (hx : Bx w ge [.func (.func 72) #[] #[.pointer (some ⟨p, 0, none⟩), .pointer (some ⟨q, 0, none⟩)]])
    (ht : Tells w 72 #[.pointer (some ⟨p, 0, none⟩), .pointer (some ⟨q, 0, none⟩)] n val) : CostFn w 95 #[.pointer (some ⟨ge, 0, none⟩)] n (fun i u => val i * u) := by
  intro i hi u hu wx hb
  have HT := Lib.hid (ht i hi wx hb)
  have x0 := hb.cell (hx.c 0 _ rfl)
  have lx := cell_lt x0
  obtain ⟨v1, v2⟩ := hv i
  have m1 := Int.mul_nonneg v1 (show (0 : Int) ≤ u by omega)
  have m2 : val i * (u : Int) ≤ 99 * 30 := Int.mul_le_mul v2 (by omega) (by omega) (by omega)
  clear ht hx hb hv
  show Calls Try.prog 95 #[.int .i64 i, .int .i64 u, .pointer (some ⟨ge, 0, none⟩)] wx fun e w' => e = .returned (.int .i64 (val i * (u : Int))) ∧ _
  generalize hm : val i * (u : Int) = m at *
  have HM := Lib.hid hm
  clear hm
  generalize val i = x at *
  go_enter Try.func95, Try.ntmps95
  go_wp2_with fail
  refine HT.out.mono ?_
  rintro e w1 ⟨rfl, hb⟩
  have HB := Lib.hid hb
  clear hb x0 lx
  have hw : IntKind.i64.wrap (x * (u : Int)) = m := by rw [HM.out, IntWalk.i64_in]; all_goals omega
  go_wp2
  go_ret
  exact ⟨rfl, HB.out⟩
theorem btw2_any (n : Nat) (val : Nat → Int) (ge p q : Nat) (w : World) (hv : ∀ i, 0 ≤ val i ∧ val i ≤ 99) (hx : Bx w ge [.func (.func 72) #[] #[.pointer (some ⟨p, 0, none⟩), .pointer (some ⟨q, 0, none⟩)]])
    (ht : Tells w 72 #[.pointer (some ⟨p, 0, none⟩), .pointer (some ⟨q, 0, none⟩)] n val) : CostFn w 96 #[.pointer (some ⟨ge, 0, none⟩)] n (fun i u => -val i * u) := by
  intro i hi u hu wx hb
  have HT := Lib.hid (ht i hi wx hb)
  have x0 := hb.cell (hx.c 0 _ rfl)
  have lx := cell_lt x0
  obtain ⟨v1, v2⟩ := hv i
  have m1 := Int.mul_nonneg v1 (show (0 : Int) ≤ u by omega)
  have m2 : val i * (u : Int) ≤ 99 * 30 := Int.mul_le_mul v2 (by omega) (by omega) (by omega)
  clear ht hx hb hv
  show Calls Try.prog 96 #[.int .i64 i, .int .i64 u, .pointer (some ⟨ge, 0, none⟩)] wx fun e w' => e = .returned (.int .i64 (-val i * (u : Int))) ∧ _
  have hneg : -val i * (u : Int) = -(val i * (u : Int)) := Int.neg_mul ..
  generalize hm : val i * (u : Int) = m at *
  rw [hneg]
  have HM := Lib.hid hneg
  clear hm hneg
  generalize val i = x at *
  have hw1 : IntKind.i64.wrap (-x) = -x := by rw [IntWalk.i64_in]; all_goals omega
  have hw : IntKind.i64.wrap (-x * (u : Int)) = -m := by rw [HM.out, IntWalk.i64_in]; all_goals omega
  go_enter Try.func96, Try.ntmps96
  go_wp2_with fail
  refine HT.out.mono ?_
  rintro e w1 ⟨rfl, hb⟩
  have HB := Lib.hid hb
  clear hb x0 lx
  go_wp2
  go_ret
  exact ⟨rfl, HB.out⟩
theorem truth1_any (t : List CP) (f : Nat → Nat → Int) (K gt gf ge : Nat) (v : Value) (w : World) (h8 : t.length ≤ 8) (heg : ∀ args w, (callFunc K args).run Try.prog w = .ok (.enter K args) w) (hx : PyBx w gt gf v (.func (.func K) #[] #[.pointer (some ⟨ge, 0, none⟩)])) (hv : CtAt w v t)
    (ht : CostFn w K #[.pointer (some ⟨ge, 0, none⟩)] t.length f) : CostFn w 118 #[.pointer (some ⟨gt, 0, none⟩), .pointer (some ⟨gf, 0, none⟩)] t.length (costT t f) := by
  intro i hi u hu wx hb
  have HT := Lib.hid (fun wy (hb2 : Bel wx wy) => ht i hi u hu wy (hb.trans hb2))
  have HX := Lib.hid (show costT t f i u = if withinB (u : Int) (atC t i).wlo (atC t i).whi then f i u else (1099511627776 : Int) from rfl)
  have x0 := hb.cell (hx.t.c 0 _ rfl)
  have x1 := hb.cell (hx.c.c 0 _ rfl)
  have lx := cell_lt x0
  have ly := cell_lt x1
  obtain ⟨a, cc, b, off, rfl, ha, ⟨hl, _⟩, hc⟩ := hv.bel hb
  have hix := idxTab (c := cc) ha
  obtain ⟨k0, k1, k2, k3, k4, k5⟩ := hc i hi
  have lk := cell_lt k0
  have hii : (i : Int) < (t.length : Int) := by omega
  clear ha hc hx hb ht hv
  show Calls Try.prog 118 #[.int .i64 i, .int .i64 u, .pointer (some ⟨gt, 0, none⟩), .pointer (some ⟨gf, 0, none⟩)] wx _
  generalize costT t f i u = R at *
  generalize f i u = X at *
  generalize atC t i = p at *
  obtain ⟨of, wlo, whi, slo, shi, pe⟩ := p
  simp only at k0 k1 k2 k3 k4 k5 HX
  generalize hG : t.length = G at *
  clear hG
  go_enter Try.func118, Try.ntmps118
  go_wp2_with fail
  generalize hW : World.alloc _ _ = W1
  have HP : Hid (Bx W1 wx.heap.size [.int .i64 of, .int .i64 wlo, .int .i64 whi, .int .i64 slo, .int .i64 shi, .int .i64 pe]) := Lib.hid (by rw [← hW]; exact Bx.new rfl)
  have HB1 : Hid (Bel wx W1) := Lib.hid (by rw [← hW]; exact (Bel.refl wx).alloc _)
  clear hW k0 k1 k2 k3 k4 k5 lk
  replace x1 := HB1.out.cell x1
  replace ly := cell_lt x1
  clear x0 lx
  cases hw : withinB (u : Int) wlo whi
  · rw [hw] at HX
    have HW := Lib.hid (fun wy => Cwithin_any (u : Int) wlo whi wy)
    rw [hw] at HW
    clear hw HT
    refine (HW.out _).mono ?_
    rintro e w2 ⟨rfl, rfl⟩
    go_wp2
    go_ret
    exact ⟨ri (by rw [HX.out]; rfl), HB1.out⟩
  · rw [hw] at HX
    have HW := Lib.hid (fun wy => Cwithin_any (u : Int) wlo whi wy)
    rw [hw] at HW
    clear hw
    refine (HW.out _).mono ?_
    rintro e w2 ⟨rfl, rfl⟩
    go_wp2_with fail
    refine (HT.out _ HB1.out).mono ?_
    rintro e w3 ⟨rfl, hb⟩
    replace HB1 := Lib.hid (HB1.out.trans hb)
    clear hb x1 ly
    go_wp2
    go_ret
    exact ⟨ri (by rw [HX.out]; rfl), HB1.out⟩
theorem truth_any (t : List CP) (f : Nat → Nat → Int) (K ge : Nat) (v : Value) (w : World) (h8 : t.length ≤ 8) (heg : ∀ args w, (callFunc K args).run Try.prog w = .ok (.enter K args) w) (hv : CtAt w v t) (ht : CostFn w K #[.pointer (some ⟨ge, 0, none⟩)] t.length f) :
    Calls Try.prog 94 #[v, .func (.func K) #[] #[.pointer (some ⟨ge, 0, none⟩)]] w fun e w' => ∃ gt gf, e = .returned (.func (.func 118) #[] #[.pointer (some ⟨gt, 0, none⟩), .pointer (some ⟨gf, 0, none⟩)]) ∧ CostFn w' 118 #[.pointer (some ⟨gt, 0, none⟩), .pointer (some ⟨gf, 0, none⟩)] t.length (costT t f) ∧ Bel w w' := by
  have HP := Lib.hid (fun gt gf wx (hb : Bel w wx) (hx : PyBx wx gt gf v (.func (.func K) #[] #[.pointer (some ⟨ge, 0, none⟩)])) => truth1_any t f K gt gf ge v wx h8 heg hx (hv.bel hb) (ht.bel hb))
  obtain ⟨a, cc, b, off, rfl, _, _, _⟩ := hv
  have hmf : ∀ (fn : Fn) (first cap : Array Value) (w : World), (Instr.makeFunc fn first cap).run Try.prog w = .ok (.func fn first cap) w := fun _ _ _ _ => rfl
  clear ht
  go_enter Try.func94, Try.ntmps94
  go_wp2
  generalize hW : World.alloc _ _ = W1
  have hx : PyBx W1 w.heap.size (w.heap.size + 1) (.slice a t.length cc) (.func (.func K) #[] #[.pointer (some ⟨ge, 0, none⟩)]) := by
    rw [← hW]
    exact ⟨(Bx.new rfl).bel ((Bel.refl _).alloc _), Bx.new (by simp)⟩
  have hb : Bel w W1 := by rw [← hW]; exact ((Bel.refl w).alloc _).alloc _
  have HT := Lib.hid (HP.out _ _ _ hb hx)
  clear hW HP hx
  go_ret
  exact ⟨_, _, rfl, HT.out, hb⟩
end Go.Proofs.Ytkdcdhkhadhcfaa
