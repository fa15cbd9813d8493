/-
  beasts: prices: less, cost, the price of a belief as far as it is known.
-/
import Derived.Test.YtogiidkofddhaaaDoorBMove3
import Derived.Test.YtogiidkofddhaaaDoorBMap
import Derived.Test.YtogiidkofddhaaaDoorBR
namespace Go.Proofs.YtogiidkofddhaaaDoor
open Go Go.RowKit
set_option maxHeartbeats 4000000
set_option maxRecDepth 100000
theorem less_any (p q : Int × Int) (w : World) : Calls Tryd.prog 107 #[.agg #[.int .i64 p.1, .int .i64 p.2], .agg #[.int .i64 q.1, .int .i64 q.2]] w fun e w' => e = .returned (.bool (lessP p q)) ∧ Bel w w' := by
  have H := Lib.hid (show lessP p q = (decide (p.1 < q.1) || (decide (p.1 = q.1) && decide (p.2 < q.2))) from rfl)
  obtain ⟨a, b⟩ := p
  obtain ⟨c, d⟩ := q
  simp only [] at H ⊢
  by_cases h1 : a < c
  · rw [decide_eq_true h1] at H
    go_enter Tryd.func107, Tryd.ntmps107
    go_wp2
    go_ret
    exact ⟨rb H.out, (by repeat (first | assumption | exact Bel.refl _ | refine Bel.drew ?_ | refine Bel.drewN ?_ _ | refine Bel.alloc ?_ _ | refine Bel.setCell ?_ (by simp <;> omega) _ | refine Bel.trans ?_ (by assumption)))⟩
  rw [decide_eq_false h1] at H
  by_cases h2 : a = c
  · rw [decide_eq_true h2] at H
    have hb : (a == c) = true := by simpa using h2
    clear h2
    by_cases h3 : b < d
    · rw [decide_eq_true h3] at H
      go_enter Tryd.func107, Tryd.ntmps107
      go_wp2
      go_ret
      exact ⟨rb H.out, (by repeat (first | assumption | exact Bel.refl _ | refine Bel.drew ?_ | refine Bel.drewN ?_ _ | refine Bel.alloc ?_ _ | refine Bel.setCell ?_ (by simp <;> omega) _ | refine Bel.trans ?_ (by assumption)))⟩
    · rw [decide_eq_false h3] at H
      go_enter Tryd.func107, Tryd.ntmps107
      go_wp2
      go_ret
      exact ⟨rb H.out, (by repeat (first | assumption | exact Bel.refl _ | refine Bel.drew ?_ | refine Bel.drewN ?_ _ | refine Bel.alloc ?_ _ | refine Bel.setCell ?_ (by simp <;> omega) _ | refine Bel.trans ?_ (by assumption)))⟩
  · rw [decide_eq_false h2] at H
    have hb : (a == c) = false := by simpa using h2
    clear h2
    go_enter Tryd.func107, Tryd.ntmps107
    go_wp2
    go_ret
    exact ⟨rb H.out, (by repeat (first | assumption | exact Bel.refl _ | refine Bel.drew ?_ | refine Bel.drewN ?_ _ | refine Bel.alloc ?_ _ | refine Bel.setCell ?_ (by simp <;> omega) _ | refine Bel.trans ?_ (by assumption)))⟩
theorem cost_any (b : BT) (hval : validT b = true) (x : BS) (hx : IsStp b x) (v : Value) (w : World) (hv : BTrapAt w v b) : Calls Tryd.prog 73 #[v, .agg #[.int .i64 x.k, .int .i64 x.x]] w fun e w' => e = .returned (.int .i64 (costS b x)) ∧ Bel w w' := by
  have hb := okb_iff.1 hval
  obtain ⟨l1, l2, e1, e2⟩ := And.intro hb.l1 (And.intro hb.l2 (And.intro hb.e1 hb.e2))
  obtain ⟨dv, sv, qv, rfl, ⟨da, dc, db, doff, rfl, hda, ⟨hdl, _⟩, hdc⟩, _, _⟩ := hv
  have hixd := idxDoors (c := dc) hda
  have H := Lib.hid (show costS b x = if x.k = 2 then b.look + b.eats else (atD b.doors x.x.toNat).cost + b.eats from rfl)
  rcases hx with ⟨hk, g1, g2⟩ | ⟨hk, _⟩
  · rw [if_neg (by omega)] at H
    have hk2 : (x.k == 2) = false := by rw [beq_eq_false_iff_ne]; omega
    obtain ⟨k, hkx⟩ : ∃ k : Nat, x.x = k := ⟨x.x.toNat, by omega⟩
    rw [hkx] at H g1 g2 ⊢
    simp only [Int.toNat_natCast] at H
    have hkl : k < b.doors.length := by omega
    obtain ⟨_, _, d2⟩ := hdc k hkl
    have hok := hb.dk k hkl
    obtain ⟨_, _, _, c1, c2⟩ := hok
    have ld := cell_lt d2
    generalize atD b.doors k = d at *
    have hw1 : IntKind.i64.wrap (d.cost + b.eats) = d.cost + b.eats := IntWalk.i64_in _ (by omega)
    clear hda hdc hb hkx hk
    go_enter Tryd.func73, Tryd.ntmps73
    go_wp2
    generalize hW0 : World.alloc _ _ = W0
    have hB0 : Bel w W0 := by rw [← hW0]; exact ((Bel.refl w).alloc _).alloc _
    have y1 : W0.cell? ⟨w.heap.size, 1, none⟩ = some (.slice da b.doors.length dc) := by rw [← hW0]; exact (row_facts ((old_row (by simp)).trans (new_row rfl))).1 1
    have y4 : W0.cell? ⟨w.heap.size, 4, none⟩ = some (.int .i64 b.eats) := by rw [← hW0]; exact (row_facts ((old_row (by simp)).trans (new_row rfl))).1 4
    have x1 : W0.cell? ⟨w.heap.size + 1, 1, none⟩ = some (.int .i64 (k : Int)) := by rw [← hW0]; exact (row_facts (new_row (by simp))).1 1
    have e2' := hB0.cell d2
    have ly := cell_lt y1
    have lx := cell_lt x1
    have ld := cell_lt e2'
    clear hW0 d2
    refine wp_region_mixB (Plan.seq [0, 1, 2, 3, 4, 5, 6, 7, 8, 9, 10] .nil) (by kernel_rfl) (by kernel_rfl) (fun hcur => ?_)
    simp only [Plan.seq, Plan.fill, List.getD_cons_zero, List.getD_cons_succ, Nat.reduceLT, ↓reduceIte]
    apply mix_pure _ rfl
    · intro w' hw'
      have hcr := hw'.cells
      go_simp
      rfl
    intro K hK
    go_simp
    refine hK _ ?_
    clear hK K
    apply mix_pure _ rfl
    · intro w' hw'
      have hcr := hw'.cells
      go_simp
      rfl
    intro K hK
    go_simp
    refine hK _ ?_
    clear hK K
    apply mix_pure _ rfl
    · intro w' hw'
      have hcr := hw'.cells
      go_simp
      rfl
    intro K hK
    go_simp
    refine hK _ ?_
    clear hK K
    apply mix_pure _ rfl
    · intro w' hw'
      have hcr := hw'.cells
      go_simp
      rfl
    intro K hK
    go_simp
    refine hK _ ?_
    clear hK K
    apply mix_pure _ rfl
    · intro w' hw'
      have hcr := hw'.cells
      go_simp
      rfl
    intro K hK
    go_simp
    refine hK _ ?_
    clear hK K
    apply mix_pure _ rfl
    · intro w' hw'
      have hcr := hw'.cells
      go_simp
      rfl
    intro K hK
    go_simp
    refine hK _ ?_
    clear hK K
    apply mix_pure _ rfl
    · intro w' hw'
      have hcr := hw'.cells
      go_simp
      rfl
    intro K hK
    go_simp
    refine hK _ ?_
    clear hK K
    apply mix_pure _ rfl
    · intro w' hw'
      have hcr := hw'.cells
      go_simp
      rfl
    intro K hK
    go_simp
    refine hK _ ?_
    clear hK K
    apply mix_pure _ rfl
    · intro w' hw'
      have hcr := hw'.cells
      go_simp
      rfl
    intro K hK
    go_simp
    refine hK _ ?_
    clear hK K
    apply mix_pure _ rfl
    · intro w' hw'
      have hcr := hw'.cells
      go_simp
      first | (rw [IntWalk.i64_in]; all_goals first | omega | rfl) | rfl
    intro K hK
    go_simp
    refine hK _ ?_
    clear hK K
    apply mix_pure _ rfl
    · intro w' hw'
      have hcr := hw'.cells
      go_simp
      rfl
    intro K hK
    go_simp
    refine hK _ ?_
    clear hK K
    refine mix_nil ?_
    have HF := Lib.hid (hB0.trans hcur)
    clear hcur
    go_wp2
    go_ret
    exact ⟨ri H.out, HF.out⟩
  · rw [if_pos hk] at H
    have hk2 : (x.k == 2) = true := by rw [beq_iff_eq]; omega
    clear hda hdc hb hk
    go_enter Tryd.func73, Tryd.ntmps73
    go_wp2
    go_ret
    exact ⟨ri H.out, (by repeat (first | assumption | exact Bel.refl _ | refine Bel.drew ?_ | refine Bel.drewN ?_ _ | refine Bel.alloc ?_ _ | refine Bel.setCell ?_ (by simp <;> omega) _ | refine Bel.trans ?_ (by assumption)))⟩
/-- The package's variable that is more than any plan costs. -/
def FarAt (w : World) : Prop := w.cell? ⟨0, 0, none⟩ = some (.int .i64 1073741824) ∧ w.cell? ⟨0, 1, none⟩ = some (.int .i64 1073741824)
theorem FarAt.bel {w w' : World} (h : FarAt w) (k : Bel w w') : FarAt w' := ⟨k.cell h.1, k.cell h.2⟩
/-- A hunt in its block. -/
structure HuntAt (w : World) (hb mb : Nat) (b : BT) (dv sv pv : Value) (looks : Bool) : Prop where
  box : BoxB w hb b dv sv pv
  looks : w.cell? ⟨hb, 6, none⟩ = some (.bool looks)
  map : w.cell? ⟨hb, 7, none⟩ = some (.map (some mb))
theorem HuntAt.bel {w w' : World} {hb mb : Nat} {b : BT} {dv sv pv : Value} {looks : Bool} (h : HuntAt w hb mb b dv sv pv looks) (k : Bel w w') : HuntAt w' hb mb b dv sv pv looks := ⟨h.box.bel k, k.cell h.looks, k.cell h.map⟩
theorem mapT : Tryd.prog.underlying 118 = some (.map 83 80) := by kernel_rfl
theorem mapK : Tryd.prog.underlying 83 = some (.int .u8) := by kernel_rfl
theorem mapZ (w : World) : (zeroValue 80).run Tryd.prog w = .ok (priceV (0, 0)) w := by kernel_rfl
theorem wpList_lookup_pr {w : World} {ops : Array Oper} {rest : List Oper} {o : Oper} {a : Act} {Q : Exit → Act → World → Prop} (hg : o.guard = none) (m x : Operand) (hop : o.op = Op.lookup 118 m x true)
    {b : Nat} {pr : PrT} (hm : a.eval m = .map (some b)) (hown : MapP w b pr) (s : Nat) (hx : a.eval x = .int .u8 (s : Int)) {v : Value} {ok : Bool} (hv : okV (pr s) = .tuple #[v, .bool ok])
    (hK : wpList Tryd.prog ops Q rest (a.put o.dst (.tuple #[v, .bool ok])) w) : wpList Tryd.prog ops Q (o :: rest) a w := by
  refine wpList_plain hg fun K' hK' => ?_
  have hrun := hown.look mapT mapK mapZ s
  rw [hv] at hrun
  unfold Oper.wp
  have hx' : a.eval x = keyV s := hx
  simp [execOp, hop, hm, hx', hrun, Result.andThen]
  exact hK' _ _ hK
theorem hof_any (hb mb s : Nat) (b : BT) (dv sv pv : Value) (looks : Bool) (pr : PrT) (w : World) (hf : FarAt w) (hh : HuntAt w hb mb b dv sv pv looks) (hm : MapP w mb pr) :
    Calls Tryd.prog 89 #[.pointer (some ⟨hb, 0, none⟩), .int .u8 (s : Int)] w fun e w' => e = .returned (.agg #[.int .i64 (ofP pr s).1, .int .i64 (ofP pr s).2]) ∧ Bel w w' := by
  obtain ⟨f0, f1⟩ := hf
  have hmap := hh.map
  have lh := cell_lt hmap
  have lf := cell_lt f0
  have HM := Lib.hid hm
  clear hh hm
  cases e : pr s with
  | none =>
    have HO := Lib.hid (show ofP pr s = (1073741824, 1073741824) by unfold ofP; rw [e]; rfl)
    have HV := Lib.hid (show okV (pr s) = .tuple #[.agg #[.int .i64 0, .int .i64 0], .bool false] by rw [e]; rfl)
    rw [HO.out]
    clear e
    go_enter Tryd.func89, Tryd.ntmps89
    go_wp2_with (at_lookup; refine wpList_lookup_pr rfl _ _ rfl rfl (HM.out.bel (by repeat (first | assumption | exact Bel.refl _ | refine Bel.drew ?_ | refine Bel.drewN ?_ _ | refine Bel.alloc ?_ _ | refine Bel.setCell ?_ (by simp <;> omega) _ | refine Bel.trans ?_ (by assumption)))) s rfl HV.out ?_)
    exact bodyPost_ret (v := .agg #[.int .i64 1073741824, .int .i64 1073741824]) (by simp [results, Tryd.results89, go_sem, *]) rfl ⟨rfl, (by repeat (first | assumption | exact Bel.refl _ | refine Bel.drew ?_ | refine Bel.drewN ?_ _ | refine Bel.alloc ?_ _ | refine Bel.setCell ?_ (by simp <;> omega) _ | refine Bel.trans ?_ (by assumption)))⟩
  | some p =>
    have HO := Lib.hid (show ofP pr s = p by unfold ofP; rw [e]; rfl)
    have HV := Lib.hid (show okV (pr s) = .tuple #[.agg #[.int .i64 p.1, .int .i64 p.2], .bool true] by rw [e]; rfl)
    rw [HO.out]
    clear e
    go_enter Tryd.func89, Tryd.ntmps89
    go_wp2_with (at_lookup; refine wpList_lookup_pr rfl _ _ rfl rfl (HM.out.bel (by repeat (first | assumption | exact Bel.refl _ | refine Bel.drew ?_ | refine Bel.drewN ?_ _ | refine Bel.alloc ?_ _ | refine Bel.setCell ?_ (by simp <;> omega) _ | refine Bel.trans ?_ (by assumption)))) s rfl HV.out ?_)
    exact bodyPost_ret (v := .agg #[.int .i64 p.1, .int .i64 p.2]) (by simp [results, Tryd.results89, go_sem, *]) rfl ⟨rfl, (by repeat (first | assumption | exact Bel.refl _ | refine Bel.drew ?_ | refine Bel.drewN ?_ _ | refine Bel.alloc ?_ _ | refine Bel.setCell ?_ (by simp <;> omega) _ | refine Bel.trans ?_ (by assumption)))⟩
end Go.Proofs.YtogiidkofddhaaaDoor
