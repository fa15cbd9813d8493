/-
  beasts: lists of steps that a call makes.
-/
import Derived.Test.YtogiidkofddhaaaDoorClo
import Derived.Test.YtogiidkofddhaaaDoorBR
namespace Go.Proofs.YtogiidkofddhaaaDoor
open Go Go.RowKit
set_option maxHeartbeats 1000000
set_option maxRecDepth 100000
def BD.val (d : BD) : Value := .agg #[.int .i64 d.a, .int .i64 d.b, .int .i64 d.cost]
def BS.val (x : BS) : Value := .agg #[.int .i64 x.k, .int .i64 x.x]
def DoorsAt (w : World) (v : Value) (l : List BD) : Prop :=
  ∃ a c b off, v = .slice a l.length c ∧ (0 < l.length → a = some ⟨b, off, none⟩) ∧ (l.length ≤ 140737488355328 ∧ l.length ≤ c) ∧
    ∀ i, i < l.length → w.cell? ⟨b, off + i * 3, none⟩ = some (.int .i64 (atD l i).a) ∧ w.cell? ⟨b, off + i * 3 + 1, none⟩ = some (.int .i64 (atD l i).b) ∧ w.cell? ⟨b, off + i * 3 + 2, none⟩ = some (.int .i64 (atD l i).cost)
theorem DoorsAt.bel {w w' : World} {v : Value} {l : List BD} (h : DoorsAt w v l) (k : Bel w w') : DoorsAt w' v l := by
  obtain ⟨a, c, b, off, h1, h2, h3, h4⟩ := h
  exact ⟨a, c, b, off, h1, h2, h3, fun i hi => ⟨k.cell (h4 i hi).1, k.cell (h4 i hi).2.1, k.cell (h4 i hi).2.2⟩⟩
def StepsAt (w : World) (v : Value) (l : List BS) : Prop :=
  ∃ a c b off, v = .slice a l.length c ∧ (0 < l.length → a = some ⟨b, off, none⟩) ∧ (l.length ≤ 140737488355328 ∧ l.length ≤ c) ∧
    ∀ i, i < l.length → w.cell? ⟨b, off + i * 2, none⟩ = some (.int .i64 (atS l i).k) ∧ w.cell? ⟨b, off + i * 2 + 1, none⟩ = some (.int .i64 (atS l i).x)
theorem StepsAt.bel {w w' : World} {v : Value} {l : List BS} (h : StepsAt w v l) (k : Bel w w') : StepsAt w' v l := by
  obtain ⟨a, c, b, off, h1, h2, h3, h4⟩ := h
  exact ⟨a, c, b, off, h1, h2, h3, fun i hi => ⟨k.cell (h4 i hi).1, k.cell (h4 i hi).2⟩⟩
theorem StepsAt.nil (w : World) : StepsAt w (.slice none 0 0) [] := ⟨none, 0, 0, 0, rfl, fun h => absurd h (by simp), by simp, fun i hi => absurd hi (by simp)⟩
/-- A trap's value reads as the trap. -/
def BTrapAt (w : World) (v : Value) (b : BT) : Prop := ∃ dv sv pv, v = .agg #[.int .i64 b.n, dv, sv, .int .i64 b.look, .int .i64 b.eats, pv] ∧ DoorsAt w dv b.doors ∧ IntsAt w sv b.seen ∧ IntsAt w pv b.places
theorem BTrapAt.bel {w w' : World} {v : Value} {b : BT} (h : BTrapAt w v b) (k : Bel w w') : BTrapAt w' v b := by
  obtain ⟨dv, sv, pv, h1, h2, h3, h4⟩ := h
  exact ⟨dv, sv, pv, h1, h2.bel k, h3.bel k, h4.bel k⟩
theorem infoDoor : ∃ i, Tryd.prog.info? 43 = some i := Option.isSome_iff_exists.1 (by kernel_rfl)
theorem cellsDoor : Tryd.prog.cellsOf 43 = 3 := by kernel_rfl
theorem idxDoors {a : Option Addr} {n c b off : Nat} (ha : 0 < n → a = some ⟨b, off, none⟩) :
    ∀ (w : World) (i : Nat), i < n → (Instr.indexAt 22 (.slice a n c) (.int .i64 i)).run Tryd.prog w = .ok (.pointer (some ⟨b, off + i * 3, none⟩)) w := by
  obtain ⟨i0, hi0⟩ := infoDoor
  exact idxRule (P := Tryd.prog) 22 43 3 Tryd.underlying22 hi0 cellsDoor (c := c) ha
theorem infoStep : ∃ i, Tryd.prog.info? 50 = some i := Option.isSome_iff_exists.1 (by kernel_rfl)
theorem cellsStep : Tryd.prog.cellsOf 50 = 2 := by kernel_rfl
theorem idxSteps {a : Option Addr} {n c b off : Nat} (ha : 0 < n → a = some ⟨b, off, none⟩) :
    ∀ (w : World) (i : Nat), i < n → (Instr.indexAt 29 (.slice a n c) (.int .i64 i)).run Tryd.prog w = .ok (.pointer (some ⟨b, off + i * 2, none⟩)) w := by
  obtain ⟨i0, hi0⟩ := infoStep
  exact idxRule (P := Tryd.prog) 29 50 2 Tryd.underlying29 hi0 cellsStep (c := c) ha
theorem same_bel {W : World} {e : Ending} {P : Ending → Prop} {w' : World} (h : P e ∧ W = w') : P e ∧ Bel W w' := ⟨h.1, h.2 ▸ Bel.refl W⟩
theorem bwithin_any (n l h : Int) (w : World) : Calls Tryd.prog 97 #[.int .i64 n, .int .i64 l, .int .i64 h] w fun e w' => e = .returned (.bool (withinB n l h)) ∧ w = w' := by
  by_cases h1 : l ≤ n <;> by_cases h2 : n ≤ h
  all_goals
    have H := Lib.hid (show withinB n l h = (decide (l ≤ n) && decide (n ≤ h)) from rfl)
    go_enter Tryd.func97, Tryd.ntmps97
    go_wp2
    go_ret
    refine ⟨?_, rfl⟩
    rw [H.out]
    simp [h1, h2]
theorem wrap64_in (x : Int) (h : -9223372036854775808 ≤ x ∧ x ≤ 9223372036854775807) : wrap64 x = x := by unfold wrap64; omega
/-- Whether a number is a chamber's. -/
def chamB (n p : Int) : Bool := withinB p 0 (wrap64 (n - 1))
def placeB (n p : Int) : Bool := decide (p = -1) || chamB n p
theorem chamB_in {n : Int} (h1 : 1 ≤ n) (h2 : n ≤ 5) (p : Int) : chamB n p = withinB p 0 (n - 1) := by unfold chamB; rw [wrap64_in _ (by omega)]
theorem placeB_in {n : Int} (h1 : 1 ≤ n) (h2 : n ≤ 5) (p : Int) : placeB n p = withinB p (-1) (n - 1) := by
  unfold placeB
  rw [chamB_in h1 h2]
  unfold withinB
  rw [Bool.eq_iff_iff]
  simp
  omega
theorem chamber_any (b : BT) (p : Int) (dv sv pv : Value) (w : World) :
    Calls Tryd.prog 84 #[.agg #[.int .i64 b.n, dv, sv, .int .i64 b.look, .int .i64 b.eats, pv], .int .i64 p] w fun e w' => e = .returned (.bool (chamB b.n p)) ∧ Bel w w' := by
  have H := Lib.hid (show chamB b.n p = withinB p 0 (wrap64 (b.n - 1)) from rfl)
  go_enter Tryd.func84, Tryd.ntmps84
  go_wp2_with (go_at_call 97; refine (bwithin_any _ _ _ _).mono ?_; rintro e w' ⟨rfl, rfl⟩)
  go_ret
  exact ⟨rb H.out, (by repeat (first | assumption | exact Bel.refl _ | refine Bel.drew ?_ | refine Bel.drewN ?_ _ | refine Bel.alloc ?_ _ | refine Bel.setCell ?_ (by simp <;> omega) _ | refine Bel.trans ?_ (by assumption)))⟩
theorem place_any (b : BT) (p : Int) (dv sv pv : Value) (w : World) :
    Calls Tryd.prog 78 #[.agg #[.int .i64 b.n, dv, sv, .int .i64 b.look, .int .i64 b.eats, pv], .int .i64 p] w fun e w' => e = .returned (.bool (placeB b.n p)) ∧ Bel w w' := by
  by_cases h : p = -1
  · have H := Lib.hid (show placeB b.n p = true by unfold placeB; rw [decide_eq_true h]; rfl)
    have hb : (p == -1) = true := by simpa using h
    clear h
    go_enter Tryd.func78, Tryd.ntmps78
    go_wp2
    go_ret
    exact ⟨rb H.out, (by repeat (first | assumption | exact Bel.refl _ | refine Bel.drew ?_ | refine Bel.drewN ?_ _ | refine Bel.alloc ?_ _ | refine Bel.setCell ?_ (by simp <;> omega) _ | refine Bel.trans ?_ (by assumption)))⟩
  · have H := Lib.hid (show placeB b.n p = chamB b.n p by unfold placeB; rw [decide_eq_false h]; rfl)
    have hb : (p == -1) = false := by simpa using h
    clear h
    go_enter Tryd.func78, Tryd.ntmps78
    go_wp2_with (go_at_call 84; refine (chamber_any _ _ _ _ _ _).mono ?_; rintro e w' ⟨rfl, hb⟩)
    go_ret
    exact ⟨rb H.out, (by repeat (first | assumption | exact Bel.refl _ | refine Bel.drew ?_ | refine Bel.drewN ?_ _ | refine Bel.alloc ?_ _ | refine Bel.setCell ?_ (by simp <;> omega) _ | refine Bel.trans ?_ (by assumption)))⟩
def isDoorB (b : BT) (n : Int) : Bool := withinB n 0 ((b.doors.length : Int) - 1)
theorem isDoor_any (b : BT) (n : Int) (v : Value) (w : World) (hv : BTrapAt w v b) : Calls Tryd.prog 75 #[v, .int .i64 n] w fun e w' => e = .returned (.bool (isDoorB b n)) ∧ Bel w w' := by
  obtain ⟨dv, sv, pv, rfl, ⟨a, c, bb, off, rfl, _, ⟨hlen, _⟩, _⟩, _, _⟩ := hv
  have H := Lib.hid (show isDoorB b n = withinB n 0 ((b.doors.length : Int) - 1) from rfl)
  go_enter Tryd.func75, Tryd.ntmps75
  go_wp2_with (go_at_call 97; refine (bwithin_any _ _ _ _).mono ?_; rintro e w' ⟨rfl, rfl⟩)
  go_ret
  exact ⟨rb H.out, (by repeat (first | assumption | exact Bel.refl _ | refine Bel.drew ?_ | refine Bel.drewN ?_ _ | refine Bel.alloc ?_ _ | refine Bel.setCell ?_ (by simp <;> omega) _ | refine Bel.trans ?_ (by assumption)))⟩
end Go.Proofs.YtogiidkofddhaaaDoor
namespace Go.Proofs.YtogiidkofddhaaaDoor
open Go Go.RowKit
set_option maxHeartbeats 1000000
set_option maxRecDepth 100000
theorem mkStep : (Tryd.prog.info? 50).map (fun i => (i.zero, i.size, i.bytes)) = some (some (.agg #[.int .i64 0, .int .i64 0]), 2, 16) := by kernel_rfl
def stepCells : List BS → List Value
  | [] => []
  | x :: l => .int .i64 x.k :: .int .i64 x.x :: stepCells l
theorem stepCells_app : ∀ (l k : List BS), stepCells (l ++ k) = stepCells l ++ stepCells k
  | [], _ => rfl
  | x :: l, k => by show _ :: _ :: stepCells (l ++ k) = _; rw [stepCells_app l k]; rfl
theorem stepCells_len : ∀ l : List BS, (stepCells l).length = l.length * 2
  | [] => rfl
  | x :: l => by show (stepCells l).length + 1 + 1 = (l.length + 1) * 2; rw [stepCells_len l]; omega
theorem stepCells_at : ∀ (l : List BS) (i : Nat), i < l.length → (stepCells l)[i * 2]? = some (.int .i64 (atS l i).k) ∧ (stepCells l)[i * 2 + 1]? = some (.int .i64 (atS l i).x)
  | x :: l, 0, _ => ⟨rfl, rfl⟩
  | x :: l, i + 1, h => by
    have := stepCells_at l i (by simpa using h)
    rw [show (i + 1) * 2 = i * 2 + 1 + 1 by omega]
    exact this
theorem addr_off (b off j : Nat) : ((⟨b, off, none⟩ : Addr).add j) = ⟨b, off + j, none⟩ := by
  unfold Addr.add
  by_cases e : j = 0
  · rw [if_pos e, e]; rfl
  · rw [if_neg e]
theorem StepsAt.own {w : World} {v : Value} {l : List BS} (hl : l.length ≤ 140737488355328) (h : w.ownsRow 0 50 2 v l.length (stepCells l)) : StepsAt w v l := by
  rcases h.2 with ⟨rfl, e⟩ | ⟨g, cap, cur, rfl, _, hh, hnc, _⟩
  · have : l = [] := by cases l with
      | nil => rfl
      | cons a l => simp at e
    subst this
    exact StepsAt.nil w
  · refine ⟨some ⟨g, 0, none⟩, cap, g, 0, rfl, fun _ => rfl, ⟨hl, hnc⟩, fun i hi => ?_⟩
    obtain ⟨e1, e2⟩ := stepCells_at l i hi
    have h1 := h.cells (g := g) rfl (i * 2) _ e1
    have h2 := h.cells (g := g) rfl (i * 2 + 1) _ e2
    rw [addr_off] at h1 h2
    exact ⟨h1, by rw [Nat.add_assoc]; exact h2⟩
/-- A list of steps that the call makes. -/
structure StepSt (l : List BS) (w0 : World) (V : Value) (wr : World) : Prop where
  own : wr.ownsRow 0 50 2 V l.length (stepCells l)
  far : ∀ g, V.ownBlock = some g → w0.heap.size ≤ g
  bel : Bel w0 wr
theorem StepSt.start (w0 : World) : StepSt [] w0 (.slice none 0 0) w0 := ⟨World.ownsRow_nil w0 0 _ 2, fun g h => by simp [Value.ownBlock] at h, Bel.refl _⟩
theorem StepSt.keep {l : List BS} {w0 wr wx : World} {V : Value} (h : StepSt l w0 V wr) (k : Bel wr wx) : StepSt l w0 V wx := ⟨ownsRow_bel h.own k, h.far, h.bel.trans k⟩
theorem StepSt.next {l : List BS} {w0 wa w' : World} {V V' : Value} {x : BS} (h : StepSt l w0 V wa)
    (ho : w'.ownsRow 0 50 2 V' (l.length + 1) (stepCells l ++ [.int .i64 x.k, .int .i64 x.x])) (hg : wa.grownBy w' V.ownBlock) (hv : V'.ownBlock = V.ownBlock ∨ V'.ownBlock = some wa.heap.size) :
    StepSt (l ++ [x]) w0 V' w' := by
  refine ⟨by rw [stepCells_app]; simpa [stepCells] using ho, fun g q => ?_, h.bel.grown hg h.far⟩
  rcases hv with e | e
  · exact h.far g (by rw [← e]; exact q)
  · rw [e] at q; injection q with q; have := h.bel.szle; omega
theorem StepSt.read {l : List BS} {w0 wr : World} {V : Value} (h : StepSt l w0 V wr) (hl : l.length ≤ 140737488355328) : StepsAt wr V l := StepsAt.own hl h.own
theorem StepSt.slice {l : List BS} {w0 wr : World} {V : Value} (h : StepSt l w0 V wr) : ∃ a c, V = .slice a l.length c := by
  rcases h.own.2 with ⟨rfl, e⟩ | ⟨g, cap, cur, rfl, _⟩
  · exact ⟨none, 0, by rw [e]⟩
  · exact ⟨_, _, rfl⟩
end Go.Proofs.YtogiidkofddhaaaDoor
