/-
  beasts: works: the law's own examples.
-/
import Derived.Test.YtogiidkofddhaaaDoorBR
import Derived.Test.YtogiidkofddhaaaDoorBFree
import Derived.Test.YtogiidkofddhaaaDoorBMove3
namespace Go.Proofs.YtogiidkofddhaaaDoor
set_option maxRecDepth 100000
def chkS (b : BT) (looks : Bool) (per stp : Int) (V : Nat → Option Int) (s : Nat) : Bool := match V s with
  | none => (stepsOf b looks s).all fun x => (stepV b per stp V x).isNone
  | some v => decide (0 ≤ v) && ((stepsOf b looks s).any (fun x => decide (stepV b per stp V x = some v)) && (stepsOf b looks s).all fun x => match stepV b per stp V x with
    | none => true
    | some u => decide (v ≤ u))
theorem fix_of_chk {b : BT} (hok : Okb b) {looks : Bool} {per stp : Int} (hw : Way per stp) {V : Nat → Option Int} (h1 : V 1 = some 0) (h : ∀ s, Dom b s → s ≠ 1 → chkS b looks per stp V s = true) : Fix b looks per stp V := by
  have key : ∀ (s : Nat) (v : Int), Dom b s → s ≠ 1 → V s = some v → 0 ≤ v ∧ (∃ x, x ∈ stepsOf b looks s ∧ stepV b per stp V x = some v) ∧ ∀ x, x ∈ stepsOf b looks s → ∀ u, stepV b per stp V x = some u → v ≤ u := by
    intro s v hs hn hv
    have hc := h s hs hn
    unfold chkS at hc
    rw [hv] at hc
    simp only [Bool.and_eq_true, decide_eq_true_eq, List.any_eq_true, List.all_eq_true] at hc
    refine ⟨hc.1, hc.2.1, fun x hx u hu => ?_⟩
    have := hc.2.2 x hx
    rw [hu] at this
    simpa using this
  have nn : ∀ (s : Nat) (v : Int), Dom b s → V s = some v → 0 ≤ v := fun s v hs hv => by
    by_cases e : s = 1
    · rw [e, h1] at hv; injection hv with hv; omega
    · exact (key s v hs e hv).1
  have sound : ∀ (k : Nat) (s : Nat) (v : Int), v.toNat < k → Dom b s → V s = some v → Can b looks per stp s v := by
    intro k
    induction k with
    | zero => intro s v hk; omega
    | succ k ih =>
      intro s v hk hs hv
      by_cases e : s = 1
      · subst e
        exact .sea (nn _ _ hs hv)
      · obtain ⟨h0, ⟨x, hx, hst⟩, _⟩ := key s v hs e hv
        unfold stepV at hst
        cases hm : mxV V x.2 with
        | none => rw [hm] at hst; cases hst
        | some m =>
          rw [hm] at hst
          injection hst with hst
          replace hst : costS b x.1 * per + stp + m = v := hst
          have hp := wt_pos hok hw hx
          obtain ⟨m0, hall⟩ := mxV_le hm
          exact .step (p := m) x hx (fun t ht => by
            obtain ⟨a, a1, a2⟩ := hall t ht
            have hd := (steps_dom hok hs hx).2 t ht
            have := nn t a hd a1
            exact (ih t a (by omega) hd a1).up a2) (by omega)
  refine ⟨h1, fun s hs v hv => sound _ s v (Nat.lt_succ_self _) hs hv, fun s hs hn x hx m hm => ?_⟩
  cases hv : V s with
  | none =>
    have hc := h s hs hn
    unfold chkS at hc
    rw [hv] at hc
    have := List.all_eq_true.1 hc x hx
    unfold stepV at this
    rw [hm] at this
    cases this
  | some v =>
    exact ⟨v, rfl, (key s v hs hn hv).2.2 x hx _ (by unfold stepV; rw [hm]; rfl)⟩
/-- The law's example. -/
def exT : BT := { n := 3, doors := [⟨0, -1, 5⟩, ⟨0, 1, 2⟩, ⟨1, 2, 1⟩], seen := [1], look := 1, eats := 1, places := [1, 2] }
theorem exT_val : validT exT = true := by decide
theorem exT_ok : Okb exT := okb_iff.1 exT_val
def tabT : Nat → Option Int := fun s => ([none, some 0, some 6291457, some 6291457, some 9437186, some 9437186, some 11534339, some 11534339, some 11534339, some 11534339, some 13631492, some 13631492, some 13631492, some 13631492, some 15728645, some 15728645] : List (Option Int)).getD s none
def tabF : Nat → Option Int := fun s => ([none, some 0, some 6291457, some 6291457, some 9437186, some 9437186, some 15728643, some 15728643, some 11534339, some 11534339, some 17825796, some 17825796, some 20971525, some 20971525, some 27262982, some 27262982] : List (Option Int)).getD s none
theorem chkT_all : ∀ s, s < 16 → s ≠ 0 → s ≠ 1 → chkS exT true 1048576 1 tabT s = true := by decide
theorem chkF_all : ∀ s, s < 16 → s ≠ 0 → s ≠ 1 → chkS exT false 1048576 1 tabF s = true := by decide
theorem exT_dom {s : Nat} : Dom exT s ↔ s ≠ 0 ∧ s < 16 := Iff.rfl
theorem exT_fix : Fix exT true 1048576 1 tabT := fix_of_chk exT_ok way_K rfl fun s hs h1 => chkT_all s hs.2 hs.1 h1
theorem exF_fix : Fix exT false 1048576 1 tabF := fix_of_chk exT_ok way_K rfl fun s hs h1 => chkF_all s hs.2 hs.1 h1
theorem exT_opt {s : Nat} (hs : Dom exT s) : opt exT true 1048576 1 s = tabT s := (exT_fix.eq exT_ok way_K hs).symm
theorem exF_opt {s : Nat} (hs : Dom exT s) : opt exT false 1048576 1 s = tabF s := (exF_fix.eq exT_ok way_K hs).symm
theorem exT_opt1 {s : Nat} (hs : Dom exT s) : opt exT true 1 0 s = (tabT s).map (fun v => v / 1048576) := by rw [turns_1.optE exT_ok way_1 hs, exT_opt hs]
/-- The next step needs the prices of the beliefs alone. -/
theorem nextV_congr {b : BT} (hok : Okb b) {looks : Bool} {per stp : Int} {V W : Nat → Option Int} (h : ∀ s, Dom b s → V s = W s) {s : Nat} (hs : Dom b s) : nextV b looks per stp V s = nextV b looks per stp W s := by
  unfold nextV
  refine find_congr fun x hx => ?_
  unfold stepV
  rw [mxV_congr (W := W) fun t ht => h t ((steps_dom hok hs hx).2 t ht), h s hs]
theorem exT_next {s : Nat} (hs : Dom exT s) : nextV exT true 1 0 (opt exT true 1 0) s = nextV exT true 1 0 (fun s => (tabT s).map (fun v => v / 1048576)) s := nextV_congr exT_ok (fun _ hs => exT_opt1 hs) hs
theorem exF_next {s : Nat} (hs : Dom exT s) : nextV exT false 1048576 1 (opt exT false 1048576 1) s = nextV exT false 1048576 1 tabF s := nextV_congr exT_ok (fun _ hs => exF_opt hs) hs
end Go.Proofs.YtogiidkofddhaaaDoor
namespace Go.Proofs.YtogiidkofddhaaaDoor
set_option maxRecDepth 100000
instance {b : BT} {s : Nat} : Decidable (Dom b s) := inferInstanceAs (Decidable (s ≠ 0 ∧ s < 2 ^ (b.n.toNat + 1)))
theorem ex_S : ofL exT.places = 12 := by decide
theorem ex_least : leastV exT true = 13 ∧ leastE exT true = 0 := by
  obtain ⟨h1, h2⟩ := least_good (looks := true) exT_val
  have ho : opt exT true 1 0 (ofL exT.places) = some 13 := by rw [ex_S, exT_opt1 (by decide)]; decide
  obtain ⟨o1, o2⟩ := optVE_some ho
  exact ⟨h1.trans o1, h2.trans o2⟩
theorem ex_blindE : leastE exT false = 0 := by
  obtain ⟨h1, h2⟩ := least_good (looks := false) exT_val
  have hd : Dom exT (ofL exT.places) := dom_places exT_ok
  have ho : opt exT false 1 0 (ofL exT.places) = some 20 := by rw [turns_1.optE exT_ok way_1 hd, exF_opt hd, ex_S]; decide
  exact h2.trans (optVE_some ho).2
theorem ex_way : wayV exT 2 = 11 ∧ wayE exT 2 = 0 := by
  have ho : opt exT true 1 0 (ofL [2]) = some 11 := by rw [show ofL [2] = 8 by decide, exT_opt1 (by decide)]; decide
  obtain ⟨o1, o2⟩ := optVE_some ho
  have hc : chamB exT.n 2 = true := by rw [chamB_in (by decide) (by decide)]; decide
  unfold wayV wayE
  rw [exT_val, hc]
  exact ⟨o1, o2⟩
theorem ex_ns {s : Nat} (hs : Dom exT s) {x : BS × List Nat} (h : nextV exT true 1 0 (fun s => (tabT s).map (fun v => v / 1048576)) s = some x) : nextS exT s = x := by
  unfold nextS
  rw [exT_next hs, h]
  rfl
theorem ex_n12 : nextS exT 12 = (⟨2, 1⟩, [4, 8]) := ex_ns (by decide) (by decide)
theorem ex_n4 : nextS exT 4 = (⟨1, 1⟩, [2]) := ex_ns (by decide) (by decide)
theorem ex_n2 : nextS exT 2 = (⟨1, 0⟩, [1]) := ex_ns (by decide) (by decide)
theorem ex_next : nextA exT = ⟨2, 1⟩ := by
  have ho : (opt exT true 1 0 (ofL exT.places)).isSome = true := by rw [ex_S, exT_opt1 (by decide)]; decide
  unfold nextA
  rw [exT_val, ho, ex_S, ex_n12]
  rfl
theorem ex_path : pathA exT 1 = [⟨2, 1⟩, ⟨1, 1⟩, ⟨1, 0⟩] ∧ pathE exT 1 = 0 := by
  have ho : opt exT true 1 0 12 = some 13 := by rw [exT_opt1 (by decide)]; decide
  have h4 : opt exT true 1 0 4 = some 9 := by rw [exT_opt1 (by decide)]; decide
  have h2 : opt exT true 1 0 2 = some 6 := by rw [exT_opt1 (by decide)]; decide
  have hi : inB exT.places 1 = true := by decide
  have e1 := path_more exT_ok (s := 12) (p := 1) (by decide) (by decide) ho (by decide) (by decide) (by decide) (by decide)
  have e2 := path_more exT_ok (s := 4) (p := 1) (by decide) (by decide) h4 (by decide) (by decide) (by decide) (by decide)
  have e3 := path_more exT_ok (s := 2) (p := 0) (by decide) (by decide) h2 (by decide) (by decide) (by decide) (by decide)
  rw [ex_n12] at e1
  rw [ex_n4] at e2
  rw [ex_n2] at e3
  have t1 : towS exT ⟨2, 1⟩ 1 = 1 := by decide
  have t2 : towS exT ⟨1, 1⟩ 1 = 0 := by decide
  have t3 : towS exT ⟨1, 0⟩ 0 = -1 := by decide
  simp only [t1] at e1
  simp only [t2] at e2
  simp only [t3] at e3
  rw [show leftOf [4, 8] 1 12 = 4 by decide] at e1
  rw [show leftOf [2] 0 4 = 2 by decide] at e2
  rw [show leftOf [1] (-1) 2 = 1 by decide, path_done] at e3
  refine ⟨?_, ?_⟩
  · unfold pathA
    rw [exT_val, hi, ex_S, ho]
    show pathF exT 2000 12 1 = _
    rw [e1, e2, e3]
  · unfold pathE
    rw [exT_val, hi]
    exact (optVE_some (by rw [ex_S]; exact ho)).2
theorem ex_paid : paidA exT 1 = 11 := by
  unfold paidA
  rw [ex_path.1]
  decide
theorem ex_nb {s : Nat} (hs : Dom exT s) {x : BS × List Nat} (h : nextV exT false 1048576 1 tabF s = some x) : nextB exT s = x := by
  unfold nextB
  rw [exF_next hs, h]
  rfl
theorem ex_script : scriptA exT = [⟨1, 1⟩, ⟨1, 0⟩, ⟨1, 2⟩, ⟨1, 1⟩, ⟨1, 0⟩] := by
  have st : ∀ (s i t : Nat) (c n : Int), Dom exT s → s ≠ 1 → tabF s = some (c * 1048576 + n) → 0 ≤ n → n ≤ 64 → nextV exT false 1048576 1 tabF s = some (⟨1, (i : Int)⟩, [t]) → scriptF exT 64 s = ⟨1, (i : Int)⟩ :: scriptF exT 64 t := by
    intro s i t c n hs h1 hv hn hn2 hx
    obtain ⟨j, u, g1, _, _, _, _, g8⟩ := scr_step exT_ok hs h1 ((exF_opt hs).trans hv) hn hn2
    rw [ex_nb hs hx] at g1
    injection g1 with g2 g3
    injection g3 with g3 _
    injection g2 with _ g2
    rw [g8, ← g2, ← g3]
  have hd : Dom exT (ofL exT.places) := dom_places exT_ok
  have ho : (opt exT false 1 0 (ofL exT.places)).isSome = true := by rw [turns_1.optE exT_ok way_1 hd, exF_opt hd, ex_S]; decide
  unfold scriptA
  rw [exT_val, ho, ex_S]
  show scriptF exT 64 12 = _
  rw [st 12 1 10 20 5 (by decide) (by decide) (by decide) (by decide) (by decide) (by decide),
    st 10 0 9 17 4 (by decide) (by decide) (by decide) (by decide) (by decide) (by decide),
    st 9 2 5 11 3 (by decide) (by decide) (by decide) (by decide) (by decide) (by decide),
    st 5 1 3 9 2 (by decide) (by decide) (by decide) (by decide) (by decide) (by decide),
    st 3 0 1 6 1 (by decide) (by decide) (by decide) (by decide) (by decide) (by decide), scr_done]
  rfl
end Go.Proofs.YtogiidkofddhaaaDoor
namespace Go.Proofs.YtogiidkofddhaaaDoor
open Go Go.RowKit Go.Shelf
set_option maxHeartbeats 4000000
set_option maxRecDepth 100000
theorem Example_any (w : World) : Calls Tryd.prog 62 #[] w fun e w' => ∃ v, e = .returned v ∧ BTrapAt w' v exT ∧ Bel w w' := by
  go_enter Tryd.func62, Tryd.ntmps62
  go_wp2
  generalize hW0 : World.alloc _ _ = W0
  have hB0 : Bel w W0 := by rw [← hW0]; exact ((((Bel.refl w).alloc _).alloc _).alloc _).alloc _
  have r0 : W0.heap[w.heap.size]? = some (.cells #[.int .i64 3, .slice (some ⟨w.heap.size + 1, 0, none⟩) 3 3, .slice (some ⟨w.heap.size + 1 + 1, 0, none⟩) 1 1, .int .i64 1, .int .i64 1, .slice (some ⟨w.heap.size + 1 + 1 + 1, 0, none⟩) 2 2] 25 (0, 0)) := by rw [← hW0]; exact (old_row (by first | (simp; done) | (simp; omega) | omega)).trans ((old_row (by first | (simp; done) | (simp; omega) | omega)).trans ((old_row (by first | (simp; done) | (simp; omega) | omega)).trans (new_row (by first | rfl | (simp; done) | (simp; omega) | omega))))
  have r1 : W0.heap[w.heap.size + 1]? = some (.cells #[.int .i64 0, .int .i64 (-1), .int .i64 5, .int .i64 0, .int .i64 1, .int .i64 2, .int .i64 1, .int .i64 2, .int .i64 1] 43 (0, 0)) := by rw [← hW0]; exact (old_row (by first | (simp; done) | (simp; omega) | omega)).trans ((old_row (by first | (simp; done) | (simp; omega) | omega)).trans (new_row (by first | rfl | (simp; done) | (simp; omega) | omega)))
  have r2 : W0.heap[w.heap.size + 1 + 1]? = some (.cells #[.int .i64 1] 3 (0, 0)) := by rw [← hW0]; exact (old_row (by first | (simp; done) | (simp; omega) | omega)).trans (new_row (by first | rfl | (simp; done) | (simp; omega) | omega))
  have r3 : W0.heap[w.heap.size + 1 + 1 + 1]? = some (.cells #[.int .i64 1, .int .i64 2] 3 (0, 0)) := by rw [← hW0]; exact new_row (by first | rfl | (simp; done) | (simp; omega) | omega)
  clear hW0
  have q0 := (row_facts r0).1 0
  have q1 := (row_facts r0).1 1
  have q2 := (row_facts r0).1 2
  have q3 := (row_facts r0).1 3
  have q4 := (row_facts r0).1 4
  have q5 := (row_facts r0).1 5
  have hd : DoorsAt W0 (.slice (some ⟨w.heap.size + 1, 0, none⟩) 3 3) exT.doors := ⟨_, 3, w.heap.size + 1, 0, rfl, fun _ => rfl, ⟨by decide, by decide⟩, fun i hi => by
    have : i = 0 ∨ i = 1 ∨ i = 2 := by have : i < 3 := hi; omega
    rcases this with rfl | rfl | rfl
    · exact ⟨(row_facts r1).1 0, (row_facts r1).1 1, (row_facts r1).1 2⟩
    · exact ⟨(row_facts r1).1 3, (row_facts r1).1 4, (row_facts r1).1 5⟩
    · exact ⟨(row_facts r1).1 6, (row_facts r1).1 7, (row_facts r1).1 8⟩⟩
  have hs : IntsAt W0 (.slice (some ⟨w.heap.size + 1 + 1, 0, none⟩) 1 1) exT.seen := ⟨_, 1, w.heap.size + 1 + 1, 0, rfl, fun _ => rfl, ⟨by decide, by decide⟩, fun i hi => by
    have : i = 0 := by have : i < 1 := hi; omega
    subst this
    exact (row_facts r2).1 0⟩
  have hp : IntsAt W0 (.slice (some ⟨w.heap.size + 1 + 1 + 1, 0, none⟩) 2 2) exT.places := ⟨_, 2, w.heap.size + 1 + 1 + 1, 0, rfl, fun _ => rfl, ⟨by decide, by decide⟩, fun i hi => by
    have : i = 0 ∨ i = 1 := by have : i < 2 := hi; omega
    rcases this with rfl | rfl
    · exact (row_facts r3).1 0
    · exact (row_facts r3).1 1⟩
  refine bodyPost_ret (v := .agg #[.int .i64 3, .slice (some ⟨w.heap.size + 1, 0, none⟩) 3 3, .slice (some ⟨w.heap.size + 1 + 1, 0, none⟩) 1 1, .int .i64 1, .int .i64 1, .slice (some ⟨w.heap.size + 1 + 1 + 1, 0, none⟩) 2 2]) ?_ rfl ⟨_, rfl, ⟨_, _, _, rfl, hd, hs, hp⟩, hB0⟩
  simp [results, Tryd.results62, go_sem, q0, q1, q2, q3, q4, q5]
end Go.Proofs.YtogiidkofddhaaaDoor
namespace Go.Proofs.YtogiidkofddhaaaDoor
open Go Go.RowKit Go.Shelf
set_option maxHeartbeats 4000000
set_option maxRecDepth 100000
theorem ex_move : moveE exT [1, 2] 1 = 0 ∧ moveL exT [1, 2] 1 = [0, 2] := by decide
theorem two_ints {w : World} {g : Nat} {p q : Int} {T : TypeId} (hg : g = w.heap.size) : IntsAt (w.alloc (.cells #[.int .i64 p, .int .i64 q] T)) (.slice (some ⟨g, 0, none⟩) 2 2) [p, q] :=
  ⟨_, 2, g, 0, rfl, fun _ => rfl, by simp, fun i hi => by
    have : i = 0 ∨ i = 1 := by simp at hi; omega
    rcases this with rfl | rfl
    · exact (row_facts (new_row hg)).1 0
    · exact (row_facts (new_row hg)).1 1⟩
theorem same_02 (v v2 : Value) (w : World) (h : IntsAt w v [0, 2]) (h2 : IntsAt w v2 [0, 2]) : Calls Tryd.prog 29 #[v, v2] w fun e w' => e = .returned (.bool true) ∧ Bel w w' := SameInts_any v v2 [0, 2] [0, 2] w h h2
/-- What the law's own examples ask for. -/
structure Asks (b : BT) : Prop where
  ex : ∀ wx, Calls Tryd.prog 62 #[] wx fun e w' => ∃ v, e = .returned v ∧ BTrapAt w' v b ∧ Bel wx w'
  mv : ∀ v pv wx, BTrapAt wx v b → IntsAt wx pv [1, 2] → Calls Tryd.prog 27 #[v, pv, .int .i64 1] wx (LErr 0 [0, 2] wx)
  le : ∀ v wx, FarAt wx → BTrapAt wx v b → Calls Tryd.prog 39 #[v] wx fun e w' => e = .returned (.tuple #[.int .i64 13, .int .i64 0]) ∧ Bel wx w'
  nx : ∀ v wx, FarAt wx → BTrapAt wx v b → Calls Tryd.prog 32 #[v] wx fun e w' => e = .returned (.tuple #[.agg #[.int .i64 2, .int .i64 1], .int .i64 0]) ∧ Bel wx w'
  wa : ∀ v wx, FarAt wx → BTrapAt wx v b → Calls Tryd.prog 36 #[v, .int .i64 2] wx fun e w' => e = .returned (.tuple #[.int .i64 11, .int .i64 0]) ∧ Bel wx w'
  pa : ∀ v wx, FarAt wx → BTrapAt wx v b → Calls Tryd.prog 20 #[v, .int .i64 1] wx fun e w' => e = .returned (.tuple #[.int .i64 11, .int .i64 0]) ∧ Bel wx w'
  sc : ∀ v wx, FarAt wx → BTrapAt wx v b → Calls Tryd.prog 38 #[v] wx fun e w' => ∃ V, e = .returned (.tuple #[V, .int .i64 0]) ∧ StepsAt w' V [⟨1, 1⟩, ⟨1, 0⟩, ⟨1, 2⟩, ⟨1, 1⟩, ⟨1, 0⟩] ∧ Bel wx w'
theorem asks_ex : Asks exT where
  ex := fun wx => Example_any wx
  mv := fun v pv wx hv hp => by have := bMove_any exT v pv [1, 2] 1 wx hv hp; rw [ex_move.1, ex_move.2] at this; exact this
  le := fun v wx hf hv => by have := Least_any exT v wx hf hv; rw [ex_least.1, ex_least.2] at this; exact this
  nx := fun v wx hf hv => by have := Next_any exT v wx hf hv; rw [ex_next, ex_least.2] at this; exact this
  wa := fun v wx hf hv => by have := Way_any exT v 2 wx hf hv; rw [ex_way.1, ex_way.2] at this; exact this
  pa := fun v wx hf hv => by have := Paid_any exT v 1 wx hf hv; rw [ex_paid, ex_path.2] at this; exact this
  sc := fun v wx hf hv => by have := Script_any exT v wx hf hv; rw [ex_script, ex_blindE] at this; exact this
theorem five_steps {w : World} {V : Value} {a0 a1 a2 a3 a4 : BS} (h : StepsAt w V [a0, a1, a2, a3, a4]) : ∃ c b off, V = .slice (some ⟨b, off, none⟩) 5 c ∧ w.cell? ⟨b, off + 1 * 2, none⟩ = some (.int .i64 a1.k) ∧ w.cell? ⟨b, off + 1 * 2 + 1, none⟩ = some (.int .i64 a1.x) := by
  obtain ⟨a, c, b, off, rfl, ha, _, hc⟩ := h
  obtain ⟨h0, h1⟩ := hc 1 (by simp)
  rw [ha (by simp)]
  exact ⟨c, b, off, rfl, h0, h1⟩
theorem works_of {b : BT} (ha : Asks b) (w : World) (hf : FarAt w) : Calls Tryd.prog 16 #[] w fun e w' => e = .returned (.bool true) ∧ Bel w w' := by
  have HF := Lib.hid hf
  have HA := Lib.hid ha
  clear hf ha
  go_enter Tryd.func16, Tryd.ntmps16
  go_wp2_with fail
  refine (HA.out.ex _).mono ?_
  rintro e w1 ⟨v, rfl, hv, hb⟩
  have HB1 := Lib.hid (show Bel w w1 from Bel.trans (by repeat (first | assumption | exact Bel.refl _ | refine Bel.drew ?_ | refine Bel.drewN ?_ _ | refine Bel.alloc ?_ _ | refine Bel.setCell ?_ (by simp <;> omega) _ | refine Bel.trans ?_ (by assumption))) hb)
  have HV1 := Lib.hid hv
  obtain ⟨dv, sv, pv, rfl, ⟨da, dc, _, _, rfl, -⟩, ⟨sa, sc, _, _, rfl, -⟩, ⟨pa, pc, _, _, rfl, -⟩⟩ := hv
  have HBX := Lib.hid (fun wx hx => (BoxB.new (w := w1) (b := b) (dv := .slice da b.doors.length dc) (sv := .slice sa b.seen.length sc) (pv := .slice pa b.places.length pc) (T := 25)).bel (w' := wx) hx)
  clear hb
  go_wp2_with fail
  refine (HA.out.mv _ _ _ (HV1.out.bel (by repeat (first | assumption | exact Bel.refl _ | refine Bel.drew ?_ | refine Bel.drewN ?_ _ | refine Bel.alloc ?_ _ | refine Bel.setCell ?_ (by simp <;> omega) _ | refine Bel.trans ?_ (by assumption)))) (two_ints (by simp))).mono ?_
  rintro e w2 ⟨V2, rfl, hV2, hb⟩
  have HY2 := Lib.hid (HBX.out _ (Bel.trans ((Bel.refl _).alloc _) hb))
  have HK := Lib.hid (show Bel w1 w2 from Bel.trans (by repeat (first | assumption | exact Bel.refl _ | refine Bel.drew ?_ | refine Bel.drewN ?_ _ | refine Bel.alloc ?_ _ | refine Bel.setCell ?_ (by simp <;> omega) _ | refine Bel.trans ?_ (by assumption))) hb)
  have HB2 := Lib.hid (HB1.out.trans HK.out)
  have HV2 := Lib.hid (HV1.out.bel HK.out)
  have HI2 := Lib.hid hV2
  obtain ⟨y0, y1, y2, y3, y4, y5⟩ := HY2.out
  have ly := cell_lt y0
  clear hb hV2 HK HB1 HV1 HBX
  go_wp2_with fail
  refine (HA.out.le _ _ (HF.out.bel HB2.out) HV2.out).mono ?_
  rintro e w3 ⟨rfl, hb⟩
  have HK := Lib.hid hb
  have HY3 := Lib.hid (HY2.out.bel HK.out)
  have HB3 := Lib.hid (HB2.out.trans HK.out)
  have HV3 := Lib.hid (HV2.out.bel HK.out)
  have HI3 := Lib.hid (HI2.out.bel HK.out)
  clear y0 y1 y2 y3 y4 y5 ly
  obtain ⟨y0, y1, y2, y3, y4, y5⟩ := HY3.out
  have ly := cell_lt y0
  clear hb HK HB2 HV2 HY2 HI2
  go_wp2_with fail
  refine (HA.out.nx _ _ (HF.out.bel HB3.out) HV3.out).mono ?_
  rintro e w4 ⟨rfl, hb⟩
  have HK := Lib.hid hb
  have HY4 := Lib.hid (HY3.out.bel HK.out)
  have HB4 := Lib.hid (HB3.out.trans HK.out)
  have HV4 := Lib.hid (HV3.out.bel HK.out)
  have HI4 := Lib.hid (HI3.out.bel HK.out)
  clear y0 y1 y2 y3 y4 y5 ly
  obtain ⟨y0, y1, y2, y3, y4, y5⟩ := HY4.out
  have ly := cell_lt y0
  clear hb HK HB3 HV3 HY3 HI3
  go_wp2_with fail
  refine (HA.out.wa _ _ (HF.out.bel (HB4.out.trans (by repeat (first | assumption | exact Bel.refl _ | refine Bel.drew ?_ | refine Bel.drewN ?_ _ | refine Bel.alloc ?_ _ | refine Bel.setCell ?_ (by simp <;> omega) _ | refine Bel.trans ?_ (by assumption))))) (HV4.out.bel (by repeat (first | assumption | exact Bel.refl _ | refine Bel.drew ?_ | refine Bel.drewN ?_ _ | refine Bel.alloc ?_ _ | refine Bel.setCell ?_ (by simp <;> omega) _ | refine Bel.trans ?_ (by assumption))))).mono ?_
  rintro e w5 ⟨rfl, hb⟩
  have s0 : w5.cell? ⟨w4.heap.size, 0, none⟩ = some (.int .i64 2) := hb.cell ((row_facts (new_row rfl)).1 0)
  have s1 : w5.cell? ⟨w4.heap.size, 1, none⟩ = some (.int .i64 1) := hb.cell ((row_facts (new_row rfl)).1 1)
  have HK := Lib.hid (show Bel w4 w5 from Bel.trans (by repeat (first | assumption | exact Bel.refl _ | refine Bel.drew ?_ | refine Bel.drewN ?_ _ | refine Bel.alloc ?_ _ | refine Bel.setCell ?_ (by simp <;> omega) _ | refine Bel.trans ?_ (by assumption))) hb)
  have HY5 := Lib.hid (HY4.out.bel HK.out)
  have HB5 := Lib.hid (HB4.out.trans HK.out)
  have HV5 := Lib.hid (HV4.out.bel HK.out)
  have HI5 := Lib.hid (HI4.out.bel HK.out)
  clear y0 y1 y2 y3 y4 y5 ly
  obtain ⟨y0, y1, y2, y3, y4, y5⟩ := HY5.out
  have ly := cell_lt y0
  clear hb HK HB4 HV4 HY4 HI4
  go_wp2_with fail
  refine (HA.out.pa _ _ (HF.out.bel HB5.out) HV5.out).mono ?_
  rintro e w6 ⟨rfl, hb⟩
  replace s0 := hb.cell s0
  replace s1 := hb.cell s1
  have HK := Lib.hid hb
  have HY6 := Lib.hid (HY5.out.bel HK.out)
  have HB6 := Lib.hid (HB5.out.trans HK.out)
  have HV6 := Lib.hid (HV5.out.bel HK.out)
  have HI6 := Lib.hid (HI5.out.bel HK.out)
  clear y0 y1 y2 y3 y4 y5 ly
  obtain ⟨y0, y1, y2, y3, y4, y5⟩ := HY6.out
  have ly := cell_lt y0
  clear hb HK HB5 HV5 HY5 HI5
  go_wp2_with fail
  refine (HA.out.sc _ _ (HF.out.bel HB6.out) HV6.out).mono ?_
  rintro e w7 ⟨V7, rfl, hV7, hb⟩
  replace s0 := hb.cell s0
  replace s1 := hb.cell s1
  have ls := cell_lt s0
  have HB7 := Lib.hid (HB6.out.trans hb)
  have HI7 := Lib.hid (HI6.out.bel hb)
  obtain ⟨kc, kb, koff, rfl, k0, k1⟩ := five_steps hV7
  have hix := idxSteps (n := 5) (c := kc) (a := some ⟨kb, koff, none⟩) (b := kb) (off := koff) (fun _ => rfl)
  have hix1 := Lib.hid (fun wx => hix wx 1 (by omega))
  have lk := cell_lt k0
  have hI7 := HI7.out
  obtain ⟨ia, ic, ib, ioff, rfl, -⟩ := hI7
  clear y0 y1 y2 y3 y4 y5 ly hb hV7 HB6 HV6 HY6 HI6 HA HF
  go_wp2_with fail
  refine (same_02 _ _ _ (HI7.out.bel (by repeat (first | assumption | exact Bel.refl _ | refine Bel.drew ?_ | refine Bel.drewN ?_ _ | refine Bel.alloc ?_ _ | refine Bel.setCell ?_ (by simp <;> omega) _ | refine Bel.trans ?_ (by assumption)))) (two_ints rfl)).mono ?_
  rintro e w8 ⟨rfl, hb⟩
  have HK := Lib.hid (show Bel w7 w8 from Bel.trans (by repeat (first | assumption | exact Bel.refl _ | refine Bel.drew ?_ | refine Bel.drewN ?_ _ | refine Bel.alloc ?_ _ | refine Bel.setCell ?_ (by simp <;> omega) _ | refine Bel.trans ?_ (by assumption))) hb)
  replace s0 := HK.out.cell s0
  replace s1 := HK.out.cell s1
  replace k0 := HK.out.cell k0
  replace k1 := HK.out.cell k1
  have ls8 := cell_lt s0
  have lk8 := cell_lt k0
  replace hix1 := hix1.out w8
  have HB8 := Lib.hid (HB7.out.trans HK.out)
  clear hb HK hix
  go_wp2
  go_ret
  exact ⟨rfl, HB8.out⟩
theorem works_any (w : World) (hf : FarAt w) : Calls Tryd.prog 16 #[] w fun e w' => e = .returned (.bool true) ∧ Bel w w' := works_of asks_ex w hf
end Go.Proofs.YtogiidkofddhaaaDoor
