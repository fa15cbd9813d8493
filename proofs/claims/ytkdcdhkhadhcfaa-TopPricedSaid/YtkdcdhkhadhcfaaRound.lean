/-
  a region that draws its order, inside a round of a range over a function; leaving a function with many marks of such loops.
-/
import Derived.Test.YtkdcdhkhadhcfaaClo
namespace Go.Proofs.Ytkdcdhkhadhcfaa
set_option linter.unusedVariables false
open Go Go.RowKit Go.Shelf
set_option maxHeartbeats 1000000
section
variable {P : Program} {ops : Array Oper} {md : Region.Mode} {l0 n : Nat}
theorem uponIn_round {o : Oper} {a : Act} {K K' : Act → World → Prop} {Q : Exit → Act → World → Prop} (hK : ∀ a w, K a w → K' a w) {r : Result Next} (h : o.upon P a K Q r) : o.uponIn (Fence.wide.inRound l0) n P a K' Q r := by
  cases r with
  | ok x w' =>
    cases x with
    | value v => exact hK _ _ h
    | skip => exact hK _ _ h
    | defer d => exact hK _ _ h
    | enter f args =>
      refine ⟨fun h => by simp [Fence.wide] at h, CallsIn.inRound l0 (callsIn_wide.2 (Calls.mono h fun e w'' he => ?_))⟩
      cases e with
      | returned v => exact hK _ _ he
      | panicked c => exact he
      | outgrown => exact he
    | row row args =>
      refine ⟨fun h => by simp [Fence.wide] at h, fun c cs _ => ?_⟩
      obtain ⟨v, w'', r1, s⟩ := h c cs
      exact ⟨v, w'', hK _ _ r1, stepsIn_wide.2 s⟩
    | _ => exact h.elim
  | halt x w' =>
    cases x <;> first | exact h | exact h.elim
theorem wpOpIn_round (hd : ∀ (i : Nat) (o : Oper) c, ops[i]? = some o → o.op ≠ Op.defer c) {Q : Exit → Act → World → Prop} (hQ : ¬ LetsOut Q) {i : Nat} {K K' : Act → World → Prop} (hK : ∀ a w, K a w → K' a w) {a : Act} {w : World}
    (h : wpOp P ops Q i K a w) : wpOpIn (Fence.wide.inRound l0) n P ops Q i K' a w := by
  unfold Go.wpOp at h
  unfold wpOpIn
  cases e : ops[i]? with
  | none => simp only [e] at h ⊢; exact hK _ _ h
  | some o =>
    simp only [e] at h ⊢
    by_cases hw : Region.wanted o (yielded ops a.tmps) = true
    · simp only [hw, if_true] at h ⊢
      rcases h with h | ⟨_, h⟩
      · refine ⟨fun f _ => trivial, ?_⟩
        rw [show (Fence.wide.inRound l0).round = some l0 from rfl, Oper.semAt_some l0 a.eval o (fun c => hd i o c e)]
        exact uponIn_round hK h
      · exact absurd h hQ
    · simp only [hw] at h ⊢
      exact ⟨fun f _ => trivial, hK _ _ h⟩
theorem wpAnyIn_round (hd : ∀ (i : Nat) (o : Oper) c, ops[i]? = some o → o.op ≠ Op.defer c) {Q : Exit → Act → World → Prop} (hQ : ¬ LetsOut Q) :
    ∀ (fuel : Nat) (listed : Array Bool) (a : Act) (w : World), wpAny P md ops Q fuel listed a w → wpAnyIn (Fence.wide.inRound l0) n P md ops Q fuel listed a w
  | 0, _, _, _, h => h
  | fuel + 1, listed, a, w, h => ⟨h.1, fun i hi => wpOpIn_round hd hQ (fun a w => wpAnyIn_round hd hQ fuel _ a w) (h.2 i hi)⟩
/-- Only the end without an exit. -/
def normOf (Q : Exit → Act → World → Prop) : Exit → Act → World → Prop
  | .normal, a, w => Q .normal a w
  | _, _, _ => False
def noDefer (l : List Oper) : Bool := l.all fun o => match o.op with | .defer _ => false | _ => true
theorem noDefer_spec {l : List Oper} (h : noDefer l = true) : ∀ (i : Nat) (o : Oper) c, l.toArray[i]? = some o → o.op ≠ Op.defer c := fun i o c ho e => by
  have := List.all_eq_true.1 h o (by simp at ho; exact List.mem_of_getElem? ho)
  rw [e] at this
  cases this
theorem mix_nilR {C : World → Prop} {Q : Exit → Act → World → Prop} {a : Act} {w : World} (h : Q .normal a w) : wpMix P ops C (quietQ (normOf Q)) .nil a w := h
theorem wpIn_round_mixC {Q : Exit → Act → World → Prop} {id : Nat} {a : Act} {w : World} {l : List Oper} (p : Plan) (C : World → Prop) (hm : P.follows .mixedOrders = true)
    (hB : (Region.noSelect l.toArray && p.ok .any l.toArray l.length (Array.replicate l.length false)) = true) (hD : noDefer l = true)
    (hC : C w.drew) (h : C w.drew → wpMix P l.toArray C (quietQ (normOf Q)) (p.fill l) a w.drew) : (Code.region id l.toArray true).wpIn (Fence.wide.inRound l0) n P Q a w := by
  simp only [Bool.and_eq_true] at hB
  have H := wpAnyC_of_mix (P := P) (md := .any) (C := C) (Q := quietQ (normOf Q)) hB.1 (fun d v c a w h => h) p l.length _ a w.drew hB.2 hC (h hC)
  have H1 := wpAny_of_class _ _ _ _ H
  have H2 : (Code.region id l.toArray true).wpIn (Fence.wide.inRound l0) n P (quietQ (normOf Q)) a w := by
    refine wpIn_region_any hm ?_
    have := wpAnyIn_round (l0 := l0) (n := n) (noDefer_spec hD) (Q := quietQ (normOf Q)) (fun ⟨a, w, h⟩ => h) _ _ _ _ H1
    simpa using this
  exact Go.wpIn_mono H2 (fun e a w he => by cases e <;> first | exact he | exact he.elim)
theorem wpIn_round_mixB {Q : Exit → Act → World → Prop} {id : Nat} {a : Act} {w : World} {l : List Oper} (p : Plan) (hm : P.follows .mixedOrders = true)
    (hB : (Region.noSelect l.toArray && p.ok .any l.toArray l.length (Array.replicate l.length false)) = true) (hD : noDefer l = true)
    (h : Bel w w.drew → wpMix P l.toArray (Bel w) (quietQ (normOf Q)) (p.fill l) a w.drew) : (Code.region id l.toArray true).wpIn (Fence.wide.inRound l0) n P Q a w :=
  wpIn_round_mixC p (Bel w) hm hB hD (Bel.drew (Bel.refl w)) h
end
/-! Marks -/
/-- Deferred marks, each a block of its own below top. -/
def Marks (base : Nat) (w : World) : List Deferred → Nat → Prop
  | [], _ => True
  | d :: ds, top => ∃ D, d = { target := .collected D, args := #[] } ∧ base ≤ D ∧ D < top ∧ w.heap[D]? = some (.deferred (some [])) ∧ Marks base w ds D
theorem Marks.keep {base : Nat} {w w' : World} : ∀ {ds : List Deferred} {top : Nat}, Marks base w ds top → (∀ k, base ≤ k → k < top → w.heap[k]? = some (.deferred (some [])) → w'.heap[k]? = some (.deferred (some []))) → Marks base w' ds top
  | [], _, _, _ => trivial
  | d :: ds, top, ⟨D, h1, h2, h3, h4, h5⟩, hk => ⟨D, h1, h2, h3, hk D h2 h3 h4, h5.keep fun k k1 k2 k3 => hk k k1 (by omega) k3⟩
theorem Marks.top {base : Nat} {w : World} : ∀ {ds : List Deferred} {top top' : Nat}, Marks base w ds top → top ≤ top' → Marks base w ds top'
  | [], _, _, _, _ => trivial
  | d :: ds, top, top', ⟨D, h1, h2, h3, h4, h5⟩, h => ⟨D, h1, h2, by omega, h4, h5⟩
/-- A function leaves past its marks: each is a step that shuts its block. -/
theorem leaves_marks {F : Fence} {n : Nat} {P : Program} {fn : Func} {tmps : Array Value} {R : Ending → World → Prop} {base : Nat} : ∀ {ds : List Deferred} {top : Nat} {w : World}, Marks base w ds top →
    (∀ w', KeepC (fun _ => False) w w' → Below base w w' → (∀ (k : Nat) (es : Array MapEntry) (c : Nat), w.heap[k]? = some (.map es c) → w'.heap[k]? = some (.map es c)) → LeavesIn F n P fn tmps R [] .returning w') → LeavesInM F n P fn tmps R ds .returning w
  | [], _, w, _, h => h w (KeepC.r _ _) (Below.refl _ _) fun _ _ _ h => h
  | d :: ds, top, w, ⟨D, h1, h2, h3, h4, h5⟩, h => by
    refine ⟨by simp, .inl ⟨D, w.putObj D (.deferred none), by rw [h1], run_takeDeferred h4, ?_⟩⟩
    have hb : Below base w (w.putObj D (.deferred none)) := ⟨rfl, rfl, rfl, by simp, fun k hk => World.putObj_heap_other (by omega)⟩
    refine leaves_marks (base := base) (h5.keep fun k k1 k2 k3 => (World.putObj_heap_other (by omega)).trans k3) fun w' hk hb' hm => ?_
    exact h w' ((KeepC.put h4 rfl).t hk) (hb.trans hb') fun k es c hc => hm k es c ((World.putObj_heap_other (fun e => by subst e; rw [h4] at hc; cases hc)).trans hc)
end Go.Proofs.Ytkdcdhkhadhcfaa
