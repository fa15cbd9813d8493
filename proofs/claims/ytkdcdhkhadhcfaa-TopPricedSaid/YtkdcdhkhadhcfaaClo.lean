/-
  memory laws that the texts of beasts share; a range over a closure: what an iterator gives, and the law of the loop, whose rounds may write below and may leave it.
-/
import Derived.RangeFuncNested
import Derived.RangeFuncBound
import Derived.RangeFuncCalls
import Derived.RangeFuncLeaves
import Derived.RangeFuncBox
import Derived.Shelf.Abstract
import Derived.Shelf.RegionOpen
import Derived.WalkKit
import Derived.OwnWalk
import Derived.OwnWalkIn
import Derived.TacticsInMore
import Derived.LoopNIn
import Derived.LoopIn
import Derived.Test.YtkdcdhkhadhcfaaOwnI
import Derived.Test.YtkdcdhkhadhcfaaRef1
import Derived.Test.YtkdcdhkhadhcfaaAppend
import Derived.Test.YtkdcdhkhadhcfaaAppend2
namespace Go.Proofs.Ytkdcdhkhadhcfaa
open Go Go.RowKit Go.Shelf
set_option maxHeartbeats 1000000
set_option maxRecDepth 100000
theorem Bel.keeps {W W' : World} (h : Bel W W') : KeepsOthers W W' := ⟨h.szle, fun k _ hk _ => (h.below.block k (Array.getElem?_eq_some_iff.1 hk).1).trans hk⟩
/-- What a step keeps: each block of cells but those that D names. -/
structure KeepC (D : Nat → Prop) (W W' : World) : Prop where
  size : W.heap.size ≤ W'.heap.size
  block : ∀ (k : Nat) (o : Obj), ¬ D k → W.heap[k]? = some o → o.isCells = true → W'.heap[k]? = some o
theorem KeepC.t {D : Nat → Prop} {A B C : World} (h : KeepC D A B) (k : KeepC D B C) : KeepC D A C := ⟨Nat.le_trans h.size k.size, fun i o hd hi ho => k.block i o hd (h.block i o hd hi ho) ho⟩
theorem KeepC.r (D : Nat → Prop) (W : World) : KeepC D W W := ⟨Nat.le_refl _, fun _ _ _ h _ => h⟩
theorem KeepC.put {D : Nat → Prop} {W : World} {l : Nat} {o o' : Obj} (h : W.heap[l]? = some o) (ho : o.isCells = false) : KeepC D W (W.putObj l o') :=
  ⟨by simp, fun k q _ hk hq => (World.putObj_heap_other (fun e => by subst e; rw [h] at hk; cases hk; rw [ho] at hq; cases hq)).trans hk⟩
theorem KeepC.of_bel {D : Nat → Prop} {W W' : World} (h : Bel W W') : KeepC D W W' := ⟨h.szle, fun k _ _ hk _ => (h.below.block k (Array.getElem?_eq_some_iff.1 hk).1).trans hk⟩
theorem KeepC.more {D E : Nat → Prop} {W W' : World} (h : KeepC D W W') (hd : ∀ k, D k → E k) : KeepC E W W' := ⟨h.size, fun k o hk => h.block k o (fun q => hk (hd k q))⟩
theorem KeepC.cell {D : Nat → Prop} {W W' : World} (h : KeepC D W W') {p : Addr} {v : Value} (hd : ¬ D p.block) (hc : W.cell? p = some v) : W'.cell? p = some v := by
  obtain ⟨o, ho, hk⟩ := cells_of_cell hc
  exact (World.cell?_of_block ((h.block _ o hd ho hk).trans ho.symm)).trans hc
theorem KeepC.frozen {D : Nat → Prop} {W W' : World} (h : KeepC D W W') {p : Addr} {v : Value} (hd : ¬ D p.block) (hc : W.cell? p = some v) : W'.frozen? p = W.frozen? p := by
  obtain ⟨o, ho, hk⟩ := cells_of_cell hc
  unfold World.frozen?
  rw [h.block _ o hd ho hk, ho]
theorem KeepC.set {D : Nat → Prop} (W : World) (p : Addr) (v : Value) (hd : D p.block) : KeepC D W (W.setCell p v) :=
  ⟨by simp, fun k o hk ho _ => (heap_setCell_other _ _ _ _ (fun e => hk (by rw [e]; exact hd))).trans ho⟩
/-- A step that turns no block of cells, and none below B. -/
structure Quiet (B : Nat) (W W' : World) : Prop where
  keep : KeepC (fun _ => False) W W'
  below : Below B W W'
theorem Quiet.of_bel {B : Nat} {W W' : World} (hB : B ≤ W.heap.size) (h : Bel W W') : Quiet B W W' := ⟨KeepC.of_bel h, h.below.mono hB⟩
theorem Quiet.put {B : Nat} {W : World} {l : Nat} {o o' : Obj} (hB : B ≤ l) (h : W.heap[l]? = some o) (ho : o.isCells = false) : Quiet B W (W.putObj l o') :=
  ⟨KeepC.put h ho, ⟨rfl, rfl, rfl, by simp, fun k hk => World.putObj_heap_other (by omega)⟩⟩
variable {F : Fence} {n : Nat} {P : Program}
/-- What an iterator gives: the elements xs, one by one, each as values that read as it where they are handed over; a round may leave the loop. -/
def GivesTo {α : Type} (F : Fence) (n : Nat) (P : Program) (g : Nat) (lb : Array Value) (At : α → Array Value → World → Prop) (D : Nat → Prop) (xs : List α) (w : World) : Prop :=
  ∀ (l : Nat) (J Jx : List α → World → Prop) (W : World), KeepC (fun _ => False) w W → (∀ s A B, J s A → Bel A B → J s B) → (∀ s A B, Jx s A → Bel A B → Jx s B) →
    (∀ pre x vs W1, (∃ post, xs = pre ++ x :: post) → At x vs W1 → J pre W1 →
      YieldAt F (n - 1) P l vs W1 fun e W' => (e = .returned (.bool true) ∧ J (pre ++ [x]) W' ∧ KeepC D W1 W') ∨ (e = .returned (.bool false) ∧ Jx (pre ++ [x]) W')) →
    J [] W → CallsIn F n P g (#[.func (.yield l) #[] #[]] ++ lb) W fun e W' => (∃ v, e = .returned v) ∧ (J xs W' ∨ ∃ pre, Jx pre W')
theorem range_clo {α : Type} {g : Operand} {ps : Array Tmp} {assign body : Code} {Q : Exit → Act → World → Prop} {a : Act} {w : World}
    (hro : F.round = none) (h1 : 1 ≤ n) {gf : Nat} {lb : Array Value} (hg : a.eval g = .func (.func gf) #[] lb) (hFg : F.fn gf) (eg : ∀ args w, (callFunc gf args).run P w = .ok (.enter gf args) w)
    {At : α → Array Value → World → Prop} {D : Nat → Prop} {xs : List α} (hseq : GivesTo F (n - 1) P gf lb At D xs w) (hps : ∀ x vs W, At x vs W → vs.size = ps.size)
    (I Ix : List α → World → Prop) (hI : ∀ s A B, I s A → Quiet w.heap.size A B → I s B) (hIx : ∀ s A B, Ix s A → Quiet w.heap.size A B → Ix s B) (h0 : I [] w)
    (Ax : α → Act → World → Prop) (hAx : ∀ x a' A B, Ax x a' A → Quiet w.heap.size A B → Ax x a' B)
    (hassign : ∀ (l : Nat) (pre : List α) (x : α) (vs : Array Value) (W : World) (K : Act → World → Prop), At x vs W → I pre W → (∀ a' W', KeepsFrom w.heap.size W W' → KeepC D W W' → I pre W' → Ax x a' W' → K a' W') →
      assign.wpIn (F.inRound l) (n - 1 - 1) P (Exit.then K (fun _ _ _ => False)) { tmps := (ps.zip vs).foldl (fun t (p, v) => t.setIfInBounds p v) a.tmps, defers := [] } W)
    (hbody : ∀ (l : Nat) (pre : List α) (x : α) (a' : Act) (W : World), (∃ post, xs = pre ++ x :: post) → I pre W → Ax x a' W →
      body.wpIn (F.inRound l) (n - 1 - 1) P (fun e _ W' => (e = .normal ∧ KeepsFrom w.heap.size W W' ∧ KeepC D W W' ∧ I (pre ++ [x]) W') ∨ (e = .ret ∧ KeepsFrom w.heap.size W W' ∧ Ix (pre ++ [x]) W')) a' W)
    (hdone : ∀ (B : Nat) (W : World), w.heap.size ≤ B → I xs W → W.heap[B]? = some (.deferred (some [])) → Q .normal { a with defers := { target := .collected B, args := #[] } :: a.defers } W)
    (hstop : ∀ (B : Nat) (pre : List α) (W : World), w.heap.size ≤ B → Ix pre W → W.heap[B]? = some (.deferred (some [])) → Code.ret.wpIn F n P Q { a with defers := { target := .collected B, args := #[] } :: a.defers } W) :
    (Code.rangeFunc g ps assign body).wpIn F n P Q a w := by
  refine wpIn_rangeFunc fun fn hfn => ?_
  rw [hro]
  obtain ⟨R, hR⟩ : ∃ R : LoopState → Option Code → Loop, R = fun st pe => { state := st, pending := pe, fn, tmps := a.tmps, params := ps, assign, body, defers := w.heap.size } := ⟨_, rfl⟩
  obtain ⟨V, hV⟩ : ∃ V, V = (w.alloc (.deferred (some []))).alloc (.loop (R .ready none)) := ⟨_, rfl⟩
  have vl : V.heap[w.heap.size + 1]? = some (.loop (R .ready none)) := by
    have := World.alloc_heap_new (w.alloc (.deferred (some []))) (.loop (R .ready none))
    rw [World.size_alloc, ← hV] at this
    exact this
  have vd : V.heap[w.heap.size]? = some (.deferred (some [])) := by
    rw [hV]
    exact (Below.heap_alloc _ _ _ (by simp)).trans (World.alloc_heap_new w _)
  have vI : I [] V := hI _ _ _ h0 (Quiet.of_bel (Nat.le_refl _) (by rw [hV]; exact ((Bel.refl w).alloc _).alloc _))
  have vk : KeepC (fun _ => False) w V := by rw [hV]; exact KeepC.of_bel (((Bel.refl w).alloc _).alloc _)
  have vs : V.heap.size = w.heap.size + 2 := by rw [hV]; simp
  have run0 : (Instr.enterLoop fn a.tmps ps assign body none).run P w = .ok (w.heap.size + 1, [{ target := .collected w.heap.size, args := #[] }]) V := by
    rw [hV, hR]
    exact run_enterLoop_outer _ _ _ _ _
  let J : List α → World → Prop := fun pre W => I pre W ∧ W.heap[w.heap.size + 1]? = some (.loop (R .ready none)) ∧ W.heap[w.heap.size]? = some (.deferred (some []))
  let Jx : List α → World → Prop := fun pre W => Ix pre W ∧ W.heap[w.heap.size + 1]? = some (.loop (R .done (some .ret))) ∧ W.heap[w.heap.size]? = some (.deferred (some []))
  have keep : ∀ {A B : World}, Bel A B → ∀ k o, A.heap[k]? = some o → B.heap[k]? = some o := fun hb k o hk => (hb.below.block k (Array.getElem?_eq_some_iff.1 hk).1).trans hk
  have hJ : ∀ s A B, J s A → Bel A B → J s B := fun s A B hs hb => by
    have hlt := (Array.getElem?_eq_some_iff.1 hs.2.1).1
    exact ⟨hI _ _ _ hs.1 (Quiet.of_bel (by omega) hb), keep hb _ _ hs.2.1, keep hb _ _ hs.2.2⟩
  have hJx : ∀ s A B, Jx s A → Bel A B → Jx s B := fun s A B hs hb => by
    have hlt := (Array.getElem?_eq_some_iff.1 hs.2.1).1
    exact ⟨hIx _ _ _ hs.1 (Quiet.of_bel (by omega) hb), keep hb _ _ hs.2.1, keep hb _ _ hs.2.2⟩
  refine ⟨w.heap.size + 1, _, V, { target := .fn (.func gf) lb, args := #[.func (.yield (w.heap.size + 1)) #[] #[]] }, V, gf, #[.func (.yield (w.heap.size + 1)) #[] #[]] ++ lb, V, run0, ?_, ?_, ?_, fun _ => h1, ?_⟩
  · simp only [resolve, hg]
    simp [go_sem]
  · intro f' hf'
    simp [Target.leads] at hf'
    subst hf'
    exact hFg
  · simp [invoke, go_sem, eg]
  · refine (hseq (w.heap.size + 1) J Jx V vk hJ hJx (fun pre x vs W hx hat hj => ?_) ⟨vI, vl, vd⟩).mono ?_
    · obtain ⟨hi, hl, hd⟩ := hj
      have hy := run_yield (P := P) (args := vs) hl (by rw [hR]; exact hps x vs W hat)
      rw [hR] at hy
      refine ⟨fn, _, assign, body, hy, roundIn_of_wpIn hfn (hassign _ pre x vs W _ hat hi fun a' A hka hca hia hxa => ?_)⟩
      have al := hka.same _ _ (by omega) hl rfl
      have ad := hka.same _ _ (Nat.le_refl _) hd rfl
      have alt := (Array.getElem?_eq_some_iff.1 al).1
      refine ⟨_, run_beginRound al (by rw [hR]), ?_⟩
      obtain ⟨A2, hA2⟩ : ∃ A2, A2 = A.putObj (w.heap.size + 1) (.loop { R .ready none with state := .busy }) := ⟨_, rfl⟩
      rw [← hA2]
      have bl : A2.heap[w.heap.size + 1]? = some (.loop { R .ready none with state := .busy }) := by rw [hA2]; exact World.putObj_heap_same alt
      have bd : A2.heap[w.heap.size]? = some (.deferred (some [])) := by rw [hA2]; exact (World.putObj_heap_other (by omega)).trans ad
      have bi : I pre A2 := by rw [hA2]; exact hI _ _ _ hia (Quiet.put (by omega) al rfl)
      have bx : Ax x a' A2 := by rw [hA2]; exact hAx _ _ _ _ hxa (Quiet.put (by omega) al rfl)
      have bk : KeepC D A A2 := by rw [hA2]; exact KeepC.put al rfl
      refine wpIn_mono (hbody _ pre x a' A2 hx bi bx) ?_
      rintro e a3 C (⟨rfl, hk3, hc3, hi3⟩ | ⟨rfl, hk3, hi3⟩)
      · have cl := hk3.same _ _ (by omega) bl rfl
        have cd := hk3.same _ _ (Nat.le_refl _) bd rfl
        have hr := run_endRound (P := P) none cl
        rw [hR] at hr
        refine ⟨_, _, hr, .inl ⟨rfl, ⟨hI _ _ _ hi3 (Quiet.put (by omega) cl rfl), ?_, (World.putObj_heap_other (by omega)).trans cd⟩, hca.t (bk.t (hc3.t (KeepC.put cl rfl)))⟩⟩
        rw [World.putObj_heap_same (Array.getElem?_eq_some_iff.1 cl).1, hR]
        rfl
      · have cl := hk3.same _ _ (by omega) bl rfl
        have cd := hk3.same _ _ (Nat.le_refl _) bd rfl
        have hr := run_endRound (P := P) (some .ret) cl
        rw [hR] at hr
        refine ⟨_, _, hr, .inr ⟨rfl, hIx _ _ _ hi3 (Quiet.put (by omega) cl rfl), ?_, (World.putObj_heap_other (by omega)).trans cd⟩⟩
        rw [World.putObj_heap_same (Array.getElem?_eq_some_iff.1 cl).1, hR]
        rfl
    · rintro e C ⟨⟨v, rfl⟩, (⟨hi, hl, hd⟩ | ⟨pre, hi, hl, hd⟩)⟩
      · have he := run_endLoop (P := P) hl (by rw [hR]; simp)
        rw [hR] at he
        exact ⟨none, _, he, hdone _ _ (Nat.le_refl _) (hI _ _ _ hi (Quiet.put (by omega) hl rfl)) ((World.putObj_heap_other (by omega)).trans hd)⟩
      · have he := run_endLoop (P := P) hl (by rw [hR]; simp)
        rw [hR] at he
        exact ⟨some .ret, _, he, hstop _ pre _ (Nat.le_refl _) (hIx _ _ _ hi (Quiet.put (by omega) hl rfl)) ((World.putObj_heap_other (by omega)).trans hd)⟩
end Go.Proofs.Ytkdcdhkhadhcfaa
