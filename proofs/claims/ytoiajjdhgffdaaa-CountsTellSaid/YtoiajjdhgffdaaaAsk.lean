/-
  counts: Ask.
-/
import Derived.Test.YtoiajjdhgffdaaaBack
import Derived.Test.YtoiajjdhgffdaaaFollows
import Derived.Test.YtoiajjdhgffdaaaPlain
import Derived.Test.YtoiajjdhgffdaaaTell2
namespace Go.Proofs.Ytoiajjdhgffdaaa
open Go Go.RowKit Go.Shelf
set_option maxHeartbeats 1000000
set_option maxRecDepth 100000
/-- What a round keeps: each block of cells but those that D names. -/
structure KeepC (D : Nat → Prop) (W W' : World) : Prop where
  size : W.heap.size ≤ W'.heap.size
  block : ∀ (k : Nat) (o : Obj), ¬ D k → W.heap[k]? = some o → o.isCells = true → W'.heap[k]? = some o
theorem KeepC.t {D : Nat → Prop} {A B C : World} (h : KeepC D A B) (k : KeepC D B C) : KeepC D A C := ⟨Nat.le_trans h.size k.size, fun i o hd hi ho => k.block i o hd (h.block i o hd hi ho) ho⟩
theorem KeepC.r (D : Nat → Prop) (W : World) : KeepC D W W := ⟨Nat.le_refl _, fun _ _ _ h _ => h⟩
theorem KeepC.put {D : Nat → Prop} {W : World} {l : Nat} {o o' : Obj} (h : W.heap[l]? = some o) (ho : o.isCells = false) : KeepC D W (W.putObj l o') :=
  ⟨by simp, fun k q _ hk hq => (World.putObj_heap_other (fun e => by subst e; rw [h] at hk; cases hk; rw [ho] at hq; cases hq)).trans hk⟩
theorem KeepC.of_bel {D : Nat → Prop} {W W' : World} (h : Bel W W') : KeepC D W W' := ⟨h.szle, fun k _ _ hk _ => (h.below.block k (Array.getElem?_eq_some_iff.1 hk).1).trans hk⟩
theorem KeepC.cell {D : Nat → Prop} {W W' : World} (h : KeepC D W W') {p : Addr} {v : Value} (hd : ¬ D p.block) (hc : W.cell? p = some v) : W'.cell? p = some v := by
  obtain ⟨o, ho, hk⟩ := cells_of_cell hc
  exact (World.cell?_of_block ((h.block _ o hd ho hk).trans ho.symm)).trans hc
theorem KeepC.set {D : Nat → Prop} (W : World) (p : Addr) (v : Value) (hd : D p.block) : KeepC D W (W.setCell p v) :=
  ⟨by simp, fun k o hk ho _ => (heap_setCell_other _ _ _ _ (fun e => hk (by rw [e]; exact hd))).trans ho⟩
variable {F : Fence} {n : Nat} {P : Program}
/-- A step that turns no block of cells, and none below B. -/
structure Quiet (B : Nat) (W W' : World) : Prop where
  keep : KeepC (fun _ => False) W W'
  below : Below B W W'
theorem Quiet.of_bel {B : Nat} {W W' : World} (hB : B ≤ W.heap.size) (h : Bel W W') : Quiet B W W' := ⟨KeepC.of_bel h, h.below.mono hB⟩
theorem Quiet.put {B : Nat} {W : World} {l : Nat} {o o' : Obj} (hB : B ≤ l) (h : W.heap[l]? = some o) (ho : o.isCells = false) : Quiet B W (W.putObj l o') :=
  ⟨KeepC.put h ho, ⟨rfl, rfl, rfl, by simp, fun k hk => World.putObj_heap_other (by omega)⟩⟩
/-- What an iterator with a receiver gives. -/
def GivesAll {α : Type} (F : Fence) (n : Nat) (P : Program) (g : Nat) (rcv : Value) (encs : α → Array Value) (G : α → Prop) (D : Nat → Prop) (xs : List α) (w : World) : Prop :=
  ∀ (l : Nat) (J : List α → World → Prop) (W : World), KeepC (fun _ => False) w W → (∀ s A B, J s A → Bel A B → J s B) →
    (∀ pre x W1, G x → J pre W1 → YieldAt F (n - 1) P l (encs x) W1 fun e W' => e = .returned (.bool true) ∧ J (pre ++ [x]) W' ∧ KeepC D W1 W') →
    J [] W → CallsIn F n P g #[rcv, .func (.yield l) #[] #[]] W fun e W' => (∃ v, e = .returned v) ∧ J xs W'
theorem range_recv {α : Type} {g : Operand} {ps : Array Tmp} {assign body : Code} {Q : Exit → Act → World → Prop} {a : Act} {w : World}
    (hro : F.round = none) (h1 : 1 ≤ n) {gf : Nat} {rcv : Value} (hg : a.eval g = .func (.func gf) #[rcv] #[]) (hFg : F.fn gf) (eg : ∀ args w, (callFunc gf args).run P w = .ok (.enter gf args) w)
    {encs : α → Array Value} {G : α → Prop} {D : Nat → Prop} {xs : List α} (hseq : GivesAll F (n - 1) P gf rcv encs G D xs w) (hps : ∀ x, (encs x).size = ps.size)
    (I : List α → World → Prop) (hI : ∀ s A B, I s A → Quiet w.heap.size A B → I s B) (h0 : I [] w) (Ax : α → Act → World → Prop) (hAx : ∀ x a' A B, Ax x a' A → Quiet w.heap.size A B → Ax x a' B)
    (hassign : ∀ (l : Nat) (pre : List α) (x : α) (W : World) (K : Act → World → Prop), I pre W → (∀ a' W', KeepsFrom w.heap.size W W' → KeepC D W W' → I pre W' → Ax x a' W' → K a' W') →
      assign.wpIn (F.inRound l) (n - 1 - 1) P (Exit.then K (fun _ _ _ => False)) { tmps := (ps.zip (encs x)).foldl (fun t (p, v) => t.setIfInBounds p v) a.tmps, defers := [] } W)
    (hbody : ∀ (l : Nat) (pre : List α) (x : α) (a' : Act) (W : World), G x → I pre W → Ax x a' W →
      body.wpIn (F.inRound l) (n - 1 - 1) P (fun e _ W' => e = .normal ∧ KeepsFrom w.heap.size W W' ∧ KeepC D W W' ∧ I (pre ++ [x]) W') a' W)
    (hdone : ∀ (B : Nat) (W : World), w.heap.size ≤ B → I xs W → W.heap[B]? = some (.deferred (some [])) → Q .normal { a with defers := { target := .collected B, args := #[] } :: a.defers } W) :
    (Code.rangeFunc g ps assign body).wpIn F n P Q a w := by
  refine wpIn_rangeFunc fun fn hfn => ?_
  rw [hro]
  obtain ⟨R, hR⟩ : ∃ R : LoopState → Loop, R = fun st => { state := st, pending := none, fn, tmps := a.tmps, params := ps, assign, body, defers := w.heap.size } := ⟨_, rfl⟩
  have hst : ∀ st, (R st).state = st := fun st => by rw [hR]
  obtain ⟨V, hV⟩ : ∃ V, V = (w.alloc (.deferred (some []))).alloc (.loop (R .ready)) := ⟨_, rfl⟩
  have vl : V.heap[w.heap.size + 1]? = some (.loop (R .ready)) := by
    have := World.alloc_heap_new (w.alloc (.deferred (some []))) (.loop (R .ready))
    rw [World.size_alloc, ← hV] at this
    exact this
  have vd : V.heap[w.heap.size]? = some (.deferred (some [])) := by
    rw [hV]
    exact (Below.heap_alloc _ _ _ (by simp)).trans (World.alloc_heap_new w _)
  have vI : I [] V := hI _ _ _ h0 (Quiet.of_bel (Nat.le_refl _) (by rw [hV]; exact ((Bel.refl w).alloc _).alloc _))
  have vk : KeepC (fun _ => False) w V := by rw [hV]; exact KeepC.of_bel (((Bel.refl w).alloc _).alloc _)
  have vs : V.heap.size = w.heap.size + 2 := by rw [hV]; simp
  have run0 : (Instr.enterLoop fn a.tmps ps assign body none).run P w = .ok (w.heap.size + 1, [{ target := .collected w.heap.size, args := #[] }]) V := by
    rw [hV, hR]
    exact run_enterLoop_outer _ _ _ _ _
  let J : List α → World → Prop := fun pre W => I pre W ∧ W.heap[w.heap.size + 1]? = some (.loop (R .ready)) ∧ W.heap[w.heap.size]? = some (.deferred (some []))
  have hJ : ∀ s A B, J s A → Bel A B → J s B := fun s A B hs hb => by
    have keep : ∀ k o, A.heap[k]? = some o → B.heap[k]? = some o := fun k o hk => (hb.below.block k (Array.getElem?_eq_some_iff.1 hk).1).trans hk
    have hlt := (Array.getElem?_eq_some_iff.1 hs.2.1).1
    exact ⟨hI _ _ _ hs.1 (Quiet.of_bel (by omega) hb), keep _ _ hs.2.1, keep _ _ hs.2.2⟩
  refine ⟨w.heap.size + 1, _, V, { target := .fn (.func gf) #[], args := #[rcv, .func (.yield (w.heap.size + 1)) #[] #[]] }, V, gf, #[rcv, .func (.yield (w.heap.size + 1)) #[] #[]], V, run0, ?_, ?_, ?_, fun _ => h1, ?_⟩
  · simp only [resolve, hg]
    simp [go_sem]
  · intro f' hf'
    simp [Target.leads] at hf'
    subst hf'
    exact hFg
  · simp [invoke, go_sem, eg]
  · refine (hseq (w.heap.size + 1) J V vk hJ (fun pre x W hx hj => ?_) ⟨vI, vl, vd⟩).mono ?_
    · obtain ⟨hi, hl, hd⟩ := hj
      have hy := run_yield (P := P) (args := encs x) hl (by rw [hR]; exact hps x)
      rw [hR] at hy
      refine ⟨fn, _, assign, body, hy, roundIn_of_wpIn hfn (hassign _ pre x W _ hi fun a' A hka hca hia hxa => ?_)⟩
      have al := hka.same _ _ (by omega) hl rfl
      have ad := hka.same _ _ (Nat.le_refl _) hd rfl
      have alt := (Array.getElem?_eq_some_iff.1 al).1
      refine ⟨_, run_beginRound al (hst _), ?_⟩
      obtain ⟨A2, hA2⟩ : ∃ A2, A2 = A.putObj (w.heap.size + 1) (.loop { R .ready with state := .busy }) := ⟨_, rfl⟩
      rw [← hA2]
      have bl : A2.heap[w.heap.size + 1]? = some (.loop { R .ready with state := .busy }) := by rw [hA2]; exact World.putObj_heap_same alt
      have bd : A2.heap[w.heap.size]? = some (.deferred (some [])) := by rw [hA2]; exact (World.putObj_heap_other (by omega)).trans ad
      have bi : I pre A2 := by rw [hA2]; exact hI _ _ _ hia (Quiet.put (by omega) al rfl)
      have bx : Ax x a' A2 := by rw [hA2]; exact hAx _ _ _ _ hxa (Quiet.put (by omega) al rfl)
      have bk : KeepC D A A2 := by rw [hA2]; exact KeepC.put al rfl
      refine wpIn_mono (hbody _ pre x a' A2 hx bi bx) ?_
      rintro e a3 C ⟨rfl, hk3, hc3, hi3⟩
      have cl := hk3.same _ _ (by omega) bl rfl
      have cd := hk3.same _ _ (Nat.le_refl _) bd rfl
      refine ⟨_, _, run_endRound none cl, rfl, ⟨hI _ _ _ hi3 (Quiet.put (by omega) cl rfl), ?_, (World.putObj_heap_other (by omega)).trans cd⟩, hca.t (bk.t (hc3.t (KeepC.put cl rfl)))⟩
      rw [World.putObj_heap_same (Array.getElem?_eq_some_iff.1 cl).1, hR]
      rfl
    · rintro e C ⟨⟨v, rfl⟩, hi, hl, hd⟩
      have he := run_endLoop (P := P) hl (by rw [hst]; simp)
      have hp : (R .ready).pending = none := by rw [hR]
      rw [hp] at he
      exact ⟨none, _, he, hdone _ _ (Nat.le_refl _) (hI _ _ _ hi (Quiet.put (by omega) hl rfl)) ((World.putObj_heap_other (by omega)).trans hd)⟩
end Go.Proofs.Ytoiajjdhgffdaaa
namespace Go.Proofs.Ytoiajjdhgffdaaa
open Go Go.RowKit Go.Shelf
attribute [local go_sem] Oper.semAt_some
set_option maxHeartbeats 4000000
set_option maxRecDepth 100000
/-- The places of a row, up to chamber c, but the last place of all. -/
def rowTo (C T i : Nat) : Nat → List (Nat × Nat)
  | 0 => []
  | c + 1 => if i + 1 = T ∧ c + 1 = C then rowTo C T i c else rowTo C T i c ++ [(i, c)]
def plTo (C T : Nat) : Nat → List (Nat × Nat)
  | 0 => []
  | i + 1 => plTo C T i ++ rowTo C T i C
theorem rowTo_last {C T i c : Nat} (h : i + 1 = T ∧ c + 1 = C) : rowTo C T i (c + 1) = rowTo C T i c := by show (if i + 1 = T ∧ c + 1 = C then _ else _) = _; rw [if_pos h]
theorem rowTo_step {C T i c : Nat} (h : ¬ (i + 1 = T ∧ c + 1 = C)) : rowTo C T i (c + 1) = rowTo C T i c ++ [(i, c)] := by show (if i + 1 = T ∧ c + 1 = C then _ else _) = _; rw [if_neg h]
def encP (x : Nat × Nat) : Value := .agg #[.int .i64 (x.1 : Int), .int .i64 (x.2 : Int)]
theorem places_in (n : Nat) (hn : 1 ≤ n) (tb C T : Nat) (hC1 : 1 ≤ C) (hC2 : C ≤ 4) (hT1 : 1 ≤ T) (hT2 : T ≤ 5) (D : Nat → Prop) (wz : World) (hDt : ¬ D tb) (hD : ∀ k, D k → k < wz.heap.size)
    (c0 : wz.cell? ⟨tb, 0, none⟩ = some (.int .i64 (C : Int))) (c1 : wz.cell? ⟨tb, 1, none⟩ = some (.int .i64 (T : Int))) :
    GivesAll Fence.wide n Try.prog 89 (.pointer (some ⟨tb, 0, none⟩)) (fun x => #[encP x]) (fun x => x.1 < T ∧ x.2 < C) D (plTo C T T) wz := by
  intro l J w hW hJ hY h0
  replace c0 := hW.cell (fun h => h) c0
  replace c1 := hW.cell (fun h => h) c1
  replace hD : ∀ k, D k → k < w.heap.size := fun k h => Nat.lt_of_lt_of_le (hD k h) hW.size
  have hlt := cell_lt c0
  have hw1 : IntKind.i64.wrap ((T : Int) - 1) = (T : Int) - 1 := IntWalk.i64_in _ (by omega)
  have hw2 : IntKind.i64.wrap ((C : Int) - 1) = (C : Int) - 1 := IntWalk.i64_in _ (by omega)
  have HD := Lib.hid hD
  have HJ := Lib.hid hJ
  have HY := Lib.hid hY
  have H0 := Lib.hid h0
  clear hW hD hJ hY h0
  refine callsIn_of_wp Try.func89 rfl trivial ?_ rfl
  simp only [Try.ntmps89, List.size_toArray, List.length_cons, List.length_nil, Nat.reduceAdd, Nat.reduceSub, Array.replicate_succ, Array.replicate_zero, List.push_toArray, List.append_toArray, List.nil_append, List.cons_append]
  gi_wp2
  refine wpIn_wide.2 ?_
  refine wp_region_mixTB (Plan.seq [0, 1, 2, 3, 4, 5, 6, 7, 8, 9, 10, 11, 12, 1013] .nil) (by kernel_rfl) (by kernel_rfl) (fun hcur => ?_)
  simp only [Plan.seq, Plan.fill, List.getD_cons_zero, List.getD_cons_succ, Nat.reduceLT, ↓reduceIte, Nat.reduceSub]
  apply mix_pure _ rfl
  · intro w' hw'
    have hcr := hw'.cells
    go_simp
    rfl
  intro K hK
  go_simp
  refine hK _ ?_
  clear hK K
  apply mix_pure _ rfl
  · intro w' hw'
    have hcr := hw'.cells
    go_simp
    rfl
  intro K hK
  go_simp
  refine hK _ ?_
  clear hK K
  apply mix_pure _ rfl
  · intro w' hw'
    have hcr := hw'.cells
    go_simp
    rfl
  intro K hK
  go_simp
  refine hK _ ?_
  clear hK K
  apply mix_pure _ rfl
  · intro w' hw'
    have hcr := hw'.cells
    go_simp
    rfl
  intro K hK
  go_simp
  refine hK _ ?_
  clear hK K
  apply mix_pure _ rfl
  · intro w' hw'
    have hcr := hw'.cells
    go_simp
    rfl
  intro K hK
  go_simp
  refine hK _ ?_
  clear hK K
  apply mix_pure _ rfl
  · intro w' hw'
    have hcr := hw'.cells
    go_simp
    first | (rw [IntWalk.i64_in]; all_goals first | omega | rfl) | rfl
  intro K hK
  go_simp
  refine hK _ ?_
  clear hK K
  apply mix_pure _ rfl
  · intro w' hw'
    have hcr := hw'.cells
    go_simp
    rfl
  intro K hK
  go_simp
  refine hK _ ?_
  clear hK K
  apply mix_pure _ rfl
  · intro w' hw'
    have hcr := hw'.cells
    go_simp
    rfl
  intro K hK
  go_simp
  refine hK _ ?_
  clear hK K
  apply mix_pure _ rfl
  · intro w' hw'
    have hcr := hw'.cells
    go_simp
    rfl
  intro K hK
  go_simp
  refine hK _ ?_
  clear hK K
  apply mix_pure _ rfl
  · intro w' hw'
    have hcr := hw'.cells
    go_simp
    rfl
  intro K hK
  go_simp
  refine hK _ ?_
  clear hK K
  apply mix_pure _ rfl
  · intro w' hw'
    have hcr := hw'.cells
    go_simp
    rfl
  intro K hK
  go_simp
  refine hK _ ?_
  clear hK K
  apply mix_pure _ rfl
  · intro w' hw'
    have hcr := hw'.cells
    go_simp
    first | (rw [IntWalk.i64_in]; all_goals first | omega | rfl) | rfl
  intro K hK
  go_simp
  refine hK _ ?_
  clear hK K
  apply mix_pure _ rfl
  · intro w' hw'
    have hcr := hw'.cells
    go_simp
    rfl
  intro K hK
  go_simp
  refine hK _ ?_
  clear hK K
  refine mix_act rfl (fun K hK => ?_)
  go_simp
  refine hK _ _ (by repeat (first | assumption | exact Bel.refl _ | refine Bel.drew ?_ | refine Bel.drewN ?_ _ | refine Bel.alloc ?_ _ | refine Bel.setCell ?_ (by simp <;> omega) _ | refine Bel.trans ?_ (by assumption))) (fun hcur => ?_)
  clear hK K
  refine mix_tailK rfl (fun K hK => ?_)
  go_simp
  refine hK _ _ ?_
  clear hK K
  go_simp
  gi_wp2
  generalize hW0 : World.drew _ = W0
  have hB0 : Bel w W0 := by rw [← hW0]; exact ((Bel.refl w).alloc _).drew
  have z0 : W0.heap.size = w.heap.size + 1 := by rw [← hW0]; simp
  have l0 : W0.cell? ⟨w.heap.size, 0, none⟩ = some (.int .i64 ((T : Int) - 1)) := by rw [← hW0]; simp
  have l1 : W0.cell? ⟨w.heap.size, 1, none⟩ = some (.int .i64 ((C : Int) - 1)) := by rw [← hW0]; simp
  have g0 := hB0.cell c0
  have g1 := hB0.cell c1
  have hDl : ¬ D w.heap.size := fun h => by have := HD.out _ h; omega
  have HJ0 := Lib.hid (HJ.out _ _ _ H0.out hB0)
  clear hW0 hcur c0 c1 hB0 hw1 hw2
  generalize Value.agg #[Value.int IntKind.i64 ((T : Int) - 1), Value.int IntKind.i64 ((C : Int) - 1)] = v20
  generalize Value.int IntKind.i64 ((T : Int) - 1) = v13
  generalize Value.int IntKind.i64 ((C : Int) - 1) = v19
  gi_loopw [26] (fun i wr => ∃ k : Nat, k ≤ T ∧ i = .int .i64 k ∧ J (plTo C T k) wr ∧ KeepC D W0 wr) (fun i _ => T - (intOf i).toNat)
  case atStart => exact ⟨0, by omega, rfl, HJ0.out, KeepC.r _ _⟩
  case round =>
    obtain ⟨k, hk, rfl, hj, hkc⟩ := hrel
    have HJr := Lib.hid hj
    have HK := Lib.hid hkc
    have c0 := hkc.cell hDt g0
    have c1 := hkc.cell hDt g1
    clear hj hkc
    by_cases hlt2 : k < T
    · have hlti : (k : Int) < (T : Int) := by omega
      gi_wp2
      gi_loopw [34] (fun c wi => ∃ m : Nat, m ≤ C ∧ c = .int .i64 m ∧ J (plTo C T k ++ rowTo C T k m) wi ∧ KeepC D W0 wi) (fun c _ => C - (intOf c).toNat)
      case atStart => exact ⟨0, by omega, rfl, by show J (plTo C T k ++ []) _; rw [List.append_nil]; exact HJr.out, HK.out⟩
      case round =>
        clear c0 c1
        obtain ⟨m, hm, rfl, hj, hkc⟩ := hrel
        by_cases hltm : m < C
        · have hltmi : (m : Int) < (C : Int) := by omega
          have y0 := hkc.cell hDl l0
          have y1 := hkc.cell hDl l1
          have HJi := Lib.hid hj
          have HKi := Lib.hid hkc
          have hszi : w.heap.size < wr.heap.size := by have := hkc.size; omega
          have hne : w.heap.size ≠ wr.heap.size := by omega
          clear hj hkc
          by_cases hlast : k + 1 = T ∧ m + 1 = C
          · have e1 : (T : Int) - 1 = (k : Int) := by omega
            have e2 : (C : Int) - 1 = (m : Int) := by omega
            rw [e1] at y0
            rw [e2] at y1
            have HR := Lib.hid (rowTo_last (C := C) (T := T) (i := k) (c := m) hlast)
            gi_wp2
            refine ⟨fun f h => trivial, ?_⟩
            gi_wp2
            exact ⟨⟨m + 1, by omega, by go_num, by rw [HR.out]; exact HJ.out _ _ _ HJi.out ((Bel.refl _).alloc _), HKi.out.t (KeepC.of_bel ((Bel.refl _).alloc _))⟩, by simp [intOf]; omega⟩
          · have HR := Lib.hid (rowTo_step (C := C) (T := T) (i := k) (c := m) hlast)
            obtain ⟨W1, hW1⟩ : ∃ W1, W1 = wr.alloc (.cells #[.int .i64 (k : Int), .int .i64 (m : Int)] 27) := ⟨_, rfl⟩
            have hB1 : Bel wr W1 := by rw [hW1]; exact (Bel.refl wr).alloc _
            obtain ⟨fn, tmps, assign, body, hy, hRd⟩ := HY.out _ (k, m) W1 ⟨hlt2, hltm⟩ (HJ.out _ _ _ HJi.out hB1)
            have HRd := Lib.hid hRd
            dsimp only [encP] at hy
            rw [hW1] at hy
            have HW1 := Lib.hid hW1
            have HB1 := Lib.hid hB1
            have HL := Lib.hid hlast
            clear hRd hW1 hB1
            by_cases ek : k + 1 = T
            · have e1 : (T : Int) - 1 = (k : Int) := by omega
              have n1 : ¬ (m : Int) = (C : Int) - 1 := by omega
              have n2 : ((m : Int) == (C : Int) - 1) = false := by simpa using n1
              rw [e1] at y0
              clear hlast
              gi_wp2
              rw [← HW1.out]
              refine HRd.out.mono ?_
              rintro e W3 ⟨rfl, hJ3, hk3⟩
              have HJ3 := Lib.hid hJ3
              have HK3 := Lib.hid (HKi.out.t ((KeepC.of_bel HB1.out).t hk3))
              clear hJ3 hk3
              gi_wp2
              exact ⟨⟨m + 1, by omega, by go_num, by rw [HR.out, ← List.append_assoc]; exact HJ3.out, HK3.out⟩, by simp [intOf]; omega⟩
            · have n1 : ¬ (k : Int) = (T : Int) - 1 := by omega
              have n2 : ((k : Int) == (T : Int) - 1) = false := by simpa using n1
              clear hlast
              gi_wp2
              rw [← HW1.out]
              refine HRd.out.mono ?_
              rintro e W3 ⟨rfl, hJ3, hk3⟩
              have HJ3 := Lib.hid hJ3
              have HK3 := Lib.hid (HKi.out.t ((KeepC.of_bel HB1.out).t hk3))
              clear hJ3 hk3
              gi_wp2
              exact ⟨⟨m + 1, by omega, by go_num, by rw [HR.out, ← List.append_assoc]; exact HJ3.out, HK3.out⟩, by simp [intOf]; omega⟩
        · obtain rfl : m = C := by omega
          gi_wp2
          exact ⟨⟨k + 1, by omega, by go_num, hj, hkc⟩, by simp [intOf]; omega⟩
    · obtain rfl : k = T := by omega
      gi_wp2
      go_end0
      exact ⟨⟨_, rfl⟩, HJr.out⟩
end Go.Proofs.Ytoiajjdhgffdaaa
namespace Go.Proofs.Ytoiajjdhgffdaaa
open Go Go.RowKit Go.Shelf
attribute [local go_sem] Oper.semAt_some
set_option maxHeartbeats 4000000
set_option maxRecDepth 100000
/-- What Ask keeps: the best place so far, and what Tell says of it (-1: none yet). -/
noncomputable def askStep (t : CT) (s : (Int × Int) × Int) (x : Nat × Nat) : (Int × Int) × Int :=
  if s.2 < 0 ∨ tellR t x.1 x.2 < s.2 then (((x.1 : Int), (x.2 : Int)), tellR t x.1 x.2) else s
noncomputable def askRun (t : CT) (l : List (Nat × Nat)) : (Int × Int) × Int := l.foldl (askStep t) ((0, 0), -1)
theorem askRun_snoc (t : CT) (l : List (Nat × Nat)) (x : Nat × Nat) : askRun t (l ++ [x]) = askStep t (askRun t l) x := by unfold askRun; rw [List.foldl_append]; rfl
noncomputable def askP (t : CT) : (Int × Int) × Int := askRun t (plTo t.C.toNat t.T.toNat t.T.toNat)
noncomputable def askE (t : CT) : Int := if errR t true ≠ 0 then errR t true else if (askP t).2 < 0 ∨ dbtR t = 0 then 3 else 0
noncomputable def askV (t : CT) : Int × Int := if askE t = 0 then (askP t).1 else (0, 0)
theorem TrapP.keepc {D : Nat → Prop} {W W' : World} {tb : Nat} {C T : Int} {ov wv : Value} {M : Nat → Nat → Int} (h : TrapP W tb C T ov wv M) (k : KeepC D W W') (hd : ¬ D tb) : TrapP W' tb C T ov wv M := by
  obtain ⟨cs, h1, h2⟩ := h.shape
  have hb : W'.heap[tb]? = W.heap[tb]? := (k.block tb _ hd h1 rfl).trans h1.symm
  have hc : ∀ o, W'.cell? ⟨tb, o, none⟩ = W.cell? ⟨tb, o, none⟩ := fun o => World.cell?_of_block hb
  refine ⟨(hc _).trans h.c0, (hc _).trans h.c1, (hc _).trans h.c2, (hc _).trans h.c3, fun i hi j hj => (hc _).trans (h.mat i hi j hj), fun o => ?_, ⟨cs, hb.trans h1, h2⟩⟩
  rw [← h.fz o]
  unfold World.frozen?
  rw [hb]
theorem KeepC.frozen {D : Nat → Prop} {W W' : World} (h : KeepC D W W') {p : Addr} {v : Value} (hd : ¬ D p.block) (hc : W.cell? p = some v) : W'.frozen? p = W.frozen? p := by
  obtain ⟨o, ho, hk⟩ := cells_of_cell hc
  unfold World.frozen?
  rw [h.block _ o hd ho hk, ho]
/-- Between the rounds. -/
structure ASt (t : CT) (ov wv : Value) (w : World) (s tb : Nat) (r : (Int × Int) × Int) (W : World) : Prop where
  c4 : W.cell? ⟨s, 0, none⟩ = some (.pointer (some ⟨tb, 0, none⟩))
  c60 : W.cell? ⟨s + 1, 0, none⟩ = some (.int .i64 r.1.1)
  c61 : W.cell? ⟨s + 1, 1, none⟩ = some (.int .i64 r.1.2)
  f60 : W.frozen? ⟨s + 1, 0, none⟩ = false
  f61 : W.frozen? ⟨s + 1, 1, none⟩ = false
  c7 : W.cell? ⟨s + 1 + 1, 0, none⟩ = some (.int .i64 r.2)
  f7 : W.frozen? ⟨s + 1 + 1, 0, none⟩ = false
  c20 : W.cell? ⟨w.heap.size + 1, 0, none⟩ = some (.int .i64 0)
  c21 : W.cell? ⟨w.heap.size + 1, 1, none⟩ = some (.int .i64 0)
  f20 : W.frozen? ⟨w.heap.size + 1, 0, none⟩ = false
  f21 : W.frozen? ⟨w.heap.size + 1, 1, none⟩ = false
  trap : TrapP W tb t.C t.T ov wv (setMat t (-1))
  bel : Bel w W
theorem ASt.kept {t : CT} {ov wv : Value} {w : World} {s tb : Nat} {r : (Int × Int) × Int} {W W' : World} (h : ASt t ov wv w s tb r W) (k : KeepC (fun _ => False) W W') (kb : Below w.heap.size W W') : ASt t ov wv w s tb r W' :=
  have n : ¬ False := fun h => h
  ⟨k.cell n h.c4, k.cell n h.c60, k.cell n h.c61, (k.frozen n h.c60).trans h.f60, (k.frozen n h.c61).trans h.f61, k.cell n h.c7, (k.frozen n h.c7).trans h.f7, k.cell n h.c20, k.cell n h.c21, (k.frozen n h.c20).trans h.f20, (k.frozen n h.c21).trans h.f21, h.trap.keepc k n, Below.trans h.bel kb⟩
theorem ASt.quiet {t : CT} {ov wv : Value} {w : World} {s tb B : Nat} {r : (Int × Int) × Int} {W W' : World} (h : ASt t ov wv w s tb r W) (hB : w.heap.size ≤ B) (k : Quiet B W W') : ASt t ov wv w s tb r W' := h.kept k.keep (k.below.mono hB)
theorem ASt.step {t : CT} {ov wv : Value} {w : World} {s tb : Nat} {r : (Int × Int) × Int} {W W' : World} (h : ASt t ov wv w s tb r W) (k : Bel W W') : ASt t ov wv w s tb r W' := h.kept (KeepC.of_bel k) (k.mono h.bel.szle)
theorem ASt.put {t : CT} {ov wv : Value} {w : World} {s tb : Nat} {r : (Int × Int) × Int} {W : World} (h : ASt t ov wv w s tb r W) (hs : w.heap.size + 1 < s) (ht : tb < s) (i c n : Int) :
    ASt t ov wv w s tb ((i, c), n) (((W.setCell ⟨s + 1, 0, none⟩ (.int .i64 i)).setCell ⟨s + 1, 1, none⟩ (.int .i64 c)).setCell ⟨s + 1 + 1, 0, none⟩ (.int .i64 n)) := by
  have k : KeepC (fun k => k = s + 1 ∨ k = s + 1 + 1) W (((W.setCell ⟨s + 1, 0, none⟩ (.int .i64 i)).setCell ⟨s + 1, 1, none⟩ (.int .i64 c)).setCell ⟨s + 1 + 1, 0, none⟩ (.int .i64 n)) :=
    ((KeepC.set W ⟨s + 1, 0, none⟩ _ (.inl rfl)).t (KeepC.set _ ⟨s + 1, 1, none⟩ _ (.inl rfl))).t (KeepC.set _ ⟨s + 1 + 1, 0, none⟩ _ (.inr rfl))
  have c4 := k.cell (p := ⟨s, 0, none⟩) (by show ¬ (s = s + 1 ∨ s = s + 1 + 1); omega) h.c4
  have n2 : ¬ (w.heap.size + 1 = s + 1 ∨ w.heap.size + 1 = s + 1 + 1) := by omega
  have h60 := h.c60
  have h61 := h.c61
  have h7 := h.c7
  refine ⟨c4, ?_, ?_, ?_, ?_, ?_, ?_, k.cell n2 h.c20, k.cell n2 h.c21, (k.frozen (p := ⟨w.heap.size + 1, 0, none⟩) n2 h.c20).trans h.f20, (k.frozen (p := ⟨w.heap.size + 1, 1, none⟩) n2 h.c21).trans h.f21, h.trap.keepc k (by omega), ?_⟩
  · rw [World.cell?_setCell_other _ _ _ _ (by intro q; injection q; omega), World.cell?_setCell_other _ _ _ _ (by intro q; injection q; omega)]
    exact World.cell?_setCell_same _ _ _ (by rw [h60])
  · rw [World.cell?_setCell_other _ _ _ _ (by intro q; injection q; omega)]
    exact World.cell?_setCell_same _ _ _ (by rw [World.cell?_setCell_other _ _ _ _ (by intro q; injection q; omega), h61])
  · simp only [World.frozen?_setCell]; exact h.f60
  · simp only [World.frozen?_setCell]; exact h.f61
  · exact World.cell?_setCell_same _ _ _ (by rw [World.cell?_setCell_other _ _ _ _ (by intro q; injection q; omega), World.cell?_setCell_other _ _ _ _ (by intro q; injection q; omega), h7])
  · simp only [World.frozen?_setCell]; exact h.f7
  · exact ((Bel.setCell h.bel (p := ⟨s + 1, 0, none⟩) (by show _ ≤ s + 1; omega) _).setCell (p := ⟨s + 1, 1, none⟩) (by show _ ≤ s + 1; omega) _).setCell (p := ⟨s + 1 + 1, 0, none⟩) (by show _ ≤ s + 1 + 1; omega) _
/-- tell at each place. -/
theorem tell_at {t : CT} {ov wv : Value} (hov : ov.oneCell' = true) (hwv : wv.oneCell' = true) (hex : Exact t (-1) (setMat t (-1))) (hf : Fit t) (i c : Nat) (hi : i < t.T.toNat) (hc : c < t.C.toNat) (tb : Nat) (wz : World) (hz : TrapP wz tb t.C t.T ov wv (setMat t (-1))) :
    Calls Try.prog 88 #[.pointer (some ⟨tb, 0, none⟩), .agg #[.int .i64 (i : Int), .int .i64 (c : Int)]] wz fun e w' => e = .returned (.int .i64 (tellR t i c)) ∧ Bel wz w' := by
  have hbn := Fish_bounds hf hex i c hi hc
  obtain ⟨f1, f2, f3, f4, _, _⟩ := id hf
  exact ttell_any tb t.C t.T i c (fishLo t i c) (fishHi t i c) ov wv (setMat t (-1)) wz hz hex.safe hov hwv (by omega) (by omega) f4 (by omega) (by omega) f2 rfl rfl hbn.1 hbn.2.1 hbn.2.2 fun n hn1 hn2 => by
    have := tell_safe hf hex i c hi hc n (by omega) (by omega)
    exact ⟨this.1, this.2.safe (by omega)⟩
theorem two_cells {W : World} {c : Nat} {a0 a1 u0 u1 : Value} (h0 : W.cell? ⟨c, 0, none⟩ = some a0) (h1 : W.cell? ⟨c, 1, none⟩ = some a1) :
    ((W.setCell ⟨c, 0, none⟩ u0).setCell ⟨c, 1, none⟩ u1).cell? ⟨c, 0, none⟩ = some u0 ∧ ((W.setCell ⟨c, 0, none⟩ u0).setCell ⟨c, 1, none⟩ u1).cell? ⟨c, 1, none⟩ = some u1 := by
  refine ⟨?_, ?_⟩
  · rw [World.cell?_setCell_other _ _ _ _ (by intro q; injection q; omega)]
    exact World.cell?_setCell_same _ _ _ (by rw [h0])
  · exact World.cell?_setCell_same _ _ _ (by rw [World.cell?_setCell_other _ _ _ _ (by intro q; injection q; omega), h1])
def AAct (t : CT) (ov wv : Value) (w : World) (s tb : Nat) (x : Nat × Nat) (b : Nat) : Act :=
  { tmps := #[.agg #[.int .i64 t.C, .int .i64 t.T, ov, wv], .pointer (some ⟨w.heap.size, 0, none⟩), .pointer (some ⟨w.heap.size + 1, 0, none⟩), .int .i64 0, .pointer (some ⟨s, 0, none⟩), .int .i64 0, .pointer (some ⟨s + 1, 0, none⟩), .pointer (some ⟨s + 1 + 1, 0, none⟩), .pointer (some ⟨b, 0, none⟩), undef, .tuple #[.pointer (some ⟨tb, 0, none⟩), .int .i64 0], .agg #[.int .i64 t.C, .int .i64 t.T, ov, wv], .tuple #[.pointer (some ⟨tb, 0, none⟩), .int .i64 0], .pointer (some ⟨tb, 0, none⟩), .int .i64 0, .int .i64 0, .bool false, undef, undef, .agg #[.int .i64 0, .int .i64 0], .pointer (some ⟨tb, 0, none⟩), .func (.func 89) #[.pointer (some ⟨tb, 0, none⟩)] #[], .agg #[.int .i64 (x.1 : Int), .int .i64 (x.2 : Int)], undef, undef, undef, undef, undef, undef, undef, undef, undef, undef, undef, undef, undef, undef, undef, undef, undef, undef, undef, undef, undef], defers := [] }
theorem Ask_any (t : CT) (v : Value) (w : World) (hv : TrapAt w v t) :
    Calls Try.prog 55 #[v] w fun e w' => e = .returned (.tuple #[.agg #[.int .i64 (askV t).1, .int .i64 (askV t).2], .int .i64 (askE t)]) ∧ Bel w w' := by
  have HV := Lib.hid hv
  obtain ⟨ov, wv, rfl, hrows, hwords⟩ := hv
  have hov : ov.oneCell' = true := by obtain ⟨a, c, _, _, _, rfl, _⟩ := hrows; rfl
  have hwv : wv.oneCell' = true := by obtain ⟨a, c, _, _, rfl, _⟩ := hwords; rfl
  clear hrows hwords
  by_cases he : errR t true = 0
  · obtain ⟨hex, hf⟩ := errR_exact he
    obtain ⟨f1, f2, f3, f4, _, _⟩ := id hf
    have HTL := Lib.hid (tell_at (ov := ov) (wv := wv) hov hwv hex hf)
    have HDB := Lib.hid (fun tb wz hz => doubt_any tb t.C t.T ov wv (setMat t (-1)) wz hz hex.safe f3 f4 f1 f2)
    have HP := Lib.hid (fun wz hz => open_ok t ov wv true wz hz he)
    have HE := Lib.hid he
    clear hex hf he
    refine (callsIn_wide (n := 4)).1 ?_
    refine callsIn_of_wp_marks Try.func55 rfl trivial ?_ rfl
    simp only [Try.ntmps55, List.size_toArray, List.length_cons, List.length_nil, Nat.reduceAdd, Nat.reduceSub, Array.replicate_succ, Array.replicate_zero, List.push_toArray, List.append_toArray, List.nil_append, List.cons_append]
    gi_wp2_with (refine ⟨trivial, ?_⟩; gi_at_call 72; refine (callsIn_wide.2 (HP.out _ (HV.out.bel (by repeat (first | assumption | exact Bel.refl _ | refine Bel.drew ?_ | refine Bel.drewN ?_ _ | refine Bel.alloc ?_ _ | refine Bel.setCell ?_ (by simp <;> omega) _ | refine Bel.trans ?_ (by assumption)))))).mono ?_; rintro e w1 ⟨tb, rfl, htb, hT, hb⟩; have hz := hb.szle; (try simp only [World.size_alloc] at hz))
    generalize hW0 : World.alloc _ _ = W0
    have hT0 : TrapP W0 tb t.C t.T ov wv (setMat t (-1)) := hT.bel (by rw [← hW0]; exact (((Bel.refl w1).alloc _).alloc _).alloc _)
    have hbw : Bel w W0 := by rw [← hW0]; exact (by repeat (first | assumption | exact Bel.refl _ | refine Bel.drew ?_ | refine Bel.drewN ?_ _ | refine Bel.alloc ?_ _ | refine Bel.setCell ?_ (by simp <;> omega) _ | refine Bel.trans ?_ (by assumption)))
    have h4 : W0.cell? ⟨w1.heap.size, 0, none⟩ = some (.pointer (some ⟨tb, 0, none⟩)) := by rw [← hW0]; exact (row_facts ((old_row (by first | (simp; done) | (simp; omega) | omega)).trans ((old_row (by first | (simp; done) | (simp; omega) | omega)).trans (new_row (by first | rfl | (simp; done)))))).1 0
    have h60 : W0.cell? ⟨w1.heap.size + 1, 0, none⟩ = some (.int .i64 0) := by rw [← hW0]; exact (row_facts ((old_row (by first | (simp; done) | (simp; omega) | omega)).trans (new_row (by first | rfl | (simp; done))))).1 0
    have h61 : W0.cell? ⟨w1.heap.size + 1, 1, none⟩ = some (.int .i64 0) := by rw [← hW0]; exact (row_facts ((old_row (by first | (simp; done) | (simp; omega) | omega)).trans (new_row (by first | rfl | (simp; done))))).1 1
    have h7 : W0.cell? ⟨w1.heap.size + 1 + 1, 0, none⟩ = some (.int .i64 (-1)) := by rw [← hW0]; exact (row_facts (new_row (by first | rfl | (simp; done)))).1 0
    have g60 : ∀ o, W0.frozen? ⟨w1.heap.size + 1, o, none⟩ = false := by rw [← hW0]; exact (row_facts ((old_row (by first | (simp; done) | (simp; omega) | omega)).trans (new_row (by first | rfl | (simp; done))))).2
    have g7 : ∀ o, W0.frozen? ⟨w1.heap.size + 1 + 1, o, none⟩ = false := by rw [← hW0]; exact (row_facts (new_row (by first | rfl | (simp; done)))).2
    have hB2 : Bel w1 W0 := by rw [← hW0]; exact (((Bel.refl w1).alloc _).alloc _).alloc _
    have b20 : w1.cell? ⟨w.heap.size + 1, 0, none⟩ = some (.int .i64 0) := (hb.cells ⟨w.heap.size + 1, 0, none⟩ (by simp)).trans (by simp)
    have b21 : w1.cell? ⟨w.heap.size + 1, 1, none⟩ = some (.int .i64 0) := (hb.cells ⟨w.heap.size + 1, 1, none⟩ (by simp)).trans (by simp)
    have r2 : ∀ o, w1.frozen? ⟨w.heap.size + 1, o, none⟩ = false := fun o => (hb.frozens ⟨w.heap.size + 1, o, none⟩ (by simp)).trans ((row_facts (new_row (by first | rfl | (simp; done)))).2 o)
    have htl := hT.lt
    have z0 : W0.heap.size = w1.heap.size + 1 + 1 + 1 := by rw [← hW0]; simp only [World.size_alloc]
    have hst : ASt t ov wv w w1.heap.size tb ((0, 0), -1) W0 := ⟨h4, h60, h61, g60 0, g60 1, h7, g7 0, hB2.cell b20, hB2.cell b21, (hB2.frozens ⟨w.heap.size + 1, 0, none⟩ (by show w.heap.size + 1 < _; omega)).trans (r2 0), (hB2.frozens ⟨w.heap.size + 1, 1, none⟩ (by show w.heap.size + 1 < _; omega)).trans (r2 1), hT0, hbw⟩
    have hC : ((t.C.toNat : Nat) : Int) = t.C := by omega
    have hTn : ((t.T.toNat : Nat) : Int) = t.T := by omega
    have hgv : GivesAll Fence.wide (4 - 1) Try.prog 89 (.pointer (some ⟨tb, 0, none⟩)) (fun x => #[encP x]) (fun x => x.1 < t.T.toNat ∧ x.2 < t.C.toNat) (fun k => k = w1.heap.size + 1 ∨ k = w1.heap.size + 1 + 1) (plTo t.C.toNat t.T.toNat t.T.toNat) W0 :=
      places_in (4 - 1) (by omega) tb t.C.toNat t.T.toNat (by omega) (by omega) (by omega) (by omega) _ W0 (by omega) (fun k hk => by omega) (by rw [hC]; exact hT0.c0) (by rw [hTn]; exact hT0.c1)
    have hsw : w.heap.size + 1 < w1.heap.size := by omega
    clear hW0 hT0 h4 h60 h61 h7 g60 g7 hB2 b20 b21 r2 hT hb htb
    have HTB := Lib.hid htl
    generalize w1.heap.size = s at *
    refine range_recv rfl (by omega) (gf := 89) (rcv := .pointer (some ⟨tb, 0, none⟩)) rfl trivial (enters_of Try.func89 (by kernel_rfl) rfl) hgv (fun _ => rfl)
      (fun pre W => ASt t ov wv w s tb (askRun t pre) W) (fun pre A B h q => h.quiet hbw.szle q) hst
      (fun x a' W => ∃ b : Nat, a' = AAct t ov wv w s tb x b ∧ W.cell? ⟨b, 0, none⟩ = some (.int .i64 (x.1 : Int)) ∧ W.cell? ⟨b, 1, none⟩ = some (.int .i64 (x.2 : Int)))
      (fun x a' A B h q => by obtain ⟨b, h1, h2, h3⟩ := h; exact ⟨b, h1, q.keep.cell (fun h => h) h2, q.keep.cell (fun h => h) h3⟩) ?assign ?body ?done
    case assign =>
      intro l pre x W K hI hK
      dsimp only [encP]
      gi_wp2
      exact hK _ _ (((Bel.refl W).alloc _).keeps.from _) (KeepC.of_bel ((Bel.refl W).alloc _)) (hI.step ((Bel.refl W).alloc _)) ⟨W.heap.size, rfl, by simp, by simp⟩
    case body =>
      rintro l pre x a' W ⟨hx1, hx2⟩ hI ⟨b, rfl, b0, b1⟩
      have HI := Lib.hid hI
      have k4 := hI.c4
      have HT := Lib.hid hI.trap
      have HRS := Lib.hid (askRun_snoc t pre x)
      have HTX := Lib.hid (fun wx hwx => HTL.out x.1 x.2 hx1 hx2 tb wx hwx)
      unfold askStep at HRS
      clear hI
      generalize tellR t (x.1 : Int) (x.2 : Int) = nn at *
      generalize hr0 : askRun t pre = r0 at *
      clear hr0 hst hgv hbw htl
      unfold AAct
      by_cases q1 : r0.2 < 0
      · have q1d : decide (r0.2 < 0) = true := decide_eq_true q1
        gi_wp2_with (refine ⟨trivial, ?_⟩; gi_at_call 88; refine (CallsIn.inRound l (callsIn_wide.2 (HTX.out W HT.out))).mono ?_; rintro e w2 ⟨rfl, hb2⟩; have m2 := HI.out.step hb2; have v7 := m2.c7; have v60 := m2.c60; have v61 := m2.c61; have d7 := m2.f7; have d60 := m2.f60; have d61 := m2.f61; have d0 := hb2.cell b0; have d1 := hb2.cell b1; have M2 := Lib.hid m2; clear m2)
        exact ⟨(hb2.keeps.trans (((KeepsOthers.setCell _ _ _).trans (KeepsOthers.setCell _ _ _)).trans (KeepsOthers.setCell _ _ _))).from _, (KeepC.of_bel hb2).t (((KeepC.set _ ⟨s + 1, 0, none⟩ _ (.inl rfl)).t (KeepC.set _ ⟨s + 1, 1, none⟩ _ (.inl rfl))).t (KeepC.set _ ⟨s + 1 + 1, 0, none⟩ _ (.inr rfl))), by rw [HRS.out, if_pos (.inl q1)]; exact M2.out.put hsw HTB.out _ _ _⟩
      · have q1d : decide (r0.2 < 0) = false := decide_eq_false q1
        by_cases q2 : nn < r0.2
        · have q2d : decide (nn < r0.2) = true := decide_eq_true q2
          gi_wp2_with (refine ⟨trivial, ?_⟩; gi_at_call 88; refine (CallsIn.inRound l (callsIn_wide.2 (HTX.out W HT.out))).mono ?_; rintro e w2 ⟨rfl, hb2⟩; have m2 := HI.out.step hb2; have v7 := m2.c7; have v60 := m2.c60; have v61 := m2.c61; have d7 := m2.f7; have d60 := m2.f60; have d61 := m2.f61; have d0 := hb2.cell b0; have d1 := hb2.cell b1; have M2 := Lib.hid m2; clear m2)
          exact ⟨(hb2.keeps.trans (((KeepsOthers.setCell _ _ _).trans (KeepsOthers.setCell _ _ _)).trans (KeepsOthers.setCell _ _ _))).from _, (KeepC.of_bel hb2).t (((KeepC.set _ ⟨s + 1, 0, none⟩ _ (.inl rfl)).t (KeepC.set _ ⟨s + 1, 1, none⟩ _ (.inl rfl))).t (KeepC.set _ ⟨s + 1 + 1, 0, none⟩ _ (.inr rfl))), by rw [HRS.out, if_pos (.inr q2)]; exact M2.out.put hsw HTB.out _ _ _⟩
        · have q2d : decide (nn < r0.2) = false := decide_eq_false q2
          gi_wp2_with (refine ⟨trivial, ?_⟩; gi_at_call 88; refine (CallsIn.inRound l (callsIn_wide.2 (HTX.out W HT.out))).mono ?_; rintro e w2 ⟨rfl, hb2⟩; have m2 := HI.out.step hb2; have v7 := m2.c7; have v60 := m2.c60; have v61 := m2.c61; have d7 := m2.f7; have d60 := m2.f60; have d61 := m2.f61; have d0 := hb2.cell b0; have d1 := hb2.cell b1; have M2 := Lib.hid m2; clear m2)
          exact ⟨hb2.keeps.from _, KeepC.of_bel hb2, by rw [HRS.out, if_neg (by omega)]; exact M2.out⟩
    case done =>
      rintro B W hB hI hK
      have hI : ASt t ov wv w s tb (askP t) W := hI
      have HI := Lib.hid hI
      have k4 := hI.c4
      have k7 := hI.c7
      have k60 := hI.c60
      have k61 := hI.c61
      have k20 := hI.c20
      have k21 := hI.c21
      have d20 := hI.f20
      have d21 := hI.f21
      have HT := Lib.hid hI.trap
      have HDX := Lib.hid (HDB.out tb W HT.out)
      have HDD : Hid (dbt t.C t.T (setMat t (-1)) = dbtR t) := Lib.hid rfl
      rw [HDD.out] at HDX
      generalize hr0 : askP t = r0 at *
      generalize hd0 : dbtR t = dd at *
      have HAE : Hid (askE t = if r0.2 < 0 ∨ dd = 0 then 3 else 0) := Lib.hid (by unfold askE; rw [if_neg (by simp [HE.out]), hr0, hd0])
      have HAV : Hid (askV t = if askE t = 0 then r0.1 else (0, 0)) := Lib.hid (by unfold askV; rw [hr0])
      clear hr0 hd0 hI hst hgv hbw htl
      by_cases q1 : r0.2 < 0
      · have q1d : decide (r0.2 < 0) = true := decide_eq_true q1
        have HE3 : Hid (askE t = 3) := Lib.hid (by rw [HAE.out, if_pos (.inl q1)])
        gi_wp2
        all_goals first
          | (exfalso; rename_i q _; simp [undef] at q; done)
          | (refine ⟨trivial, ?_⟩
             gi_wp2)
        have hKx := ((KeepsOthers.refl W).trans ((KeepsOthers.setCell _ ⟨w.heap.size + 1, 0, none⟩ (.int .i64 0)).trans (KeepsOthers.setCell _ ⟨w.heap.size + 1, 1, none⟩ (.int .i64 0)))).same B _ hK rfl
        obtain ⟨x0, x1⟩ := two_cells (u0 := (.int .i64 0)) (u1 := (.int .i64 0)) k20 k21
        refine ⟨by simp, .inl ⟨_, _, rfl, run_takeDeferred hKx, ?_⟩⟩
        have y0 := cell_kept x0 (grownBy_putObj' _ B (.deferred none)) (fun r e => by cases e; exact ⟨_, hKx, rfl⟩)
        have y1 := cell_kept x1 (grownBy_putObj' _ B (.deferred none)) (fun r e => by cases e; exact ⟨_, hKx, rfl⟩)
        refine ⟨.tuple #[.agg #[(.int .i64 0), (.int .i64 0)], .int .i64 3], ?_, by rw [HAV.out, HE3.out]; rfl, Below.trans (((HI.out.bel).setCell (p := ⟨w.heap.size + 1, 0, none⟩) (by show _ ≤ w.heap.size + 1; omega) _).setCell (p := ⟨w.heap.size + 1, 1, none⟩) (by show _ ≤ w.heap.size + 1; omega) _) (belowK_b (w := w) (Nat.le_refl _) _ B _ _ (by omega) hKx rfl rfl)⟩
        simp [results, Try.f55, go_sem, y0, y1]
      · have q1d : decide (r0.2 < 0) = false := decide_eq_false q1
        by_cases q2 : dd = 0
        · have q2d : decide (dd = 0) = true := decide_eq_true q2
          have HE3 : Hid (askE t = 3) := Lib.hid (by rw [HAE.out, if_pos (.inr q2)])
          gi_wp2_with (refine ⟨trivial, ?_⟩; gi_at_call 90; refine (callsIn_wide.2 HDX.out).mono ?_; rintro e w2 ⟨rfl, hb2⟩; have m2 := HI.out.step hb2; have v20 := m2.c20; have v21 := m2.c21; have d20 := m2.f20; have d21 := m2.f21; have d60 := m2.c60; have d61 := m2.c61; have M2 := Lib.hid m2; clear m2)
          have hKx := ((hb2.keeps).trans ((KeepsOthers.setCell _ ⟨w.heap.size + 1, 0, none⟩ (.int .i64 0)).trans (KeepsOthers.setCell _ ⟨w.heap.size + 1, 1, none⟩ (.int .i64 0)))).same B _ hK rfl
          obtain ⟨x0, x1⟩ := two_cells (u0 := (.int .i64 0)) (u1 := (.int .i64 0)) v20 v21
          refine ⟨by simp, .inl ⟨_, _, rfl, run_takeDeferred hKx, ?_⟩⟩
          have y0 := cell_kept x0 (grownBy_putObj' _ B (.deferred none)) (fun r e => by cases e; exact ⟨_, hKx, rfl⟩)
          have y1 := cell_kept x1 (grownBy_putObj' _ B (.deferred none)) (fun r e => by cases e; exact ⟨_, hKx, rfl⟩)
          refine ⟨.tuple #[.agg #[(.int .i64 0), (.int .i64 0)], .int .i64 3], ?_, by rw [HAV.out, HE3.out]; rfl, Below.trans (((M2.out.bel).setCell (p := ⟨w.heap.size + 1, 0, none⟩) (by show _ ≤ w.heap.size + 1; omega) _).setCell (p := ⟨w.heap.size + 1, 1, none⟩) (by show _ ≤ w.heap.size + 1; omega) _) (belowK_b (w := w) (Nat.le_refl _) _ B _ _ (by omega) hKx rfl rfl)⟩
          simp [results, Try.f55, go_sem, y0, y1]
        · have q2d : decide (dd = 0) = false := decide_eq_false q2
          have HE3 : Hid (askE t = 0) := Lib.hid (by rw [HAE.out, if_neg (by omega)])
          gi_wp2_with (refine ⟨trivial, ?_⟩; gi_at_call 90; refine (callsIn_wide.2 HDX.out).mono ?_; rintro e w2 ⟨rfl, hb2⟩; have m2 := HI.out.step hb2; have v20 := m2.c20; have v21 := m2.c21; have d20 := m2.f20; have d21 := m2.f21; have d60 := m2.c60; have d61 := m2.c61; have M2 := Lib.hid m2; clear m2)
          have hKx := ((hb2.keeps).trans ((KeepsOthers.setCell _ ⟨w.heap.size + 1, 0, none⟩ (.int .i64 r0.1.1)).trans (KeepsOthers.setCell _ ⟨w.heap.size + 1, 1, none⟩ (.int .i64 r0.1.2)))).same B _ hK rfl
          obtain ⟨x0, x1⟩ := two_cells (u0 := (.int .i64 r0.1.1)) (u1 := (.int .i64 r0.1.2)) v20 v21
          refine ⟨by simp, .inl ⟨_, _, rfl, run_takeDeferred hKx, ?_⟩⟩
          have y0 := cell_kept x0 (grownBy_putObj' _ B (.deferred none)) (fun r e => by cases e; exact ⟨_, hKx, rfl⟩)
          have y1 := cell_kept x1 (grownBy_putObj' _ B (.deferred none)) (fun r e => by cases e; exact ⟨_, hKx, rfl⟩)
          refine ⟨.tuple #[.agg #[(.int .i64 r0.1.1), (.int .i64 r0.1.2)], .int .i64 0], ?_, by rw [HAV.out, HE3.out]; rfl, Below.trans (((M2.out.bel).setCell (p := ⟨w.heap.size + 1, 0, none⟩) (by show _ ≤ w.heap.size + 1; omega) _).setCell (p := ⟨w.heap.size + 1, 1, none⟩) (by show _ ≤ w.heap.size + 1; omega) _) (belowK_b (w := w) (Nat.le_refl _) _ B _ _ (by omega) hKx rfl rfl)⟩
          simp [results, Try.f55, go_sem, y0, y1]
  · have HE := Lib.hid (show askE t = errR t true by unfold askE; rw [if_pos he])
    have HV0 := Lib.hid (show askV t = (0, 0) by unfold askV; rw [if_neg (by rw [HE.out]; exact he)])
    have HP := Lib.hid (fun wz hz => open_err t ov wv true wz hz he)
    rw [HE.out, HV0.out]
    generalize errR t true = er at *
    clear HE HV0
    go_enter Try.func55, Try.ntmps55
    go_wp2_with (go_at_call 72; refine (HP.out _ (HV.out.bel (by repeat (first | assumption | exact Bel.refl _ | refine Bel.drew ?_ | refine Bel.drewN ?_ _ | refine Bel.alloc ?_ _ | refine Bel.setCell ?_ (by simp <;> omega) _ | refine Bel.trans ?_ (by assumption))))).mono ?_; rintro e w1 ⟨rfl, hb⟩; have hcr := hb.cells; have hfr := hb.frozens; have hz := hb.szle; (try simp only [World.size_alloc] at hz); have z0 : w.heap.size < w1.heap.size := (by omega); have z1 : w.heap.size + 1 < w1.heap.size := (by omega))
    have b20 : w1.cell? ⟨w.heap.size + 1, 0, none⟩ = some (.int .i64 0) := (hcr ⟨w.heap.size + 1, 0, none⟩ (by simp)).trans (by simp)
    have b21 : w1.cell? ⟨w.heap.size + 1, 1, none⟩ = some (.int .i64 0) := (hcr ⟨w.heap.size + 1, 1, none⟩ (by simp)).trans (by simp)
    obtain ⟨x0, x1⟩ := two_cells (u0 := .int .i64 0) (u1 := .int .i64 0) b20 b21
    have y0 := Bel.cell ((Bel.refl _).alloc (.cells #[.pointer none] 85)) x0
    have y1 := Bel.cell ((Bel.refl _).alloc (.cells #[.pointer none] 85)) x1
    exact bodyPost_ret (v := .tuple #[.agg #[.int .i64 0, .int .i64 0], .int .i64 er]) (by simp [results, Try.f55, go_sem, y0, y1]) rfl ⟨rfl, (by repeat (first | assumption | exact Bel.refl _ | refine Bel.drew ?_ | refine Bel.drewN ?_ _ | refine Bel.alloc ?_ _ | refine Bel.setCell ?_ (by simp <;> omega) _ | refine Bel.trans ?_ (by assumption)))⟩
end Go.Proofs.Ytoiajjdhgffdaaa
