/-
  A region that draws its order, whose operations are of two kinds: those that only compute or read (each has one value in every world of a class), and those that act (calls, stores, appends, allocations). One walk along a plan serves every order.
-/
import Derived.Deep.Quiet
import Derived.StillTail
import Derived.WalkKit
namespace Go.Proofs.Ytkdcdhkhadhcfaa
open Go
section
variable {P : Program} {ops : Array Oper} {md : Region.Mode} {C : World → Prop} {Q : Exit → Act → World → Prop}

/-- In every world of the class the operation yields this value, and turns nothing. -/
def YieldsC (P : Program) (ops : Array Oper) (C : World → Prop) (o : Oper) (v : Value) (a : Act) : Prop :=
  (Region.wanted o (yielded ops a.tmps) = true ∧ ∀ w, C w → (execOp a.eval o).run P w = .ok (.value v) w) ∨
  (Region.wanted o (yielded ops a.tmps) = false ∧ v = undef)

def wpAnyC (P : Program) (md : Region.Mode) (ops : Array Oper) (C : World → Prop) (Q : Exit → Act → World → Prop) : Nat → Array Bool → Act → World → Prop
  | 0, listed, a, w => Region.ready md ops listed = [] ∧ Q .normal a w
  | fuel + 1, listed, a, w =>
    (Region.ready md ops listed = [] → Q .normal a w) ∧
    ∀ i ∈ Region.ready md ops listed, wpOp P ops Q i (fun a' w' => C w' ∧ wpAnyC P md ops C Q fuel (listed.setIfInBounds i true) a' w') a w

theorem wpAny_of_class : ∀ (fuel : Nat) (listed : Array Bool) (a : Act) (w : World), wpAnyC P md ops C Q fuel listed a w → wpAny P md ops Q fuel listed a w
  | 0, _, _, _, h => h
  | fuel + 1, _, _, _, h => ⟨h.1, fun i hi => wpOp_mono (fun _ _ h' => wpAny_of_class fuel _ _ _ h'.2) (h.2 i hi)⟩

theorem YieldsC.wpOp {i : Nat} {o : Oper} {v : Value} {a : Act} (hi : ops[i]? = some o) (hy : YieldsC P ops C o v a)
    {K : Act → World → Prop} {w : World} (hC : C w) (h : K (a.put o.dst v) w) : wpOp P ops Q i K a w := by
  unfold Go.wpOp
  simp only [hi]
  rcases hy with ⟨hw, hv⟩ | ⟨hw, rfl⟩
  · simp only [hw, if_true, Oper.wp, hv w hC, Oper.upon]; exact .inl h
  · simp only [hw, Bool.false_eq_true, if_false]; exact h

theorem YieldsC.of_same {o : Oper} {v : Value} {a a' : Act} (hy : YieldsC P ops C o v a) (he : execOp a'.eval o = execOp a.eval o)
    (hw : Region.wanted o (yielded ops a'.tmps) = Region.wanted o (yielded ops a.tmps)) : YieldsC P ops C o v a' := by
  unfold YieldsC at *
  rw [he, hw]
  exact hy

/-- Whether the value of 'oi' is already in its slot makes no difference to 'oj', which is apart from it. -/
theorem wpOp_putC {j : Nat} {oi oj : Oper} {v : Value} (hj : ops[j]? = some oj) (hap : oi.apart ops oj = true)
    (hsi : ∀ cs b, oi.op ≠ .select cs b) (hsj : ∀ cs b, oj.op ≠ .select cs b)
    (hQ : ∀ c a w, Q (.panic c) (a.put oi.dst v) w → Q (.panic c) a w) {K : Act → World → Prop} {a : Act} {w : World}
    (hy : YieldsC P ops C oi v a) (h : wpOp P ops Q j K (a.put oi.dst v) w) :
    wpOp P ops Q j (fun a' w' => YieldsC P ops C oi v a' ∧ K (a'.put oi.dst v) w') a w := by
  obtain ⟨h1, h2, h3⟩ := Oper.apart_spec hap
  have keep : ∀ (a : Act), YieldsC P ops C oi v a → ∀ u, YieldsC P ops C oi v (a.put oj.dst u) := fun a hy u =>
    hy.of_same (execOp_put oi hsi a oj.dst u h3) (wanted_put oi a oj.dst u h3)
  have keepD : ∀ d, YieldsC P ops C oi v { a with defers := d :: a.defers } := fun d => hy.of_same rfl rfl
  unfold Go.wpOp at *
  simp only [hj] at *
  rw [wanted_put oj a oi.dst v h1] at h
  by_cases hw : Region.wanted oj (yielded ops a.tmps) = true
  · simp only [hw, if_true] at h ⊢
    rcases h with h | ⟨hasks, hlets⟩
    case inr => exact .inr ⟨by unfold Oper.asks at *; rw [execOp_put oj hsj a oi.dst v h1] at hasks; exact hasks, hlets⟩
    left
    unfold Oper.wp at *
    rw [execOp_put oj hsj a oi.dst v h1] at h
    cases hr : (execOp a.eval oj).run P w with
    | halt x w' =>
      rw [hr] at h
      cases x <;> simp only [Oper.upon] at h ⊢
      case panic u => exact hQ _ _ _ h
    | ok n w' =>
      rw [hr] at h
      cases n with
      | value u => exact ⟨keep a hy u, by rw [← Act.put_comm a v u h2]; exact h⟩
      | skip => exact ⟨keep a hy _, by rw [← Act.put_comm a v undef h2]; exact h⟩
      | defer d =>
        refine ⟨keep _ (keepD d) _, ?_⟩
        rw [← Act.put_comm _ v undef h2, ← Act.put_defers]
        exact h
      | enter f args =>
        refine Calls.mono h fun e w'' he => ?_
        cases e with
        | returned u => exact ⟨keep a hy u, by rw [← Act.put_comm a v u h2]; exact he⟩
        | panicked c => exact hQ _ _ _ he
        | outgrown => exact he
      | row row args => exact Rows.mono h fun u w'' he => ⟨keep a hy u, by rw [← Act.put_comm a v u h2]; exact he⟩
      | _ => simp only [Oper.upon] at h
  · simp only [hw] at h ⊢
    exact ⟨keep a hy _, by rw [← Act.put_comm a v undef h2]; exact h⟩

theorem wpAnyC_first {i : Nat} {oi : Oper} {v : Value} (hi : ops[i]? = some oi) (hsel : ∀ (j : Nat) (o : Oper) cs b, ops[j]? = some o → o.op ≠ .select cs b)
    (hQ : ∀ c a w, Q (.panic c) (a.put oi.dst v) w → Q (.panic c) a w) :
    ∀ (fuel : Nat) (listed : Array Bool) (a : Act) (w : World), C w →
      (∀ j oj, ops[j]? = some oj → j ≠ i → listed.getD j true = false → (∀ e ∈ oj.after, Region.binds md e = true → e.on ≠ i) → oi.apart ops oj = true) →
      i ∈ Region.ready md ops listed → YieldsC P ops C oi v a →
      wpAnyC P md ops C Q fuel (listed.setIfInBounds i true) (a.put oi.dst v) w → wpAnyC P md ops C Q (fuel + 1) listed a w := by
  intro fuel
  induction fuel with
  | zero =>
    intro listed a w hC _ hr hy H
    refine ⟨fun h => (by rw [h] at hr; cases hr), fun j hj => ?_⟩
    by_cases hji : j = i
    · rw [hji]; exact hy.wpOp hi hC ⟨hC, H⟩
    · have := ready_mono hj hji
      rw [H.1] at this
      cases this
  | succ fuel ih =>
    intro listed a w hC hfree hr hy H
    refine ⟨fun h => (by rw [h] at hr; cases hr), fun j hj => ?_⟩
    by_cases hji : j = i
    · rw [hji]; exact hy.wpOp hi hC ⟨hC, H⟩
    · have h1 := H.2 j (ready_mono hj hji)
      obtain ⟨hjun, oj, hoj, hall⟩ := mem_ready.1 hj
      have hnot : ∀ e ∈ oj.after, Region.binds md e = true → e.on ≠ i := fun e he hb heq => by
        have h1 := hall e he hb
        have h0 := (mem_ready.1 hr).1
        rw [heq] at h1
        rcases Nat.lt_or_ge i listed.size with h' | h'
        · simp [h'] at h0 h1; rw [h0] at h1; cases h1
        · simp [Array.getElem?_eq_none h'] at h1
      have h2 := wpOp_putC hoj (hfree j oj hoj hji hjun hnot) (fun cs b => hsel i oi cs b hi) (fun cs b => hsel j oj cs b hoj) hQ hy h1
      have hfree' : ∀ k ok, ops[k]? = some ok → k ≠ i → (listed.setIfInBounds j true).getD k true = false →
          (∀ e ∈ ok.after, Region.binds md e = true → e.on ≠ i) → oi.apart ops ok = true := fun k ok hk hki hun hno => by
        refine hfree k ok hk hki ?_ hno
        by_cases hjk : j = k
        · rw [← hjk]; exact hjun
        · rw [getD_set_ne true hjk] at hun; exact hun
      refine wpOp_mono (fun a' w' h3 => ⟨h3.2.1, ih (listed.setIfInBounds j true) a' w' h3.2.1 hfree' (ready_mono hr (Ne.symm hji)) h3.1 ?_⟩) h2
      rw [Array.setIfInBounds_comm _ _ hji]
      exact h3.2.2

/-- A plan: in which order the operations are walked. 'both': two acting operations may come next. -/
inductive Plan where
  | nil
  | pure (i : Nat) (next : Plan)
  | act (i : Nat) (next : Plan)
  | both (i : Nat) (p : Plan) (j : Nat) (q : Plan)

inductive Mix where
  | nil
  | pure (o : Oper) (next : Mix)
  | act (o : Oper) (next : Mix)
  | both (o : Oper) (p : Mix) (o' : Oper) (q : Mix)

def Plan.ok (md : Region.Mode) (ops : Array Oper) : Plan → Nat → Array Bool → Bool
  | .nil, 0, l => (Region.ready md ops l).isEmpty
  | .pure i p, f + 1, l => (Region.ready md ops l).contains i && Region.free md ops l i && p.ok md ops f (l.setIfInBounds i true)
  | .act i p, f + 1, l => decide (Region.ready md ops l = [i]) && p.ok md ops f (l.setIfInBounds i true)
  | .both i p j q, f + 1, l => decide (Region.ready md ops l = [i, j]) && p.ok md ops f (l.setIfInBounds i true) && q.ok md ops f (l.setIfInBounds j true)
  | _, _, _ => false

/-- A list of numbers as a plan: a number k below 1000: the operation k is pure; 1000 + k: the operation k acts. -/
def Plan.seq : List Nat → Plan → Plan
  | [], p => p
  | i :: l, p => if i < 1000 then .pure i (Plan.seq l p) else .act (i - 1000) (Plan.seq l p)

def Plan.fill (ops : List Oper) : Plan → Mix
  | .nil => .nil
  | .pure i p => .pure (ops.getD i default) (p.fill ops)
  | .act i p => .act (ops.getD i default) (p.fill ops)
  | .both i p j q => .both (ops.getD i default) (p.fill ops) (ops.getD j default) (q.fill ops)

def actStep (P : Program) (ops : Array Oper) (C : World → Prop) (Q : Exit → Act → World → Prop) (o : Oper) (K : Act → World → Prop) (a : Act) (w : World) : Prop :=
  if Region.wanted o (yielded ops a.tmps) then o.wp P a w (fun a' w' => C w' ∧ K a' w') Q ∨ (o.asks P a w ∧ LetsOut Q) else K (a.put o.dst undef) w

def wpMix (P : Program) (ops : Array Oper) (C : World → Prop) (Q : Exit → Act → World → Prop) : Mix → Act → World → Prop
  | .nil, a, w => Q .normal a w
  | .pure o p, a, w => ∃ v, YieldsC P ops C o v a ∧ wpMix P ops C Q p (a.put o.dst v) w
  | .act o p, a, w => actStep P ops C Q o (wpMix P ops C Q p) a w
  | .both o p o' q, a, w => actStep P ops C Q o (wpMix P ops C Q p) a w ∧ actStep P ops C Q o' (wpMix P ops C Q q) a w

theorem wpOp_of_actStep {i : Nat} {o : Oper} {K : Act → World → Prop} {a : Act} {w : World} (hi : ops[i]? = some o) (hC : C w) (h : actStep P ops C Q o K a w) :
    wpOp P ops Q i (fun a' w' => C w' ∧ K a' w') a w := by
  unfold Go.wpOp
  simp only [hi]
  unfold actStep at h
  split
  · rename_i hw; simp only [hw, if_true] at h; exact h
  · rename_i hw; simp only [hw] at h; exact ⟨hC, h⟩

theorem getD_of_ready {i : Nat} {l : List Oper} {listed : Array Bool} (h : i ∈ Region.ready md l.toArray listed) : l.toArray[i]? = some (l.getD i default) := by
  obtain ⟨_, o, ho, _⟩ := mem_ready.1 h
  have : l[i]? = some o := by simpa using ho
  simp [List.getD, this]

theorem wpAnyC_of_mix {l : List Oper} (hsel : Region.noSelect l.toArray = true) (hQ : ∀ d v c a w, Q (.panic c) (Act.put a d v) w → Q (.panic c) a w) :
    ∀ (p : Plan) (f : Nat) (listed : Array Bool) (a : Act) (w : World), p.ok md l.toArray f listed = true → C w →
      wpMix P l.toArray C Q (p.fill l) a w → wpAnyC P md l.toArray C Q f listed a w := by
  intro p
  induction p with
  | nil =>
    intro f listed a w hB hC h
    cases f with
    | zero => exact ⟨by simpa [Plan.ok] using hB, h⟩
    | succ f => simp [Plan.ok] at hB
  | pure i p ih =>
    intro f listed a w hB hC h
    cases f with
    | zero => simp [Plan.ok] at hB
    | succ f =>
      simp only [Plan.ok, Bool.and_eq_true] at hB
      obtain ⟨⟨hr, hf⟩, hB'⟩ := hB
      have hr' : i ∈ Region.ready md l.toArray listed := by simpa using hr
      have h0 := getD_of_ready hr'
      obtain ⟨v, hy, hK⟩ := h
      exact wpAnyC_first h0 (Region.noSelect_spec hsel) (hQ _ _) f listed a w hC (Region.free_spec h0 hf) hr' hy (ih f _ _ w hB' hC hK)
  | act i p ih =>
    intro f listed a w hB hC h
    cases f with
    | zero => simp [Plan.ok] at hB
    | succ f =>
      simp only [Plan.ok, Bool.and_eq_true, decide_eq_true_eq] at hB
      refine ⟨fun h1 => (by rw [h1] at hB; cases hB.1), fun j hj => ?_⟩
      have h0 := getD_of_ready hj
      rw [hB.1] at hj
      have hji : j = i := by simpa using hj
      rw [hji] at h0 ⊢
      exact wpOp_mono (fun a' w' h' => ⟨h'.1, ih f _ _ _ hB.2 h'.1 h'.2⟩) (wpOp_of_actStep h0 hC h)
  | both i p j q ihp ihq =>
    intro f listed a w hB hC h
    cases f with
    | zero => simp [Plan.ok] at hB
    | succ f =>
      simp only [Plan.ok, Bool.and_eq_true, decide_eq_true_eq] at hB
      refine ⟨fun h1 => (by rw [h1] at hB; cases hB.1.1), fun k hk => ?_⟩
      have h0 := getD_of_ready hk
      rw [hB.1.1] at hk
      rcases (by simpa using hk : k = i ∨ k = j) with e | e
      · rw [e] at h0 ⊢
        exact wpOp_mono (fun a' w' h' => ⟨h'.1, ihp f _ _ _ hB.1.2 h'.1 h'.2⟩) (wpOp_of_actStep h0 hC h.1)
      · rw [e] at h0 ⊢
        exact wpOp_mono (fun a' w' h' => ⟨h'.1, ihq f _ _ _ hB.2 h'.1 h'.2⟩) (wpOp_of_actStep h0 hC h.2)

/-- The region's own post: no panic. -/
def quietQ (Q : Exit → Act → World → Prop) : Exit → Act → World → Prop
  | .panic _, _, _ => False
  | e, a, w => Q e a w

theorem wp_region_mix {id : Nat} {a : Act} {w : World} {l : List Oper} (p : Plan) (C : World → Prop) (hm : P.follows .mixedOrders = true)
    (hB : (Region.noSelect l.toArray && p.ok .any l.toArray l.length (Array.replicate l.length false)) = true)
    (hC : C w.drew) (h : wpMix P l.toArray C (quietQ Q) (p.fill l) a w.drew) : (Code.region id l.toArray true).wp P Q a w := by
  simp only [Bool.and_eq_true] at hB
  have H := wpAnyC_of_mix (P := P) (md := .any) (C := C) (Q := quietQ Q) hB.1 (fun d v c a w h => h) p l.length _ a w.drew hB.2 hC h
  have H2 : (Code.region id l.toArray true).wp P (quietQ Q) a w := by
    refine wp_region_any hm ?_
    have := wpAny_of_class _ _ _ _ H
    simpa using this
  exact Code.wp_mono (fun e a w he => by cases e <;> first | exact he | exact he.elim) H2


/-! The same where the last operation waits for all others ('sink'): what it does to the world need not stay in the class. -/
def wpAnyH (P : Program) (md : Region.Mode) (ops : Array Oper) (C : World → Prop) (Q : Exit → Act → World → Prop) (n : Nat) (L : Array Bool → Act → World → Prop) : Nat → Array Bool → Act → World → Prop
  | 0, listed, a, w => L listed a w
  | f + 1, listed, a, w =>
    Region.ready md ops listed ≠ [] ∧ ∀ i ∈ Region.ready md ops listed, i < n ∧ wpOp P ops Q i (fun a' w' => C w' ∧ wpAnyH P md ops C Q n L f (listed.setIfInBounds i true) a' w') a w

theorem wpAny_of_headC {n g : Nat} {L : Array Bool → Act → World → Prop} (hL : ∀ listed a w, L listed a w → wpAny P md ops Q g listed a w) :
    ∀ (f : Nat) (listed : Array Bool) (a : Act) (w : World), wpAnyH P md ops C Q n L f listed a w → wpAny P md ops Q (f + g) listed a w
  | 0, listed, a, w, h => by rw [Nat.zero_add]; exact hL _ _ _ h
  | f + 1, listed, a, w, h => by
    rw [show f + 1 + g = (f + g) + 1 by omega]
    exact ⟨fun h0 => absurd h0 h.1, fun i hi => wpOp_mono (fun a' w' h' => wpAny_of_headC hL f _ a' w' h'.2) (h.2 i hi).2⟩

theorem wpAnyH_first {n i : Nat} {oi : Oper} {v : Value} {L : Array Bool → Act → World → Prop} (hi : ops[i]? = some oi) (hsel : ∀ (j : Nat) (o : Oper) cs b, ops[j]? = some o → o.op ≠ .select cs b)
    (hQ : ∀ c a w, Q (.panic c) (a.put oi.dst v) w → Q (.panic c) a w)
    (hs : Region.sinkB md ops n = true) (hc : Region.chainB md ops n = true) (hn : n < ops.size) (hin : i < n)
    (hdone : ∀ listed a w, L listed a w → ∀ j ∈ Region.ready md ops listed, n ≤ j) :
    ∀ (f : Nat) (listed : Array Bool) (a : Act) (w : World), C w → HeadInv md ops n listed →
      (∀ j oj, ops[j]? = some oj → j ≠ i → listed.getD j true = false → (∀ e ∈ oj.after, Region.binds md e = true → e.on ≠ i) → oi.apart ops oj = true) →
      i ∈ Region.ready md ops listed → YieldsC P ops C oi v a →
      wpAnyH P md ops C Q n L f (listed.setIfInBounds i true) (a.put oi.dst v) w → wpAnyH P md ops C Q n L (f + 1) listed a w := by
  intro f
  induction f with
  | zero =>
    intro listed a w hC inv _ hr hy H
    have hun := (mem_ready.1 hr).1
    refine ⟨fun h => (by rw [h] at hr; cases hr), fun j hj => ?_⟩
    have hjn : j < n := by
      rcases Nat.lt_or_ge j n with h | h
      · exact h
      · exact absurd hj (tail_waits hs hc hn inv _ i rfl hin hun j h)
    refine ⟨hjn, ?_⟩
    by_cases hji : j = i
    · rw [hji]; exact hy.wpOp hi hC ⟨hC, H⟩
    · have := hdone _ _ _ H j (ready_mono hj hji)
      omega
  | succ f ih =>
    intro listed a w hC inv hfree hr hy H
    have hun := (mem_ready.1 hr).1
    refine ⟨fun h => (by rw [h] at hr; cases hr), fun j hj => ?_⟩
    have hjn : j < n := by
      rcases Nat.lt_or_ge j n with h | h
      · exact h
      · exact absurd hj (tail_waits hs hc hn inv _ i rfl hin hun j h)
    refine ⟨hjn, ?_⟩
    by_cases hji : j = i
    · rw [hji]; exact hy.wpOp hi hC ⟨hC, H⟩
    · have h1 := (H.2 j (ready_mono hj hji)).2
      obtain ⟨hjun, oj, hoj, hall⟩ := mem_ready.1 hj
      have hnot : ∀ e ∈ oj.after, Region.binds md e = true → e.on ≠ i := fun e he hb heq => by
        have h1 := hall e he hb
        rw [heq, getD_both hun] at h1
        cases h1
      have h2 := wpOp_putC hoj (hfree j oj hoj hji hjun hnot) (fun cs b => hsel i oi cs b hi) (fun cs b => hsel j oj cs b hoj) hQ hy h1
      have hfree' : ∀ k ok, ops[k]? = some ok → k ≠ i → (listed.setIfInBounds j true).getD k true = false →
          (∀ e ∈ ok.after, Region.binds md e = true → e.on ≠ i) → oi.apart ops ok = true := fun k ok hk hki hun hno => by
        refine hfree k ok hk hki ?_ hno
        by_cases hjk : j = k
        · rw [← hjk]; exact hjun
        · rw [getD_set_ne true hjk] at hun; exact hun
      refine wpOp_mono (fun a' w' h3 => ⟨h3.2.1, ih (listed.setIfInBounds j true) a' w' h3.2.1 (inv.set hj hjn) hfree' (ready_mono hr (Ne.symm hji)) h3.1 ?_⟩) h2
      rw [Array.setIfInBounds_comm _ _ hji]
      exact h3.2.2

/-- The plan of all but the last operation, n. -/
def Plan.okT (md : Region.Mode) (ops : Array Oper) (n : Nat) : Plan → Nat → Array Bool → Bool
  | .nil, 0, l => decide (Region.ready md ops l = [n]) && (Region.ready md ops (l.setIfInBounds n true)).isEmpty
  | .pure i p, f + 1, l => decide (i < n) && (Region.ready md ops l).contains i && Region.free md ops l i && p.okT md ops n f (l.setIfInBounds i true)
  | .act i p, f + 1, l => decide (i < n) && decide (Region.ready md ops l = [i]) && p.okT md ops n f (l.setIfInBounds i true)
  | .both i p j q, f + 1, l => decide (i < n) && decide (j < n) && decide (Region.ready md ops l = [i, j]) && p.okT md ops n f (l.setIfInBounds i true) && q.okT md ops n f (l.setIfInBounds j true)
  | _, _, _ => false

/-- The exits Q, but for 'normal', which is K. -/
def normQ (K : Act → World → Prop) (Q : Exit → Act → World → Prop) : Exit → Act → World → Prop
  | .normal, a, w => K a w
  | e, a, w => Q e a w

theorem wpAnyH_of_mix {l : List Oper} {n : Nat} {L : Array Bool → Act → World → Prop} (hsel : Region.noSelect l.toArray = true) (hQ : ∀ d v c a w, Q (.panic c) (Act.put a d v) w → Q (.panic c) a w)
    (hs : Region.sinkB md l.toArray n = true) (hc : Region.chainB md l.toArray n = true) (hn : n < l.toArray.size)
    (hdone : ∀ listed a w, L listed a w → ∀ j ∈ Region.ready md l.toArray listed, n ≤ j) {K : Act → World → Prop}
    (hL : ∀ listed a w, Region.ready md l.toArray listed = [n] → (Region.ready md l.toArray (listed.setIfInBounds n true)) = [] → K a w → L listed a w) :
    ∀ (p : Plan) (f : Nat) (listed : Array Bool) (a : Act) (w : World), p.okT md l.toArray n f listed = true → C w → HeadInv md l.toArray n listed →
      wpMix P l.toArray C (normQ K Q) (p.fill l) a w → wpAnyH P md l.toArray C (normQ K Q) n L f listed a w := by
  intro p
  induction p with
  | nil =>
    intro f listed a w hB hC inv h
    cases f with
    | zero =>
      simp only [Plan.okT, Bool.and_eq_true, decide_eq_true_eq, List.isEmpty_iff] at hB
      exact hL _ _ _ hB.1 hB.2 h
    | succ f => simp [Plan.okT] at hB
  | pure i p ih =>
    intro f listed a w hB hC inv h
    cases f with
    | zero => simp [Plan.okT] at hB
    | succ f =>
      simp only [Plan.okT, Bool.and_eq_true, decide_eq_true_eq] at hB
      obtain ⟨⟨⟨hin, hr⟩, hf⟩, hB'⟩ := hB
      have hr' : i ∈ Region.ready md l.toArray listed := by simpa using hr
      have h0 := getD_of_ready hr'
      obtain ⟨v, hy, hK⟩ := h
      exact wpAnyH_first (Q := normQ K Q) h0 (Region.noSelect_spec hsel) (fun c a w h => hQ _ _ c a w h) hs hc hn hin hdone f listed a w hC inv (Region.free_spec h0 hf) hr' hy (ih f _ _ w hB' hC (inv.set hr' hin) hK)
  | act i p ih =>
    intro f listed a w hB hC inv h
    cases f with
    | zero => simp [Plan.okT] at hB
    | succ f =>
      simp only [Plan.okT, Bool.and_eq_true, decide_eq_true_eq] at hB
      refine ⟨fun h1 => (by rw [h1] at hB; cases hB.1.2), fun j hj => ?_⟩
      have h0 := getD_of_ready hj
      have hj0 := hj
      rw [hB.1.2] at hj
      have hji : j = i := by simpa using hj
      rw [hji] at h0 hj0 ⊢
      exact ⟨hB.1.1, wpOp_mono (fun a' w' h' => ⟨h'.1, ih f _ _ _ hB.2 h'.1 (inv.set hj0 hB.1.1) h'.2⟩) (wpOp_of_actStep h0 hC h)⟩
  | both i p j q ihp ihq =>
    intro f listed a w hB hC inv h
    cases f with
    | zero => simp [Plan.okT] at hB
    | succ f =>
      simp only [Plan.okT, Bool.and_eq_true, decide_eq_true_eq] at hB
      refine ⟨fun h1 => (by rw [h1] at hB; cases hB.1.1.2), fun k hk => ?_⟩
      have h0 := getD_of_ready hk
      have hk0 := hk
      rw [hB.1.1.2] at hk
      rcases (by simpa using hk : k = i ∨ k = j) with e | e
      · rw [e] at h0 hk0 ⊢
        exact ⟨hB.1.1.1.1, wpOp_mono (fun a' w' h' => ⟨h'.1, ihp f _ _ _ hB.1.2 h'.1 (inv.set hk0 hB.1.1.1.1) h'.2⟩) (wpOp_of_actStep h0 hC h.1)⟩
      · rw [e] at h0 hk0 ⊢
        exact ⟨hB.1.1.1.2, wpOp_mono (fun a' w' h' => ⟨h'.1, ihq f _ _ _ hB.2 h'.1 (inv.set hk0 hB.1.1.1.2) h'.2⟩) (wpOp_of_actStep h0 hC h.2)⟩

/-- The last operation, behind the walk of the others. -/
def lastStep (P : Program) (ops : Array Oper) (Q : Exit → Act → World → Prop) (o : Oper) (a : Act) (w : World) : Prop :=
  if Region.wanted o (yielded ops a.tmps) then o.wp P a w (Q .normal) Q ∨ (o.asks P a w ∧ LetsOut Q) else Q .normal (a.put o.dst undef) w
def tailQ (P : Program) (ops : Array Oper) (o : Oper) (Q : Exit → Act → World → Prop) : Exit → Act → World → Prop := normQ (lastStep P ops (quietQ Q) o) (quietQ Q)

/-- The exits of an operation that is no end of the region: 'normal' is none of them. -/
theorem wpOp_exits {i : Nat} {Q1 Q2 : Exit → Act → World → Prop} {K : Act → World → Prop} {a : Act} {w : World} (h : wpOp P ops Q1 i K a w) (hp : ∀ c a w, Q1 (.panic c) a w → Q2 (.panic c) a w) (ho : LetsOut Q1 → LetsOut Q2) : wpOp P ops Q2 i K a w := by
  unfold Go.wpOp at *
  split
  · rename_i he; simp only [he] at h; exact h
  · rename_i o he
    simp only [he] at h
    split
    · rename_i hw
      simp only [hw, if_true] at h
      rcases h with h | ⟨h1, h2⟩
      · left
        unfold Oper.wp at *
        cases hr : (execOp a.eval o).run P w with
        | halt x w' =>
          rw [hr] at h
          cases x <;> simp only [Oper.upon] at h ⊢
          case panic u => exact hp _ _ _ h
        | ok n w' =>
          rw [hr] at h
          cases n <;> simp only [Oper.upon] at h ⊢ <;> first | exact h | skip
          case enter f args =>
            refine Calls.mono h fun e w'' he => ?_
            cases e with
            | returned u => exact he
            | panicked c => exact hp _ _ _ he
            | outgrown => exact ho he
      · exact .inr ⟨h1, ho h2⟩
    · rename_i hw
      simp only [hw] at h
      exact h
theorem wpAny_exits {Q1 Q2 : Exit → Act → World → Prop} (hp : ∀ c a w, Q1 (.panic c) a w → Q2 (.panic c) a w) (ho : LetsOut Q1 → LetsOut Q2) {n : Nat} {L : Array Bool → Act → World → Prop} :
    ∀ (f : Nat) (listed : Array Bool) (a : Act) (w : World), wpAnyH P md ops C Q1 n L f listed a w → wpAnyH P md ops C Q2 n L f listed a w
  | 0, _, _, _, h => h
  | f + 1, _, _, _, h => ⟨h.1, fun i hi => ⟨(h.2 i hi).1, wpOp_exits (wpOp_mono (fun _ _ h' => ⟨h'.1, wpAny_exits hp ho f _ _ _ h'.2⟩) (h.2 i hi).2) hp ho⟩⟩

theorem wp_region_mixT {id : Nat} {a : Act} {w : World} {l : List Oper} (p : Plan) (C : World → Prop) (hm : P.follows .mixedOrders = true)
    (hB : (Region.noSelect l.toArray && (Region.sinkB .any l.toArray (l.length - 1) && (Region.chainB .any l.toArray (l.length - 1) && (decide (0 < l.length) && p.okT .any l.toArray (l.length - 1) (l.length - 1) (Array.replicate l.length false))))) = true)
    (hC : C w.drew)
    (h : wpMix P l.toArray C (tailQ P l.toArray (l.getD (l.length - 1) default) Q) (p.fill l) a w.drew) : (Code.region id l.toArray true).wp P Q a w := by
  simp only [Bool.and_eq_true, decide_eq_true_eq] at hB
  obtain ⟨hsel, hs, hc, hpos, hok⟩ := hB
  have hn : l.length - 1 < l.toArray.size := by simp; omega
  have hlast : l.toArray[l.length - 1]? = some (l.getD (l.length - 1) default) := by
    simp only [List.getElem?_toArray, List.getD]
    rw [List.getElem?_eq_getElem (by omega)]
    rfl
  have inv0 : HeadInv .any l.toArray (l.length - 1) (Array.replicate l.length false) :=
    ⟨by simp, fun j oj _ hl => (by rw [getD_replicate_false] at hl; cases hl), fun t _ ht => getD_in (by simpa using ht) (getD_replicate_false _ _)⟩
  have hin : LetsOut (tailQ P l.toArray (l.getD (l.length - 1) default) Q) → LetsOut (quietQ Q) := fun ⟨a, w, h⟩ => ⟨a, w, h⟩
  have H := wpAnyH_of_mix (P := P) (md := .any) (C := C) (Q := quietQ Q) (K := lastStep P l.toArray (quietQ Q) (l.getD (l.length - 1) default))
    (L := fun listed a w => Region.ready .any l.toArray listed = [l.length - 1] ∧ Region.ready .any l.toArray (listed.setIfInBounds (l.length - 1) true) = [] ∧ lastStep P l.toArray (quietQ Q) (l.getD (l.length - 1) default) a w)
    hsel (fun d v c a w h => h) hs hc hn (fun listed a w hL j hj => by rw [hL.1] at hj; simp at hj; omega)
    (fun listed a w h1 h2 h3 => ⟨h1, h2, h3⟩) p (l.length - 1) (Array.replicate l.length false) a w.drew hok hC inv0 h
  have H1 := wpAny_exits (Q1 := tailQ P l.toArray (l.getD (l.length - 1) default) Q) (Q2 := quietQ Q) (fun c a w h => h) hin _ _ _ _ H
  have H2 : (Code.region id l.toArray true).wp P (quietQ Q) a w := by
    refine wp_region_any hm ?_
    have := wpAny_of_headC (P := P) (md := .any) (C := C) (Q := quietQ Q) (g := 1) (fun listed a w hL => by
      refine ⟨fun h0 => (by rw [h0] at hL; cases hL.1), fun i hi => ?_⟩
      rw [hL.1] at hi
      have hil : i = l.length - 1 := by simpa using hi
      rw [hil]
      unfold Go.wpOp
      simp only [hlast]
      have h3 := hL.2.2
      unfold lastStep at h3
      split
      · rename_i hw
        simp only [hw, if_true] at h3
        rcases h3 with h3 | h3
        · exact .inl (Oper.wp_mono (fun a' w' h' => ⟨hL.2.1, h'⟩) h3)
        · exact .inr h3
      · rename_i hw
        simp only [hw] at h3
        exact ⟨hL.2.1, h3⟩) _ _ _ _ H1
    rw [show l.length - 1 + 1 = l.toArray.size by simp; omega] at this
    simpa using this
  exact Code.wp_mono (fun e a w he => by cases e <;> first | exact he | exact he.elim) H2

theorem mix_tail {o : Oper} {a : Act} {w : World} (hg : o.guard = none) (h : o.wp P a w (Q .normal) (quietQ Q)) : wpMix P ops C (tailQ P ops o Q) .nil a w := by
  show lastStep _ _ _ _ _ _
  unfold lastStep
  rw [if_pos (by simp [Region.wanted, hg])]
  exact .inl h
theorem mix_tailK {o : Oper} {a : Act} {w : World} (hg : o.guard = none) (h : ∀ K : Act → World → Prop, (∀ a' w', Q .normal a' w' → K a' w') → o.wp P a w K (quietQ Q)) : wpMix P ops C (tailQ P ops o Q) .nil a w :=
  mix_tail hg (h _ fun _ _ h => h)
theorem mix_nil {a : Act} {w : World} (h : Q .normal a w) : wpMix P ops C (quietQ Q) .nil a w := h
theorem mix_pure {o : Oper} {p : Mix} {a : Act} {w : World} (v : Value) (hg : o.guard = none) (hv : ∀ w', C w' → (execOp a.eval o).run P w' = .ok (.value v) w')
    (h : ∀ K : Act → Prop, (∀ a', wpMix P ops C Q p a' w → K a') → K (a.put o.dst v)) : wpMix P ops C Q (.pure o p) a w :=
  ⟨v, .inl ⟨by simp [Region.wanted, hg], hv⟩, h _ fun _ h => h⟩
theorem mix_pureG {o : Oper} {p : Mix} {a : Act} {w : World} (v : Value) (hg : Region.wanted o (yielded ops a.tmps) = true) (hv : ∀ w', C w' → (execOp a.eval o).run P w' = .ok (.value v) w')
    (h : ∀ K : Act → Prop, (∀ a', wpMix P ops C Q p a' w → K a') → K (a.put o.dst v)) : wpMix P ops C Q (.pure o p) a w :=
  ⟨v, .inl ⟨hg, hv⟩, h _ fun _ h => h⟩
theorem mix_skip {o : Oper} {p : Mix} {a : Act} {w : World} (hg : Region.wanted o (yielded ops a.tmps) = false)
    (h : ∀ K : Act → Prop, (∀ a', wpMix P ops C Q p a' w → K a') → K (a.put o.dst undef)) : wpMix P ops C Q (.pure o p) a w :=
  ⟨undef, .inr ⟨hg, rfl⟩, h _ fun _ h => h⟩
theorem mix_act {o : Oper} {p : Mix} {a : Act} {w : World} (hg : o.guard = none)
    (h : ∀ K : Act → World → Prop, (∀ a' w', C w' → (C w' → wpMix P ops C Q p a' w') → K a' w') → o.wp P a w K Q) : wpMix P ops C Q (.act o p) a w := by
  show actStep _ _ _ _ _ _ _ _
  unfold actStep
  rw [if_pos (by simp [Region.wanted, hg])]
  exact .inl (h _ fun _ _ h1 h2 => ⟨h1, h2 h1⟩)
theorem mix_actG {o : Oper} {p : Mix} {a : Act} {w : World} (hg : Region.wanted o (yielded ops a.tmps) = true)
    (h : ∀ K : Act → World → Prop, (∀ a' w', C w' → (C w' → wpMix P ops C Q p a' w') → K a' w') → o.wp P a w K Q) : wpMix P ops C Q (.act o p) a w := by
  show actStep _ _ _ _ _ _ _ _
  unfold actStep
  rw [if_pos hg]
  exact .inl (h _ fun _ _ h1 h2 => ⟨h1, h2 h1⟩)
theorem mix_askip {o : Oper} {p : Mix} {a : Act} {w : World} (hg : Region.wanted o (yielded ops a.tmps) = false)
    (h : ∀ K : Act → Prop, (∀ a', wpMix P ops C Q p a' w → K a') → K (a.put o.dst undef)) : wpMix P ops C Q (.act o p) a w := by
  show actStep _ _ _ _ _ _ _ _
  unfold actStep
  rw [if_neg (by simp [hg])]
  exact h _ fun _ h => h
theorem mix_both {o o' : Oper} {p q : Mix} {a : Act} {w : World} (h1 : wpMix P ops C Q (.act o p) a w) (h2 : wpMix P ops C Q (.act o' q) a w) :
    wpMix P ops C Q (.both o p o' q) a w := ⟨h1, h2⟩
end
end Go.Proofs.Ytkdcdhkhadhcfaa
