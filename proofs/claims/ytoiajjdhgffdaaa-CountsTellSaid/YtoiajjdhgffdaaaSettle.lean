/-
  reference: settle, IsOne.
-/
import Derived.Test.YtoiajjdhgffdaaaSettleV
import Derived.Test.YtoiajjdhgffdaaaCopy
namespace Go.Proofs.Ytoiajjdhgffdaaa
open Go Go.RowKit
set_option maxHeartbeats 2000000
set_option maxRecDepth 100000
/-! The differences that a trap lays -/
def qA (i c : Nat) : DQ := ⟨i, c, i, c + 1, 0, 40⟩
def qB (t : CT) (i c : Nat) : DQ := ⟨i, c, i - 1, c, 0, if inB (atL t.op (i - 1)) c then 40 else 0⟩
def qW (x : CW) : DQ := ⟨x.time.toNat, x.chamber.toNat, x.time.toNat, x.chamber.toNat + 1, x.low, x.high⟩
theorem qA_ok {t : CT} {i c : Nat} (hi : i < t.T.toNat) (hc : c < t.C.toNat) : (qA i c).Ok t.T.toNat (t.C.toNat + 1) :=
  ⟨hi, by show c < _; omega, hi, by show c + 1 < _; omega, by show ¬ (i = i ∧ c + 1 = c); omega, by show (0 : Int) ≤ 0; omega, by show (0 : Int) ≤ 40; omega, by show (0 : Int) ≤ 40; omega, by show (40 : Int) ≤ 40; omega⟩
theorem qB_ok {t : CT} {i c : Nat} (h0 : 0 < i) (hi : i < t.T.toNat) (hc : c < t.C.toNat) : (qB t i c).Ok t.T.toNat (t.C.toNat + 1) := by
  have : 0 ≤ (qB t i c).high ∧ (qB t i c).high ≤ 40 := by
    show 0 ≤ (if _ then (40 : Int) else 0) ∧ (if _ then (40 : Int) else 0) ≤ 40
    split <;> omega
  exact ⟨hi, by show c < _; omega, by show i - 1 < _; omega, by show c < _; omega, by show ¬ (i - 1 = i ∧ c = c); omega, by show (0 : Int) ≤ 0; omega, by show (0 : Int) ≤ 40; omega, this.1, this.2⟩
theorem qW_ok {t : CT} (hf : Fit t) {k : Nat} (hk : k < t.ws.length) : (qW (atW t.ws k)).Ok t.T.toNat (t.C.toNat + 1) := by
  obtain ⟨⟨a1, a2⟩, ⟨a3, a4⟩, a5, a6, a7⟩ := hf.word k hk
  exact ⟨by show (atW t.ws k).time.toNat < _; omega, by show (atW t.ws k).chamber.toNat < _; omega, by show (atW t.ws k).time.toNat < _; omega, by show (atW t.ws k).chamber.toNat + 1 < _; omega,
    by show ¬ (_ ∧ (atW t.ws k).chamber.toNat + 1 = (atW t.ws k).chamber.toNat); omega, a5, by show (atW t.ws k).low ≤ 40; omega, by show 0 ≤ (atW t.ws k).high; omega, a7⟩
theorem qA_says {t : CT} {i c : Nat} (hi : i < t.T.toNat) (hc : c < t.C.toNat) (y : Nat → Nat → Int) (h : Sat t (-1) y) : (qA i c).says y := by
  have a := h.chain i c hi hc
  have b := (h.bounds i hi c (by omega)).2
  have d := (h.bounds i hi (c + 1) (by omega)).1
  exact ⟨by show (0 : Int) ≤ y i c - y i (c + 1); omega, by show y i c - y i (c + 1) ≤ 40; omega⟩
theorem qB_says {t : CT} {i c : Nat} (h0 : 0 < i) (hi : i < t.T.toNat) (hc : c < t.C.toNat) (y : Nat → Nat → Int) (h : Sat t (-1) y) : (qB t i c).says y := by
  have a := h.time (i - 1) c (by omega) hc
  have s := h.shut (i - 1) c (by omega) hc
  rw [show i - 1 + 1 = i by omega] at a s
  have b := (h.bounds i hi c (by omega)).2
  have d := (h.bounds (i - 1) (by omega) c (by omega)).1
  refine ⟨by show (0 : Int) ≤ y i c - y (i - 1) c; omega, ?_⟩
  show y i c - y (i - 1) c ≤ (if inB (atL t.op (i - 1)) c then (40 : Int) else 0)
  split
  · omega
  · rename_i e; have := s (by simpa using e); omega
theorem qW_says {t : CT} {k : Nat} (hk : k < t.ws.length) (y : Nat → Nat → Int) (h : Sat t (-1) y) : (qW (atW t.ws k)).says y := h.word k hk (by omega)
/-- All differences hold. -/
structure Still (t : CT) (lo hi : Nat → Nat → Int) : Prop where
  a : ∀ i c, i < t.T.toNat → c < t.C.toNat → (qA i c).still lo hi
  b : ∀ i c, 0 < i → i < t.T.toNat → c < t.C.toNat → (qB t i c).still lo hi
  w : ∀ k, k < t.ws.length → (qW (atW t.ws k)).still lo hi
theorem Still.sat {t : CT} {lo hi : Nat → Nat → Int} (h : Still t lo hi) (h40 : ∀ a b, hi a b ≤ 40) (hle : ∀ a b, a < t.T.toNat → b < t.C.toNat + 1 → lo a b ≤ hi a b) (h0 : ∀ a, 0 ≤ lo a t.C.toNat ∧ hi a t.C.toNat ≤ 0) :
    Sat t (-1) lo ∧ Sat t (-1) hi := by
  have key : ∀ f : Nat → Nat → Int, (f = lo ∨ f = hi) → Sat t (-1) f := by
    intro f hf
    have fle : ∀ a b, a < t.T.toNat → b < t.C.toNat + 1 → f a b ≤ 40 := fun a b ha hb => by
      have := h40 a b; have := hle a b ha hb
      rcases hf with rfl | rfl <;> omega
    have f0 : ∀ a, a < t.T.toNat → f a t.C.toNat = 0 := fun a ha => by
      have := h0 a; have := hle a t.C.toNat ha (by omega)
      rcases hf with rfl | rfl <;> omega
    have fs : ∀ q : DQ, q.still lo hi → q.says f := fun q hq => by
      obtain ⟨⟨a1, a2⟩, a3, a4⟩ := hq
      unfold DQ.says
      rcases hf with rfl | rfl <;> omega
    refine ⟨fun i hi' => fle i 0 hi' (by omega), f0, fun i c hi' hc => ?_, fun i c hi' hc => ?_, fun i c hi' hc hin => ?_, fun k hk _ => fs _ (h.w k hk)⟩
    · have := (fs _ (h.a i c hi' hc)).1
      have : (0 : Int) ≤ f i c - f i (c + 1) := this
      omega
    · have := (fs _ (h.b (i + 1) c (by omega) hi' hc)).1
      have : (0 : Int) ≤ f (i + 1) c - f i c := this
      omega
    · have := (fs _ (h.b (i + 1) c (by omega) hi' hc)).2
      have : f (i + 1) c - f i c ≤ (if inB (atL t.op i) c then (40 : Int) else 0) := this
      rw [if_neg (by rw [hin]; simp)] at this
      omega
  exact ⟨key lo (.inl rfl), key hi (.inr rfl)⟩
/-- What settle leaves. -/
def Settled (t : CT) (l0 h0 lo hi : Nat → Nat → Int) (b : Bool) : Prop :=
  (b = true ∧ Sat t (-1) lo ∧ Sat t (-1) hi ∧ InBox t.T.toNat (t.C.toNat + 1) l0 h0 lo ∧ InBox t.T.toNat (t.C.toNat + 1) l0 h0 hi ∧ ∀ y, Sat t (-1) y → InBox t.T.toNat (t.C.toNat + 1) l0 h0 y → InBox t.T.toNat (t.C.toNat + 1) lo hi y) ∨
  (b = false ∧ ¬ ∃ y, Sat t (-1) y ∧ InBox t.T.toNat (t.C.toNat + 1) l0 h0 y)
/-- What is asked of the spans that settle is given. -/
structure BoxOk (C : Nat) (l0 h0 : Nat → Nat → Int) : Prop where
  l : ∀ a b, 0 ≤ l0 a b ∧ l0 a b ≤ 40
  h : ∀ a b, 0 ≤ h0 a b ∧ h0 a b ≤ 40
  e : ∀ a, l0 a C = 0 ∧ h0 a C = 0
/-- At the head of a round. -/
structure Head (t : CT) (l0 h0 lo hi : Nat → Nat → Int) (ch : Bool) : Prop where
  keep : ∀ y, Sat t (-1) y → InBox t.T.toNat (t.C.toNat + 1) l0 h0 y → InBox t.T.toNat (t.C.toNat + 1) lo hi y
  zlo : ∀ a b, l0 a b ≤ lo a b
  zhi : ∀ a b, hi a b ≤ h0 a b
  edge : ∀ a, lo a t.C.toNat ≤ max 0 (lo a (t.C.toNat - 1)) ∧ min 0 (hi a (t.C.toNat - 1) - 40) ≤ hi a t.C.toNat
  bnd : ∀ a b, lo a b ≤ 2000 ∧ -2000 ≤ hi a b
  off : ∀ a b, ¬ (a < t.T.toNat ∧ b < t.C.toNat + 1) → lo a b = l0 a b ∧ hi a b = h0 a b
  fin : ch = false → Still t lo hi
theorem Head.start {t : CT} {l0 h0 : Nat → Nat → Int} (hb : BoxOk t.C.toNat l0 h0) : Head t l0 h0 l0 h0 true :=
  ⟨fun _ _ h => h, fun _ _ => Int.le_refl _, fun _ _ => Int.le_refl _, fun a => by have := hb.e a; have := hb.h a (t.C.toNat - 1); omega, fun a b => by have := hb.l a b; have := hb.h a b; omega, fun _ _ _ => ⟨rfl, rfl⟩, fun h => by cases h⟩
theorem Head.rnd {t : CT} {l0 h0 lo hi : Nat → Nat → Int} {ch : Bool} (h : Head t l0 h0 lo hi ch) : Rnd t.T.toNat t.C.toNat (Sat t (-1)) l0 h0 lo hi lo hi 0 false := Rnd.start h.keep h.zlo h.zhi h.edge h.off
/-- The spans at the round's start were looked at: at all places that come ahead of (i c). -/
def Seen (t : CT) (lS hS : Nat → Nat → Int) (i c : Nat) : Prop := ∀ a b, a < t.T.toNat → b < t.C.toNat → (a < i ∨ (a = i ∧ b < c)) → lS a b ≤ 40 ∧ 0 ≤ hS a b
def DoneP (t : CT) (lS hS : Nat → Nat → Int) (i c : Nat) (ch : Bool) : Prop :=
  ch = false → (∀ a b, a < t.T.toNat → b < t.C.toNat → (a < i ∨ (a = i ∧ b < c)) → (qA a b).still lS hS ∧ (0 < a → (qB t a b).still lS hS))
theorem Seen.zero {t : CT} {lS hS : Nat → Nat → Int} : Seen t lS hS 0 0 := fun a b _ _ h => by omega
theorem Seen.next {t : CT} {lS hS : Nat → Nat → Int} {i c : Nat} (h : Seen t lS hS i c) (h2 : lS i c ≤ 40 ∧ 0 ≤ hS i c) : Seen t lS hS i (c + 1) := fun a b ha hb hq => by
  by_cases e : a = i ∧ b = c
  · rw [e.1, e.2]; exact h2
  · exact h a b ha hb (by omega)
theorem Seen.row {t : CT} {lS hS : Nat → Nat → Int} {i c : Nat} (h : Seen t lS hS i c) (hc : t.C.toNat ≤ c) : Seen t lS hS (i + 1) 0 := fun a b ha hb hq => h a b ha hb (by omega)
theorem DoneP.zero {t : CT} {lS hS : Nat → Nat → Int} {ch : Bool} : DoneP t lS hS 0 0 ch := fun _ a b _ _ h => by omega
theorem DoneP.row {t : CT} {lS hS : Nat → Nat → Int} {i c : Nat} {ch : Bool} (h : DoneP t lS hS i c ch) (hc : t.C.toNat ≤ c) : DoneP t lS hS (i + 1) 0 ch := fun e a b ha hb hq => h e a b ha hb (by omega)
theorem DoneP.next {t : CT} {lS hS : Nat → Nat → Int} {i c : Nat} {ch ch' : Bool} (h : DoneP t lS hS i c ch) (hle : ch' = false → ch = false) (h2 : ch' = false → (qA i c).still lS hS ∧ (0 < i → (qB t i c).still lS hS)) : DoneP t lS hS i (c + 1) ch' := fun e a b ha hb hq => by
  by_cases q : a = i ∧ b = c
  · rw [q.1, q.2]; exact h2 e
  · exact h (hle e) a b ha hb (by omega)
/-- In the two inner loops: at the place (i c). -/
structure In2 (t : CT) (l0 h0 lS hS lo hi : Nat → Nat → Int) (i c : Nat) (ch : Bool) : Prop where
  rnd : Rnd t.T.toNat t.C.toNat (Sat t (-1)) l0 h0 lS hS lo hi (8 * i + 2 * c) ch
  seen : Seen t lS hS i c
  done : DoneP t lS hS i c ch
theorem In2.start {t : CT} {l0 h0 lo hi : Nat → Nat → Int} {ch : Bool} (h : Head t l0 h0 lo hi ch) : In2 t l0 h0 lo hi lo hi 0 0 false := ⟨h.rnd, Seen.zero, DoneP.zero⟩
theorem In2.row {t : CT} {l0 h0 lS hS lo hi : Nat → Nat → Int} {i c : Nat} {ch : Bool} (h : In2 t l0 h0 lS hS lo hi i c ch) (hc : t.C.toNat ≤ c) (hc4 : c ≤ 4) : In2 t l0 h0 lS hS lo hi (i + 1) 0 ch :=
  ⟨h.rnd.more (by omega), h.seen.row hc, h.done.row hc⟩
theorem In2.bounds {t : CT} {l0 h0 lS hS lo hi : Nat → Nat → Int} {i c : Nat} {ch : Bool} (h : In2 t l0 h0 lS hS lo hi i c ch) (hb : BoxOk t.C.toNat l0 h0) (hs : ∀ a b, lS a b ≤ 2000 ∧ -2000 ≤ hS a b) (hi' : i ≤ 5) (hc : c ≤ 4) (a b : Nat) :
    (0 ≤ lo a b ∧ lo a b ≤ 5000) ∧ -5000 ≤ hi a b ∧ hi a b ≤ 40 := by
  have h1 := h.rnd.bnd 2000 (by omega) hs a b
  have h2 := h.rnd.slo a b
  have h3 := h.rnd.zlo a b
  have h4 := h.rnd.shi a b
  have h5 := h.rnd.zhi a b
  have h6 := hb.l a b
  have h7 := hb.h a b
  omega
/-- The first difference at (i c). -/
theorem In2.stepA {t : CT} {l0 h0 lS hS lo hi : Nat → Nat → Int} {i c : Nat} {ch : Bool} (h : In2 t l0 h0 lS hS lo hi i c ch) (hi' : i < t.T.toNat) (hc : c < t.C.toNat) :
    Rnd t.T.toNat t.C.toNat (Sat t (-1)) l0 h0 lS hS ((qA i c).lo lo) ((qA i c).hi hi) (8 * i + 2 * c + 1) ((qA i c).ch lo hi || ch) ∧ (((qA i c).ch lo hi || ch) = false → (qA i c).still lS hS) :=
  h.rnd.step (qA_ok hi' hc) (qA_says hi' hc) (.inl ⟨rfl, rfl⟩)
theorem In2.fin0 {t : CT} {l0 h0 lS hS lo hi : Nat → Nat → Int} {c : Nat} {ch : Bool} (h : In2 t l0 h0 lS hS lo hi 0 c ch) (hb : BoxOk t.C.toNat l0 h0) (h0T : 0 < t.T.toNat) (hc : c < t.C.toNat) (hck : lo 0 c ≤ hi 0 c) :
    In2 t l0 h0 lS hS ((qA 0 c).lo lo) ((qA 0 c).hi hi) 0 (c + 1) ((qA 0 c).ch lo hi || ch) := by
  obtain ⟨h1, h2⟩ := h.stepA h0T hc
  have := hb.l 0 c; have := hb.h 0 c; have := h.rnd.slo 0 c; have := h.rnd.shi 0 c; have := h.rnd.zlo 0 c; have := h.rnd.zhi 0 c
  exact ⟨h1.more (by omega), h.seen.next (by omega), h.done.next (fun e => by simp only [Bool.or_eq_false_iff] at e; exact e.2) (fun e => ⟨h2 e, fun h => by omega⟩)⟩
theorem In2.fin1 {t : CT} {l0 h0 lS hS lo hi : Nat → Nat → Int} {i c : Nat} {ch : Bool} (h : In2 t l0 h0 lS hS lo hi i c ch) (hb : BoxOk t.C.toNat l0 h0) (hi0 : 0 < i) (hi' : i < t.T.toNat) (hc : c < t.C.toNat) (hck : lo i c ≤ hi i c) :
    In2 t l0 h0 lS hS ((qB t i c).lo ((qA i c).lo lo)) ((qB t i c).hi ((qA i c).hi hi)) i (c + 1) ((qB t i c).ch ((qA i c).lo lo) ((qA i c).hi hi) || ((qA i c).ch lo hi || ch)) := by
  obtain ⟨h1, h2⟩ := h.stepA hi' hc
  obtain ⟨h3, h4⟩ := h1.step (qB_ok hi0 hi' hc) (qB_says hi0 hi' hc) (.inr ⟨hc, hc⟩)
  have := hb.l i c; have := hb.h i c; have := h.rnd.slo i c; have := h.rnd.shi i c; have := h.rnd.zlo i c; have := h.rnd.zhi i c
  exact ⟨h3.more (by omega), h.seen.next (by omega), h.done.next (fun e => by simp only [Bool.or_eq_false_iff] at e; exact e.2.2) (fun e => ⟨h2 (by simp only [Bool.or_eq_false_iff] at e ⊢; exact e.2), fun _ => h4 e⟩)⟩
/-- The loop over the words. -/
structure InW (t : CT) (l0 h0 lS hS lo hi : Nat → Nat → Int) (k : Nat) (ch : Bool) : Prop where
  rnd : Rnd t.T.toNat t.C.toNat (Sat t (-1)) l0 h0 lS hS lo hi (40 + k) ch
  seen : Seen t lS hS t.T.toNat 0
  done : DoneP t lS hS t.T.toNat 0 ch
  word : ch = false → ∀ j, j < k → (qW (atW t.ws j)).still lS hS
theorem InW.start {t : CT} {l0 h0 lS hS lo hi : Nat → Nat → Int} {i : Nat} {ch : Bool} (h : In2 t l0 h0 lS hS lo hi i 0 ch) (hi' : t.T.toNat ≤ i) (h5 : i ≤ 5) : InW t l0 h0 lS hS lo hi 0 ch :=
  ⟨h.rnd.more (by omega), fun a b ha hb _ => h.seen a b ha hb (by omega), fun e a b ha hb _ => h.done e a b ha hb (by omega), fun _ j hj => by omega⟩
theorem InW.bounds {t : CT} {l0 h0 lS hS lo hi : Nat → Nat → Int} {k : Nat} {ch : Bool} (h : InW t l0 h0 lS hS lo hi k ch) (hb : BoxOk t.C.toNat l0 h0) (hs : ∀ a b, lS a b ≤ 2000 ∧ -2000 ≤ hS a b) (hk : k ≤ 8) (a b : Nat) :
    (0 ≤ lo a b ∧ lo a b ≤ 5000) ∧ -5000 ≤ hi a b ∧ hi a b ≤ 40 := by
  have h1 := h.rnd.bnd 2000 (by omega) hs a b
  have h2 := h.rnd.slo a b
  have h3 := h.rnd.zlo a b
  have h4 := h.rnd.shi a b
  have h5 := h.rnd.zhi a b
  have h6 := hb.l a b
  have h7 := hb.h a b
  omega
theorem InW.step {t : CT} (hf : Fit t) {l0 h0 lS hS lo hi : Nat → Nat → Int} {k : Nat} {ch : Bool} (h : InW t l0 h0 lS hS lo hi k ch) (hk : k < t.ws.length) :
    InW t l0 h0 lS hS ((qW (atW t.ws k)).lo lo) ((qW (atW t.ws k)).hi hi) (k + 1) ((qW (atW t.ws k)).ch lo hi || ch) := by
  obtain ⟨h1, h2⟩ := h.rnd.step (qW_ok hf hk) (qW_says hk) (.inl ⟨rfl, rfl⟩)
  refine ⟨h1.more (by omega), h.seen, fun e => h.done (by simp only [Bool.or_eq_false_iff] at e; exact e.2), fun e j hj => ?_⟩
  by_cases q : j = k
  · rw [q]; exact h2 e
  · exact h.word (by simp only [Bool.or_eq_false_iff] at e; exact e.2) j (by omega)
/-- The round's end is the next one's head. -/
theorem InW.head {t : CT} (hf : Fit t) (h8 : t.ws.length ≤ 9) {l0 h0 lS hS lo hi : Nat → Nat → Int} {k : Nat} {ch c0 : Bool} (hb : BoxOk t.C.toNat l0 h0) (hH : Head t l0 h0 lS hS c0) (h : InW t l0 h0 lS hS lo hi k ch) (hk : k = t.ws.length) : Head t l0 h0 lo hi ch := by
  have hc1 := hf.c1
  have hs40 : ∀ a b, lS a b ≤ 40 ∧ -40 ≤ hS a b := fun a b => by
    by_cases e : a < t.T.toNat ∧ b < t.C.toNat + 1
    · by_cases e2 : b < t.C.toNat
      · have := h.seen a b e.1 e2 (.inl e.1); omega
      · have hb2 : b = t.C.toNat := by omega
        have := hH.edge a
        have := h.seen a (t.C.toNat - 1) e.1 (by omega) (.inl e.1)
        rw [hb2]; omega
    · have := hH.off a b e
      have := hb.l a b
      have := hb.h a b
      omega
  refine ⟨h.rnd.keep, fun a b => Int.le_trans (h.rnd.zlo a b) (h.rnd.slo a b), fun a b => Int.le_trans (h.rnd.shi a b) (h.rnd.zhi a b), h.rnd.edge, fun a b => ?_, h.rnd.off, fun e => ?_⟩
  · have := h.rnd.bnd 40 (by omega) hs40 a b
    omega
  · obtain ⟨_, hp⟩ : ch = false ∧ ∀ a b, lo a b = lS a b ∧ hi a b = hS a b := by
      rcases h.rnd.prog with q | ⟨q, _⟩
      · exact q
      · rw [e] at q; cases q
    have tr : ∀ q : DQ, q.still lS hS → q.still lo hi := fun q hq => by
      unfold DQ.still at hq ⊢
      rw [(hp q.i q.c).1, (hp q.i q.c).2, (hp q.j q.d).1, (hp q.j q.d).2]; exact hq
    exact ⟨fun i c hi' hc => tr _ (h.done e i c hi' hc (.inl hi')).1, fun i c h0 hi' hc => tr _ ((h.done e i c hi' hc (.inl hi')).2 h0), fun j hj => tr _ (h.word e j (by omega))⟩
/-- The end. -/
theorem Head.none {t : CT} {l0 h0 lo hi : Nat → Nat → Int} {ch : Bool} (h : Head t l0 h0 lo hi ch) (a b : Nat) (ha : a < t.T.toNat) (hb : b < t.C.toNat + 1) (hl : hi a b < lo a b) : Settled t l0 h0 lo hi false :=
  .inr ⟨rfl, fun ⟨y, hy, hi'⟩ => by have := h.keep y hy hi' a b ha hb; omega⟩
theorem In2.none {t : CT} {l0 h0 lS hS lo hi : Nat → Nat → Int} {i c : Nat} {ch : Bool} (h : In2 t l0 h0 lS hS lo hi i c ch) (a b : Nat) (ha : a < t.T.toNat) (hb : b < t.C.toNat + 1) (hl : hi a b < lo a b) : Settled t l0 h0 lo hi false :=
  .inr ⟨rfl, fun ⟨y, hy, hi'⟩ => by have := h.rnd.keep y hy hi' a b ha hb; omega⟩
theorem Head.done {t : CT} {l0 h0 lo hi : Nat → Nat → Int} (hb : BoxOk t.C.toNat l0 h0) (h : Head t l0 h0 lo hi false) (hle : ∀ a b, a < t.T.toNat → b < t.C.toNat + 1 → lo a b ≤ hi a b) : Settled t l0 h0 lo hi true := by
  obtain ⟨s1, s2⟩ := (h.fin rfl).sat (fun a b => by have := h.zhi a b; have := hb.h a b; omega) hle (fun a => by have := h.zlo a t.C.toNat; have := h.zhi a t.C.toNat; have := hb.e a; omega)
  exact .inl ⟨rfl, s1, s2, fun a b ha hb' => by have := h.zlo a b; have := h.zhi a b; have := hle a b ha hb'; omega, fun a b ha hb' => by have := h.zlo a b; have := h.zhi a b; have := hle a b ha hb'; omega, h.keep⟩
end Go.Proofs.Ytoiajjdhgffdaaa
