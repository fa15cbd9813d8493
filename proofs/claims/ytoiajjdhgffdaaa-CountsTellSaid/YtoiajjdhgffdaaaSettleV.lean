/-
  how differ narrows two spans: what settle computes. No program in sight.
-/
import Derived.Test.YtoiajjdhgffdaaaPlain
import Derived.Test.YtoiajjdhgffdaaaDiffer
namespace Go.Proofs.Ytoiajjdhgffdaaa
/-- A difference: (i c) less (j d) is from low to high. -/
structure DQ where
  i : Nat
  c : Nat
  j : Nat
  d : Nat
  low : Int
  high : Int
def DQ.lo (q : DQ) (f : Nat → Nat → Int) : Nat → Nat → Int := upd2 (upd2 f q.i q.c (max (f q.i q.c) (f q.j q.d + q.low))) q.j q.d (max (f q.j q.d) (f q.i q.c - q.high))
def DQ.hi (q : DQ) (f : Nat → Nat → Int) : Nat → Nat → Int := upd2 (upd2 f q.i q.c (min (f q.i q.c) (f q.j q.d + q.high))) q.j q.d (min (f q.j q.d) (f q.i q.c - q.low))
def DQ.ch (q : DQ) (lo hi : Nat → Nat → Int) : Bool :=
  !(decide (max (lo q.i q.c) (lo q.j q.d + q.low) = lo q.i q.c) && decide (min (hi q.i q.c) (hi q.j q.d + q.high) = hi q.i q.c)) || !(decide (max (lo q.j q.d) (lo q.i q.c - q.high) = lo q.j q.d) && decide (min (hi q.j q.d) (hi q.i q.c - q.low) = hi q.j q.d))
/-- What a difference says of numbers. -/
def DQ.says (q : DQ) (y : Nat → Nat → Int) : Prop := q.low ≤ y q.i q.c - y q.j q.d ∧ y q.i q.c - y q.j q.d ≤ q.high
/-- Nothing changes by it. -/
def DQ.still (q : DQ) (lo hi : Nat → Nat → Int) : Prop :=
  (lo q.j q.d + q.low ≤ lo q.i q.c ∧ lo q.i q.c - q.high ≤ lo q.j q.d) ∧ (hi q.i q.c ≤ hi q.j q.d + q.high ∧ hi q.j q.d ≤ hi q.i q.c - q.low)
structure DQ.Ok (q : DQ) (T n : Nat) : Prop where
  hi : q.i < T
  hc : q.c < n
  hj : q.j < T
  hd : q.d < n
  ne : ¬ (q.j = q.i ∧ q.d = q.c)
  l0 : 0 ≤ q.low
  l1 : q.low ≤ 40
  h0 : 0 ≤ q.high
  h1 : q.high ≤ 40
theorem DQ.lo_ge (q : DQ) (f : Nat → Nat → Int) (a b : Nat) : f a b ≤ q.lo f a b := by
  unfold DQ.lo upd2
  split
  · rename_i h; obtain ⟨rfl, rfl⟩ := h; omega
  · split
    · rename_i h; obtain ⟨rfl, rfl⟩ := h; omega
    · exact Int.le_refl _
theorem DQ.hi_le (q : DQ) (f : Nat → Nat → Int) (a b : Nat) : q.hi f a b ≤ f a b := by
  unfold DQ.hi upd2
  split
  · rename_i h; obtain ⟨rfl, rfl⟩ := h; omega
  · split
    · rename_i h; obtain ⟨rfl, rfl⟩ := h; omega
    · exact Int.le_refl _
theorem DQ.at_i {q : DQ} {T n : Nat} (h : q.Ok T n) (f : Nat → Nat → Int) : q.lo f q.i q.c = max (f q.i q.c) (f q.j q.d + q.low) ∧ q.hi f q.i q.c = min (f q.i q.c) (f q.j q.d + q.high) := by
  have hne : ¬ (q.i = q.j ∧ q.c = q.d) := fun e => h.ne ⟨e.1.symm, e.2.symm⟩
  unfold DQ.lo DQ.hi
  rw [upd2_other _ _ _ _ _ _ hne, upd2_other _ _ _ _ _ _ hne, upd2_same, upd2_same]
  exact ⟨rfl, rfl⟩
theorem DQ.at_j {q : DQ} (f : Nat → Nat → Int) : q.lo f q.j q.d = max (f q.j q.d) (f q.i q.c - q.high) ∧ q.hi f q.j q.d = min (f q.j q.d) (f q.i q.c - q.low) := by
  unfold DQ.lo DQ.hi
  rw [upd2_same, upd2_same]
  exact ⟨rfl, rfl⟩
theorem DQ.else_ {q : DQ} (f : Nat → Nat → Int) (a b : Nat) (h1 : ¬ (a = q.i ∧ b = q.c)) (h2 : ¬ (a = q.j ∧ b = q.d)) : q.lo f a b = f a b ∧ q.hi f a b = f a b := by
  unfold DQ.lo DQ.hi
  rw [upd2_other _ _ _ _ _ _ h2, upd2_other _ _ _ _ _ _ h2, upd2_other _ _ _ _ _ _ h1, upd2_other _ _ _ _ _ _ h1]
  exact ⟨rfl, rfl⟩
theorem DQ.ch_false {q : DQ} {lo hi : Nat → Nat → Int} : q.ch lo hi = false ↔ q.still lo hi := by
  unfold DQ.ch DQ.still
  simp only [Bool.or_eq_false_iff, Bool.not_eq_false', Bool.and_eq_true, decide_eq_true_eq]
  omega
theorem DQ.same {q : DQ} {lo hi : Nat → Nat → Int} (h : q.still lo hi) (a b : Nat) : q.lo lo a b = lo a b ∧ q.hi hi a b = hi a b := by
  obtain ⟨⟨h1, h2⟩, h3, h4⟩ := h
  unfold DQ.lo DQ.hi upd2
  constructor
  · split
    · rename_i e; obtain ⟨rfl, rfl⟩ := e; omega
    · split
      · rename_i e; obtain ⟨rfl, rfl⟩ := e; omega
      · rfl
  · split
    · rename_i e; obtain ⟨rfl, rfl⟩ := e; omega
    · split
      · rename_i e; obtain ⟨rfl, rfl⟩ := e; omega
      · rfl
def InBox (T n : Nat) (lo hi y : Nat → Nat → Int) : Prop := ∀ a b, a < T → b < n → lo a b ≤ y a b ∧ y a b ≤ hi a b
theorem DQ.keep {q : DQ} {T n : Nat} {lo hi y : Nat → Nat → Int} (hq : q.Ok T n) (h : InBox T n lo hi y) (hy : q.says y) : InBox T n (q.lo lo) (q.hi hi) y := by
  obtain ⟨y1, y2⟩ := hy
  have hi' := h q.i q.c hq.hi hq.hc
  have hj' := h q.j q.d hq.hj hq.hd
  intro a b ha hb
  have hab := h a b ha hb
  unfold DQ.lo DQ.hi upd2
  constructor
  · split
    · rename_i e; obtain ⟨rfl, rfl⟩ := e; omega
    · split
      · rename_i e; obtain ⟨rfl, rfl⟩ := e; omega
      · exact hab.1
  · split
    · rename_i e; obtain ⟨rfl, rfl⟩ := e; omega
    · split
      · rename_i e; obtain ⟨rfl, rfl⟩ := e; omega
      · exact hab.2
/-! The measure -/
def sumF (n : Nat) (f : Nat → Int) : Int := match n with
  | 0 => 0
  | k + 1 => sumF k f + f k
theorem sumF_le {n : Nat} {f g : Nat → Int} (h : ∀ k, k < n → f k ≤ g k) : sumF n f ≤ sumF n g := by
  induction n with
  | zero => exact Int.le_refl _
  | succ n ih => have a := ih (fun k hk => h k (by omega)); have b := h n (by omega); show sumF n f + f n ≤ sumF n g + g n; omega
theorem sumF_lt {n : Nat} {f g : Nat → Int} (h : ∀ k, k < n → f k ≤ g k) (j : Nat) (hj : j < n) (hl : f j < g j) : sumF n f < sumF n g := by
  induction n with
  | zero => omega
  | succ n ih =>
    show sumF n f + f n < sumF n g + g n
    have b := h n (by omega)
    by_cases e : j = n
    · subst e
      have := sumF_le (n := j) (f := f) (g := g) (fun k hk => h k (by omega))
      omega
    · have := ih (fun k hk => h k (by omega)) (by omega)
      omega
theorem sumF_congr {n : Nat} {f g : Nat → Int} (h : ∀ k, k < n → f k = g k) : sumF n f = sumF n g := by
  induction n with
  | zero => rfl
  | succ n ih => show sumF n f + f n = sumF n g + g n; rw [ih (fun k hk => h k (by omega)), h n (by omega)]
theorem sumF_low {n : Nat} {f : Nat → Int} {B : Int} (h : ∀ k, k < n → -B ≤ f k) : -(B * n) ≤ sumF n f := by
  induction n with
  | zero => simp [sumF]
  | succ n ih =>
    have a := ih (fun k hk => h k (by omega))
    have b := h n (by omega)
    show -(B * ((n + 1 : Nat) : Int)) ≤ sumF n f + f n
    rw [Int.natCast_add, Int.mul_add]
    omega
def room (T n : Nat) (lo hi : Nat → Nat → Int) : Int := sumF T fun a => sumF n fun b => hi a b - lo a b
theorem room_le {T n : Nat} {lo hi lo' hi' : Nat → Nat → Int} (h1 : ∀ a b, lo a b ≤ lo' a b) (h2 : ∀ a b, hi' a b ≤ hi a b) : room T n lo' hi' ≤ room T n lo hi :=
  sumF_le fun a _ => sumF_le fun b _ => by have := h1 a b; have := h2 a b; omega
theorem room_lt {T n : Nat} {lo hi lo' hi' : Nat → Nat → Int} (h1 : ∀ a b, lo a b ≤ lo' a b) (h2 : ∀ a b, hi' a b ≤ hi a b) (a b : Nat) (ha : a < T) (hb : b < n) (h : lo a b < lo' a b ∨ hi' a b < hi a b) : room T n lo' hi' < room T n lo hi :=
  sumF_lt (fun a _ => sumF_le fun b _ => by have := h1 a b; have := h2 a b; omega) a ha
    (sumF_lt (fun b _ => by have := h1 a b; have := h2 a b; omega) b hb (by have := h1 a b; have := h2 a b; omega))
theorem room_low {T n : Nat} {lo hi : Nat → Nat → Int} (hT : T ≤ 5) (hn : n ≤ 5) (h : ∀ a b, lo a b ≤ 2000 ∧ -2000 ≤ hi a b) : -100000 ≤ room T n lo hi := by
  have : -((20000 : Int) * T) ≤ room T n lo hi := sumF_low fun a _ => by
    have : -((4000 : Int) * n) ≤ sumF n fun b => hi a b - lo a b := sumF_low fun b _ => by have := h a b; omega
    omega
  omega
theorem DQ.less {q : DQ} {T n : Nat} {lo hi : Nat → Nat → Int} (hq : q.Ok T n) (h : q.ch lo hi = true) : room T n (q.lo lo) (q.hi hi) < room T n lo hi := by
  have hs : ¬ q.still lo hi := fun q' => by rw [DQ.ch_false.2 q'] at h; cases h
  obtain ⟨a1, a2⟩ := DQ.at_i hq lo
  obtain ⟨_, a3⟩ := DQ.at_i hq hi
  obtain ⟨b1, _⟩ := DQ.at_j (q := q) lo
  obtain ⟨_, b2⟩ := DQ.at_j (q := q) hi
  by_cases e : (lo q.j q.d + q.low ≤ lo q.i q.c ∧ hi q.i q.c ≤ hi q.j q.d + q.high)
  · exact room_lt (q.lo_ge lo) (q.hi_le hi) q.j q.d hq.hj hq.hd (by
      rw [b1, b2]
      by_cases e2 : lo q.i q.c - q.high ≤ lo q.j q.d
      · by_cases e3 : hi q.j q.d ≤ hi q.i q.c - q.low
        · exact absurd ⟨⟨e.1, e2⟩, e.2, e3⟩ hs
        · right; omega
      · left; omega)
  · exact room_lt (q.lo_ge lo) (q.hi_le hi) q.i q.c hq.hi hq.hc (by rw [a1, a3]; omega)
/-! A round -/
/-- In a round of settle. lS, hS: the spans at its start; k: how many differences were looked at, at most; ch: whether something changed. -/
structure Rnd (T C : Nat) (P : (Nat → Nat → Int) → Prop) (l0 h0 lS hS lo hi : Nat → Nat → Int) (k : Nat) (ch : Bool) : Prop where
  keep : ∀ y, P y → InBox T (C + 1) l0 h0 y → InBox T (C + 1) lo hi y
  slo : ∀ a b, lS a b ≤ lo a b
  shi : ∀ a b, hi a b ≤ hS a b
  zlo : ∀ a b, l0 a b ≤ lS a b
  zhi : ∀ a b, hS a b ≤ h0 a b
  bnd : ∀ B : Int, 0 ≤ B → (∀ a b, lS a b ≤ B ∧ -B ≤ hS a b) → ∀ a b, lo a b ≤ B + 40 * k ∧ -(B + 40 * k) ≤ hi a b
  edge : ∀ a, lo a C ≤ max 0 (lo a (C - 1)) ∧ min 0 (hi a (C - 1) - 40) ≤ hi a C
  off : ∀ a b, ¬ (a < T ∧ b < C + 1) → lo a b = l0 a b ∧ hi a b = h0 a b
  prog : (ch = false ∧ ∀ a b, lo a b = lS a b ∧ hi a b = hS a b) ∨ (ch = true ∧ room T (C + 1) lo hi < room T (C + 1) lS hS)
theorem Rnd.start {T C : Nat} {P : (Nat → Nat → Int) → Prop} {l0 h0 lo hi : Nat → Nat → Int} (keep : ∀ y, P y → InBox T (C + 1) l0 h0 y → InBox T (C + 1) lo hi y)
    (zlo : ∀ a b, l0 a b ≤ lo a b) (zhi : ∀ a b, hi a b ≤ h0 a b) (edge : ∀ a, lo a C ≤ max 0 (lo a (C - 1)) ∧ min 0 (hi a (C - 1) - 40) ≤ hi a C) (off : ∀ a b, ¬ (a < T ∧ b < C + 1) → lo a b = l0 a b ∧ hi a b = h0 a b) : Rnd T C P l0 h0 lo hi lo hi 0 false :=
  ⟨keep, fun _ _ => Int.le_refl _, fun _ _ => Int.le_refl _, zlo, zhi, fun B _ h a b => by have := h a b; omega, edge, off, .inl ⟨rfl, fun _ _ => ⟨rfl, rfl⟩⟩⟩
theorem Rnd.more {T C : Nat} {P : (Nat → Nat → Int) → Prop} {l0 h0 lS hS lo hi : Nat → Nat → Int} {k j : Nat} {ch : Bool} (h : Rnd T C P l0 h0 lS hS lo hi k ch) (hk : k ≤ j) : Rnd T C P l0 h0 lS hS lo hi j ch :=
  ⟨h.keep, h.slo, h.shi, h.zlo, h.zhi, fun B h1 h2 a b => by have := h.bnd B h1 h2 a b; omega, h.edge, h.off, h.prog⟩
theorem Rnd.step {T C : Nat} {P : (Nat → Nat → Int) → Prop} {l0 h0 lS hS lo hi : Nat → Nat → Int} {k : Nat} {ch : Bool} (h : Rnd T C P l0 h0 lS hS lo hi k ch) {q : DQ} (hq : q.Ok T (C + 1)) (hP : ∀ y, P y → q.says y)
    (hsh : (q.i = q.j ∧ q.d = q.c + 1) ∨ (q.c < C ∧ q.d < C)) :
    Rnd T C P l0 h0 lS hS (q.lo lo) (q.hi hi) (k + 1) (q.ch lo hi || ch) ∧ ((q.ch lo hi || ch) = false → q.still lS hS) := by
  have hlo := q.lo_ge lo
  have hhi := q.hi_le hi
  refine ⟨⟨fun y h1 h2 => (h.keep y h1 h2 |> fun z => DQ.keep hq z (hP y h1)), fun a b => Int.le_trans (h.slo a b) (hlo a b), fun a b => Int.le_trans (hhi a b) (h.shi a b), h.zlo, h.zhi, fun B h1 h2 a b => ?_, fun a => ?_, fun a b ho => ?_, ?_⟩, fun hc => ?_⟩
  · have q1 := h.bnd B h1 h2 a b
    have q2 := h.bnd B h1 h2 q.i q.c
    have q3 := h.bnd B h1 h2 q.j q.d
    have := hq.l0
    have := hq.l1
    have := hq.h0
    have := hq.h1
    unfold DQ.lo DQ.hi upd2
    constructor
    · split
      · omega
      · split <;> omega
    · split
      · omega
      · split <;> omega
  · have e := h.edge a
    have g1 := hlo a (C - 1)
    have g2 := hhi a (C - 1)
    have := hq.l0
    have := hq.l1
    have := hq.h0
    have := hq.h1
    have hc := hq.hc
    have hd := hq.hd
    by_cases ej : a = q.j ∧ C = q.d
    · obtain ⟨b1, _⟩ := DQ.at_j (q := q) lo
      obtain ⟨_, b2⟩ := DQ.at_j (q := q) hi
      have hcd : q.i = q.j ∧ q.d = q.c + 1 := by
        rcases hsh with r | r
        · exact r
        · omega
      have ec : q.c = C - 1 := by omega
      have ei : q.i = a := by omega
      rw [← ej.1, ← ej.2] at b1 b2
      rw [ec, ei] at b1 b2
      rw [b1, b2]
      omega
    · by_cases ei : a = q.i ∧ C = q.c
      · rcases hsh with r | r <;> omega
      · obtain ⟨b1, _⟩ := DQ.else_ (q := q) lo a C ei ej
        obtain ⟨_, b2⟩ := DQ.else_ (q := q) hi a C ei ej
        rw [b1, b2]
        omega
  · have := hq.hi
    have := hq.hc
    have := hq.hj
    have := hq.hd
    obtain ⟨b1, _⟩ := DQ.else_ (q := q) lo a b (by omega) (by omega)
    obtain ⟨_, b2⟩ := DQ.else_ (q := q) hi a b (by omega) (by omega)
    rw [b1, b2]; exact h.off a b ho
  · cases hch : q.ch lo hi with
    | true =>
      refine .inr ⟨rfl, ?_⟩
      have h1 := DQ.less hq hch
      have h2 := room_le (T := T) (n := C + 1) h.slo h.shi
      omega
    | false =>
      have hs := DQ.ch_false.1 hch
      have hsm := DQ.same hs
      have er : room T (C + 1) (q.lo lo) (q.hi hi) = room T (C + 1) lo hi := sumF_congr fun a _ => sumF_congr fun b _ => by rw [(hsm a b).1, (hsm a b).2]
      rcases h.prog with ⟨rfl, hp⟩ | ⟨rfl, hp⟩
      · exact .inl ⟨rfl, fun a b => ⟨(hsm a b).1.trans (hp a b).1, (hsm a b).2.trans (hp a b).2⟩⟩
      · exact .inr ⟨rfl, by rw [er]; exact hp⟩
  · simp only [Bool.or_eq_false_iff] at hc
    have hs := DQ.ch_false.1 hc.1
    rcases h.prog with ⟨_, hp⟩ | ⟨e, _⟩
    · unfold DQ.still at hs ⊢
      rw [(hp q.i q.c).1, (hp q.i q.c).2, (hp q.j q.d).1, (hp q.j q.d).2] at hs
      exact hs
    · rw [e] at hc; cases hc.2
end Go.Proofs.Ytoiajjdhgffdaaa
