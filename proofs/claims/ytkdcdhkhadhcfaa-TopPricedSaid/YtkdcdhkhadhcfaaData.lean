/-
  Plain data of the chapter 1: words, traps, spans; small functions on lists. No program in sight.
-/
namespace Go.Proofs.Ytkdcdhkhadhcfaa
/-- All below n. -/
def allB : Nat → (Nat → Bool) → Bool
  | 0, _ => true
  | n + 1, f => allB n f && f n
theorem allB_iff {n : Nat} {f : Nat → Bool} : allB n f = true ↔ ∀ i, i < n → f i = true := by
  induction n with
  | zero => simp [allB]
  | succ n ih =>
    simp only [allB, Bool.and_eq_true, ih]
    constructor
    · rintro ⟨h1, h2⟩ i hi
      rcases Nat.lt_succ_iff_lt_or_eq.1 hi with h | h
      · exact h1 i h
      · rw [h]; exact h2
    · intro h
      exact ⟨fun i hi => h i (by omega), h n (by omega)⟩
theorem allB_false {n : Nat} {f : Nat → Bool} (i : Nat) (hi : i < n) (h : f i = false) : allB n f = false := by
  cases e : allB n f with
  | false => rfl
  | true => rw [allB_iff.1 e i hi] at h; cases h
theorem allB_succ {n : Nat} {f : Nat → Bool} (h : allB n f = true) (h2 : f n = true) : allB (n + 1) f = true := by simp [allB, h, h2]
theorem allB_congr {n : Nat} {f g : Nat → Bool} (h : ∀ i, i < n → f i = g i) : allB n f = allB n g := by
  cases e : allB n g with
  | true => exact allB_iff.2 fun i hi => by rw [h i hi]; exact allB_iff.1 e i hi
  | false =>
    cases e2 : allB n f with
    | false => rfl
    | true => rw [allB_iff.2 (fun i hi => by rw [← h i hi]; exact allB_iff.1 e2 i hi)] at e; cases e
/-- element i of a list (0 | empty | the zero word beyond its end): names of its own, which the walk leaves alone -/
def at0 (l : List Int) (i : Nat) : Int := l.getD i 0
def atL (l : List (List Int)) (i : Nat) : List Int := l.getD i []
def withinB (n l h : Int) : Bool := decide (l ≤ n) && decide (n ≤ h)
theorem withinB_true {n l h : Int} : withinB n l h = true ↔ l ≤ n ∧ n ≤ h := by simp [withinB]
theorem withinB_false {n l h : Int} : withinB n l h = false ↔ ¬ (l ≤ n ∧ n ≤ h) := by
  rw [← withinB_true]; simp
/-- strictly ascending, each within. -/
def riseAt (l : List Int) (lo hi : Int) (i : Nat) : Bool := withinB (at0 l i) lo hi && (decide (i = 0) || decide (at0 l (i - 1) < at0 l i))
def risingB (l : List Int) (lo hi : Int) : Bool := allB l.length (riseAt l lo hi)
/-- the sum of the first k. -/
def sumTo (l : List Int) : Nat → Int
  | 0 => 0
  | k + 1 => sumTo l k + at0 l k

theorem getD_lt {α : Type} (l : List α) (k : Nat) (d : α) (h : k < l.length) : l.getD k d = l[k] := by simp [List.getD, h]
theorem getD_mem {α : Type} (l : List α) (k : Nat) (d : α) (h : k < l.length) : l.getD k d ∈ l := by rw [getD_lt l k d h]; exact List.getElem_mem h
theorem mem_getD {α : Type} (l : List α) (x d : α) (h : x ∈ l) : ∃ k, k < l.length ∧ l.getD k d = x := by
  obtain ⟨j, hj, e⟩ := List.getElem_of_mem h
  exact ⟨j, hj, by rw [getD_lt l j d hj]; exact e⟩
/-- whether the number is in the list -/
def inB (l : List Int) (n : Int) : Bool := decide (n ∈ l)
theorem inB_true {l : List Int} {n : Int} : inB l n = true ↔ n ∈ l := by simp [inB]
theorem inB_false {l : List Int} {n : Int} : inB l n = false ↔ n ∉ l := by simp [inB]
theorem inB_of_at {l : List Int} {n : Int} (k : Nat) (h : k < l.length) (e : at0 l k = n) : inB l n = true := inB_true.2 (by rw [← e]; exact getD_mem l k 0 h)
theorem inB_of_none {l : List Int} {n : Int} (h : ∀ j, j < l.length → at0 l j ≠ n) : inB l n = false := inB_false.2 fun hm => by
  obtain ⟨j, hj, e⟩ := mem_getD l n 0 hm
  exact h j hj e
/-- equal lists -/
def sameB (a b : List Int) : Bool := decide (a = b)
theorem sameB_len {a b : List Int} (h : a.length ≠ b.length) : sameB a b = false := by
  unfold sameB; exact decide_eq_false fun e => h (by rw [e])
theorem sameB_at {a b : List Int} (j : Nat) (h : at0 a j ≠ at0 b j) : sameB a b = false := by
  unfold sameB; exact decide_eq_false fun e => h (by rw [e])
theorem ext_getD {α : Type} {a b : List α} (d : α) (h : a.length = b.length) (hh : ∀ j, j < a.length → a.getD j d = b.getD j d) : a = b := by
  apply List.ext_getElem h
  intro i h1 h2
  have := hh i h1
  rwa [getD_lt a i d h1, getD_lt b i d h2] at this
theorem sameB_all {a b : List Int} (h : a.length = b.length) (hh : ∀ j, j < a.length → at0 a j = at0 b j) : sameB a b = true := by
  unfold sameB; exact decide_eq_true (ext_getD 0 h hh)

structure CW where
  time : Int
  chamber : Int
  low : Int
  high : Int
structure CT where
  C : Int
  T : Int
  op : List (List Int)
  ws : List CW
structure Sp where
  lo : Int
  hi : Int
instance : Inhabited CW := ⟨⟨0, 0, 0, 0⟩⟩
def atW (l : List CW) (i : Nat) : CW := l.getD i default
end Go.Proofs.Ytkdcdhkhadhcfaa
