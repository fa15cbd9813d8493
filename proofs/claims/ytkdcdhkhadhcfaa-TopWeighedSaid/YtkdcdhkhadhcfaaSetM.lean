/-
  counts: what set computes, as functions on matrices. (limit's own law: Limit)
-/
import Derived.Test.YtkdcdhkhadhcfaaTrap
namespace Go.Proofs.Ytkdcdhkhadhcfaa
open Go Go.RowKit
/-- the first n places filled -/
def fillTo (n : Nat) : Nat → Nat → Int := fun a c => if a * 21 + c < n ∧ a ≠ c then 1048576 else 0
/-- the matrix of nothing known -/
def M0 : Nat → Nat → Int := fun a c => if a = c then 0 else 1048576
theorem fillTo_ne (i k : Nat) (hk : k < 21) (h : i ≠ k) (a c : Nat) (hc : c < 21) : fillTo (i * 21 + (k + 1)) a c = setM (fillTo (i * 21 + k)) i k 1048576 a c := by
  unfold setM fillTo
  by_cases e : a = i ∧ c = k
  · rw [if_pos e, if_pos ⟨by omega, by omega⟩]
  · rw [if_neg e]
    by_cases q : a * 21 + c < i * 21 + k ∧ a ≠ c
    · rw [if_pos q, if_pos ⟨by omega, q.2⟩]
    · rw [if_neg q, if_neg (by intro q2; apply q; refine ⟨?_, q2.2⟩; omega)]
theorem fillTo_eq (i : Nat) (hk : i < 21) (a c : Nat) (hc : c < 21) : fillTo (i * 21 + (i + 1)) a c = fillTo (i * 21 + i) a c := by
  unfold fillTo
  by_cases q : a * 21 + c < i * 21 + i ∧ a ≠ c
  · rw [if_pos q, if_pos ⟨by omega, q.2⟩]
  · rw [if_neg q, if_neg (by intro q2; apply q; refine ⟨?_, q2.2⟩; omega)]
theorem fillTo_end (a c : Nat) (ha : a < 21) (hc : c < 21) : fillTo 441 a c = M0 a c := by
  unfold fillTo M0
  by_cases e : a = c
  · rw [if_pos e, if_neg (by omega)]
  · rw [if_neg e, if_pos ⟨by omega, e⟩]
theorem MatAt.congr {w : World} {b off : Nat} {M M' : Nat → Nat → Int} (h : MatAt w b off M) (e : ∀ a c, a < 21 → c < 21 → M' a c = M a c) : MatAt w b off M' :=
  fun i hi k hk => by rw [e i k hi hk]; exact h i hi k hk

def chStep (C : Int) (op : List (List Int)) (time c : Nat) (M : Nat → Nat → Int) : Nat → Nat → Int :=
  let M1 := lim (nd C time c) (nd C time (c + 1)) 0 M
  if time = 0 then M1 else
    let M2 := lim (nd C time c) (nd C (time - 1 : Nat) c) 0 M1
    if inB (atL op (time - 1)) c then M2 else lim (nd C (time - 1 : Nat) c) (nd C time c) 0 M2
def chTo (C : Int) (op : List (List Int)) (time : Nat) : Nat → (Nat → Nat → Int) → Nat → Nat → Int
  | 0, M => M
  | k + 1, M => chStep C op time k (chTo C op time k M)
def tStep (C : Int) (op : List (List Int)) (time : Nat) (M : Nat → Nat → Int) : Nat → Nat → Int :=
  chTo C op time C.toNat (lim 0 (nd C time 0) 40 M)
def tTo (C : Int) (op : List (List Int)) : Nat → Nat → Nat → Int
  | 0 => M0
  | k + 1 => tStep C op k (tTo C op k)
def wTo (C : Int) (ws : List CW) (without : Int) (M : Nat → Nat → Int) : Nat → Nat → Nat → Int
  | 0 => M
  | k + 1 => if (k : Int) = without then wTo C ws without M k else wordM C (atW ws k) (wTo C ws without M k)
def setMat (t : CT) (without : Int) : Nat → Nat → Int := wTo t.C t.ws without (tTo t.C t.op t.T.toNat) t.ws.length

/-- no entry is below 0, and none above much -/
def NonNeg (M : Nat → Nat → Int) : Prop := ∀ i k, 0 ≤ M i k ∧ M i k ≤ 1048576
theorem NonNeg.safe {M : Nat → Nat → Int} (h : NonNeg M) : Safe M := fun i k => ⟨by have := (h i k).1; omega, (h i k).2⟩
theorem NonNeg.lim {M : Nat → Nat → Int} (h : NonNeg M) {m : Int} (hm : 0 ≤ m) (f t : Nat) : NonNeg (lim f t m M) := by
  unfold Go.Proofs.Ytkdcdhkhadhcfaa.lim
  split
  · exact h
  · have : ∀ n, NonNeg (updTo f t m M n) := by
      intro n
      induction n with
      | zero => exact h
      | succ n ih =>
        intro a c
        show 0 ≤ setM (updTo f t m M n) (n / 21) (n % 21) _ a c ∧ setM (updTo f t m M n) (n / 21) (n % 21) _ a c ≤ _
        unfold setM
        split
        · have a1 := ih (n / 21) (n % 21)
          have a2 := ih (n / 21) f
          have a3 := ih t (n % 21)
          unfold mn; split <;> omega
        · exact ih a c
    exact this 441
theorem NonNeg.m0 : NonNeg M0 := fun i k => by unfold M0; split <;> omega
theorem NonNeg.chStep {C : Int} {op : List (List Int)} {time c : Nat} {M : Nat → Nat → Int} (h : NonNeg M) : NonNeg (chStep C op time c M) := by
  unfold Go.Proofs.Ytkdcdhkhadhcfaa.chStep
  simp only []
  split
  · exact h.lim (by omega) _ _
  · split
    · exact (h.lim (by omega) _ _).lim (by omega) _ _
    · exact ((h.lim (by omega) _ _).lim (by omega) _ _).lim (by omega) _ _
theorem NonNeg.chTo {C : Int} {op : List (List Int)} {time : Nat} {M : Nat → Nat → Int} (h : NonNeg M) : ∀ k, NonNeg (chTo C op time k M)
  | 0 => h
  | k + 1 => (NonNeg.chTo h k).chStep
theorem NonNeg.tTo {C : Int} {op : List (List Int)} : ∀ k, NonNeg (tTo C op k)
  | 0 => NonNeg.m0
  | k + 1 => ((NonNeg.tTo k).lim (by omega) _ _).chTo _
theorem wrap64_in (n : Int) (h : -9223372036854775808 ≤ n ∧ n ≤ 9223372036854775807) : wrap64 n = n := by
  have := IntWalk.i64_in n h
  rw [← this, IntKind.wrap_i64]
  simp only [wrap64]
  omega
theorem isWordB_bounds {C T : Int} {x : CW} (hC1 : 1 ≤ C) (hC2 : C ≤ 4) (hT1 : 1 ≤ T) (hT2 : T ≤ 5) (h : isWordB C T x = true) :
    (0 ≤ x.time ∧ x.time < T) ∧ (0 ≤ x.chamber ∧ x.chamber < C) ∧ 0 ≤ x.low ∧ x.low ≤ x.high ∧ x.high ≤ 40 := by
  unfold isWordB isPlaceB isTimeB at h
  simp only [Bool.and_eq_true, withinB_true] at h
  rw [wrap64_in (T - 1) (by omega), wrap64_in (C - 1) (by omega)] at h
  omega
end Go.Proofs.Ytkdcdhkhadhcfaa
