/-
  counts: greatest and least values over truths; a trap with one more word; the doubt.
-/
import Derived.Test.YtkdcdhkhadhcfaaSpec2
import Derived.Test.YtkdcdhkhadhcfaaOpen2
import Derived.Test.YtkdcdhkhadhcfaaJudge
namespace Go.Proofs.Ytkdcdhkhadhcfaa
def IsMin (t : CT) (skip : Int) (f : (Nat → Nat → Int) → Int) (m : Int) : Prop := (∀ y, Sat t skip y → m ≤ f y) ∧ ∃ y, Sat t skip y ∧ f y = m
theorem IsMax.uniq {t : CT} {skip : Int} {f : (Nat → Nat → Int) → Int} {m n : Int} (h : IsMax t skip f m) (k : IsMax t skip f n) : m = n := by
  obtain ⟨h1, y, h2, h3⟩ := h
  obtain ⟨k1, z, k2, k3⟩ := k
  have := h1 z k2
  have := k1 y h2
  omega
theorem IsMin.uniq {t : CT} {skip : Int} {f : (Nat → Nat → Int) → Int} {m n : Int} (h : IsMin t skip f m) (k : IsMin t skip f n) : m = n := by
  obtain ⟨h1, y, h2, h3⟩ := h
  obtain ⟨k1, z, k2, k3⟩ := k
  have := h1 z k2
  have := k1 y h2
  omega
theorem Exact.min {t : CT} {skip : Int} {M : Nat → Nat → Int} (hf : Fit t) (h : Exact t skip M) (i c j d : Nat) (hi : i < t.T.toNat) (hc : c ≤ t.C.toNat) (hj : j < t.T.toNat) (hd : d ≤ t.C.toNat) :
    IsMin t skip (fun y => y j d - y i c) (-(M (nd t.C j d) (nd t.C i c))) := by
  obtain ⟨h1, y, h2, h3⟩ := h.max hf j d i c hj hd hi hc
  exact ⟨fun z hz => by have := h1 z hz; simp only [] at this ⊢; omega, y, h2, by simp only [] at h3 ⊢; omega⟩
theorem Sat.mono {t : CT} {skip : Int} {y : Nat → Nat → Int} (h : Sat t skip y) {i j c : Nat} (hij : i ≤ j) (hj : j < t.T.toNat) (hc : c ≤ t.C.toNat) : y i c ≤ y j c := by
  obtain ⟨d, rfl⟩ := Nat.le.dest hij
  clear hij
  induction d with
  | zero => exact Int.le_refl _
  | succ d ih =>
    have q := ih (by omega)
    by_cases e : c = t.C.toNat
    · subst e; rw [h.last _ (by omega), h.last _ hj]; exact Int.le_refl _
    · have := h.time (i + d) c (by omega) (by omega)
      rw [show i + d + 1 = i + (d + 1) by omega] at this; omega
theorem Fish_mn {t : CT} (hf : Fit t) (h : Exact t (-1) (setMat t (-1))) (i c : Nat) (hi : i < t.T.toNat) (hc : c < t.C.toNat) :
    IsMin t (-1) (fun y => y i c - y i (c + 1)) (fishLo t i c) := by
  unfold fishLo
  rw [nd_succ]
  exact h.min hf i (c + 1) i c hi (by omega) hi (by omega)
theorem nd_zero {t : CT} (hf : Fit t) (i : Nat) : nd t.C i t.C.toNat = 0 := by rw [nd_nat hf.c1, if_pos rfl]
theorem Whole_max {t : CT} (hf : Fit t) (h : Exact t (-1) (setMat t (-1))) (i : Nat) (hi : i < t.T.toNat) : IsMax t (-1) (fun y => y i 0 - y i t.C.toNat) (wholeHi t i) := by
  have := h.max hf i t.C.toNat i 0 hi (Nat.le_refl _) hi (Nat.zero_le _)
  rw [nd_zero hf] at this
  exact this
theorem Whole_min {t : CT} (hf : Fit t) (h : Exact t (-1) (setMat t (-1))) (i : Nat) (hi : i < t.T.toNat) : IsMin t (-1) (fun y => y i 0 - y i t.C.toNat) (wholeLo t i) := by
  have := h.min hf i t.C.toNat i 0 hi (Nat.le_refl _) hi (Nat.zero_le _)
  rw [nd_zero hf] at this
  exact this
theorem Came_max {t : CT} (hf : Fit t) (h : Exact t (-1) (setMat t (-1))) (f o : Nat) (hi : f < t.T.toNat) (ho : o < t.T.toNat) : IsMax t (-1) (fun y => y o 0 - y f 0) (cameHi t f o) :=
  h.max hf f 0 o 0 hi (Nat.zero_le _) ho (Nat.zero_le _)
theorem Came_min {t : CT} (hf : Fit t) (h : Exact t (-1) (setMat t (-1))) (f o : Nat) (hi : f < t.T.toNat) (ho : o < t.T.toNat) : IsMin t (-1) (fun y => y o 0 - y f 0) (cameLo t f o) :=
  h.min hf f 0 o 0 hi (Nat.zero_le _) ho (Nat.zero_le _)
theorem Passed_max {t : CT} (hf : Fit t) (h : Exact t (-1) (setMat t (-1))) (s d : Nat) (hi : s + 1 < t.T.toNat) (hd : d < t.C.toNat) : IsMax t (-1) (fun y => y (s + 1) d - y s d) (passHi t s d) := by
  have := h.max hf s d (s + 1) d (by omega) (by omega) hi (by omega)
  unfold passHi
  rw [Int.natCast_add] at this
  exact this
theorem Passed_min {t : CT} (hf : Fit t) (h : Exact t (-1) (setMat t (-1))) (s d : Nat) (hi : s + 1 < t.T.toNat) (hd : d < t.C.toNat) : IsMin t (-1) (fun y => y (s + 1) d - y s d) (passLo t s d) := by
  have := h.min hf s d (s + 1) d (by omega) (by omega) hi (by omega)
  unfold passLo
  rw [Int.natCast_add] at this
  exact this
/-! One more word -/
def told (t : CT) (x : CW) : CT := ⟨t.C, t.T, t.op, t.ws ++ [x]⟩
theorem atW_left {ws : List CW} {x : CW} {k : Nat} (h : k < ws.length) : atW (ws ++ [x]) k = atW ws k := by
  unfold atW; simp [List.getD, h, List.getElem?_append_left]
theorem atW_last {ws : List CW} {x : CW} : atW (ws ++ [x]) ws.length = x := by
  unfold atW; simp [List.getD]
theorem wTo_congr {C : Int} {ws ws' : List CW} {skip : Int} {M : Nat → Nat → Int} : ∀ k, (∀ j, j < k → atW ws' j = atW ws j) → wTo C ws' skip M k = wTo C ws skip M k
  | 0, _ => rfl
  | k + 1, h => by
    have ih := wTo_congr (C := C) (skip := skip) (M := M) k (fun j hj => h j (by omega))
    show (if (k : Int) = skip then _ else _) = (if (k : Int) = skip then _ else _)
    rw [ih, h k (by omega)]
theorem setMat_told (t : CT) (x : CW) : setMat (told t x) (-1) = wordM t.C x (setMat t (-1)) := by
  unfold setMat told
  simp only [List.length_append, List.length_singleton]
  show (if ((t.ws.length : Nat) : Int) = -1 then _ else _) = _
  rw [if_neg (by omega), atW_last, wTo_congr t.ws.length (fun j hj => atW_left hj)]
theorem fit_told {t : CT} {x : CW} (hf : Fit t) (hx : isWordB t.C t.T x = true) : Fit (told t x) := by
  refine ⟨hf.c1, hf.c2, hf.t1, hf.t2, hf.opl, ?_⟩
  unfold wordsB
  rw [allB_iff]
  intro i hi
  have hi2 : i < t.ws.length + 1 := by simpa [told] using hi
  show isWordB t.C t.T (atW (t.ws ++ [x]) i) = true
  by_cases e : i = t.ws.length
  · rw [e, atW_last]; exact hx
  · rw [atW_left (by omega)]; exact allB_iff.1 hf.wb i (by omega)
def WordOk (x : CW) (y : Nat → Nat → Int) : Prop := x.low ≤ y x.time.toNat x.chamber.toNat - y x.time.toNat (x.chamber.toNat + 1) ∧ y x.time.toNat x.chamber.toNat - y x.time.toNat (x.chamber.toNat + 1) ≤ x.high
theorem sat_told {t : CT} {x : CW} {y : Nat → Nat → Int} : Sat (told t x) (-1) y ↔ Sat t (-1) y ∧ WordOk x y := by
  constructor
  · intro h
    refine ⟨⟨h.top, h.last, h.chain, h.time, h.shut, fun k hk hs => ?_⟩, ?_⟩
    · have := h.word k (by simp [told]; omega) hs
      rw [show (told t x).ws = t.ws ++ [x] from rfl, atW_left hk] at this
      exact this
    · have := h.word t.ws.length (by simp [told]) (by omega)
      rw [show (told t x).ws = t.ws ++ [x] from rfl, atW_last] at this
      exact this
  · rintro ⟨h, hx⟩
    refine ⟨h.top, h.last, h.chain, h.time, h.shut, fun k hk hs => ?_⟩
    have hk2 : k < t.ws.length + 1 := by simpa [told] using hk
    rw [show (told t x).ws = t.ws ++ [x] from rfl]
    by_cases e : k = t.ws.length
    · rw [e, atW_last]; exact hx
    · rw [atW_left (by omega)]; exact h.word k (by omega) hs
theorem exact_of_one {t : CT} (hf : Fit t) (h : ∃ y, Sat t (-1) y) : Exact t (-1) (setMat t (-1)) := by
  rcases set_state hf (-1) with q | q
  · exact q
  · obtain ⟨y, hy⟩ := h
    exact absurd (sol_of_sat hf hy) (q.2 _)
/-! The doubt -/
def dbtR (t : CT) : Int := dbt t.C t.T (setMat t (-1))
theorem dbtR_eq {t : CT} : dbtR t = fishHi t (t.T - 1) (t.C - 1) - fishLo t (t.T - 1) (t.C - 1) := by
  unfold dbtR dbt fishHi fishLo
  rw [show t.C - 1 + 1 = t.C by omega]
  omega
theorem dbt_told (t : CT) (x : CW) : dbt t.C t.T (wordM t.C x (setMat t (-1))) = dbtR (told t x) := by
  unfold dbtR; rw [setMat_told]; rfl
end Go.Proofs.Ytkdcdhkhadhcfaa
