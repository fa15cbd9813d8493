/-
  the top law: ends.
-/
import Derived.Test.YtkdcdhkhadhcfaaTruthV
import Derived.Test.YtkdcdhkhadhcfaaBox
import Derived.Deep.DeepCutAuto
namespace Go.Proofs.Ytkdcdhkhadhcfaa
open Go Go.RowKit
theorem time_nat {T i : Int} (h1 : 1 ≤ T) (h2 : T ≤ 5) (h : isTimeB T i = true) : ∃ k : Nat, i = (k : Int) ∧ k < T.toNat := by
  unfold isTimeB at h
  rw [withinB_true] at h
  have : wrap64 (T - 1) = T - 1 := by unfold wrap64; omega
  rw [this] at h
  exact ⟨i.toNat, by omega, by omega⟩
theorem time_of {T : Int} {k : Nat} (h1 : 1 ≤ T) (h2 : T ≤ 5) (h : k < T.toNat) : isTimeB T (k : Int) = true := by
  unfold isTimeB
  rw [withinB_true]
  have : wrap64 (T - 1) = T - 1 := by unfold wrap64; omega
  rw [this]
  omega
theorem place_of {t : CT} (hf : Fit t) {i c : Nat} (hi : i < t.T.toNat) (hc : c < t.C.toNat) : isPlaceB t.C t.T i c = true := by
  unfold isPlaceB
  rw [time_of hf.t1 hf.t2 hi, time_of hf.c1 (by have := hf.c2; omega) hc]
  rfl
theorem fish_b {t : CT} (hval : validB t = true) {l : List (List Int)} (h : IsT t l) {i c : Nat} (hi : i < t.T.toNat) (hc : c < t.C.toNat) :
    errR t (isPlaceB t.C t.T i c) = 0 ∧ 0 ≤ fishLo t i c ∧ fishLo t i c ≤ at0 (atL l i) c ∧ at0 (atL l i) c ≤ fishHi t i c ∧ fishHi t i c ≤ 40 := by
  have hf := fit_of_valid hval
  have hone : ∃ y, Sat t (-1) y := ⟨_, h.sat hf⟩
  have hex := exact_of_one hf hone
  obtain ⟨a1, a2⟩ := h.fish hf hex hi hc
  obtain ⟨_, y, h2, h3⟩ := Fish_mn hf hex i c hi hc
  obtain ⟨_, z, k2, k3⟩ := Fish_max hf hex i c hi hc
  have hb := h2.chain i c hi hc
  have kt := k2.top i hi
  have zl : ∀ (u : Nat → Nat → Int), Sat t (-1) u → ∀ d, d ≤ t.C.toNat → 0 ≤ u i (t.C.toNat - d) := fun u hu d => by
    induction d with
    | zero => intro _; rw [Nat.sub_zero, hu.last i hi]; exact Int.le_refl _
    | succ d ih =>
      intro hd
      have q := ih (by omega)
      have := hu.chain i (t.C.toNat - (d + 1)) hi (by omega)
      rw [show t.C.toNat - (d + 1) + 1 = t.C.toNat - d by omega] at this
      omega
  have zu : ∀ (u : Nat → Nat → Int), Sat t (-1) u → ∀ d, d ≤ t.C.toNat → u i d ≤ u i 0 := fun u hu d => by
    induction d with
    | zero => intro _; exact Int.le_refl _
    | succ d ih => intro hd; have := ih (by omega); have := hu.chain i d hi (by omega); omega
  have z0 := zl z k2 (t.C.toNat - (c + 1)) (by omega)
  rw [show t.C.toNat - (t.C.toNat - (c + 1)) = c + 1 by omega] at z0
  have z1 := zu z k2 c (by omega)
  refine ⟨errR_ok (askR_zero.2 ⟨hval, place_of hf hi hc⟩) hone, ?_, a1, a2, ?_⟩
  · have : fishLo t i c = y i c - y i (c + 1) := h3.symm
    omega
  · have : fishHi t i c = z i c - z i (c + 1) := k3.symm
    omega
/-- With one more word the ends are not wider. -/
theorem fish_told {t : CT} (hval : validB t = true) {x : CW} (hvo : validB (told t x) = true) {l : List (List Int)} (h : IsT (told t x) l) {i c : Nat} (hi : i < t.T.toNat) (hc : c < t.C.toNat) :
    fishLo t i c ≤ fishLo (told t x) i c ∧ fishHi (told t x) i c ≤ fishHi t i c := by
  have hf := fit_of_valid hval
  have hfo := fit_of_valid hvo
  have hone : ∃ y, Sat (told t x) (-1) y := ⟨_, h.sat hfo⟩
  have ho := exact_of_one hfo hone
  have ht := exact_of_one hf (by obtain ⟨y, hy⟩ := hone; exact ⟨y, (sat_told.1 hy).1⟩)
  constructor
  · obtain ⟨_, y, h2, h3⟩ := Fish_mn hfo ho i c hi hc
    have := (Fish_mn hf ht i c hi hc).1 y (sat_told.1 h2).1
    simp only at this h3
    omega
  · obtain ⟨_, y, h2, h3⟩ := Fish_max hfo ho i c hi hc
    have := (Fish_max hf ht i c hi hc).1 y (sat_told.1 h2).1
    simp only at this h3
    omega
noncomputable def losTo (t : CT) (i : Nat) : Nat → List Int
  | 0 => []
  | k + 1 => losTo t i k ++ [fishLo t i k]
noncomputable def hisTo (t : CT) (i : Nat) : Nat → List Int
  | 0 => []
  | k + 1 => hisTo t i k ++ [fishHi t i k]
theorem losTo_len (t : CT) (i : Nat) : ∀ k, (losTo t i k).length = k ∧ (hisTo t i k).length = k
  | 0 => ⟨rfl, rfl⟩
  | k + 1 => by
    obtain ⟨a, b⟩ := losTo_len t i k
    unfold losTo hisTo
    rw [List.length_append, List.length_append, a, b]; exact ⟨rfl, rfl⟩
theorem losTo_at (t : CT) (i : Nat) {c : Nat} : ∀ k, c < k → at0 (losTo t i k) c = fishLo t i c ∧ at0 (hisTo t i k) c = fishHi t i c
  | 0, h => by omega
  | k + 1, h => by
    obtain ⟨a, b⟩ := losTo_len t i k
    unfold losTo hisTo at0
    by_cases e : c = k
    · subst e
      constructor
      · rw [List.getD_eq_getElem?_getD, List.getElem?_append_right (by omega), a, Nat.sub_self]; rfl
      · rw [List.getD_eq_getElem?_getD, List.getElem?_append_right (by omega), b, Nat.sub_self]; rfl
    · obtain ⟨p, q⟩ := losTo_at t i k (c := c) (by omega)
      unfold at0 at p q
      rw [List.getD_eq_getElem?_getD, List.getElem?_append_left (by omega), List.getD_eq_getElem?_getD, List.getElem?_append_left (by omega)]
      rw [List.getD_eq_getElem?_getD] at p q
      exact ⟨p, q⟩
end Go.Proofs.Ytkdcdhkhadhcfaa
namespace Go.Proofs.Ytkdcdhkhadhcfaa
open Go Go.RowKit
set_option maxHeartbeats 4000000
set_option maxRecDepth 100000
/-- Two lists of the call's own, and a box beside them. -/
structure Two (w0 : World) (p : Nat) (a b : Int) (l1 l2 : List Int) (V1 V2 : Value) (w : World) : Prop where
  bel : Bel w0 w
  o1 : w.ownsRow 0 3 1 V1 l1.length (l1.map (Value.int .i64))
  o2 : w.ownsRow 0 3 1 V2 l2.length (l2.map (Value.int .i64))
  f1 : ∀ g, V1.ownBlock = some g → w0.heap.size ≤ g ∧ g ≠ p
  f2 : ∀ g, V2.ownBlock = some g → w0.heap.size ≤ g ∧ g ≠ p
  d : ∀ g, V1.ownBlock = some g → V2.ownBlock ≠ some g
  c0 : w.cell? ⟨p, 0, none⟩ = some (.int .i64 a)
  c1 : w.cell? ⟨p, 1, none⟩ = some (.int .i64 b)
theorem Two.go {w0 w w' : World} {p : Nat} {a b : Int} {l1 l2 : List Int} {V1 V2 : Value} (h : Two w0 p a b l1 l2 V1 V2 w) (k : Bel w w') : Two w0 p a b l1 l2 V1 V2 w' :=
  ⟨h.bel.trans k, ownsRow_bel h.o1 k, ownsRow_bel h.o2 k, h.f1, h.f2, h.d, k.cell h.c0, k.cell h.c1⟩
theorem grown_keep {w w' : World} {V U : Value} {xs : List Value} {n : Nat} (h : w.ownsRow 0 3 1 U n xs) (hg : w.grownBy w' V.ownBlock) (hd : ∀ g, U.ownBlock = some g → V.ownBlock ≠ some g) : w'.ownsRow 0 3 1 U n xs :=
  row_keep h fun g q => hg.block g (ownsRow_lt h q) (fun e => hd g q e.symm)
theorem Two.app1 {w0 w w' : World} {p : Nat} {a b x : Int} {l1 l2 : List Int} {V1 V2 V' : Value} (h : Two w0 p a b l1 l2 V1 V2 w) (ho : w'.ownsRow 0 3 1 V' (l1.length + 1) (l1.map (Value.int .i64) ++ [.int .i64 x])) (hg : w.grownBy w' V1.ownBlock)
    (hv : V'.ownBlock = V1.ownBlock ∨ V'.ownBlock = some w.heap.size) : Two w0 p a b (l1 ++ [x]) l2 V' V2 w' := by
  have hp : p < w.heap.size := cell_lt h.c0
  have keep : ∀ q, w'.cell? ⟨p, q, none⟩ = w.cell? ⟨p, q, none⟩ := fun q => World.cell?_of_block (hg.block p hp (fun e => (h.f1 p e.symm).2 rfl))
  refine ⟨h.bel.grown hg (fun g q => (h.f1 g q).1), by simpa using ho, grown_keep h.o2 hg (fun g q e => h.d g e q), fun g q => ?_, h.f2, fun g q e => ?_, by rw [keep]; exact h.c0, by rw [keep]; exact h.c1⟩
  · rcases hv with e | e
    · exact h.f1 g (by rw [← e]; exact q)
    · rw [e] at q; injection q with q; have := h.bel.szle; omega
  · rcases hv with k | k
    · exact h.d g (by rw [← k]; exact q) e
    · rw [k] at q; injection q with q; have := ownsRow_lt h.o2 e; omega
theorem Two.app2 {w0 w w' : World} {p : Nat} {a b x : Int} {l1 l2 : List Int} {V1 V2 V' : Value} (h : Two w0 p a b l1 l2 V1 V2 w) (ho : w'.ownsRow 0 3 1 V' (l2.length + 1) (l2.map (Value.int .i64) ++ [.int .i64 x])) (hg : w.grownBy w' V2.ownBlock)
    (hv : V'.ownBlock = V2.ownBlock ∨ V'.ownBlock = some w.heap.size) : Two w0 p a b l1 (l2 ++ [x]) V1 V' w' := by
  have hp : p < w.heap.size := cell_lt h.c0
  have keep : ∀ q, w'.cell? ⟨p, q, none⟩ = w.cell? ⟨p, q, none⟩ := fun q => World.cell?_of_block (hg.block p hp (fun e => (h.f2 p e.symm).2 rfl))
  refine ⟨h.bel.grown hg (fun g q => (h.f2 g q).1), grown_keep h.o1 hg (fun g q e => h.d g q e), by simpa using ho, h.f1, fun g q => ?_, fun g q e => ?_, by rw [keep]; exact h.c0, by rw [keep]; exact h.c1⟩
  · rcases hv with e | e
    · exact h.f2 g (by rw [← e]; exact q)
    · rw [e] at q; injection q with q; have := h.bel.szle; omega
  · rcases hv with k | k
    · exact h.d g q (by rw [← k]; exact e)
    · rw [k] at e; injection e with e; have := ownsRow_lt h.o1 q; omega
theorem Two.cls {w0 w : World} {p : Nat} {a b : Int} {l1 l2 : List Int} {V1 V2 : Value} (h : Two w0 p a b l1 l2 V1 V2 w) : Bel w0 w ∧ w.cell? ⟨p, 0, none⟩ = some (.int .i64 a) ∧ w.cell? ⟨p, 1, none⟩ = some (.int .i64 b) := ⟨h.bel, h.c0, h.c1⟩
/-- Two lists of the call's own. -/
structure Pair (w0 : World) (l1 l2 : List Int) (V1 V2 : Value) (w : World) : Prop where
  bel : Bel w0 w
  o1 : w.ownsRow 0 3 1 V1 l1.length (l1.map (Value.int .i64))
  o2 : w.ownsRow 0 3 1 V2 l2.length (l2.map (Value.int .i64))
  f1 : ∀ g, V1.ownBlock = some g → w0.heap.size ≤ g
  f2 : ∀ g, V2.ownBlock = some g → w0.heap.size ≤ g
  d : ∀ g, V1.ownBlock = some g → V2.ownBlock ≠ some g
theorem Pair.start (w0 : World) : Pair w0 [] [] (.slice none 0 0) (.slice none 0 0) w0 :=
  ⟨Bel.refl _, World.ownsRow_nil w0 0 _ 1, World.ownsRow_nil w0 0 _ 1, fun g h => by simp [Value.ownBlock] at h, fun g h => by simp [Value.ownBlock] at h, fun g h => by simp [Value.ownBlock] at h⟩
theorem Pair.two {w0 w w' : World} {p : Nat} {a b : Int} {l1 l2 : List Int} {V1 V2 : Value} (h : Pair w0 l1 l2 V1 V2 w) (k : Bel w w') (hp : w.heap.size ≤ p) (h0 : w'.cell? ⟨p, 0, none⟩ = some (.int .i64 a)) (h1 : w'.cell? ⟨p, 1, none⟩ = some (.int .i64 b)) : Two w0 p a b l1 l2 V1 V2 w' :=
  ⟨h.bel.trans k, ownsRow_bel h.o1 k, ownsRow_bel h.o2 k, fun g q => ⟨h.f1 g q, by have := ownsRow_lt h.o1 q; omega⟩, fun g q => ⟨h.f2 g q, by have := ownsRow_lt h.o2 q; omega⟩, h.d, h0, h1⟩
theorem Two.pair {w0 w : World} {p : Nat} {a b : Int} {l1 l2 : List Int} {V1 V2 : Value} (h : Two w0 p a b l1 l2 V1 V2 w) : Pair w0 l1 l2 V1 V2 w := ⟨h.bel, h.o1, h.o2, fun g q => (h.f1 g q).1, fun g q => (h.f2 g q).1, h.d⟩
theorem Pair.shape {w0 w : World} {l1 l2 : List Int} {V1 V2 : Value} (h : Pair w0 l1 l2 V1 V2 w) : (∃ a c, V1 = .slice a l1.length c) ∧ ∃ a c, V2 = .slice a l2.length c := by
  constructor
  · rcases h.o1.2 with ⟨rfl, e⟩ | ⟨g, cap, cur, rfl, _⟩
    · exact ⟨none, 0, by rw [e]⟩
    · exact ⟨some ⟨g, 0, none⟩, cap, rfl⟩
  · rcases h.o2.2 with ⟨rfl, e⟩ | ⟨g, cap, cur, rfl, _⟩
    · exact ⟨none, 0, by rw [e]⟩
    · exact ⟨some ⟨g, 0, none⟩, cap, rfl⟩
/-- A number that waits to be appended. -/
structure Pend (V1 V2 : Value) (g : Nat) (x : Int) (w : World) : Prop where
  c : w.cell? ⟨g, 0, none⟩ = some (.int .i64 x)
  n1 : V1.ownBlock ≠ some g
  n2 : V2.ownBlock ≠ some g
theorem Pend.new {w0 w : World} {p : Nat} {a b x : Int} {l1 l2 : List Int} {V1 V2 : Value} {T : TypeId} (h : Two w0 p a b l1 l2 V1 V2 w) : Pend V1 V2 w.heap.size x (w.alloc (.cells #[.int .i64 x] T)).drew :=
  ⟨(row_facts (new_row rfl)).1 0, fun e => by have := ownsRow_lt h.o1 e; omega, fun e => by have := ownsRow_lt h.o2 e; omega⟩
theorem Pend.newP {w0 w : World} {p : Nat} {a b x : Int} {l1 l2 : List Int} {V1 V2 : Value} {T : TypeId} (h : Two w0 p a b l1 l2 V1 V2 w) : Pend V1 V2 w.heap.size x (w.alloc (.cells #[.int .i64 x] T)) :=
  ⟨(row_facts (new_row rfl)).1 0, fun e => by have := ownsRow_lt h.o1 e; omega, fun e => by have := ownsRow_lt h.o2 e; omega⟩
theorem Pend.go {w w' : World} {g : Nat} {x : Int} {V1 V2 : Value} (h : Pend V1 V2 g x w) (k : Bel w w') : Pend V1 V2 g x w' := ⟨k.cell h.c, h.n1, h.n2⟩
theorem Pend.src {w : World} {g : Nat} {x : Int} {V1 V2 : Value} (h : Pend V1 V2 g x w) : ∀ j u, [Value.int .i64 x][j]? = some u → w.cell? ((⟨g, 0, none⟩ : Addr).add j) = some u := fun j u hu => by
  match j, hu with
  | 0, hu => rw [add_at, ← (by simpa using hu : Value.int .i64 x = u)]; exact h.c
  | j + 1, hu => simp at hu
theorem Pend.app1 {w w' : World} {g : Nat} {x : Int} {V1 V2 V' : Value} (h : Pend V1 V2 g x w) (hg : w.grownBy w' V1.ownBlock) (hv : V'.ownBlock = V1.ownBlock ∨ V'.ownBlock = some w.heap.size) : Pend V' V2 g x w' := by
  have hl := cell_lt h.c
  refine ⟨(World.cell?_of_block (hg.block g hl (fun e => h.n1 e.symm))).trans h.c, fun e => ?_, h.n2⟩
  rcases hv with k | k
  · exact h.n1 (by rw [← k]; exact e)
  · rw [k] at e; injection e with e; have : g < w.heap.size := hl; omega
theorem Pend.app2 {w w' : World} {g : Nat} {x : Int} {V1 V2 V' : Value} (h : Pend V1 V2 g x w) (hg : w.grownBy w' V2.ownBlock) (hv : V'.ownBlock = V2.ownBlock ∨ V'.ownBlock = some w.heap.size) : Pend V1 V' g x w' := by
  have hl := cell_lt h.c
  refine ⟨(World.cell?_of_block (hg.block g hl (fun e => h.n2 e.symm))).trans h.c, h.n1, fun e => ?_⟩
  rcases hv with k | k
  · exact h.n2 (by rw [← k]; exact e)
  · rw [k] at e; injection e with e; have : g < w.heap.size := hl; omega
end Go.Proofs.Ytkdcdhkhadhcfaa
