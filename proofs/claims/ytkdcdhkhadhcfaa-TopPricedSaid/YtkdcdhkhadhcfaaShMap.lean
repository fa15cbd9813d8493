/-
  shares: a map from nodes to pence that the call made: what it reads as; look-up and store.
-/
import Derived.MapKept
import Derived.Carry
import Derived.Maps.OwnOps
import Derived.Test.YtkdcdhkhadhcfaaClo
import Derived.Test.YtkdcdhkhadhcfaaShV
namespace Go.Proofs.Ytkdcdhkhadhcfaa
open Go Go.RowKit
set_option maxHeartbeats 1000000
set_option maxRecDepth 100000
abbrev GtT := Nat → Option Int
def updG (g : GtT) (s : Nat) (p : Int) : GtT := fun t => if t = s then some p else g t
def keyN (s : Nat) : Value := .int .i64 (s : Int)
def penV (p : Int) : Value := .int .i64 p
/-- A block is a map that reads as a table of pence. -/
def MapN (w : World) (b : Nat) (pr : GtT) : Prop :=
  ∃ (es : Array MapEntry) (clock : Nat) (l : List (Nat × Int)), w.heap[b]? = some (.map es clock) ∧ es.toList.map (fun e => (e.key, e.val)) = l.map (fun x => (keyN x.1, penV x.2)) ∧ ∀ s, pr s = (l.find? fun x => x.1 == s).map (·.2)
theorem MapN.lt {w : World} {b : Nat} {pr : GtT} (h : MapN w b pr) : b < w.heap.size := by obtain ⟨_, _, _, h, _⟩ := h; exact (Array.getElem?_eq_some_iff.1 h).1
theorem MapN.same {w w' : World} {b : Nat} {pr : GtT} (h : MapN w b pr) (e : w'.heap[b]? = w.heap[b]?) : MapN w' b pr := by
  obtain ⟨es, c, l, h1, h2⟩ := h
  exact ⟨es, c, l, e.trans h1, h2⟩
theorem MapN.bel {w w' : World} {b : Nat} {pr : GtT} (h : MapN w b pr) (k : Bel w w') : MapN w' b pr := h.same (k.below.block b h.lt)
theorem MapN.others {w w' : World} {b : Nat} {pr : GtT} (h : MapN w b pr) (k : KeepsOthers w w') : MapN w' b pr := by
  obtain ⟨es, c, l, h1, h2⟩ := h
  exact ⟨es, c, l, k.same b _ h1 rfl, h2⟩
theorem keyN_key (s : Nat) : MapKept.IsKey (.int .i64) (keyN s) := by simp [MapKept.IsKey, keyN]
theorem keyN_inj {s t : Nat} (h : keyN s = keyN t) : s = t := by unfold keyN at h; injection h with _ h; omega
theorem l_keyN {es : List MapEntry} {l : List (Nat × Int)} (h : es.map (fun e => (e.key, e.val)) = l.map (fun x => (keyN x.1, penV x.2))) {j : Nat} {e : MapEntry} (he : es[j]? = some e) :
    ∃ x, l[j]? = some x ∧ e.key = keyN x.1 ∧ e.val = penV x.2 := by
  have h1 := congrArg (fun q => q[j]?) h
  simp only [List.getElem?_map, he, Option.map_some] at h1
  cases e2 : l[j]? with
  | none => rw [e2] at h1; cases h1
  | some x =>
    rw [e2] at h1
    simp only [Option.map_some, Option.some.injEq, Prod.mk.injEq] at h1
    exact ⟨x, rfl, h1.1, h1.2⟩
/-- What a search finds: the first entry with the key, or none. -/
theorem findNowN {s : Nat} : ∀ (es : List MapEntry) (l : List (Nat × Int)) (i : Nat), es.map (fun e => (e.key, e.val)) = l.map (fun x => (keyN x.1, penV x.2)) →
    (Instr.findNow (.int .i64) (keyN s) es i = some none ∧ l.find? (fun x => x.1 == s) = none) ∨
    ∃ j p, Instr.findNow (.int .i64) (keyN s) es i = some (some (i + j, penV p)) ∧ l.find? (fun x => x.1 == s) = some (s, p) ∧ j < es.length ∧ ∀ q : Int, (l.modify j fun x => (x.1, q)).find? (fun x => x.1 == s) = some (s, q) ∧ ∀ t, t ≠ s → (l.modify j fun x => (x.1, q)).find? (fun x => x.1 == t) = l.find? (fun x => x.1 == t)
  | [], [], i, _ => .inl ⟨rfl, rfl⟩
  | [], x :: l, i, h => by simp at h
  | e :: es, [], i, h => by simp at h
  | e :: es, x :: l, i, h => by
    simp only [List.map_cons, List.cons.injEq, Prod.mk.injEq] at h
    obtain ⟨⟨hk, hv⟩, hr⟩ := h
    by_cases g : x.1 = s
    · have hs : Instr.sameNow (.int .i64) (keyN s) e.key = some true := by rw [hk, g]; simp [Instr.sameNow, keyN]
      refine .inr ⟨0, x.2, by simp [Instr.findNow, hs, hv], ?_, by simp, fun q => ⟨?_, fun t ht => ?_⟩⟩
      · rw [List.find?_cons]; simp [g]; rw [← g]
      · simp [List.modify, g]
      · have : (x.1 == t) = false := by rw [g]; simpa using fun e => ht e.symm
        simp [List.modify, this]
    · have hs : Instr.sameNow (.int .i64) (keyN s) e.key = some false := by
        rw [hk]; simp [Instr.sameNow, keyN]; omega
      have hx : (x.1 == s) = false := by simpa using g
      rcases findNowN es l (i + 1) hr with ⟨h1, h2⟩ | ⟨j, p, h1, h2, h3, h4⟩
      · exact .inl ⟨by unfold Instr.findNow; rw [hs]; exact h1, by rw [List.find?_cons, hx]; exact h2⟩
      · refine .inr ⟨j + 1, p, by unfold Instr.findNow; rw [hs]; simp only []; rw [h1, show i + 1 + j = i + (j + 1) by omega], by rw [List.find?_cons, hx]; exact h2, by simp; omega, fun q => ?_⟩
        obtain ⟨k1, k2⟩ := h4 q
        refine ⟨?_, fun t ht => ?_⟩
        · rw [List.modify_succ_cons, List.find?_cons, hx]; exact k1
        · rw [List.modify_succ_cons, List.find?_cons, List.find?_cons, k2 t ht]
theorem MapN.look {P : Program} {w : World} {b : Nat} {pr : GtT} (h : MapN w b pr) {T K E : TypeId} (hT : P.underlying T = some (.map K E)) (hK : P.underlying K = some (.int .i64)) (hz : ∀ w : World, (zeroValue E).run P w = .ok (penV 0) w) (s : Nat) :
    (Instr.lookup T (.map (some b)) (keyN s) false).run P w = .ok (penV ((pr s).getD 0)) w := by
  obtain ⟨es, clock, l, hb, hl, hp⟩ := h
  have hchk : (Instr.checkKey es.isEmpty 10000 K (keyN s)).run P w = .ok () w := MapKept.run_checkKey hK (keyN_key s) _ 9999
  rw [hp s]
  rcases findNowN (s := s) es.toList l 0 hl with ⟨h1, h2⟩ | ⟨j, p, h1, h2, _⟩
  · rw [h2]
    simp [Instr.lookup, run_underlying hT, MapKept.run_getObj_map hb, hchk, MapKept.run_findKey hK h1, hz, Result.andThen]
  · rw [h2]
    simp [Instr.lookup, run_underlying hT, MapKept.run_getObj_map hb, hchk, MapKept.run_findKey hK h1, Result.andThen]
theorem MapN.store {P : Program} {w : World} {b : Nat} {pr : GtT} (h : MapN w b pr) {T K E : TypeId} (hT : P.underlying T = some (.map K E)) (hK : P.underlying K = some (.int .i64)) (s : Nat) (p : Int) :
    ∃ w', (Instr.mapUpdate T (.map (some b)) (keyN s) (penV p)).run P w = .ok () w' ∧ MapN w' b (updG pr s p) ∧ KeepC (fun _ => False) w w' ∧ w.grownBy w' (some b) := by
  obtain ⟨es, clock, l, hb, hl, hp⟩ := h
  have hlen : es.toList.length = l.length := by have := congrArg List.length hl; simpa using this
  have hchk : (Instr.checkKey false 10000 K (keyN s)).run P w = .ok () w := MapKept.run_checkKey hK (keyN_key s) _ 9999
  have key : ∀ o' : Obj, (∃ (es' : Array MapEntry) (c' : Nat) (l' : List (Nat × Int)), o' = .map es' c' ∧ es'.toList.map (fun e => (e.key, e.val)) = l'.map (fun x => (keyN x.1, penV x.2)) ∧ ∀ t, updG pr s p t = (l'.find? fun x => x.1 == t).map (·.2)) →
      MapN (w.putObj b o') b (updG pr s p) ∧ KeepC (fun _ => False) w (w.putObj b o') ∧ w.grownBy (w.putObj b o') (some b) := fun o' ⟨es', c', l', e, k1, k2⟩ =>
    ⟨⟨es', c', l', by rw [World.putObj_heap_same (Array.getElem?_eq_some_iff.1 hb).1, e], k1, k2⟩, KeepC.put hb rfl, grownBy_putObj' w b o'⟩
  rcases findNowN (s := s) es.toList l 0 hl with ⟨h1, h2⟩ | ⟨j, q, h1, h2, h3, h4⟩
  · refine ⟨w.putObj b (.map (es.push ⟨keyN s, penV p, clock⟩) (clock + 1)), ?_, key _ ⟨_, _, l ++ [(s, p)], rfl, by simp [hl], fun t => ?_⟩⟩
    · simp [Instr.mapUpdate, run_underlying hT, MapKept.run_getObj_map hb, hchk, MapKept.run_findKey hK h1, MapKept.run_setObj_map _ hb, Result.andThen, World.putObj]
    · unfold updG
      rw [List.find?_append]
      by_cases g : t = s
      · subst g; rw [h2]; simp
      · rw [if_neg g, hp t]
        cases l.find? (fun x => x.1 == t) with
        | none => simp; intro e; exact absurd e.symm g
        | some x => simp
  · rw [Nat.zero_add] at h1
    have hkey : ∃ e0, es[j]? = some e0 ∧ e0.key = keyN s := by
      obtain ⟨e0, he0⟩ : ∃ e0, es.toList[j]? = some e0 := ⟨es.toList[j], by rw [List.getElem?_eq_getElem h3]⟩
      refine ⟨e0, by simpa using he0, ?_⟩
      rcases MapKept.findNow_spec (keyN_key s) es.toList 0 (fun x hx => by
        obtain ⟨k, hk⟩ := List.getElem?_of_mem hx
        obtain ⟨y, _, y2, _⟩ := l_keyN hl hk
        rw [y2]; exact keyN_key _) with ⟨g1, _⟩ | ⟨k, e1, g1, g2, g3⟩
      · rw [g1] at h1; cases h1
      · rw [g1] at h1
        injection h1 with h1
        injection h1 with h1
        injection h1 with h1 _
        have : k = j := by omega
        subst this
        rw [g2] at he0
        injection he0 with he0
        rw [← he0]; exact g3
    obtain ⟨e0, he0, hk0⟩ := hkey
    have hstay : (Instr.keyThatStays (keyN s) (keyN s)).run P w = .ok (keyN s) w := by
      have : Instr.sameBits 10000 (keyN s) (keyN s) = true := by simp [Instr.sameBits, keyN]
      simp [Instr.keyThatStays, this]
    refine ⟨w.putObj b (.map (es.modify j fun e => { e with key := keyN s, val := penV p }) clock), ?_, key _ ⟨_, _, l.modify j (fun x => (x.1, p)), rfl, ?_, fun t => ?_⟩⟩
    · simp [Instr.mapUpdate, run_underlying hT, MapKept.run_getObj_map hb, hchk, MapKept.run_findKey hK h1, he0, hk0, hstay, MapKept.run_setObj_map _ hb, Result.andThen, World.putObj]
    · refine List.ext_getElem? fun i => ?_
      have hi := congrArg (fun q => q[i]?) hl
      simp only [List.getElem?_map] at hi
      simp only [List.getElem?_map, Array.toList_modify, List.getElem?_modify]
      by_cases g : j = i
      · subst g
        have he1 : es.toList[j]? = some e0 := by simpa using he0
        rw [he1] at hi ⊢
        cases e3 : l[j]? with
        | none => rw [e3] at hi; cases hi
        | some y =>
          rw [e3] at hi
          simp only [Option.map_some, Option.some.injEq, Prod.mk.injEq] at hi
          simp
          rw [← hi.1, hk0]
      · simp [g]
        simpa using hi
    · obtain ⟨k1, k2⟩ := h4 p
      unfold updG
      by_cases g : t = s
      · subst g; rw [if_pos rfl, k1]; rfl
      · rw [if_neg g, k2 t g]; exact hp t
end Go.Proofs.Ytkdcdhkhadhcfaa
