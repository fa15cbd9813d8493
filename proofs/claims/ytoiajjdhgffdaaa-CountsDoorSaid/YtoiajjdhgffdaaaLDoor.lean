/-
  law: CountsDoor: with one more door open in a step each truth is still one, and no span is narrower; Passed of a door that is closed is 0 to 0: the call returns true for every trap and numbers, and changes nothing that was there
-/
import Derived.Test.YtoiajjdhgffdaaaLaw1
import Derived.Test.YtoiajjdhgffdaaaCopy
import Derived.Test.YtoiajjdhgffdaaaIsT
import Derived.Test.YtoiajjdhgffdaaaTruth
import Derived.Test.YtoiajjdhgffdaaaIdleV
import Derived.Deep.DeepCutAuto
import Derived.Test.YtoiajjdhgffdaaaWorks
import Derived.Test.YtoiajjdhgffdaaaCopied
import Derived.Test.YtoiajjdhgffdaaaHolds
import Derived.Test.YtoiajjdhgffdaaaNarrower
import Derived.Test.YtoiajjdhgffdaaaIsOne
import Derived.Test.YtoiajjdhgffdaaaIdle
namespace Go.Proofs.Ytoiajjdhgffdaaa
set_option linter.unusedVariables false
theorem small_of {t : CT} (h : HugeB t = false) : t.op.length ≤ 40 ∧ (∀ i, i < t.op.length → (atL t.op i).length ≤ 40) ∧ t.ws.length ≤ 40 := by
  unfold HugeB hugeB at h
  simp only [Bool.or_eq_false_iff, decide_eq_false_iff_not, Bool.not_eq_false'] at h
  obtain ⟨⟨h1, h2⟩, h3⟩ := h
  unfold longB at h2
  refine ⟨by omega, fun i hi => ?_, by omega⟩
  have := allB_iff.1 h2 i hi
  simp at this
  omega
theorem room_small {t : CT} (h : HugeB t = false) : Room t := by
  obtain ⟨h1, h2, h3⟩ := small_of h
  exact ⟨by omega, fun i hi => by have := h2 i hi; omega, by omega⟩
end Go.Proofs.Ytoiajjdhgffdaaa
namespace Go.Proofs.Ytoiajjdhgffdaaa
set_option linter.unusedVariables false
theorem Feas.col {M : Nat → Nat → Int} {G : Cons} (h : Feas M G) : Sol G (fun k => -(M k 0)) :=
  (h.2 _).2 fun i k hi hk => by have := h.1.2 i k 0 hi hk (by omega); omega
def tY (t : CT) : Nat → Nat → Int := yof t (fun k => -(setMat t (-1) k 0))
theorem tY_sat {t : CT} (hf : Fit t) (h : Exact t (-1) (setMat t (-1))) : Sat t (-1) (tY t) := sat_of_sol hf h.feas.col
theorem truthAt_eq (t : CT) (i c : Nat) : truthAt t i c = tY t i c - tY t i (c + 1) := by
  unfold truthAt tY yof
  rw [nd_succ]
  simp only []
  omega
theorem truthTo_at (t : CT) (n i : Nat) (h : i < n) : atL (truthTo t n) i = truthRow t i := by unfold truthTo atL; simp [List.getD, h]
theorem truthRows_at {t : CT} {i c : Nat} (hi : i < t.T.toNat) (hc : c < t.C.toNat) : at0 (atL (truthRows t) i) c = tY t i c - tY t i (c + 1) := by
  unfold truthRows
  rw [truthTo_at t _ i hi, truthRow_at t i c hc, truthAt_eq]
theorem truthRows_len (t : CT) : (truthRows t).length = t.T.toNat := truthTo_len t _
theorem truthRows_row {t : CT} {i : Nat} (hi : i < t.T.toNat) : (atL (truthRows t) i).length = t.C.toNat := by
  unfold truthRows
  rw [truthTo_at t _ i hi, truthRow_len]
theorem Sat.congr {t : CT} {skip : Int} {y z : Nat → Nat → Int} (hf : Fit t) (h : Sat t skip y) (e : ∀ i c, i < t.T.toNat → c ≤ t.C.toNat → z i c = y i c) : Sat t skip z := by
  refine ⟨fun i hi => ?_, fun i hi => ?_, fun i c hi hc => ?_, fun i c hi hc => ?_, fun i c hi hc hin => ?_, fun k hk hs => ?_⟩
  · rw [e i 0 hi (by omega)]; exact h.top i hi
  · rw [e i _ hi (by omega)]; exact h.last i hi
  · rw [e i c hi (by omega), e i (c + 1) hi (by omega)]; exact h.chain i c hi hc
  · rw [e i c (by omega) (by omega), e (i + 1) c hi (by omega)]; exact h.time i c hi hc
  · rw [e i c (by omega) (by omega), e (i + 1) c hi (by omega)]; exact h.shut i c hi hc hin
  · obtain ⟨⟨w1, w2⟩, ⟨w3, w4⟩, _⟩ := hf.word k hk
    rw [e _ _ (by omega) (by omega), e _ _ (by omega) (by omega)]; exact h.word k hk hs
/-- Rows whose numbers are the differences of a truth. -/
theorem beh_of_rows {t : CT} {l : List (List Int)} {y : Nat → Nat → Int} (hl : ∀ i, i < t.T.toNat → y i t.C.toNat = 0) (h2 : ∀ i, i < t.T.toNat → (atL l i).length = t.C.toNat)
    (h : ∀ i c, i < t.T.toNat → c < t.C.toNat → at0 (atL l i) c = y i c - y i (c + 1)) (i : Nat) (hi : i < t.T.toNat) : ∀ c, c ≤ t.C.toNat → beh l i c = y i c := by
  have key : ∀ d, d ≤ t.C.toNat → beh l i (t.C.toNat - d) = y i (t.C.toNat - d) := by
    intro d
    induction d with
    | zero =>
      intro _
      rw [Nat.sub_zero, hl i hi]
      show behOf (atL l i) _ = 0
      rw [← h2 i hi, behOf_end]
    | succ d ih =>
      intro hd
      have a := ih (by omega)
      have b := behOf_step (atL l i) (t.C.toNat - (d + 1)) (by rw [h2 i hi]; omega)
      rw [show t.C.toNat - (d + 1) + 1 = t.C.toNat - d by omega] at b
      have c := h i (t.C.toNat - (d + 1)) hi (by omega)
      rw [show t.C.toNat - (d + 1) + 1 = t.C.toNat - d by omega] at c
      show behOf _ _ = _
      change behOf _ _ = _ at a
      omega
  intro c hc
  have := key (t.C.toNat - c) (by omega)
  rwa [show t.C.toNat - (t.C.toNat - c) = c by omega] at this
theorem isT_of_sat {t : CT} (hf : Fit t) {l : List (List Int)} {y : Nat → Nat → Int} (hs : Sat t (-1) y) (h1 : l.length = t.T.toNat) (h2 : ∀ i, i < t.T.toNat → (atL l i).length = t.C.toNat)
    (h : ∀ i c, i < t.T.toNat → c < t.C.toNat → at0 (atL l i) c = y i c - y i (c + 1)) : IsT t l :=
  IsT.mk' hf h1 h2 (hs.congr hf fun i c hi hc => beh_of_rows hs.last h2 h i hi c hc)
theorem truth_isT {t : CT} (hf : Fit t) (hex : Exact t (-1) (setMat t (-1))) : IsT t (truthRows t) :=
  isT_of_sat hf (tY_sat hf hex) (truthRows_len t) (fun i hi => truthRows_row hi) fun i c hi hc => truthRows_at hi hc
/-! Numbers of a truth lie in the spans -/
theorem IsT.fish {t : CT} (hf : Fit t) (hex : Exact t (-1) (setMat t (-1))) {l : List (List Int)} (h : IsT t l) {i c : Nat} (hi : i < t.T.toNat) (hc : c < t.C.toNat) :
    fishLo t i c ≤ at0 (atL l i) c ∧ at0 (atL l i) c ≤ fishHi t i c := by
  have hs := h.sat hf
  have a := (Fish_mn hf hex i c hi hc).1 _ hs
  have b := (Fish_max hf hex i c hi hc).1 _ hs
  have e := behOf_step (atL l i) c (by rw [(h.row i hi).len]; exact hc)
  change _ ≤ behOf _ _ - behOf _ _ at a
  change behOf _ _ - behOf _ _ ≤ _ at b
  omega
theorem isT_told {t : CT} {x : CW} {l : List (List Int)} (h : IsT (told t x) l) : IsT t l ∧ x.low ≤ at0 (atL l x.time.toNat) x.chamber.toNat ∧ at0 (atL l x.time.toNat) x.chamber.toNat ≤ x.high := by
  refine ⟨⟨h.len, fun i hi => ⟨(h.row i hi).len, (h.row i hi).num, (h.row i hi).all⟩, fun i c h0 hi hc => h.step i c h0 hi hc, fun k hk => ?_⟩, ?_⟩
  · have := h.word k (by simp [told]; omega)
    rw [show (told t x).ws = t.ws ++ [x] from rfl, atW_left hk] at this
    exact this
  · have := h.word t.ws.length (by simp [told])
    rw [show (told t x).ws = t.ws ++ [x] from rfl, atW_last] at this
    exact this
end Go.Proofs.Ytoiajjdhgffdaaa
namespace Go.Proofs.Ytoiajjdhgffdaaa
set_option linter.unusedVariables false
def doorB (t : CT) (s d : Nat) (c : Nat) : Bool := decide (c = d) || inB (atL t.op s) c
def doorTo (t : CT) (s d : Nat) : Nat → List Int
  | 0 => []
  | n + 1 => if doorB t s d n then doorTo t s d n ++ [(n : Int)] else doorTo t s d n
def wider (t : CT) (s d : Nat) : CT := ⟨t.C, t.T, t.op.set s (doorTo t s d t.C.toNat), t.ws⟩
theorem door_yes {t : CT} {s d n : Nat} (h : doorB t s d n = true) : doorTo t s d (n + 1) = doorTo t s d n ++ [(n : Int)] := by show (if doorB t s d n = true then _ else _) = _; rw [if_pos h]
theorem door_no {t : CT} {s d n : Nat} (h : doorB t s d n = false) : doorTo t s d (n + 1) = doorTo t s d n := by show (if doorB t s d n = true then _ else _) = _; rw [if_neg (by simp [h])]
theorem doorTo_facts (t : CT) (s d : Nat) : ∀ n, (doorTo t s d n).length ≤ n ∧ (∀ j, j < (doorTo t s d n).length → 0 ≤ at0 (doorTo t s d n) j ∧ at0 (doorTo t s d n) j < n) ∧
    (∀ j, j + 1 < (doorTo t s d n).length → at0 (doorTo t s d n) j < at0 (doorTo t s d n) (j + 1)) ∧ ∀ k : Nat, (k : Int) ∈ doorTo t s d n ↔ k < n ∧ doorB t s d k = true
  | 0 => ⟨Nat.le_refl _, fun j hj => by simp [doorTo] at hj, fun j hj => by simp [doorTo] at hj, fun k => by simp [doorTo]⟩
  | n + 1 => by
    obtain ⟨h1, h2, h3, h4⟩ := doorTo_facts t s d n
    by_cases e : doorB t s d n = true
    · rw [door_yes e]
      simp only [List.length_append, List.length_singleton]
      refine ⟨by omega, fun j hj => ?_, fun j hj => ?_, fun k => ?_⟩
      · by_cases q : j < (doorTo t s d n).length
        · rw [at0_left q]; have := h2 j q; omega
        · rw [show j = (doorTo t s d n).length by omega, at0_last]; omega
      · by_cases q : j + 1 < (doorTo t s d n).length
        · rw [at0_left q, at0_left (by omega)]; exact h3 j q
        · rw [show j + 1 = (doorTo t s d n).length by omega, at0_last, at0_left (by omega)]
          exact (h2 j (by omega)).2
      · rw [List.mem_append, h4, List.mem_singleton]
        constructor
        · rintro (⟨a, b⟩ | a)
          · exact ⟨by omega, b⟩
          · have : k = n := by omega
            rw [this]; exact ⟨by omega, e⟩
        · rintro ⟨a, b⟩
          by_cases q : k = n
          · right; rw [q]
          · left; exact ⟨by omega, b⟩
    · rw [door_no (by simpa using e)]
      refine ⟨by omega, fun j hj => ?_, h3, fun k => ?_⟩
      · have := h2 j hj; omega
      · rw [h4]
        constructor
        · rintro ⟨a, b⟩; exact ⟨by omega, b⟩
        · rintro ⟨a, b⟩
          refine ⟨?_, b⟩
          by_cases q : k = n
          · rw [q] at b; exact absurd b e
          · omega
theorem wider_len (t : CT) (s d : Nat) : (wider t s d).op.length = t.op.length := by unfold wider; simp
theorem wider_at {t : CT} {s d : Nat} (hs : s < t.op.length) (j : Nat) : atL (wider t s d).op j = if j = s then doorTo t s d t.C.toNat else atL t.op j := by
  unfold wider atL List.getD
  simp only []
  by_cases e : j = s
  · rw [if_pos e, e, List.getElem?_set_self hs]; rfl
  · rw [if_neg e, List.getElem?_set_ne (fun q => e q.symm)]
theorem wider_row_rising (t : CT) (hC : 1 ≤ t.C) (s d : Nat) : risingB (doorTo t s d t.C.toNat) 0 (t.C - 1) = true := by
  obtain ⟨_, h2, h3, _⟩ := doorTo_facts t s d t.C.toNat
  unfold risingB
  rw [allB_iff]
  intro j hj
  have a := h2 j hj
  unfold riseAt
  rw [Bool.and_eq_true, withinB_true]
  refine ⟨⟨a.1, by have := a.2; omega⟩, ?_⟩
  by_cases q : j = 0
  · simp [q]
  · have b := h3 (j - 1) (by omega)
    rw [show j - 1 + 1 = j by omega] at b
    simp only [Bool.or_eq_true, decide_eq_true_eq]
    exact .inr b
theorem valid_wider {t : CT} (h : validB t = true) {s d : Nat} (hs : s < t.op.length) : validB (wider t s d) = true := by
  have hf := fit_of_valid h
  unfold validB at h ⊢
  simp only [Bool.and_eq_true, decide_eq_true_eq] at h ⊢
  obtain ⟨a, b, c, e, f, g⟩ := h
  refine ⟨a, b, by rw [wider_len]; exact c, e, ?_, g⟩
  unfold rowsB at f ⊢
  rw [allB_iff] at f ⊢
  intro i hi
  rw [wider_len] at hi
  rw [wider_at hs]
  split
  · exact wider_row_rising t hf.c1 s d
  · exact f i hi
theorem sat_wider {t : CT} {s d : Nat} (hs : s < t.op.length) {y : Nat → Nat → Int} (h : Sat t (-1) y) : Sat (wider t s d) (-1) y := by
  refine ⟨h.top, h.last, h.chain, h.time, fun i c hi hc hin => h.shut i c hi hc ?_, h.word⟩
  rw [wider_at hs] at hin
  by_cases e : i = s
  · rw [if_pos e] at hin
    rw [e]
    rw [inB_false] at hin
    cases q : inB (atL t.op s) c with
    | false => rfl
    | true => exact absurd (((doorTo_facts t s d t.C.toNat).2.2.2 c).2 ⟨hc, by unfold doorB; rw [q, Bool.or_true]⟩) hin
  · rw [if_neg e] at hin; exact hin
theorem isT_wider {t : CT} {s d : Nat} (hv : validB t = true) (hs : s < t.op.length) {l : List (List Int)} (h : IsT t l) : IsT (wider t s d) l :=
  IsT.mk' (fit_of_valid (valid_wider hv hs)) h.len (fun i hi => (h.row i hi).len) (sat_wider hs (h.sat (fit_of_valid hv)))
theorem pass_shut {t : CT} (he : errR t true = 0) {s d : Nat} (hs : s + 1 < t.T.toNat) (hd : d < t.C.toNat) (hin : inB (atL t.op s) d = false) : passLo t s d = 0 ∧ passHi t s d = 0 := by
  obtain ⟨hex, hf⟩ := errR_exact he
  obtain ⟨_, y, h1, h2⟩ := Passed_min hf hex s d hs hd
  obtain ⟨_, z, k1, k2⟩ := Passed_max hf hex s d hs hd
  have a := h1.shut s d hs hd hin
  have b := h1.time s d hs hd
  have a2 := k1.shut s d hs hd hin
  have b2 := k1.time s d hs hd
  simp only [] at h2 k2
  omega
end Go.Proofs.Ytoiajjdhgffdaaa
namespace Go.Proofs.Ytoiajjdhgffdaaa
set_option linter.unusedVariables false
open Go Go.RowKit
set_option maxHeartbeats 1000000
set_option maxRecDepth 100000
def Copy2Post (t : CT) (w : World) (e : Ending) (w' : World) : Prop :=
  ∃ oc gg g cap vs, e = .returned (.agg #[.int .i64 t.C, .int .i64 t.T, .slice (some ⟨gg, 0, none⟩) t.op.length oc, .slice (some ⟨g, 0, none⟩) t.ws.length cap]) ∧ Bel w w' ∧ (w.heap.size ≤ g ∧ w.heap.size ≤ gg ∧ g ≠ gg) ∧
    w'.ownsRow 0 44 4 (.slice (some ⟨g, 0, none⟩) t.ws.length cap) t.ws.length (wordCells t.ws) ∧ w'.ownsRow 0 42 1 (.slice (some ⟨gg, 0, none⟩) t.op.length oc) t.op.length vs ∧
    ∀ j, j < t.op.length → ∀ w'' : World, w'.heap.size ≤ w''.heap.size → (∀ k, w.heap.size ≤ k → k < w'.heap.size → k ≠ gg → k ≠ g → w''.heap[k]? = w'.heap[k]?) → IntsAt w'' (vs.getD j undef) (atL t.op j)
theorem Copy2_any (t : CT) (v : Value) (w : World) (hv : TrapAt w v t) (hroom : Room t) (hpos : 0 < t.op.length) : Calls Try.prog 35 #[v] w (Copy2Post t w) := by
  obtain ⟨h40, hr40, hw40⟩ := hroom
  have HPOS := Lib.hid hpos
  clear hpos
  obtain ⟨ov, wv, rfl, hr, hw⟩ := hv
  obtain ⟨a, c, b, off, rv, rfl, ha, hlen, hc⟩ := hr
  obtain ⟨wa, wc, wb, woff, rfl, hwa, hwlen, hwc⟩ := hw
  obtain ⟨i1, hi1, hz1, hs1, hb1⟩ := info_parts mkInt
  obtain ⟨i2, hi2, hz2, hs2, hb2⟩ := info_parts mkInts
  obtain ⟨i3, hi3, hz3, hs3, hb3⟩ := info_parts mkWord
  have HI3 := Lib.hid hi3
  have HZ3 := Lib.hid hz3
  have hix := idxRows (c := c) ha
  have HC := Lib.hid hc
  have HWA := Lib.hid hwa
  have HSRC := Lib.hid (fun wx (hbx : Bel w wx) (h0 : 0 < t.ws.length) => (show ∃ ad, wa = some ad ∧ ∀ j u, (wordCells t.ws)[j]? = some u → wx.cell? (ad.add j) = some u from
    ⟨_, hwa h0, fun j u hu => WordsAt.src (fun i hi => ⟨hbx.cell (hwc i hi).1, hbx.cell (hwc i hi).2.1, hbx.cell (hwc i hi).2.2.1, hbx.cell (hwc i hi).2.2.2⟩) j u hu⟩))
  have HR40 := Lib.hid hr40
  clear ha hc hwc hr40 hwa hi3 hz3
  go_enter Try.func35, Try.ntmps35
  go_upto_region 1 with fail
  generalize hW0 : (w.alloc _).alloc _ = W0
  have z0 : w.heap.size + 2 ≤ W0.heap.size := by rw [← hW0]; simp
  have zb0 : w.heap.size < W0.heap.size := by omega
  have zb1 : w.heap.size + 1 < W0.heap.size := by omega
  have hB0 : Bel w W0 := by rw [← hW0]; exact (by repeat (first | assumption | exact Bel.refl _ | refine Bel.drew ?_ | refine Bel.drewN ?_ _ | refine Bel.alloc ?_ _ | refine Bel.setCell ?_ (by simp <;> omega) _ | refine Bel.trans ?_ (by assumption)))
  have p0 : W0.cell? ⟨w.heap.size, 0, none⟩ = some (.int .i64 t.C) := by rw [← hW0]; simp [World.cell?_alloc_lt]
  have p1 : W0.cell? ⟨w.heap.size, 1, none⟩ = some (.int .i64 t.T) := by rw [← hW0]; simp [World.cell?_alloc_lt]
  have p2 : W0.cell? ⟨w.heap.size, 2, none⟩ = some (.slice a t.op.length c) := by rw [← hW0]; simp [World.cell?_alloc_lt]
  have p3 : W0.cell? ⟨w.heap.size, 3, none⟩ = some (.slice wa t.ws.length wc) := by rw [← hW0]; simp [World.cell?_alloc_lt]
  have r0 : W0.cell? ⟨w.heap.size + 1, 0, none⟩ = some (.int .i64 0) := by rw [← hW0]; simp
  have r1 : W0.cell? ⟨w.heap.size + 1, 1, none⟩ = some (.int .i64 0) := by rw [← hW0]; simp
  have r2 : W0.cell? ⟨w.heap.size + 1, 2, none⟩ = some (.slice none 0 0) := by rw [← hW0]; simp
  have r3 : W0.cell? ⟨w.heap.size + 1, 3, none⟩ = some (.slice none 0 0) := by rw [← hW0]; simp
  have rf : ∀ o, W0.frozen? ⟨w.heap.size + 1, o, none⟩ = false := by intro o; rw [← hW0]; simp
  clear hW0
  go_cut [3] (fun s3 wx => ∃ p g cap : Nat, s3 = .pointer (some ⟨p, 0, none⟩) ∧ CpBox t W0 p g cap (.slice none 0 0) wx)
  case first =>
    refine wp_region_mixTB (Plan.seq [0, 1, 2, 3, 5, 6] (.both 4 (.both 7 (Plan.seq [8, 1009] .nil) 9 (Plan.seq [1007, 8] .nil)) 9 (Plan.seq [1004, 1007, 8] .nil))) (by kernel_rfl) (by kernel_rfl) (fun hcur => ?_)
    simp only [Plan.seq, Plan.fill, List.getD_cons_zero, List.getD_cons_succ, Nat.reduceLT, ↓reduceIte, Nat.reduceSub]
    apply mix_pure _ rfl
    · intro w' hw'
      have hcr := hw'.cells
      go_simp
      rfl
    intro K hK
    go_simp
    refine hK _ ?_
    clear hK K
    apply mix_pure _ rfl
    · intro w' hw'
      have hcr := hw'.cells
      go_simp
      rfl
    intro K hK
    go_simp
    refine hK _ ?_
    clear hK K
    apply mix_pure _ rfl
    · intro w' hw'
      have hcr := hw'.cells
      go_simp
      rfl
    intro K hK
    go_simp
    refine hK _ ?_
    clear hK K
    apply mix_pure _ rfl
    · intro w' hw'
      have hcr := hw'.cells
      go_simp
      rfl
    intro K hK
    go_simp
    refine hK _ ?_
    clear hK K
    apply mix_pure _ rfl
    · intro w' hw'
      have hcr := hw'.cells
      go_simp
      rfl
    intro K hK
    go_simp
    refine hK _ ?_
    clear hK K
    apply mix_pure _ rfl
    · intro w' hw'
      have hcr := hw'.cells
      go_simp
      rfl
    intro K hK
    go_simp
    refine hK _ ?_
    clear hK K
    refine mix_both ?_ ?_
    · refine mix_act rfl (fun K hK => ?_)
      go_simp
      refine hK _ _ (by repeat (first | assumption | exact Bel.refl _ | refine Bel.drew ?_ | refine Bel.drewN ?_ _ | refine Bel.alloc ?_ _ | refine Bel.setCell ?_ (by simp <;> omega) _ | refine Bel.trans ?_ (by assumption))) (fun hcur => ?_)
      clear hK K
      refine mix_both ?_ ?_
      · refine mix_act rfl (fun K hK => ?_)
        refine wp_append_opt _ _ 23 (by rfl) 44 i3 _ 4 32 Try.underlying23 HI3.out HZ3.out hs3 hb3 rfl (by decide) _ 0 [] (by rfl) (fresh_own ?_) wa t.ws.length wc (wordCells t.ws) (by rfl) (wordCells_len _) (HSRC.out _ (hB0.trans (by repeat (first | assumption | exact Bel.refl _ | refine Bel.drew ?_ | refine Bel.drewN ?_ _ | refine Bel.alloc ?_ _ | refine Bel.setCell ?_ (by simp <;> omega) _ | refine Bel.trans ?_ (by assumption))))) (wordCells_one _) (by unfold maxLen; omega) (by omega) ?_
        · first | exact new_blk (by simp) | exact new_blk2 (by simp)
        intro wv' w3 hown hgrow hwhere
        obtain ⟨g, cap, rfl⟩ : ∃ g cap, wv' = .slice (some ⟨g, 0, none⟩) t.ws.length cap := by
          rcases hown.2 with ⟨rfl, _⟩ | ⟨g, cap, cur, rfl, _⟩
          · rcases hwhere with h | h <;> simp [Value.ownBlock] at h
          · exact ⟨g, cap, by simp⟩
        refine hK _ _ (Bel.grown (w := World.drew _) (by repeat (first | assumption | exact Bel.refl _ | refine Bel.drew ?_ | refine Bel.drewN ?_ _ | refine Bel.alloc ?_ _ | refine Bel.setCell ?_ (by simp <;> omega) _ | refine Bel.trans ?_ (by assumption))) hgrow (fun k h => by simp [Value.ownBlock] at h ⊢; omega)) (fun hcur => ?_)
        have hown' : w3.ownsRow 0 44 4 (.slice (some ⟨g, 0, none⟩) t.ws.length cap) t.ws.length (wordCells t.ws) := by simpa using hown
        have hgl : g < w3.heap.size := ownsRow_lt hown' rfl
        have hgs := hgrow.size
        simp only [World.size_alloc, World.size_drew] at hgs
        have hwh := hwhere
        simp only [Value.ownBlock, Option.some.injEq, World.size_alloc, World.size_drew] at hwh
        clear hK K
        apply mix_pure _ rfl
        · intro w' hw'
          have hcr := hw'.cells
          go_simp
          rfl
        intro K hK
        go_simp
        refine hK _ ?_
        clear hK K
        refine mix_act rfl (fun K hK => ?_)
        go_simp
        refine hK _ _ (by repeat (first | assumption | exact Bel.refl _ | refine Bel.drew ?_ | refine Bel.drewN ?_ _ | refine Bel.alloc ?_ _ | refine Bel.setCell ?_ (by simp <;> omega) _ | refine Bel.trans ?_ (by assumption))) (fun hcur => ?_)
        clear hK K
        refine mix_tailK rfl (fun K hK => ?_)
        first
          | (have hpb : (World.heap w3)[(W0.heap.size + 1)]? = some (Obj.cells #[.int .i64 0, .int .i64 0, .slice none 0 0, .slice none 0 0] 25 (0, 0)) := (hgrow.block (W0.heap.size + 1) (by simp) (by simp [Value.ownBlock])).trans (new_blk (by simp))
             have HMK := Lib.hid (CpBox.make (w0 := W0) (p := (W0.heap.size + 1)) (g := g) (cap := cap) hpb hown' (by omega) (by omega) (by omega) (by repeat (first | assumption | exact Bel.refl _ | refine Bel.drew ?_ | refine Bel.drewN ?_ _ | refine Bel.alloc ?_ _ | refine Bel.setCell ?_ (by simp <;> omega) _ | refine Bel.trans ?_ (by assumption))))
             have q0 : World.cell? w3 ⟨(W0.heap.size + 1), 0, none⟩ = some (.int .i64 0) := (row_facts hpb).1 _
             have q1 : World.cell? w3 ⟨(W0.heap.size + 1), 1, none⟩ = some (.int .i64 0) := (row_facts hpb).1 _
             have q2 : World.cell? w3 ⟨(W0.heap.size + 1), 2, none⟩ = some (.slice none 0 0) := (row_facts hpb).1 _
             have q3 : World.cell? w3 ⟨(W0.heap.size + 1), 3, none⟩ = some (.slice none 0 0) := (row_facts hpb).1 _
             have qf : ∀ o, World.frozen? w3 ⟨(W0.heap.size + 1), o, none⟩ = false := (row_facts hpb).2
             clear hpb
             go_simp
             refine hK _ _ ?_
             clear hK K q0 q1 q2 q3 qf)
          | (have hpb : (World.heap w3)[W0.heap.size]? = some (Obj.cells #[.int .i64 0, .int .i64 0, .slice none 0 0, .slice none 0 0] 25 (0, 0)) := (hgrow.block W0.heap.size (by simp; omega) (by simp [Value.ownBlock])).trans (new_blk2 rfl)
             have HMK := Lib.hid (CpBox.make (w0 := W0) (p := W0.heap.size) (g := g) (cap := cap) hpb hown' (by omega) (by omega) (by omega) (by repeat (first | assumption | exact Bel.refl _ | refine Bel.drew ?_ | refine Bel.drewN ?_ _ | refine Bel.alloc ?_ _ | refine Bel.setCell ?_ (by simp <;> omega) _ | refine Bel.trans ?_ (by assumption))))
             have q0 : World.cell? w3 ⟨W0.heap.size, 0, none⟩ = some (.int .i64 0) := (row_facts hpb).1 _
             have q1 : World.cell? w3 ⟨W0.heap.size, 1, none⟩ = some (.int .i64 0) := (row_facts hpb).1 _
             have q2 : World.cell? w3 ⟨W0.heap.size, 2, none⟩ = some (.slice none 0 0) := (row_facts hpb).1 _
             have q3 : World.cell? w3 ⟨W0.heap.size, 3, none⟩ = some (.slice none 0 0) := (row_facts hpb).1 _
             have qf : ∀ o, World.frozen? w3 ⟨W0.heap.size, o, none⟩ = false := (row_facts hpb).2
             clear hpb
             go_simp
             refine hK _ _ ?_
             clear hK K q0 q1 q2 q3 qf)
          | (have hpb : (World.heap (w3.alloc (Obj.cells #[.int .i64 0, .int .i64 0, .slice none 0 0, .slice none 0 0] 25)))[w3.heap.size]? = some (Obj.cells #[.int .i64 0, .int .i64 0, .slice none 0 0, .slice none 0 0] 25 (0, 0)) := heap_alloc_new ..
             have HMK := Lib.hid (CpBox.make2 (t := t) (w0 := W0) (g := g) (cap := cap) hown' (by omega) (by omega) (by omega) (by repeat (first | assumption | exact Bel.refl _ | refine Bel.drew ?_ | refine Bel.drewN ?_ _ | refine Bel.alloc ?_ _ | refine Bel.setCell ?_ (by simp <;> omega) _ | refine Bel.trans ?_ (by assumption))))
             have q0 : World.cell? (w3.alloc (Obj.cells #[.int .i64 0, .int .i64 0, .slice none 0 0, .slice none 0 0] 25)) ⟨w3.heap.size, 0, none⟩ = some (.int .i64 0) := (row_facts hpb).1 _
             have q1 : World.cell? (w3.alloc (Obj.cells #[.int .i64 0, .int .i64 0, .slice none 0 0, .slice none 0 0] 25)) ⟨w3.heap.size, 1, none⟩ = some (.int .i64 0) := (row_facts hpb).1 _
             have q2 : World.cell? (w3.alloc (Obj.cells #[.int .i64 0, .int .i64 0, .slice none 0 0, .slice none 0 0] 25)) ⟨w3.heap.size, 2, none⟩ = some (.slice none 0 0) := (row_facts hpb).1 _
             have q3 : World.cell? (w3.alloc (Obj.cells #[.int .i64 0, .int .i64 0, .slice none 0 0, .slice none 0 0] 25)) ⟨w3.heap.size, 3, none⟩ = some (.slice none 0 0) := (row_facts hpb).1 _
             have qf : ∀ o, World.frozen? (w3.alloc (Obj.cells #[.int .i64 0, .int .i64 0, .slice none 0 0, .slice none 0 0] 25)) ⟨w3.heap.size, o, none⟩ = false := (row_facts hpb).2
             clear hpb
             go_simp
             refine hK _ _ ?_
             clear hK K q0 q1 q2 q3 qf)
        go_wp2_with fail
        go_meet
        exact ⟨_, g, cap, rfl, HMK.out⟩
      · refine mix_act rfl (fun K hK => ?_)
        go_simp
        refine hK _ _ (by repeat (first | assumption | exact Bel.refl _ | refine Bel.drew ?_ | refine Bel.drewN ?_ _ | refine Bel.alloc ?_ _ | refine Bel.setCell ?_ (by simp <;> omega) _ | refine Bel.trans ?_ (by assumption))) (fun hcur => ?_)
        clear hK K
        refine mix_act rfl (fun K hK => ?_)
        refine wp_append_opt _ _ 23 (by rfl) 44 i3 _ 4 32 Try.underlying23 HI3.out HZ3.out hs3 hb3 rfl (by decide) _ 0 [] (by rfl) (fresh_own ?_) wa t.ws.length wc (wordCells t.ws) (by rfl) (wordCells_len _) (HSRC.out _ (hB0.trans (by repeat (first | assumption | exact Bel.refl _ | refine Bel.drew ?_ | refine Bel.drewN ?_ _ | refine Bel.alloc ?_ _ | refine Bel.setCell ?_ (by simp <;> omega) _ | refine Bel.trans ?_ (by assumption))))) (wordCells_one _) (by unfold maxLen; omega) (by omega) ?_
        · first | exact new_blk (by simp) | exact new_blk2 (by simp)
        intro wv' w3 hown hgrow hwhere
        obtain ⟨g, cap, rfl⟩ : ∃ g cap, wv' = .slice (some ⟨g, 0, none⟩) t.ws.length cap := by
          rcases hown.2 with ⟨rfl, _⟩ | ⟨g, cap, cur, rfl, _⟩
          · rcases hwhere with h | h <;> simp [Value.ownBlock] at h
          · exact ⟨g, cap, by simp⟩
        refine hK _ _ (Bel.grown (w := World.drew _) (by repeat (first | assumption | exact Bel.refl _ | refine Bel.drew ?_ | refine Bel.drewN ?_ _ | refine Bel.alloc ?_ _ | refine Bel.setCell ?_ (by simp <;> omega) _ | refine Bel.trans ?_ (by assumption))) hgrow (fun k h => by simp [Value.ownBlock] at h ⊢; omega)) (fun hcur => ?_)
        have hown' : w3.ownsRow 0 44 4 (.slice (some ⟨g, 0, none⟩) t.ws.length cap) t.ws.length (wordCells t.ws) := by simpa using hown
        have hgl : g < w3.heap.size := ownsRow_lt hown' rfl
        have hgs := hgrow.size
        simp only [World.size_alloc, World.size_drew] at hgs
        have hwh := hwhere
        simp only [Value.ownBlock, Option.some.injEq, World.size_alloc, World.size_drew] at hwh
        clear hK K
        apply mix_pure _ rfl
        · intro w' hw'
          have hcr := hw'.cells
          go_simp
          rfl
        intro K hK
        go_simp
        refine hK _ ?_
        clear hK K
        refine mix_tailK rfl (fun K hK => ?_)
        first
          | (have hpb : (World.heap w3)[(W0.heap.size + 1)]? = some (Obj.cells #[.int .i64 0, .int .i64 0, .slice none 0 0, .slice none 0 0] 25 (0, 0)) := (hgrow.block (W0.heap.size + 1) (by simp) (by simp [Value.ownBlock])).trans (new_blk (by simp))
             have HMK := Lib.hid (CpBox.make (w0 := W0) (p := (W0.heap.size + 1)) (g := g) (cap := cap) hpb hown' (by omega) (by omega) (by omega) (by repeat (first | assumption | exact Bel.refl _ | refine Bel.drew ?_ | refine Bel.drewN ?_ _ | refine Bel.alloc ?_ _ | refine Bel.setCell ?_ (by simp <;> omega) _ | refine Bel.trans ?_ (by assumption))))
             have q0 : World.cell? w3 ⟨(W0.heap.size + 1), 0, none⟩ = some (.int .i64 0) := (row_facts hpb).1 _
             have q1 : World.cell? w3 ⟨(W0.heap.size + 1), 1, none⟩ = some (.int .i64 0) := (row_facts hpb).1 _
             have q2 : World.cell? w3 ⟨(W0.heap.size + 1), 2, none⟩ = some (.slice none 0 0) := (row_facts hpb).1 _
             have q3 : World.cell? w3 ⟨(W0.heap.size + 1), 3, none⟩ = some (.slice none 0 0) := (row_facts hpb).1 _
             have qf : ∀ o, World.frozen? w3 ⟨(W0.heap.size + 1), o, none⟩ = false := (row_facts hpb).2
             clear hpb
             go_simp
             refine hK _ _ ?_
             clear hK K q0 q1 q2 q3 qf)
          | (have hpb : (World.heap w3)[W0.heap.size]? = some (Obj.cells #[.int .i64 0, .int .i64 0, .slice none 0 0, .slice none 0 0] 25 (0, 0)) := (hgrow.block W0.heap.size (by simp; omega) (by simp [Value.ownBlock])).trans (new_blk2 rfl)
             have HMK := Lib.hid (CpBox.make (w0 := W0) (p := W0.heap.size) (g := g) (cap := cap) hpb hown' (by omega) (by omega) (by omega) (by repeat (first | assumption | exact Bel.refl _ | refine Bel.drew ?_ | refine Bel.drewN ?_ _ | refine Bel.alloc ?_ _ | refine Bel.setCell ?_ (by simp <;> omega) _ | refine Bel.trans ?_ (by assumption))))
             have q0 : World.cell? w3 ⟨W0.heap.size, 0, none⟩ = some (.int .i64 0) := (row_facts hpb).1 _
             have q1 : World.cell? w3 ⟨W0.heap.size, 1, none⟩ = some (.int .i64 0) := (row_facts hpb).1 _
             have q2 : World.cell? w3 ⟨W0.heap.size, 2, none⟩ = some (.slice none 0 0) := (row_facts hpb).1 _
             have q3 : World.cell? w3 ⟨W0.heap.size, 3, none⟩ = some (.slice none 0 0) := (row_facts hpb).1 _
             have qf : ∀ o, World.frozen? w3 ⟨W0.heap.size, o, none⟩ = false := (row_facts hpb).2
             clear hpb
             go_simp
             refine hK _ _ ?_
             clear hK K q0 q1 q2 q3 qf)
          | (have hpb : (World.heap (w3.alloc (Obj.cells #[.int .i64 0, .int .i64 0, .slice none 0 0, .slice none 0 0] 25)))[w3.heap.size]? = some (Obj.cells #[.int .i64 0, .int .i64 0, .slice none 0 0, .slice none 0 0] 25 (0, 0)) := heap_alloc_new ..
             have HMK := Lib.hid (CpBox.make2 (t := t) (w0 := W0) (g := g) (cap := cap) hown' (by omega) (by omega) (by omega) (by repeat (first | assumption | exact Bel.refl _ | refine Bel.drew ?_ | refine Bel.drewN ?_ _ | refine Bel.alloc ?_ _ | refine Bel.setCell ?_ (by simp <;> omega) _ | refine Bel.trans ?_ (by assumption))))
             have q0 : World.cell? (w3.alloc (Obj.cells #[.int .i64 0, .int .i64 0, .slice none 0 0, .slice none 0 0] 25)) ⟨w3.heap.size, 0, none⟩ = some (.int .i64 0) := (row_facts hpb).1 _
             have q1 : World.cell? (w3.alloc (Obj.cells #[.int .i64 0, .int .i64 0, .slice none 0 0, .slice none 0 0] 25)) ⟨w3.heap.size, 1, none⟩ = some (.int .i64 0) := (row_facts hpb).1 _
             have q2 : World.cell? (w3.alloc (Obj.cells #[.int .i64 0, .int .i64 0, .slice none 0 0, .slice none 0 0] 25)) ⟨w3.heap.size, 2, none⟩ = some (.slice none 0 0) := (row_facts hpb).1 _
             have q3 : World.cell? (w3.alloc (Obj.cells #[.int .i64 0, .int .i64 0, .slice none 0 0, .slice none 0 0] 25)) ⟨w3.heap.size, 3, none⟩ = some (.slice none 0 0) := (row_facts hpb).1 _
             have qf : ∀ o, World.frozen? (w3.alloc (Obj.cells #[.int .i64 0, .int .i64 0, .slice none 0 0, .slice none 0 0] 25)) ⟨w3.heap.size, o, none⟩ = false := (row_facts hpb).2
             clear hpb
             go_simp
             refine hK _ _ ?_
             clear hK K q0 q1 q2 q3 qf)
        go_wp2_with fail
        go_meet
        exact ⟨_, g, cap, rfl, HMK.out⟩
    · refine mix_act rfl (fun K hK => ?_)
      go_simp
      refine hK _ _ (by repeat (first | assumption | exact Bel.refl _ | refine Bel.drew ?_ | refine Bel.drewN ?_ _ | refine Bel.alloc ?_ _ | refine Bel.setCell ?_ (by simp <;> omega) _ | refine Bel.trans ?_ (by assumption))) (fun hcur => ?_)
      clear hK K
      refine mix_act rfl (fun K hK => ?_)
      go_simp
      refine hK _ _ (by repeat (first | assumption | exact Bel.refl _ | refine Bel.drew ?_ | refine Bel.drewN ?_ _ | refine Bel.alloc ?_ _ | refine Bel.setCell ?_ (by simp <;> omega) _ | refine Bel.trans ?_ (by assumption))) (fun hcur => ?_)
      clear hK K
      refine mix_act rfl (fun K hK => ?_)
      refine wp_append_opt _ _ 23 (by rfl) 44 i3 _ 4 32 Try.underlying23 HI3.out HZ3.out hs3 hb3 rfl (by decide) _ 0 [] (by rfl) (fresh_own ?_) wa t.ws.length wc (wordCells t.ws) (by rfl) (wordCells_len _) (HSRC.out _ (hB0.trans (by repeat (first | assumption | exact Bel.refl _ | refine Bel.drew ?_ | refine Bel.drewN ?_ _ | refine Bel.alloc ?_ _ | refine Bel.setCell ?_ (by simp <;> omega) _ | refine Bel.trans ?_ (by assumption))))) (wordCells_one _) (by unfold maxLen; omega) (by omega) ?_
      · first | exact new_blk (by simp) | exact new_blk2 (by simp)
      intro wv' w3 hown hgrow hwhere
      obtain ⟨g, cap, rfl⟩ : ∃ g cap, wv' = .slice (some ⟨g, 0, none⟩) t.ws.length cap := by
        rcases hown.2 with ⟨rfl, _⟩ | ⟨g, cap, cur, rfl, _⟩
        · rcases hwhere with h | h <;> simp [Value.ownBlock] at h
        · exact ⟨g, cap, by simp⟩
      refine hK _ _ (Bel.grown (w := World.drew _) (by repeat (first | assumption | exact Bel.refl _ | refine Bel.drew ?_ | refine Bel.drewN ?_ _ | refine Bel.alloc ?_ _ | refine Bel.setCell ?_ (by simp <;> omega) _ | refine Bel.trans ?_ (by assumption))) hgrow (fun k h => by simp [Value.ownBlock] at h ⊢; omega)) (fun hcur => ?_)
      have hown' : w3.ownsRow 0 44 4 (.slice (some ⟨g, 0, none⟩) t.ws.length cap) t.ws.length (wordCells t.ws) := by simpa using hown
      have hgl : g < w3.heap.size := ownsRow_lt hown' rfl
      have hgs := hgrow.size
      simp only [World.size_alloc, World.size_drew] at hgs
      have hwh := hwhere
      simp only [Value.ownBlock, Option.some.injEq, World.size_alloc, World.size_drew] at hwh
      clear hK K
      apply mix_pure _ rfl
      · intro w' hw'
        have hcr := hw'.cells
        go_simp
        rfl
      intro K hK
      go_simp
      refine hK _ ?_
      clear hK K
      refine mix_tailK rfl (fun K hK => ?_)
      first
        | (have hpb : (World.heap w3)[(W0.heap.size + 1)]? = some (Obj.cells #[.int .i64 0, .int .i64 0, .slice none 0 0, .slice none 0 0] 25 (0, 0)) := (hgrow.block (W0.heap.size + 1) (by simp) (by simp [Value.ownBlock])).trans (new_blk (by simp))
           have HMK := Lib.hid (CpBox.make (w0 := W0) (p := (W0.heap.size + 1)) (g := g) (cap := cap) hpb hown' (by omega) (by omega) (by omega) (by repeat (first | assumption | exact Bel.refl _ | refine Bel.drew ?_ | refine Bel.drewN ?_ _ | refine Bel.alloc ?_ _ | refine Bel.setCell ?_ (by simp <;> omega) _ | refine Bel.trans ?_ (by assumption))))
           have q0 : World.cell? w3 ⟨(W0.heap.size + 1), 0, none⟩ = some (.int .i64 0) := (row_facts hpb).1 _
           have q1 : World.cell? w3 ⟨(W0.heap.size + 1), 1, none⟩ = some (.int .i64 0) := (row_facts hpb).1 _
           have q2 : World.cell? w3 ⟨(W0.heap.size + 1), 2, none⟩ = some (.slice none 0 0) := (row_facts hpb).1 _
           have q3 : World.cell? w3 ⟨(W0.heap.size + 1), 3, none⟩ = some (.slice none 0 0) := (row_facts hpb).1 _
           have qf : ∀ o, World.frozen? w3 ⟨(W0.heap.size + 1), o, none⟩ = false := (row_facts hpb).2
           clear hpb
           go_simp
           refine hK _ _ ?_
           clear hK K q0 q1 q2 q3 qf)
        | (have hpb : (World.heap w3)[W0.heap.size]? = some (Obj.cells #[.int .i64 0, .int .i64 0, .slice none 0 0, .slice none 0 0] 25 (0, 0)) := (hgrow.block W0.heap.size (by simp; omega) (by simp [Value.ownBlock])).trans (new_blk2 rfl)
           have HMK := Lib.hid (CpBox.make (w0 := W0) (p := W0.heap.size) (g := g) (cap := cap) hpb hown' (by omega) (by omega) (by omega) (by repeat (first | assumption | exact Bel.refl _ | refine Bel.drew ?_ | refine Bel.drewN ?_ _ | refine Bel.alloc ?_ _ | refine Bel.setCell ?_ (by simp <;> omega) _ | refine Bel.trans ?_ (by assumption))))
           have q0 : World.cell? w3 ⟨W0.heap.size, 0, none⟩ = some (.int .i64 0) := (row_facts hpb).1 _
           have q1 : World.cell? w3 ⟨W0.heap.size, 1, none⟩ = some (.int .i64 0) := (row_facts hpb).1 _
           have q2 : World.cell? w3 ⟨W0.heap.size, 2, none⟩ = some (.slice none 0 0) := (row_facts hpb).1 _
           have q3 : World.cell? w3 ⟨W0.heap.size, 3, none⟩ = some (.slice none 0 0) := (row_facts hpb).1 _
           have qf : ∀ o, World.frozen? w3 ⟨W0.heap.size, o, none⟩ = false := (row_facts hpb).2
           clear hpb
           go_simp
           refine hK _ _ ?_
           clear hK K q0 q1 q2 q3 qf)
        | (have hpb : (World.heap (w3.alloc (Obj.cells #[.int .i64 0, .int .i64 0, .slice none 0 0, .slice none 0 0] 25)))[w3.heap.size]? = some (Obj.cells #[.int .i64 0, .int .i64 0, .slice none 0 0, .slice none 0 0] 25 (0, 0)) := heap_alloc_new ..
           have HMK := Lib.hid (CpBox.make2 (t := t) (w0 := W0) (g := g) (cap := cap) hown' (by omega) (by omega) (by omega) (by repeat (first | assumption | exact Bel.refl _ | refine Bel.drew ?_ | refine Bel.drewN ?_ _ | refine Bel.alloc ?_ _ | refine Bel.setCell ?_ (by simp <;> omega) _ | refine Bel.trans ?_ (by assumption))))
           have q0 : World.cell? (w3.alloc (Obj.cells #[.int .i64 0, .int .i64 0, .slice none 0 0, .slice none 0 0] 25)) ⟨w3.heap.size, 0, none⟩ = some (.int .i64 0) := (row_facts hpb).1 _
           have q1 : World.cell? (w3.alloc (Obj.cells #[.int .i64 0, .int .i64 0, .slice none 0 0, .slice none 0 0] 25)) ⟨w3.heap.size, 1, none⟩ = some (.int .i64 0) := (row_facts hpb).1 _
           have q2 : World.cell? (w3.alloc (Obj.cells #[.int .i64 0, .int .i64 0, .slice none 0 0, .slice none 0 0] 25)) ⟨w3.heap.size, 2, none⟩ = some (.slice none 0 0) := (row_facts hpb).1 _
           have q3 : World.cell? (w3.alloc (Obj.cells #[.int .i64 0, .int .i64 0, .slice none 0 0, .slice none 0 0] 25)) ⟨w3.heap.size, 3, none⟩ = some (.slice none 0 0) := (row_facts hpb).1 _
           have qf : ∀ o, World.frozen? (w3.alloc (Obj.cells #[.int .i64 0, .int .i64 0, .slice none 0 0, .slice none 0 0] 25)) ⟨w3.heap.size, o, none⟩ = false := (row_facts hpb).2
           clear hpb
           go_simp
           refine hK _ _ ?_
           clear hK K q0 q1 q2 q3 qf)
      go_wp2_with fail
      go_meet
      exact ⟨_, g, cap, rfl, HMK.out⟩
  case rest =>
    obtain ⟨p, g, cap, rfl, hbox⟩ := hcut
    have HST := Lib.hid (CpSt.start hbox)
    clear hbox
    go_wp2
    go_loopw [4] (fun i wr => ∃ (n : Nat) (V : Value), n ≤ t.op.length ∧ i = .int .i64 n ∧ CpSt t W0 p g cap n V wr) (fun i _ => t.op.length - (intOf i).toNat)
    case atStart => exact ⟨0, _, by omega, rfl, HST.out⟩
    case round =>
      obtain ⟨n, V, hn, rfl, hS⟩ := hrel
      have e2 := hS.box.bel.cell p2
      by_cases hlt : n < t.op.length
      · have hni : (n : Int) < (t.op.length : Int) := by omega
        obtain ⟨hci, hri⟩ := HC.out n hlt
        have hr := HR40.out n hlt
        obtain ⟨ai, ci, bi, offi, hrv, hai, hleni, hcells⟩ := hri
        rw [hrv] at hci
        clear hrv
        obtain ⟨vs, hown, hoff⟩ := hS.own
        have HLI := Lib.hid hleni.1
        have HCI := Lib.hid hci
        have HP2 := Lib.hid p2
        have HCLS := Lib.hid (fun (w' : World) (k : Bel wr w') => (show Bel W0 w' ∧ w'.cell? ⟨p, 2, none⟩ = some V from ⟨hS.box.bel.trans k, k.cell hS.box.c2⟩))
        have HBW := Lib.hid (hB0.trans hS.box.bel)
        have HS := Lib.hid hS
        have HOWN := Lib.hid hown
        have HOFF := Lib.hid hoff
        have HSR := Lib.hid (fun (wx : World) (hbx : Bel w wx) (h0 : 0 < (atL t.op n).length) => (show ∃ ad, ai = some ad ∧ ∀ j u, ((atL t.op n).map (Value.int .i64))[j]? = some u → wx.cell? (ad.add j) = some u from
          ⟨_, hai h0, fun j u hu => by
            have hj : j < (atL t.op n).length := by
              rcases Nat.lt_or_ge j (atL t.op n).length with q | q
              · exact q
              · rw [List.getElem?_eq_none (by simpa using q)] at hu; cases hu
            have hu2 : u = .int .i64 (at0 (atL t.op n) j) := by
              rw [List.getElem?_map, List.getElem?_eq_getElem hj] at hu
              simp at hu
              rw [← hu]; unfold at0; simp [List.getD, hj]
            rw [add_off, hu2]
            exact hbx.cell (hcells j hj)⟩))
        clear hS hown hoff hci hai hcells hleni
        generalize hrow : atL t.op n = row at *
        go_wp2
        refine wp_region_mixTC (Plan.seq [0, 1, 3, 4, 5, 6, 7, 1002, 1008, 1009, 1010, 11] .nil) (fun w' => Bel W0 w' ∧ w'.cell? ⟨p, 2, none⟩ = some V) (by kernel_rfl) (by kernel_rfl) (HCLS.out _ (by repeat (first | assumption | exact Bel.refl _ | refine Bel.drew ?_ | refine Bel.drewN ?_ _ | refine Bel.alloc ?_ _ | refine Bel.setCell ?_ (by simp <;> omega) _ | refine Bel.trans ?_ (by assumption)))) (fun hcur => ?_)
        simp only [Plan.seq, Plan.fill, List.getD_cons_zero, List.getD_cons_succ, Nat.reduceLT, ↓reduceIte, Nat.reduceSub]
        apply mix_pure _ rfl
        · intro w' hw'
          obtain ⟨hwb, hwp⟩ := hw'
          have k1 := hwb.cell HP2.out
          have k2 := (hB0.trans hwb).cell HCI.out
          go_simp
          rfl
        intro K hK
        go_simp
        refine hK _ ?_
        clear hK K
        apply mix_pure _ rfl
        · intro w' hw'
          obtain ⟨hwb, hwp⟩ := hw'
          have k1 := hwb.cell HP2.out
          have k2 := (hB0.trans hwb).cell HCI.out
          go_simp
          rfl
        intro K hK
        go_simp
        refine hK _ ?_
        clear hK K
        apply mix_pure _ rfl
        · intro w' hw'
          obtain ⟨hwb, hwp⟩ := hw'
          have k1 := hwb.cell HP2.out
          have k2 := (hB0.trans hwb).cell HCI.out
          go_simp
          rfl
        intro K hK
        go_simp
        refine hK _ ?_
        clear hK K
        apply mix_pure _ rfl
        · intro w' hw'
          obtain ⟨hwb, hwp⟩ := hw'
          have k1 := hwb.cell HP2.out
          have k2 := (hB0.trans hwb).cell HCI.out
          go_simp
          rfl
        intro K hK
        go_simp
        refine hK _ ?_
        clear hK K
        apply mix_pure _ rfl
        · intro w' hw'
          obtain ⟨hwb, hwp⟩ := hw'
          have k1 := hwb.cell HP2.out
          have k2 := (hB0.trans hwb).cell HCI.out
          go_simp
          rfl
        intro K hK
        go_simp
        refine hK _ ?_
        clear hK K
        apply mix_pure _ rfl
        · intro w' hw'
          obtain ⟨hwb, hwp⟩ := hw'
          have k1 := hwb.cell HP2.out
          have k2 := (hB0.trans hwb).cell HCI.out
          go_simp
          rfl
        intro K hK
        go_simp
        refine hK _ ?_
        clear hK K
        apply mix_pure _ rfl
        · intro w' hw'
          obtain ⟨hwb, hwp⟩ := hw'
          have k1 := hwb.cell HP2.out
          have k2 := (hB0.trans hwb).cell HCI.out
          go_simp
          rfl
        intro K hK
        go_simp
        refine hK _ ?_
        clear hK K
        refine mix_act rfl (fun K hK => ?_)
        go_simp
        refine hK _ _ (HCLS.out _ (by repeat (first | assumption | exact Bel.refl _ | refine Bel.drew ?_ | refine Bel.drewN ?_ _ | refine Bel.alloc ?_ _ | refine Bel.setCell ?_ (by simp <;> omega) _ | refine Bel.trans ?_ (by assumption)))) (fun hcur => ?_)
        clear hK K
        refine mix_act rfl (fun K hK => ?_)
        refine wp_append_opt _ _ 42 (by rfl) 3 i1 (.int .i64 0) 1 8 Try.underlying42 hi1 hz1 hs1 hb1 rfl (by decide) _ 0 [] (by rfl) (fresh_own (new_blk (by simp))) ai row.length ci (row.map (Value.int .i64)) (by rfl) (by simp) (HSR.out _ (HBW.out.trans (by repeat (first | assumption | exact Bel.refl _ | refine Bel.drew ?_ | refine Bel.drewN ?_ _ | refine Bel.alloc ?_ _ | refine Bel.setCell ?_ (by simp <;> omega) _ | refine Bel.trans ?_ (by assumption))))) (fun x hx => by simp at hx; obtain ⟨q, _, rfl⟩ := hx; rfl) (by unfold maxLen; omega) (by omega) ?_
        intro x w3 hown3 hgrow3 hwhere3
        have hB3 : Bel wr w3 := Bel.grown (w := World.drew _) (by repeat (first | assumption | exact Bel.refl _ | refine Bel.drew ?_ | refine Bel.drewN ?_ _ | refine Bel.alloc ?_ _ | refine Bel.setCell ?_ (by simp <;> omega) _ | refine Bel.trans ?_ (by assumption))) hgrow3 (fun k h => by simp [Value.ownBlock] at h; omega)
        obtain ⟨gx, capx, rfl⟩ : ∃ g cap, x = .slice (some ⟨g, 0, none⟩) row.length cap := by
          rcases hown3.2 with ⟨rfl, _⟩ | ⟨g, cap, cur, rfl, _⟩
          · rcases hwhere3 with h | h <;> simp [Value.ownBlock] at h
          · exact ⟨g, cap, by simp⟩
        have HX3 : Hid (w3.ownsRow 0 3 1 (.slice (some ⟨gx, 0, none⟩) row.length capx) row.length (row.map (Value.int .i64))) := Lib.hid (by simpa using hown3)
        have HW3 := Lib.hid (show wr.heap.size ≤ gx by
          rcases hwhere3 with h | h
          · simp [Value.ownBlock] at h; omega
          · simp [Value.ownBlock] at h; omega)
        refine hK _ _ (HCLS.out _ hB3) (fun hcur => ?_)
        clear hown3 hgrow3 hwhere3 hK K
        refine mix_act rfl (fun K hK => ?_)
        go_simp
        refine hK _ _ (HCLS.out _ (hB3.alloc _)) (fun hcur => ?_)
        clear hK K
        refine mix_act rfl (fun K hK => ?_)
        refine wp_append_where _ _ 22 (by rfl) 42 i2 (.slice none 0 0) 1 24 Try.underlying22 hi2 hz2 hs2 hb2 rfl (by decide) _ n vs (by rfl) (ownsRow_bel HOWN.out (hB3.alloc _)) ⟨w3.heap.size, 0, none⟩ 1 1 [.slice (some ⟨gx, 0, none⟩) row.length capx] (by rfl) (by rfl) (cell_one_new _ _ _) (fun y hy => by simp at hy; subst hy; rfl) (by unfold maxLen; omega) (by omega) ?_
        intro V' w5 hown5 hgrow5 hwhere5
        obtain ⟨hcls, hfz5⟩ := HS.out.cls (hB3.alloc _) hgrow5
        obtain ⟨g5, cap5, rfl⟩ : ∃ g cap, V' = .slice (some ⟨g, 0, none⟩) (n + 1) cap := by
          rcases hown5.2 with ⟨_, h0⟩ | ⟨g, cap, cur, rfl, _⟩
          · omega
          · exact ⟨g, cap, rfl⟩
        have hx3 := ownsRow_bel HX3.out (Bel.alloc (Bel.refl w3) (.cells #[.slice (some ⟨gx, 0, none⟩) row.length capx] 42))
        have HN := Lib.hid (CpSt.next hrow HS.out (hB3.alloc _) HOWN.out HOFF.out HLI.out hx3 (fun k q => by simp [Value.ownBlock] at q; have := HW3.out; omega) hown5 hgrow5 hwhere5)
        refine hK _ _ hcls (fun hcur => ?_)
        clear hown5 hgrow5 hwhere5 hx3 hcls hK K
        apply mix_pure _ rfl
        · intro w' hw'
          obtain ⟨hwb, hwp⟩ := hw'
          have k1 := hwb.cell HP2.out
          have k2 := (hB0.trans hwb).cell HCI.out
          go_simp
          rfl
        intro K hK
        go_simp
        refine hK _ ?_
        clear hK K
        refine mix_tailK rfl (fun K hK => ?_)
        have c2 := hcur.2
        have f2 := hfz5 2
        go_simp
        refine hK _ _ ?_
        clear hK K c2 f2
        clear hcur hfz5
        go_wp2
        go_roundw
        case rel => exact ⟨n + 1, _, by omega, by go_num, HN.out⟩
        case measure => simp [intOf]; omega
      · have hnT : n = t.op.length := by omega
        subst hnT
        have c0 := hS.box.c0
        have c1 := hS.box.c1
        have c2 := hS.box.c2
        have c3 := hS.box.c3
        have k0 := hS.box.bel.cell r0
        have k1 := hS.box.bel.cell r1
        have k2 := hS.box.bel.cell r2
        have k3 := hS.box.bel.cell r3
        have kf : ∀ o, wr.frozen? ⟨w.heap.size + 1, o, none⟩ = false := fun o => by rw [hS.box.bel.frozens _ (by show w.heap.size + 1 < _; omega)]; exact rf o
        have hVf : V = .slice none 0 0 ∨ ∃ gg cc, V = .slice (some ⟨gg, 0, none⟩) t.op.length cc := by
          obtain ⟨vs, h1, _⟩ := hS.own
          rcases h1.2 with ⟨h, _⟩ | ⟨gg, capp, cur, h, _⟩
          · exact .inl h
          · exact .inr ⟨gg, capp, h⟩
        have hBB := hB0.trans hS.box.bel
        have HTR := Lib.hid (fun (w' : World) => hS.rows (w' := w') hlen)
        have HOW := Lib.hid hS.box.own
        have HFG := Lib.hid (show w.heap.size ≤ g by have := hS.box.farg; omega)
        have HNE := Lib.hid (fun k (q : Value.ownBlock (.slice (some ⟨g, 0, none⟩) t.ws.length cap) = some k) => (show k ≠ w.heap.size + 1 by simp [Value.ownBlock] at q; have := hS.box.farg; omega))
        have HZZ := Lib.hid (show w.heap.size + 1 < W0.heap.size from zb1)
        obtain ⟨vs, hv1, hv2⟩ := hS.own
        have HV1 := Lib.hid hv1
        have HV2 := Lib.hid hv2
        have HV3 := Lib.hid hS.farV
        clear hv1 hv2
        clear hS p0 p1 p2 p3 r0 r1 r2 r3 rf
        rcases hVf with rfl | ⟨gg, cc, rfl⟩
        · exfalso
          have h0l : t.op.length = 0 := by
            obtain ⟨_, _, _, _, _, q, _⟩ := HTR.out wr (Nat.le_refl _) (fun _ _ _ _ => rfl)
            injection q with _ q; exact q.symm
          have := HPOS.out
          omega
        · obtain ⟨hf1, hf2, hf3⟩ := HV3.out gg rfl
          have hz := HZZ.out
          have HNG := Lib.hid (fun k (q : Value.ownBlock (.slice (some ⟨gg, 0, none⟩) t.op.length cc) = some k) => (show k ≠ w.heap.size + 1 by simp [Value.ownBlock] at q; omega))
          have HGG := Lib.hid (And.intro (show w.heap.size ≤ gg by omega) (Ne.symm hf3))
          clear hf1 hf2 hf3 hz
          go_wp2
          refine bodyPost_ret (v := .agg #[.int .i64 t.C, .int .i64 t.T, .slice (some ⟨gg, 0, none⟩) t.op.length cc, .slice (some ⟨g, 0, none⟩) t.ws.length cap]) (by simp [results, Try.results35, go_sem, *]) rfl ⟨cc, gg, g, cap, vs, rfl, (by repeat (first | assumption | exact Bel.refl _ | refine Bel.drew ?_ | refine Bel.drewN ?_ _ | refine Bel.alloc ?_ _ | refine Bel.setCell ?_ (by simp <;> omega) _ | refine Bel.trans ?_ (by assumption))), ⟨HFG.out, HGG.out⟩, ?_, ?_, fun j hj w'' hs hk => ?_⟩
          · exact ownsRow_set (ownsRow_set (ownsRow_set (ownsRow_set HOW.out (by exact HNE.out)) (by exact HNE.out)) (by exact HNE.out)) (by exact HNE.out)
          · exact ownsRow_set (ownsRow_set (ownsRow_set (ownsRow_set HV1.out (by exact HNG.out)) (by exact HNG.out)) (by exact HNG.out)) (by exact HNG.out)
          · refine HV2.out j hj w'' (by simpa using hs) (fun k hk1 hk2 hk3 hk4 hk5 => ?_)
            have := HZZ.out
            have hne : k ≠ w.heap.size + 1 := by omega
            rw [hk k (by omega) (by simpa using hk2) (fun q => hk3 (by rw [q]; rfl)) hk5]
            exact (heap_setCell_other _ _ _ _ (by exact hne)).trans ((heap_setCell_other _ _ _ _ (by exact hne)).trans ((heap_setCell_other _ _ _ _ (by exact hne)).trans (heap_setCell_other _ _ _ _ (by exact hne))))
end Go.Proofs.Ytoiajjdhgffdaaa
namespace Go.Proofs.Ytoiajjdhgffdaaa
set_option linter.unusedVariables false
open Go Go.RowKit
set_option maxHeartbeats 8000000
set_option maxRecDepth 100000
theorem door_ready {t : CT} (h : readyB t = true) : HugeB t = false ∧ validB t = true := by
  revert h
  unfold readyB chk
  cases HugeB t <;> cases validB t <;> simp
theorem Turn.grown {b lo hi : Nat} {wc wa w5 : World} {r : Option Nat} (h : Turn b lo hi wc wa) (hg : wa.grownBy w5 r) (hr : ∀ q, r = some q → wc.heap.size ≤ q) : Turn b lo hi wc w5 := by
  have same : ∀ k, k < wc.heap.size → w5.heap[k]? = wa.heap[k]? := fun k hk => hg.block k (Nat.lt_of_lt_of_le hk h.size) (fun q => by have := hr k q.symm; omega)
  refine ⟨hg.os.trans h.os, hg.tape.trans h.tape, hg.output.trans h.output, Nat.le_trans h.size hg.size, fun k hk hb => (same k hk).trans (h.block k hk hb), fun o hb ho => (World.cell?_of_block (same b hb)).trans (h.cell o hb ho), fun a ha => ?_, fun hb cs T fr q => ?_⟩
  · rw [← h.frozen a ha]; unfold World.frozen?; rw [same a.block ha]
  · obtain ⟨c2, h1, h2⟩ := h.shape hb cs T fr q
    exact ⟨c2, (same b hb).trans h1, h2⟩
/-- The row that the law makes. -/
structure DSt (L : List Int) (wc : World) (gg s : Nat) (V : Value) (wr : World) : Prop where
  turn : Turn gg s (s + 1) wc wr
  cell : wr.cell? ⟨gg, s, none⟩ = some V
  own : wr.ownsRow 0 3 1 V L.length (L.map (Value.int .i64))
  far : ∀ q, V.ownBlock = some q → wc.heap.size ≤ q
theorem DSt.start {wc : World} {gg s : Nat} {u : Value} (h : wc.cell? ⟨gg, s, none⟩ = some u) : DSt [] wc gg s (.slice none 0 0) (wc.setCell ⟨gg, s, none⟩ (.slice none 0 0)) :=
  ⟨((Only.refl gg s (s + 1) wc).setCell (Nat.le_refl _) (Nat.lt_succ_self _) _).turn, World.cell?_setCell_same _ _ _ (by rw [h]), World.ownsRow_nil _ 0 _ 1, fun q h => by simp [Value.ownBlock] at h⟩
theorem DSt.keep {L : List Int} {wc wr wx : World} {gg s : Nat} {V : Value} (h : DSt L wc gg s V wr) (k : Bel wr wx) : DSt L wc gg s V wx :=
  ⟨h.turn.trans (Bel.turn gg s (s + 1) k), k.cell h.cell, ownsRow_bel h.own k, h.far⟩
theorem DSt.keepG {L : List Int} {wc wr wx w5 : World} {gg s : Nat} {V : Value} {r : Option Nat} (h : DSt L wc gg s V wr) (_ : wx.grownBy w5 r) (k : Bel wr wx) : DSt L wc gg s V wx := h.keep k
theorem DSt.next {L : List Int} {wc wa w5 : World} {gg s : Nat} {V V' : Value} {x : Int} (hgc : gg < wc.heap.size) (h : DSt L wc gg s V wa)
    (ho : w5.ownsRow 0 3 1 V' (L.length + 1) (L.map (Value.int .i64) ++ [.int .i64 x])) (hg : wa.grownBy w5 V.ownBlock) (hv : V'.ownBlock = V.ownBlock ∨ V'.ownBlock = some wa.heap.size) :
    DSt (L ++ [x]) wc gg s V' (w5.setCell ⟨gg, s, none⟩ V') := by
  have far' : ∀ q, V'.ownBlock = some q → wc.heap.size ≤ q := fun q e => by
    rcases hv with k | k
    · exact h.far q (by rw [← k]; exact e)
    · rw [k] at e; injection e with e; have := h.turn.size; omega
  have hc5 : w5.cell? ⟨gg, s, none⟩ = some V := (World.cell?_of_block (hg.block gg (Nat.lt_of_lt_of_le hgc h.turn.size) (fun q => by have := h.far gg q.symm; omega))).trans h.cell
  refine ⟨(h.turn.grown hg h.far).trans ((Only.refl gg s (s + 1) w5).setCell (Nat.le_refl _) (Nat.lt_succ_self _) _).turn, World.cell?_setCell_same _ _ _ (by rw [hc5]), ?_, far'⟩
  simpa using ownsRow_set ho (p := ⟨gg, s, none⟩) (u := V') (fun q e => by have := far' q e; show q ≠ gg; omega)
theorem ownInts' {w : World} {x : Value} {l : List Int} (hl : l.length ≤ 140737488355328) (hx : w.ownsRow 0 3 1 x l.length (l.map (Value.int .i64))) : IntsAt w x l := ownInts hl hx
theorem CountsDoor_any (t : CT) (v : Value) (step door : Int) (w : World) (hv : TrapAt w v t) : Calls Try.prog 13 #[v, .int .i64 step, .int .i64 door] w fun e w' => e = .returned (.bool true) ∧ Bel w w' := by
  have HV := Lib.hid hv
  have HRT := Lib.hid (fun wx hx => ready_any t v wx hx)
  obtain ⟨ov, wv, rfl, ⟨a, c, b, off, rv, rfl, ha, hal, hrc⟩, ⟨wa, wc, wb, woff, rfl, _⟩⟩ := hv
  have hixr := idxRows (c := c) ha
  have HRC := Lib.hid hrc
  have HST := Lib.hid (fun wx => IsStep_any t.C t.T step (.slice a t.op.length c) (.slice wa t.ws.length wc) wx)
  have HCH := Lib.hid (fun wx => IsChamber_any t.C t.T door (.slice a t.op.length c) (.slice wa t.ws.length wc) wx)
  clear ha hrc
  by_cases hr : readyB t = true
  rotate_left
  · have hr : readyB t = false := by simpa using hr
    rw [hr] at HRT
    go_enter Try.func13, Try.ntmps13
    go_wp2_with fail
    refine (HRT.out _ (HV.out.bel (by repeat (first | assumption | exact Bel.refl _ | refine Bel.drew ?_ | refine Bel.drewN ?_ _ | refine Bel.alloc ?_ _ | refine Bel.setCell ?_ (by simp <;> omega) _ | refine Bel.trans ?_ (by assumption))))).mono ?_
    rintro e w1 ⟨rfl, hb⟩
    have x0 : w1.cell? ⟨w.heap.size, 0, none⟩ = some (.int .i64 t.C) := hb.cell ((row_facts (new_row (by first | rfl | (simp; done)))).1 0)
    have x1 : w1.cell? ⟨w.heap.size, 1, none⟩ = some (.int .i64 t.T) := hb.cell ((row_facts (new_row (by first | rfl | (simp; done)))).1 1)
    have x2 : w1.cell? ⟨w.heap.size, 2, none⟩ = some (.slice a t.op.length c) := hb.cell ((row_facts (new_row (by first | rfl | (simp; done)))).1 2)
    have x3 : w1.cell? ⟨w.heap.size, 3, none⟩ = some (.slice wa t.ws.length wc) := hb.cell ((row_facts (new_row (by first | rfl | (simp; done)))).1 3)
    have hB1 : Bel w w1 := Bel.trans (by repeat (first | assumption | exact Bel.refl _ | refine Bel.drew ?_ | refine Bel.drewN ?_ _ | refine Bel.alloc ?_ _ | refine Bel.setCell ?_ (by simp <;> omega) _ | refine Bel.trans ?_ (by assumption))) hb
    have lx0 := cell_lt x0
    replace HV := Lib.hid (HV.out.bel hB1)
    clear hb
    go_wp2_with fail
    refine (works_any _).mono ?_
    rintro e wz ⟨rfl, hb⟩
    have HBZ := Lib.hid (hB1.trans (Bel.trans (by repeat (first | assumption | exact Bel.refl _ | refine Bel.drew ?_ | refine Bel.drewN ?_ _ | refine Bel.alloc ?_ _ | refine Bel.setCell ?_ (by simp <;> omega) _ | refine Bel.trans ?_ (by assumption))) hb))
    clear hb hB1
    go_wp2
    go_ret
    exact ⟨rfl, HBZ.out⟩
  rw [hr] at HRT
  have hval := (door_ready hr).2
  have hroom := room_small (door_ready hr).1
  have hsml := small_of (door_ready hr).1
  have hf := fit_of_valid hval
  obtain ⟨f1, f2, f3, f4, f5, _⟩ := fit_of_valid hval
  clear hr
  by_cases hst : isStepB t.T step = true
  rotate_left
  · have hst : isStepB t.T step = false := by simpa using hst
    rw [hst] at HST
    clear hst hval hroom hf f5 hsml
    go_enter Try.func13, Try.ntmps13
    go_wp2_with fail
    refine (HRT.out _ (HV.out.bel (by repeat (first | assumption | exact Bel.refl _ | refine Bel.drew ?_ | refine Bel.drewN ?_ _ | refine Bel.alloc ?_ _ | refine Bel.setCell ?_ (by simp <;> omega) _ | refine Bel.trans ?_ (by assumption))))).mono ?_
    rintro e w1 ⟨rfl, hb⟩
    have x0 : w1.cell? ⟨w.heap.size, 0, none⟩ = some (.int .i64 t.C) := hb.cell ((row_facts (new_row (by first | rfl | (simp; done)))).1 0)
    have x1 : w1.cell? ⟨w.heap.size, 1, none⟩ = some (.int .i64 t.T) := hb.cell ((row_facts (new_row (by first | rfl | (simp; done)))).1 1)
    have x2 : w1.cell? ⟨w.heap.size, 2, none⟩ = some (.slice a t.op.length c) := hb.cell ((row_facts (new_row (by first | rfl | (simp; done)))).1 2)
    have x3 : w1.cell? ⟨w.heap.size, 3, none⟩ = some (.slice wa t.ws.length wc) := hb.cell ((row_facts (new_row (by first | rfl | (simp; done)))).1 3)
    have hB1 : Bel w w1 := Bel.trans (by repeat (first | assumption | exact Bel.refl _ | refine Bel.drew ?_ | refine Bel.drewN ?_ _ | refine Bel.alloc ?_ _ | refine Bel.setCell ?_ (by simp <;> omega) _ | refine Bel.trans ?_ (by assumption))) hb
    have lx0 := cell_lt x0
    replace HV := Lib.hid (HV.out.bel hB1)
    clear hb
    go_wp2_with fail
    refine (HST.out _).mono ?_
    rintro e w2 ⟨rfl, hb⟩
    have hk : Bel w1 w2 := Bel.trans (by repeat (first | assumption | exact Bel.refl _ | refine Bel.drew ?_ | refine Bel.drewN ?_ _ | refine Bel.alloc ?_ _ | refine Bel.setCell ?_ (by simp <;> omega) _ | refine Bel.trans ?_ (by assumption))) hb
    replace x0 := hk.cell x0
    replace x1 := hk.cell x1
    replace x2 := hk.cell x2
    replace x3 := hk.cell x3
    have lx0 := cell_lt x0
    have hB2 : Bel w w2 := hB1.trans hk
    replace HV := Lib.hid (HV.out.bel hk)
    clear hb hk hB1
    go_wp2_with fail
    refine (works_any _).mono ?_
    rintro e wz ⟨rfl, hb⟩
    have HBZ := Lib.hid (hB2.trans (Bel.trans (by repeat (first | assumption | exact Bel.refl _ | refine Bel.drew ?_ | refine Bel.drewN ?_ _ | refine Bel.alloc ?_ _ | refine Bel.setCell ?_ (by simp <;> omega) _ | refine Bel.trans ?_ (by assumption))) hb))
    clear hb hB2
    go_wp2
    go_ret
    exact ⟨rfl, HBZ.out⟩
  rw [hst] at HST
  by_cases hch : isTimeB t.C door = true
  rotate_left
  · have hch : isTimeB t.C door = false := by simpa using hch
    rw [hch] at HCH
    clear hst hch hval hroom hf f5 hsml
    go_enter Try.func13, Try.ntmps13
    go_wp2_with fail
    refine (HRT.out _ (HV.out.bel (by repeat (first | assumption | exact Bel.refl _ | refine Bel.drew ?_ | refine Bel.drewN ?_ _ | refine Bel.alloc ?_ _ | refine Bel.setCell ?_ (by simp <;> omega) _ | refine Bel.trans ?_ (by assumption))))).mono ?_
    rintro e w1 ⟨rfl, hb⟩
    have x0 : w1.cell? ⟨w.heap.size, 0, none⟩ = some (.int .i64 t.C) := hb.cell ((row_facts (new_row (by first | rfl | (simp; done)))).1 0)
    have x1 : w1.cell? ⟨w.heap.size, 1, none⟩ = some (.int .i64 t.T) := hb.cell ((row_facts (new_row (by first | rfl | (simp; done)))).1 1)
    have x2 : w1.cell? ⟨w.heap.size, 2, none⟩ = some (.slice a t.op.length c) := hb.cell ((row_facts (new_row (by first | rfl | (simp; done)))).1 2)
    have x3 : w1.cell? ⟨w.heap.size, 3, none⟩ = some (.slice wa t.ws.length wc) := hb.cell ((row_facts (new_row (by first | rfl | (simp; done)))).1 3)
    have hB1 : Bel w w1 := Bel.trans (by repeat (first | assumption | exact Bel.refl _ | refine Bel.drew ?_ | refine Bel.drewN ?_ _ | refine Bel.alloc ?_ _ | refine Bel.setCell ?_ (by simp <;> omega) _ | refine Bel.trans ?_ (by assumption))) hb
    have lx0 := cell_lt x0
    replace HV := Lib.hid (HV.out.bel hB1)
    clear hb
    go_wp2_with fail
    refine (HST.out _).mono ?_
    rintro e w2 ⟨rfl, hb⟩
    have hk : Bel w1 w2 := Bel.trans (by repeat (first | assumption | exact Bel.refl _ | refine Bel.drew ?_ | refine Bel.drewN ?_ _ | refine Bel.alloc ?_ _ | refine Bel.setCell ?_ (by simp <;> omega) _ | refine Bel.trans ?_ (by assumption))) hb
    replace x0 := hk.cell x0
    replace x1 := hk.cell x1
    replace x2 := hk.cell x2
    replace x3 := hk.cell x3
    have lx0 := cell_lt x0
    have hB2 : Bel w w2 := hB1.trans hk
    replace HV := Lib.hid (HV.out.bel hk)
    clear hb hk hB1
    go_wp2_with fail
    refine (HCH.out _).mono ?_
    rintro e w3 ⟨rfl, hb⟩
    have hk : Bel w2 w3 := Bel.trans (by repeat (first | assumption | exact Bel.refl _ | refine Bel.drew ?_ | refine Bel.drewN ?_ _ | refine Bel.alloc ?_ _ | refine Bel.setCell ?_ (by simp <;> omega) _ | refine Bel.trans ?_ (by assumption))) hb
    replace x0 := hk.cell x0
    replace x1 := hk.cell x1
    replace x2 := hk.cell x2
    replace x3 := hk.cell x3
    have lx0 := cell_lt x0
    have hB3 : Bel w w3 := hB2.trans hk
    replace HV := Lib.hid (HV.out.bel hk)
    clear hb hk hB2
    go_wp2_with fail
    refine (works_any _).mono ?_
    rintro e wz ⟨rfl, hb⟩
    have HBZ := Lib.hid (hB3.trans (Bel.trans (by repeat (first | assumption | exact Bel.refl _ | refine Bel.drew ?_ | refine Bel.drewN ?_ _ | refine Bel.alloc ?_ _ | refine Bel.setCell ?_ (by simp <;> omega) _ | refine Bel.trans ?_ (by assumption))) hb))
    clear hb hB3
    go_wp2
    go_ret
    exact ⟨rfl, HBZ.out⟩
  rw [hch] at HCH
  have hsb : 0 ≤ step ∧ step + 1 < t.T := by
    unfold isStepB at hst
    rw [withinB_true, wrap64_in (t.T - 2) (by omega)] at hst
    omega
  have hdb : 0 ≤ door ∧ door < t.C := isTimeB_bounds f1 (by omega) hch
  obtain ⟨s, rfl⟩ : ∃ s : Nat, step = s := ⟨step.toNat, by omega⟩
  obtain ⟨d, rfl⟩ : ∃ d : Nat, door = d := ⟨door.toNat, by omega⟩
  have hsl : s < t.op.length := by omega
  have hsli : (s : Int) < (t.op.length : Int) := by omega
  have hT1 : s + 1 < t.T.toNat := by omega
  have hdC : d < t.C.toNat := by omega
  have HRS := Lib.hid (HRC.out s hsl)
  have HIN0 := Lib.hid (fun (q : Nat) wx (hx : Bel w wx) => (In_any (rv s) (atL t.op s) q wx (HRS.out.2.bel hx)).mono (R' := fun e w' => e = .returned (.bool (inB (atL t.op s) q)) ∧ Bel wx w') fun e w' h => ⟨h.1, h.2 ▸ Bel.refl _⟩)
  have HIN := Lib.hid (HIN0.out d)
  clear hst hch f5
  by_cases hin : inB (atL t.op s) d = true
  · rw [hin] at HIN
    clear hin hval hroom hf hsml
    go_enter Try.func13, Try.ntmps13
    go_wp2_with fail
    refine (HRT.out _ (HV.out.bel (by repeat (first | assumption | exact Bel.refl _ | refine Bel.drew ?_ | refine Bel.drewN ?_ _ | refine Bel.alloc ?_ _ | refine Bel.setCell ?_ (by simp <;> omega) _ | refine Bel.trans ?_ (by assumption))))).mono ?_
    rintro e w1 ⟨rfl, hb⟩
    have x0 : w1.cell? ⟨w.heap.size, 0, none⟩ = some (.int .i64 t.C) := hb.cell ((row_facts (new_row (by first | rfl | (simp; done)))).1 0)
    have x1 : w1.cell? ⟨w.heap.size, 1, none⟩ = some (.int .i64 t.T) := hb.cell ((row_facts (new_row (by first | rfl | (simp; done)))).1 1)
    have x2 : w1.cell? ⟨w.heap.size, 2, none⟩ = some (.slice a t.op.length c) := hb.cell ((row_facts (new_row (by first | rfl | (simp; done)))).1 2)
    have x3 : w1.cell? ⟨w.heap.size, 3, none⟩ = some (.slice wa t.ws.length wc) := hb.cell ((row_facts (new_row (by first | rfl | (simp; done)))).1 3)
    have hB1 : Bel w w1 := Bel.trans (by repeat (first | assumption | exact Bel.refl _ | refine Bel.drew ?_ | refine Bel.drewN ?_ _ | refine Bel.alloc ?_ _ | refine Bel.setCell ?_ (by simp <;> omega) _ | refine Bel.trans ?_ (by assumption))) hb
    have lx0 := cell_lt x0
    replace HV := Lib.hid (HV.out.bel hB1)
    clear hb
    go_wp2_with fail
    refine (HST.out _).mono ?_
    rintro e w2 ⟨rfl, hb⟩
    have hk : Bel w1 w2 := Bel.trans (by repeat (first | assumption | exact Bel.refl _ | refine Bel.drew ?_ | refine Bel.drewN ?_ _ | refine Bel.alloc ?_ _ | refine Bel.setCell ?_ (by simp <;> omega) _ | refine Bel.trans ?_ (by assumption))) hb
    replace x0 := hk.cell x0
    replace x1 := hk.cell x1
    replace x2 := hk.cell x2
    replace x3 := hk.cell x3
    have lx0 := cell_lt x0
    have hB2 : Bel w w2 := hB1.trans hk
    replace HV := Lib.hid (HV.out.bel hk)
    clear hb hk hB1
    go_wp2_with fail
    refine (HCH.out _).mono ?_
    rintro e w3 ⟨rfl, hb⟩
    have hk : Bel w2 w3 := Bel.trans (by repeat (first | assumption | exact Bel.refl _ | refine Bel.drew ?_ | refine Bel.drewN ?_ _ | refine Bel.alloc ?_ _ | refine Bel.setCell ?_ (by simp <;> omega) _ | refine Bel.trans ?_ (by assumption))) hb
    replace x0 := hk.cell x0
    replace x1 := hk.cell x1
    replace x2 := hk.cell x2
    replace x3 := hk.cell x3
    have lx0 := cell_lt x0
    have hB3 : Bel w w3 := hB2.trans hk
    replace HV := Lib.hid (HV.out.bel hk)
    clear hb hk hB2
    have r1 := hB3.cell HRS.out.1
    go_wp2_with fail
    refine (HIN.out _ (hB3.trans (by repeat (first | assumption | exact Bel.refl _ | refine Bel.drew ?_ | refine Bel.drewN ?_ _ | refine Bel.alloc ?_ _ | refine Bel.setCell ?_ (by simp <;> omega) _ | refine Bel.trans ?_ (by assumption))))).mono ?_
    rintro e w4 ⟨rfl, hb⟩
    have hk : Bel w3 w4 := Bel.trans (by repeat (first | assumption | exact Bel.refl _ | refine Bel.drew ?_ | refine Bel.drewN ?_ _ | refine Bel.alloc ?_ _ | refine Bel.setCell ?_ (by simp <;> omega) _ | refine Bel.trans ?_ (by assumption))) hb
    replace x0 := hk.cell x0
    replace x1 := hk.cell x1
    replace x2 := hk.cell x2
    replace x3 := hk.cell x3
    have lx0 := cell_lt x0
    have hB4 : Bel w w4 := hB3.trans hk
    replace HV := Lib.hid (HV.out.bel hk)
    clear hb hk hB3
    clear r1
    go_wp2_with fail
    refine (works_any _).mono ?_
    rintro e wz ⟨rfl, hb⟩
    have HBZ := Lib.hid (hB4.trans (Bel.trans (by repeat (first | assumption | exact Bel.refl _ | refine Bel.drew ?_ | refine Bel.drewN ?_ _ | refine Bel.alloc ?_ _ | refine Bel.setCell ?_ (by simp <;> omega) _ | refine Bel.trans ?_ (by assumption))) hb))
    clear hb hB4
    go_wp2
    go_ret
    exact ⟨rfl, HBZ.out⟩
  have hin : inB (atL t.op s) d = false := by simpa using hin
  rw [hin] at HIN
  have HIO := Lib.hid (fun wx hx => IsOne_any t (.agg #[.int .i64 t.C, .int .i64 t.T, .slice a t.op.length c, .slice wa t.ws.length wc]) wx hx hf (valid_nine hval))
  by_cases h1 : oneB t = true
  rotate_left
  · have h1 : oneB t = false := by simpa using h1
    rw [h1] at HIO
    clear h1 hin hval hroom hf hsml
    go_enter Try.func13, Try.ntmps13
    go_wp2_with fail
    refine (HRT.out _ (HV.out.bel (by repeat (first | assumption | exact Bel.refl _ | refine Bel.drew ?_ | refine Bel.drewN ?_ _ | refine Bel.alloc ?_ _ | refine Bel.setCell ?_ (by simp <;> omega) _ | refine Bel.trans ?_ (by assumption))))).mono ?_
    rintro e w1 ⟨rfl, hb⟩
    have x0 : w1.cell? ⟨w.heap.size, 0, none⟩ = some (.int .i64 t.C) := hb.cell ((row_facts (new_row (by first | rfl | (simp; done)))).1 0)
    have x1 : w1.cell? ⟨w.heap.size, 1, none⟩ = some (.int .i64 t.T) := hb.cell ((row_facts (new_row (by first | rfl | (simp; done)))).1 1)
    have x2 : w1.cell? ⟨w.heap.size, 2, none⟩ = some (.slice a t.op.length c) := hb.cell ((row_facts (new_row (by first | rfl | (simp; done)))).1 2)
    have x3 : w1.cell? ⟨w.heap.size, 3, none⟩ = some (.slice wa t.ws.length wc) := hb.cell ((row_facts (new_row (by first | rfl | (simp; done)))).1 3)
    have hB1 : Bel w w1 := Bel.trans (by repeat (first | assumption | exact Bel.refl _ | refine Bel.drew ?_ | refine Bel.drewN ?_ _ | refine Bel.alloc ?_ _ | refine Bel.setCell ?_ (by simp <;> omega) _ | refine Bel.trans ?_ (by assumption))) hb
    have lx0 := cell_lt x0
    replace HV := Lib.hid (HV.out.bel hB1)
    clear hb
    go_wp2_with fail
    refine (HST.out _).mono ?_
    rintro e w2 ⟨rfl, hb⟩
    have hk : Bel w1 w2 := Bel.trans (by repeat (first | assumption | exact Bel.refl _ | refine Bel.drew ?_ | refine Bel.drewN ?_ _ | refine Bel.alloc ?_ _ | refine Bel.setCell ?_ (by simp <;> omega) _ | refine Bel.trans ?_ (by assumption))) hb
    replace x0 := hk.cell x0
    replace x1 := hk.cell x1
    replace x2 := hk.cell x2
    replace x3 := hk.cell x3
    have lx0 := cell_lt x0
    have hB2 : Bel w w2 := hB1.trans hk
    replace HV := Lib.hid (HV.out.bel hk)
    clear hb hk hB1
    go_wp2_with fail
    refine (HCH.out _).mono ?_
    rintro e w3 ⟨rfl, hb⟩
    have hk : Bel w2 w3 := Bel.trans (by repeat (first | assumption | exact Bel.refl _ | refine Bel.drew ?_ | refine Bel.drewN ?_ _ | refine Bel.alloc ?_ _ | refine Bel.setCell ?_ (by simp <;> omega) _ | refine Bel.trans ?_ (by assumption))) hb
    replace x0 := hk.cell x0
    replace x1 := hk.cell x1
    replace x2 := hk.cell x2
    replace x3 := hk.cell x3
    have lx0 := cell_lt x0
    have hB3 : Bel w w3 := hB2.trans hk
    replace HV := Lib.hid (HV.out.bel hk)
    clear hb hk hB2
    have r1 := hB3.cell HRS.out.1
    go_wp2_with fail
    refine (HIN.out _ (hB3.trans (by repeat (first | assumption | exact Bel.refl _ | refine Bel.drew ?_ | refine Bel.drewN ?_ _ | refine Bel.alloc ?_ _ | refine Bel.setCell ?_ (by simp <;> omega) _ | refine Bel.trans ?_ (by assumption))))).mono ?_
    rintro e w4 ⟨rfl, hb⟩
    have hk : Bel w3 w4 := Bel.trans (by repeat (first | assumption | exact Bel.refl _ | refine Bel.drew ?_ | refine Bel.drewN ?_ _ | refine Bel.alloc ?_ _ | refine Bel.setCell ?_ (by simp <;> omega) _ | refine Bel.trans ?_ (by assumption))) hb
    replace x0 := hk.cell x0
    replace x1 := hk.cell x1
    replace x2 := hk.cell x2
    replace x3 := hk.cell x3
    have lx0 := cell_lt x0
    have hB4 : Bel w w4 := hB3.trans hk
    replace HV := Lib.hid (HV.out.bel hk)
    clear hb hk hB3
    clear r1
    go_wp2_with fail
    refine (HIO.out _ (HV.out.bel (by repeat (first | assumption | exact Bel.refl _ | refine Bel.drew ?_ | refine Bel.drewN ?_ _ | refine Bel.alloc ?_ _ | refine Bel.setCell ?_ (by simp <;> omega) _ | refine Bel.trans ?_ (by assumption))))).mono ?_
    rintro e w5 ⟨rfl, hb⟩
    have hk : Bel w4 w5 := Bel.trans (by repeat (first | assumption | exact Bel.refl _ | refine Bel.drew ?_ | refine Bel.drewN ?_ _ | refine Bel.alloc ?_ _ | refine Bel.setCell ?_ (by simp <;> omega) _ | refine Bel.trans ?_ (by assumption))) hb
    replace x0 := hk.cell x0
    replace x1 := hk.cell x1
    replace x2 := hk.cell x2
    replace x3 := hk.cell x3
    have lx0 := cell_lt x0
    have hB5 : Bel w w5 := hB4.trans hk
    replace HV := Lib.hid (HV.out.bel hk)
    clear hb hk hB4
    go_wp2_with fail
    refine (works_any _).mono ?_
    rintro e wz ⟨rfl, hb⟩
    have HBZ := Lib.hid (hB5.trans (Bel.trans (by repeat (first | assumption | exact Bel.refl _ | refine Bel.drew ?_ | refine Bel.drewN ?_ _ | refine Bel.alloc ?_ _ | refine Bel.setCell ?_ (by simp <;> omega) _ | refine Bel.trans ?_ (by assumption))) hb))
    clear hb hB5
    go_wp2
    go_ret
    exact ⟨rfl, HBZ.out⟩
  rw [h1] at HIO
  have hone := oneB_iff.1 h1
  have he : errR t true = 0 := errR_ok (askR_zero.2 ⟨hval, rfl⟩) hone
  obtain ⟨hps1, hps2⟩ := pass_shut he hT1 hdC hin
  have hpb : passB t.C t.T s d = true := by
    unfold passB isStepB isTimeB
    simp only [Bool.and_eq_true, withinB_true]
    rw [wrap64_in (t.T - 2) (by omega), wrap64_in (t.C - 1) (by omega)]
    omega
  have HCP := Lib.hid (fun wx hx => Copy2_any t (.agg #[.int .i64 t.C, .int .i64 t.T, .slice a t.op.length c, .slice wa t.ws.length wc]) wx hx hroom (by omega))
  have HPS := Lib.hid (fun wx hx => (Passed_any t (.agg #[.int .i64 t.C, .int .i64 t.T, .slice a t.op.length c, .slice wa t.ws.length wc]) s d wx hx).mono fun e w' h => span_ok (by rw [hpb]; exact he) hps1 hps2 h)
  have HTR := Lib.hid (fun wx hx => (Truth_any t (.agg #[.int .i64 t.C, .int .i64 t.T, .slice a t.op.length c, .slice wa t.ws.length wc]) wx hx).mono (R' := fun e w' => ∃ v, e = .returned (.tuple #[v, .int .i64 0]) ∧ RowsAt w' v (truthRows t) ∧ Bel wx w') fun e w' h => by
    rcases h with ⟨h1, _⟩ | ⟨_, h⟩
    · exact absurd he h1
    · exact h)
  have hex := errR_exact he
  have hTT := truth_isT hex.2 hex.1
  have hr5 : (truthRows t).length = t.T.toNat := truthRows_len t
  have hhu : hugeB (truthRows t) = false := by
    unfold hugeB
    rw [Bool.or_eq_false_iff, Bool.not_eq_false']
    refine ⟨decide_eq_false (by rw [hr5]; omega), ?_⟩
    unfold longB
    rw [allB_iff]
    intro i hi
    rw [hr5] at hi
    rw [truthRows_row hi]
    simp; omega
  have HHU := Lib.hid (fun vk wx hx => (huge_any vk (truthRows t) wx hx).mono (R' := fun e w' => e = .returned (.bool false) ∧ Bel wx w') fun e w' h => ⟨by rw [h.1, hhu], h.2⟩)
  have HIT := Lib.hid (fun wx hx vk hy => (IsTruth_any t (.agg #[.int .i64 t.C, .int .i64 t.T, .slice a t.op.length c, .slice wa t.ws.length wc]) vk (truthRows t) wx hx hy hval).mono (R' := fun e w' => e = .returned (.bool true) ∧ Bel wx w') fun e w' h => by
    obtain ⟨bq, k1, k2, k3⟩ := h
    rw [k2.2 hTT] at k1
    exact ⟨k1, k3⟩)
  have HCD := Lib.hid (fun vk wx hx => copied_any vk (truthRows t) wx hx (by rw [hr5]; omega) (fun i hi => by rw [hr5] at hi; rw [truthRows_row hi]; omega))
  have hvw := valid_wider hval (d := d) hsl
  have HHO := Lib.hid (fun vo wx hx vm hm => (Holds_any (wider t s d) vo vm (truthRows t) wx hx hm).mono (R' := fun e w' => e = .returned (.tuple #[.bool true, .int .i64 0]) ∧ Bel wx w') fun e w' h => by
    obtain ⟨bq, h1, h2, h3⟩ := h
    rw [chk_true hvw, h2.2 ⟨hvw, isT_wider hval hsl hTT⟩] at h1
    exact ⟨h1, h3⟩)
  have HNA := Lib.hid (fun vo wx hx hy => narrower_any t (wider t s d) (.agg #[.int .i64 t.C, .int .i64 t.T, .slice a t.op.length c, .slice wa t.ws.length wc]) vo wx hx hy hval hvw rfl rfl hone (fun y hy => sat_wider hsl hy))
  have HSM := Lib.hid hsml
  obtain ⟨i1, hi1, hz1, hs1, hb1⟩ := info_parts mkInt
  have HI1 := Lib.hid hi1
  have HZ1 := Lib.hid hz1
  have HLE := Lib.hid (fun n => (doorTo_facts t s d n).1)
  have HWA := Lib.hid (fun j => wider_at (d := d) hsl j)
  clear h1 hin hval hroom hf hsml he hps1 hps2 hpb hex hTT hhu hr5 hvw hi1 hz1 hone
  go_enter Try.func13, Try.ntmps13
  go_wp2_with fail
  refine (HRT.out _ (HV.out.bel (by repeat (first | assumption | exact Bel.refl _ | refine Bel.drew ?_ | refine Bel.drewN ?_ _ | refine Bel.alloc ?_ _ | refine Bel.setCell ?_ (by simp <;> omega) _ | refine Bel.trans ?_ (by assumption))))).mono ?_
  rintro e w1 ⟨rfl, hb⟩
  have x0 : w1.cell? ⟨w.heap.size, 0, none⟩ = some (.int .i64 t.C) := hb.cell ((row_facts (new_row (by first | rfl | (simp; done)))).1 0)
  have x1 : w1.cell? ⟨w.heap.size, 1, none⟩ = some (.int .i64 t.T) := hb.cell ((row_facts (new_row (by first | rfl | (simp; done)))).1 1)
  have x2 : w1.cell? ⟨w.heap.size, 2, none⟩ = some (.slice a t.op.length c) := hb.cell ((row_facts (new_row (by first | rfl | (simp; done)))).1 2)
  have x3 : w1.cell? ⟨w.heap.size, 3, none⟩ = some (.slice wa t.ws.length wc) := hb.cell ((row_facts (new_row (by first | rfl | (simp; done)))).1 3)
  have hB1 : Bel w w1 := Bel.trans (by repeat (first | assumption | exact Bel.refl _ | refine Bel.drew ?_ | refine Bel.drewN ?_ _ | refine Bel.alloc ?_ _ | refine Bel.setCell ?_ (by simp <;> omega) _ | refine Bel.trans ?_ (by assumption))) hb
  have lx0 := cell_lt x0
  replace HV := Lib.hid (HV.out.bel hB1)
  clear hb
  go_wp2_with fail
  refine (HST.out _).mono ?_
  rintro e w2 ⟨rfl, hb⟩
  have hk : Bel w1 w2 := Bel.trans (by repeat (first | assumption | exact Bel.refl _ | refine Bel.drew ?_ | refine Bel.drewN ?_ _ | refine Bel.alloc ?_ _ | refine Bel.setCell ?_ (by simp <;> omega) _ | refine Bel.trans ?_ (by assumption))) hb
  replace x0 := hk.cell x0
  replace x1 := hk.cell x1
  replace x2 := hk.cell x2
  replace x3 := hk.cell x3
  have lx0 := cell_lt x0
  have hB2 : Bel w w2 := hB1.trans hk
  replace HV := Lib.hid (HV.out.bel hk)
  clear hb hk hB1
  go_wp2_with fail
  refine (HCH.out _).mono ?_
  rintro e w3 ⟨rfl, hb⟩
  have hk : Bel w2 w3 := Bel.trans (by repeat (first | assumption | exact Bel.refl _ | refine Bel.drew ?_ | refine Bel.drewN ?_ _ | refine Bel.alloc ?_ _ | refine Bel.setCell ?_ (by simp <;> omega) _ | refine Bel.trans ?_ (by assumption))) hb
  replace x0 := hk.cell x0
  replace x1 := hk.cell x1
  replace x2 := hk.cell x2
  replace x3 := hk.cell x3
  have lx0 := cell_lt x0
  have hB3 : Bel w w3 := hB2.trans hk
  replace HV := Lib.hid (HV.out.bel hk)
  clear hb hk hB2
  have r1 := hB3.cell HRS.out.1
  go_wp2_with fail
  refine (HIN.out _ (hB3.trans (by repeat (first | assumption | exact Bel.refl _ | refine Bel.drew ?_ | refine Bel.drewN ?_ _ | refine Bel.alloc ?_ _ | refine Bel.setCell ?_ (by simp <;> omega) _ | refine Bel.trans ?_ (by assumption))))).mono ?_
  rintro e w4 ⟨rfl, hb⟩
  have hk : Bel w3 w4 := Bel.trans (by repeat (first | assumption | exact Bel.refl _ | refine Bel.drew ?_ | refine Bel.drewN ?_ _ | refine Bel.alloc ?_ _ | refine Bel.setCell ?_ (by simp <;> omega) _ | refine Bel.trans ?_ (by assumption))) hb
  replace x0 := hk.cell x0
  replace x1 := hk.cell x1
  replace x2 := hk.cell x2
  replace x3 := hk.cell x3
  have lx0 := cell_lt x0
  have hB4 : Bel w w4 := hB3.trans hk
  replace HV := Lib.hid (HV.out.bel hk)
  clear hb hk hB3
  clear r1
  go_wp2_with fail
  refine (HIO.out _ (HV.out.bel (by repeat (first | assumption | exact Bel.refl _ | refine Bel.drew ?_ | refine Bel.drewN ?_ _ | refine Bel.alloc ?_ _ | refine Bel.setCell ?_ (by simp <;> omega) _ | refine Bel.trans ?_ (by assumption))))).mono ?_
  rintro e w5 ⟨rfl, hb⟩
  have hk : Bel w4 w5 := Bel.trans (by repeat (first | assumption | exact Bel.refl _ | refine Bel.drew ?_ | refine Bel.drewN ?_ _ | refine Bel.alloc ?_ _ | refine Bel.setCell ?_ (by simp <;> omega) _ | refine Bel.trans ?_ (by assumption))) hb
  replace x0 := hk.cell x0
  replace x1 := hk.cell x1
  replace x2 := hk.cell x2
  replace x3 := hk.cell x3
  have lx0 := cell_lt x0
  have hB5 : Bel w w5 := hB4.trans hk
  replace HV := Lib.hid (HV.out.bel hk)
  clear hb hk hB4
  go_wp2_with fail
  refine (HCP.out _ HV.out).mono ?_
  rintro e w6 ⟨oc, gg, g, cap, vs, rfl, hb, hfar, how, hog, hrows⟩
  have lw5 : w.heap.size < w5.heap.size := cell_lt x0
  replace x0 := hb.cell x0
  replace x1 := hb.cell x1
  replace x2 := hb.cell x2
  replace x3 := hb.cell x3
  have lx0 := cell_lt x0
  have hgl := ownsRow_lt hog (g := gg) rfl
  have hgw := ownsRow_lt how (g := g) rfl
  obtain ⟨hfg, hfgg, hne⟩ := hfar
  go_upto_region 4 with fail
  generalize hWC : w6.alloc _ = Wc
  have hk6 : Bel w6 Wc := by rw [← hWC]; exact (Bel.refl w6).alloc _
  have y0 : Wc.cell? ⟨w6.heap.size, 0, none⟩ = some (.int .i64 t.C) := by rw [← hWC]; exact (row_facts (new_row rfl)).1 0
  have y1 : Wc.cell? ⟨w6.heap.size, 1, none⟩ = some (.int .i64 t.T) := by rw [← hWC]; exact (row_facts (new_row rfl)).1 1
  have y2 : Wc.cell? ⟨w6.heap.size, 2, none⟩ = some (.slice (some ⟨gg, 0, none⟩) t.op.length oc) := by rw [← hWC]; exact (row_facts (new_row rfl)).1 2
  have y3 : Wc.cell? ⟨w6.heap.size, 3, none⟩ = some (.slice (some ⟨g, 0, none⟩) t.ws.length cap) := by rw [← hWC]; exact (row_facts (new_row rfl)).1 3
  have ly0 := cell_lt y0
  have hgc : gg < Wc.heap.size := Nat.lt_of_lt_of_le hgl hk6.szle
  have hogc := ownsRow_bel hog hk6
  have hcs : ∀ j, j < t.op.length → Wc.cell? ⟨gg, j, none⟩ = some (vs.getD j undef) := fun j hj => by
    rcases hogc.2 with ⟨q, _⟩ | ⟨g2, cap2, cur, q, _⟩
    · cases q
    · have := World.ownsRow.cellAt (h := hogc) j (by omega)
      (try rw [Nat.zero_add] at this)
      rw [this]
      have hlen : j < vs.length := by have := hogc.1; omega
      simp [List.getD, hlen]
  have hgf : ∀ q, Wc.frozen? ⟨gg, q, none⟩ = false := fun q => by
    rcases hogc.2 with ⟨e, _⟩ | ⟨g2, cap2, cur, e, _, hh, _⟩
    · cases e
    · injection e with e1 e2 e3
      injection e1 with e1
      injection e1 with e1
      subst e1
      simp [World.frozen?, hh]
  have hB5' := hB5
  have HB5 := Lib.hid hB5'
  have hwc5 : Bel w5 Wc := hb.trans hk6
  have HB5C := Lib.hid hwc5
  replace x0 := hk6.cell x0
  replace x1 := hk6.cell x1
  replace x2 := hk6.cell x2
  replace x3 := hk6.cell x3
  have cs0 := hcs s hsl
  have fs0 := hgf s
  have HCS := Lib.hid hcs
  have HGF := Lib.hid hgf
  have HOW := Lib.hid (ownsRow_bel how hk6)
  have HNE := Lib.hid (And.intro hne (And.intro hfg hfgg))
  have HGC := Lib.hid hgc
  have HK6 := Lib.hid hk6
  have HROW := Lib.hid hrows
  have hixg := idxRows (c := oc) (n := t.op.length) (b := gg) (off := 0) (a := some ⟨gg, 0, none⟩) (fun _ => rfl)
  simp only [Nat.zero_add] at hixg
  have HX := Lib.hid (And.intro x0 (And.intro x1 (And.intro x2 x3)))
  have HY := Lib.hid (And.intro y0 (And.intro y1 (And.intro y2 y3)))
  have HD0 := Lib.hid (DSt.start cs0)
  have hn1 : w6.heap.size ≠ gg := by omega
  have hn2 : gg ≠ w6.heap.size := by omega
  have hn3 : w.heap.size ≠ gg := by omega
  clear hWC hog how hogc hcs hgf hb hk6 hrows hB5 hB5' hwc5
  go_wp2
  clear x0 x1 x2 x3 y0 y1 y2 y3 lx0 ly0 cs0 fs0
  go_loopw [8] (fun i wr => ∃ (n : Nat) (V : Value), n ≤ t.C.toNat ∧ i = .int .i64 n ∧ DSt (doorTo t s d n) Wc gg s V wr) (fun i _ => t.C.toNat - (intOf i).toNat)
  case atStart => exact ⟨0, _, by omega, rfl, HD0.out⟩
  case round =>
    obtain ⟨n, V, hn, rfl, hR⟩ := hrel
    have HR := Lib.hid hR
    clear hR
    have HBR := Lib.hid (HR.out.turn.bel HB5C.out HNE.out.2.2)
    have HBW := Lib.hid (HB5.out.trans HBR.out)
    have x0 := HR.out.turn.other (p := ⟨w.heap.size, 0, none⟩) hn3 HX.out.1
    by_cases hlt : n < t.C.toNat
    · have hni : (n : Int) < t.C := by omega
      have x2 := HR.out.turn.other (p := ⟨w.heap.size, 2, none⟩) hn3 HX.out.2.2.1
      have r1 := HBW.out.cell HRS.out.1
      have hln := HLE.out n
      by_cases hnd : n = d
      · have hb : ((n : Int) == (d : Int)) = true := by simp [hnd]
        have HDY := Lib.hid (door_yes (t := t) (s := s) (d := d) (n := n) (by unfold doorB; rw [decide_eq_true hnd]; rfl))
        have HRK := Lib.hid HR.out
        have HKB := Lib.hid (fun wx (k : Bel wr wx) => (show Turn gg s (s + 1) Wc wx ∧ wx.cell? ⟨gg, s, none⟩ = some V from ⟨HRK.out.turn.trans (Bel.turn gg s (s + 1) k), k.cell HRK.out.cell⟩))
        clear hnd
        go_wp2
        clear x0 x2 r1
        refine wp_region_mixTC (Plan.seq [0, 1, 2, 3, 4, 5, 6, 7, 8, 1009, 1010, 11] .nil) (fun w' => Turn gg s (s + 1) Wc w' ∧ w'.cell? ⟨gg, s, none⟩ = some V) (by kernel_rfl) (by kernel_rfl) (HKB.out _ ((Bel.refl _).drew)) (fun hcur => ?_)
        simp only [Plan.seq, Plan.fill, List.getD_cons_zero, List.getD_cons_succ, Nat.reduceLT, ↓reduceIte, Nat.reduceSub]
        apply mix_pure _ rfl
        · intro w' hw'
          obtain ⟨ht, hc⟩ := hw'
          have k2 := ht.other (p := ⟨w6.heap.size, 2, none⟩) hn1 HY.out.2.2.1
          go_simp
          rfl
        intro K hK
        go_simp
        refine hK _ ?_
        clear hK K
        apply mix_pure _ rfl
        · intro w' hw'
          obtain ⟨ht, hc⟩ := hw'
          have k2 := ht.other (p := ⟨w6.heap.size, 2, none⟩) hn1 HY.out.2.2.1
          go_simp
          rfl
        intro K hK
        go_simp
        refine hK _ ?_
        clear hK K
        apply mix_pure _ rfl
        · intro w' hw'
          obtain ⟨ht, hc⟩ := hw'
          have k2 := ht.other (p := ⟨w6.heap.size, 2, none⟩) hn1 HY.out.2.2.1
          go_simp
          rfl
        intro K hK
        go_simp
        refine hK _ ?_
        clear hK K
        apply mix_pure _ rfl
        · intro w' hw'
          obtain ⟨ht, hc⟩ := hw'
          have k2 := ht.other (p := ⟨w6.heap.size, 2, none⟩) hn1 HY.out.2.2.1
          go_simp
          rfl
        intro K hK
        go_simp
        refine hK _ ?_
        clear hK K
        apply mix_pure _ rfl
        · intro w' hw'
          obtain ⟨ht, hc⟩ := hw'
          have k2 := ht.other (p := ⟨w6.heap.size, 2, none⟩) hn1 HY.out.2.2.1
          go_simp
          rfl
        intro K hK
        go_simp
        refine hK _ ?_
        clear hK K
        apply mix_pure _ rfl
        · intro w' hw'
          obtain ⟨ht, hc⟩ := hw'
          have k2 := ht.other (p := ⟨w6.heap.size, 2, none⟩) hn1 HY.out.2.2.1
          go_simp
          rfl
        intro K hK
        go_simp
        refine hK _ ?_
        clear hK K
        apply mix_pure _ rfl
        · intro w' hw'
          obtain ⟨ht, hc⟩ := hw'
          have k2 := ht.other (p := ⟨w6.heap.size, 2, none⟩) hn1 HY.out.2.2.1
          go_simp
          rfl
        intro K hK
        go_simp
        refine hK _ ?_
        clear hK K
        apply mix_pure _ rfl
        · intro w' hw'
          obtain ⟨ht, hc⟩ := hw'
          have k2 := ht.other (p := ⟨w6.heap.size, 2, none⟩) hn1 HY.out.2.2.1
          go_simp
          rfl
        intro K hK
        go_simp
        refine hK _ ?_
        clear hK K
        apply mix_pure _ rfl
        · intro w' hw'
          obtain ⟨ht, hc⟩ := hw'
          have k2 := ht.other (p := ⟨w6.heap.size, 2, none⟩) hn1 HY.out.2.2.1
          go_simp
          rfl
        intro K hK
        go_simp
        refine hK _ ?_
        clear hK K
        refine mix_act rfl (fun K hK => ?_)
        go_simp
        refine hK _ _ (HKB.out _ (by repeat (first | assumption | exact Bel.refl _ | refine Bel.drew ?_ | refine Bel.drewN ?_ _ | refine Bel.alloc ?_ _ | refine Bel.setCell ?_ (by simp <;> omega) _ | refine Bel.trans ?_ (by assumption)))) (fun hcur => ?_)
        clear hK K
        refine mix_act rfl (fun K hK => ?_)
        refine wp_append_where _ _ 42 (by rfl) 3 i1 (.int .i64 0) 1 8 Try.underlying42 HI1.out HZ1.out hs1 hb1 rfl (by decide) _ (doorTo t s d n).length ((doorTo t s d n).map (Value.int .i64)) (by rfl) (ownsRow_bel HRK.out.own (show Bel wr _ from (by repeat (first | assumption | exact Bel.refl _ | refine Bel.drew ?_ | refine Bel.drewN ?_ _ | refine Bel.alloc ?_ _ | refine Bel.setCell ?_ (by simp <;> omega) _ | refine Bel.trans ?_ (by assumption))))) ⟨wr.heap.size, 0, none⟩ 1 1 [.int .i64 n] (by rfl) rfl (fun j u hu => by rw [add_off, (row_facts (new_blk rfl)).1]; simpa using hu) (fun y hy => by simp at hy; subst hy; rfl) (by unfold maxLen; omega) (by omega) ?_
        intro V' w5' hown5 hgrow5 hwhere5
        obtain ⟨g5, cap5, rfl⟩ : ∃ g cap, V' = .slice (some ⟨g, 0, none⟩) ((doorTo t s d n).length + 1) cap := by
          rcases hown5.2 with ⟨_, h0⟩ | ⟨g, cap, cur, rfl, _⟩
          · omega
          · exact ⟨g, cap, rfl⟩
        have HWA5 := Lib.hid (HRK.out.keepG hgrow5 (show Bel wr _ from (by repeat (first | assumption | exact Bel.refl _ | refine Bel.drew ?_ | refine Bel.drewN ?_ _ | refine Bel.alloc ?_ _ | refine Bel.setCell ?_ (by simp <;> omega) _ | refine Bel.trans ?_ (by assumption)))))
        have HN := Lib.hid (DSt.next HGC.out HWA5.out hown5 hgrow5 (by first | exact hwhere5 | simpa using hwhere5))
        have c5 : w5'.cell? ⟨gg, s, none⟩ = some V := (World.cell?_of_block (hgrow5.block gg (Nat.lt_of_lt_of_le HGC.out HWA5.out.turn.size) (fun q => by have := HRK.out.far gg q.symm; have := HGC.out; omega))).trans HWA5.out.cell
        refine hK _ _ ⟨HWA5.out.turn.grown hgrow5 HRK.out.far, c5⟩ (fun hcur => ?_)
        clear hK K hown5 hgrow5 hwhere5 c5
        apply mix_pure _ rfl
        · intro w' hw'
          obtain ⟨ht, hc⟩ := hw'
          have k2 := ht.other (p := ⟨w6.heap.size, 2, none⟩) hn1 HY.out.2.2.1
          go_simp
          rfl
        intro K hK
        go_simp
        refine hK _ ?_
        clear hK K
        refine mix_tailK rfl (fun K hK => ?_)
        have c2 := hcur.2
        have f2 : w5'.frozen? ⟨gg, s, none⟩ = false := (hcur.1.frozen ⟨gg, s, none⟩ HGC.out).trans (HGF.out s)
        go_simp
        refine hK _ _ ?_
        clear hK K c2 f2
        rw [← HDY.out] at HN
        clear hcur
        go_wp2
        go_roundw
        case rel => exact ⟨n + 1, _, by omega, by go_num, HN.out⟩
        case measure => simp [intOf]; omega
      · have hb : ((n : Int) == (d : Int)) = false := by simp; omega
        cases hin : inB (atL t.op s) n
        · have HDN := Lib.hid (door_no (t := t) (s := s) (d := d) (n := n) (by unfold doorB; rw [decide_eq_false hnd, hin]; rfl))
          have HIQ := Lib.hid (HIN0.out n)
          rw [hin] at HIQ
          clear hin hnd
          go_wp2_with fail
          refine (HIQ.out _ HBW.out).mono ?_
          rintro e w7 ⟨rfl, hb7⟩
          have HN := Lib.hid (HR.out.keep hb7)
          rw [← HDN.out] at HN
          clear hb7 x0 x2 r1
          go_wp2
          go_roundw
          case rel => exact ⟨n + 1, _, by omega, by go_num, HN.out⟩
          case measure => simp [intOf]; omega
        · have HDY := Lib.hid (door_yes (t := t) (s := s) (d := d) (n := n) (by unfold doorB; rw [hin, Bool.or_true]))
          have HIQ := Lib.hid (HIN0.out n)
          rw [hin] at HIQ
          clear hin hnd
          go_wp2_with fail
          refine (HIQ.out _ HBW.out).mono ?_
          rintro e w7 ⟨rfl, hb7⟩
          have HRK := Lib.hid (HR.out.keep hb7)
          have HKB := Lib.hid (fun wx (k : Bel w7 wx) => (show Turn gg s (s + 1) Wc wx ∧ wx.cell? ⟨gg, s, none⟩ = some V from ⟨HRK.out.turn.trans (Bel.turn gg s (s + 1) k), k.cell HRK.out.cell⟩))
          clear hb7 x0 x2 r1
          go_wp2
          refine wp_region_mixTC (Plan.seq [0, 1, 2, 3, 4, 5, 6, 7, 8, 1009, 1010, 11] .nil) (fun w' => Turn gg s (s + 1) Wc w' ∧ w'.cell? ⟨gg, s, none⟩ = some V) (by kernel_rfl) (by kernel_rfl) (HKB.out _ ((Bel.refl _).drew)) (fun hcur => ?_)
          simp only [Plan.seq, Plan.fill, List.getD_cons_zero, List.getD_cons_succ, Nat.reduceLT, ↓reduceIte, Nat.reduceSub]
          apply mix_pure _ rfl
          · intro w' hw'
            obtain ⟨ht, hc⟩ := hw'
            have k2 := ht.other (p := ⟨w6.heap.size, 2, none⟩) hn1 HY.out.2.2.1
            go_simp
            rfl
          intro K hK
          go_simp
          refine hK _ ?_
          clear hK K
          apply mix_pure _ rfl
          · intro w' hw'
            obtain ⟨ht, hc⟩ := hw'
            have k2 := ht.other (p := ⟨w6.heap.size, 2, none⟩) hn1 HY.out.2.2.1
            go_simp
            rfl
          intro K hK
          go_simp
          refine hK _ ?_
          clear hK K
          apply mix_pure _ rfl
          · intro w' hw'
            obtain ⟨ht, hc⟩ := hw'
            have k2 := ht.other (p := ⟨w6.heap.size, 2, none⟩) hn1 HY.out.2.2.1
            go_simp
            rfl
          intro K hK
          go_simp
          refine hK _ ?_
          clear hK K
          apply mix_pure _ rfl
          · intro w' hw'
            obtain ⟨ht, hc⟩ := hw'
            have k2 := ht.other (p := ⟨w6.heap.size, 2, none⟩) hn1 HY.out.2.2.1
            go_simp
            rfl
          intro K hK
          go_simp
          refine hK _ ?_
          clear hK K
          apply mix_pure _ rfl
          · intro w' hw'
            obtain ⟨ht, hc⟩ := hw'
            have k2 := ht.other (p := ⟨w6.heap.size, 2, none⟩) hn1 HY.out.2.2.1
            go_simp
            rfl
          intro K hK
          go_simp
          refine hK _ ?_
          clear hK K
          apply mix_pure _ rfl
          · intro w' hw'
            obtain ⟨ht, hc⟩ := hw'
            have k2 := ht.other (p := ⟨w6.heap.size, 2, none⟩) hn1 HY.out.2.2.1
            go_simp
            rfl
          intro K hK
          go_simp
          refine hK _ ?_
          clear hK K
          apply mix_pure _ rfl
          · intro w' hw'
            obtain ⟨ht, hc⟩ := hw'
            have k2 := ht.other (p := ⟨w6.heap.size, 2, none⟩) hn1 HY.out.2.2.1
            go_simp
            rfl
          intro K hK
          go_simp
          refine hK _ ?_
          clear hK K
          apply mix_pure _ rfl
          · intro w' hw'
            obtain ⟨ht, hc⟩ := hw'
            have k2 := ht.other (p := ⟨w6.heap.size, 2, none⟩) hn1 HY.out.2.2.1
            go_simp
            rfl
          intro K hK
          go_simp
          refine hK _ ?_
          clear hK K
          apply mix_pure _ rfl
          · intro w' hw'
            obtain ⟨ht, hc⟩ := hw'
            have k2 := ht.other (p := ⟨w6.heap.size, 2, none⟩) hn1 HY.out.2.2.1
            go_simp
            rfl
          intro K hK
          go_simp
          refine hK _ ?_
          clear hK K
          refine mix_act rfl (fun K hK => ?_)
          go_simp
          refine hK _ _ (HKB.out _ (by repeat (first | assumption | exact Bel.refl _ | refine Bel.drew ?_ | refine Bel.drewN ?_ _ | refine Bel.alloc ?_ _ | refine Bel.setCell ?_ (by simp <;> omega) _ | refine Bel.trans ?_ (by assumption)))) (fun hcur => ?_)
          clear hK K
          refine mix_act rfl (fun K hK => ?_)
          refine wp_append_where _ _ 42 (by rfl) 3 i1 (.int .i64 0) 1 8 Try.underlying42 HI1.out HZ1.out hs1 hb1 rfl (by decide) _ (doorTo t s d n).length ((doorTo t s d n).map (Value.int .i64)) (by rfl) (ownsRow_bel HRK.out.own (show Bel w7 _ from (by repeat (first | assumption | exact Bel.refl _ | refine Bel.drew ?_ | refine Bel.drewN ?_ _ | refine Bel.alloc ?_ _ | refine Bel.setCell ?_ (by simp <;> omega) _ | refine Bel.trans ?_ (by assumption))))) ⟨w7.heap.size, 0, none⟩ 1 1 [.int .i64 n] (by rfl) rfl (fun j u hu => by rw [add_off, (row_facts (new_blk rfl)).1]; simpa using hu) (fun y hy => by simp at hy; subst hy; rfl) (by unfold maxLen; omega) (by omega) ?_
          intro V' w5' hown5 hgrow5 hwhere5
          obtain ⟨g5, cap5, rfl⟩ : ∃ g cap, V' = .slice (some ⟨g, 0, none⟩) ((doorTo t s d n).length + 1) cap := by
            rcases hown5.2 with ⟨_, h0⟩ | ⟨g, cap, cur, rfl, _⟩
            · omega
            · exact ⟨g, cap, rfl⟩
          have HWA5 := Lib.hid (HRK.out.keepG hgrow5 (show Bel w7 _ from (by repeat (first | assumption | exact Bel.refl _ | refine Bel.drew ?_ | refine Bel.drewN ?_ _ | refine Bel.alloc ?_ _ | refine Bel.setCell ?_ (by simp <;> omega) _ | refine Bel.trans ?_ (by assumption)))))
          have HN := Lib.hid (DSt.next HGC.out HWA5.out hown5 hgrow5 (by first | exact hwhere5 | simpa using hwhere5))
          have c5 : w5'.cell? ⟨gg, s, none⟩ = some V := (World.cell?_of_block (hgrow5.block gg (Nat.lt_of_lt_of_le HGC.out HWA5.out.turn.size) (fun q => by have := HRK.out.far gg q.symm; have := HGC.out; omega))).trans HWA5.out.cell
          refine hK _ _ ⟨HWA5.out.turn.grown hgrow5 HRK.out.far, c5⟩ (fun hcur => ?_)
          clear hK K hown5 hgrow5 hwhere5 c5
          apply mix_pure _ rfl
          · intro w' hw'
            obtain ⟨ht, hc⟩ := hw'
            have k2 := ht.other (p := ⟨w6.heap.size, 2, none⟩) hn1 HY.out.2.2.1
            go_simp
            rfl
          intro K hK
          go_simp
          refine hK _ ?_
          clear hK K
          refine mix_tailK rfl (fun K hK => ?_)
          have c2 := hcur.2
          have f2 : w5'.frozen? ⟨gg, s, none⟩ = false := (hcur.1.frozen ⟨gg, s, none⟩ HGC.out).trans (HGF.out s)
          go_simp
          refine hK _ _ ?_
          clear hK K c2 f2
          rw [← HDY.out] at HN
          clear hcur
          go_wp2
          go_roundw
          case rel => exact ⟨n + 1, _, by omega, by go_num, HN.out⟩
          case measure => simp [intOf]; omega
    · have hnC : n = t.C.toNat := by omega
      subst hnC
      have HO := Lib.hid (show TrapAt wr (.agg #[.int .i64 t.C, .int .i64 t.T, .slice (some ⟨gg, 0, none⟩) t.op.length oc, .slice (some ⟨g, 0, none⟩) t.ws.length cap]) (wider t s d) from by
        have hT := HR.out.turn
        have hcg := HGC.out
        refine ⟨_, _, rfl, ⟨some ⟨gg, 0, none⟩, oc, gg, 0, fun j => if j = s then V else vs.getD j undef, by rw [wider_len], fun _ => rfl, by rw [wider_len]; have := HSM.out.1; omega, fun j hj => ?_⟩, ?_⟩
        · rw [wider_len] at hj
          rw [Nat.zero_add, HWA.out j]
          by_cases e : j = s
          · simp only [if_pos e]
            rw [e]
            exact ⟨HR.out.cell, ownInts' (by have := HLE.out t.C.toNat; omega) HR.out.own⟩
          · simp only [if_neg e]
            refine ⟨(hT.cell j hcg (by omega)).trans (HCS.out j hj), HROW.out j hj wr (Nat.le_trans HK6.out.szle hT.size) (fun k k1 k2 k3 k4 => ?_)⟩
            rw [hT.block k (Nat.lt_of_lt_of_le k2 HK6.out.szle) k3]
            exact HK6.out.below.block k k2
        · refine WordsAt.own (by have := HSM.out.2.2; show t.ws.length ≤ _; omega) ?_
          exact ownsRow_keep HOW.out (fun q e => by
            simp only [Value.ownBlock, Option.some.injEq] at e
            have := ownsRow_lt HOW.out (g := g) rfl
            exact hT.block q (by omega) (by have := HNE.out.1; omega)))
      replace HV := Lib.hid (HV.out.bel HBR.out)
      have x1 := HR.out.turn.other (p := ⟨w.heap.size, 1, none⟩) hn3 HX.out.2.1
      have x2 := HR.out.turn.other (p := ⟨w.heap.size, 2, none⟩) hn3 HX.out.2.2.1
      have x3 := HR.out.turn.other (p := ⟨w.heap.size, 3, none⟩) hn3 HX.out.2.2.2
      have y0 := HR.out.turn.other (p := ⟨w6.heap.size, 0, none⟩) hn1 HY.out.1
      have y1 := HR.out.turn.other (p := ⟨w6.heap.size, 1, none⟩) hn1 HY.out.2.1
      have y2 := HR.out.turn.other (p := ⟨w6.heap.size, 2, none⟩) hn1 HY.out.2.2.1
      have y3 := HR.out.turn.other (p := ⟨w6.heap.size, 3, none⟩) hn1 HY.out.2.2.2
      have hB7 := HBW.out
      clear HR HBR HBW HCS HGF HROW HD0 hixg hixr hn1 hn2 hn3
      rename World => w7
      go_wp2_with fail
      refine (HPS.out _ (HV.out.bel (by repeat (first | assumption | exact Bel.refl _ | refine Bel.drew ?_ | refine Bel.drewN ?_ _ | refine Bel.alloc ?_ _ | refine Bel.setCell ?_ (by simp <;> omega) _ | refine Bel.trans ?_ (by assumption))))).mono ?_
      rintro e w8 ⟨rfl, hb⟩
      have hk : Bel w7 w8 := Bel.trans (by repeat (first | assumption | exact Bel.refl _ | refine Bel.drew ?_ | refine Bel.drewN ?_ _ | refine Bel.alloc ?_ _ | refine Bel.setCell ?_ (by simp <;> omega) _ | refine Bel.trans ?_ (by assumption))) hb
      replace x0 := hk.cell x0
      replace x1 := hk.cell x1
      replace x2 := hk.cell x2
      replace x3 := hk.cell x3
      replace y0 := hk.cell y0
      replace y1 := hk.cell y1
      replace y2 := hk.cell y2
      replace y3 := hk.cell y3
      have lx0 := cell_lt x0
      have ly0 := cell_lt y0
      have hB8 : Bel w w8 := hB7.trans hk
      replace HV := Lib.hid (HV.out.bel hk)
      replace HO := Lib.hid (HO.out.bel hk)
      clear hb hk hB7
      go_wp2_with fail
      refine (HTR.out _ (HV.out.bel (by repeat (first | assumption | exact Bel.refl _ | refine Bel.drew ?_ | refine Bel.drewN ?_ _ | refine Bel.alloc ?_ _ | refine Bel.setCell ?_ (by simp <;> omega) _ | refine Bel.trans ?_ (by assumption))))).mono ?_
      rintro e w9 ⟨vk, rfl, hR, hb⟩
      have s0 : w9.cell? ⟨w8.heap.size, 0, none⟩ = some (.int .i64 0) := hb.cell ((row_facts (new_row (by first | rfl | (simp; done)))).1 0)
      have s1 : w9.cell? ⟨w8.heap.size, 1, none⟩ = some (.int .i64 0) := hb.cell ((row_facts (new_row (by first | rfl | (simp; done)))).1 1)
      have hk : Bel w8 w9 := Bel.trans (by repeat (first | assumption | exact Bel.refl _ | refine Bel.drew ?_ | refine Bel.drewN ?_ _ | refine Bel.alloc ?_ _ | refine Bel.setCell ?_ (by simp <;> omega) _ | refine Bel.trans ?_ (by assumption))) hb
      replace x0 := hk.cell x0
      replace x1 := hk.cell x1
      replace x2 := hk.cell x2
      replace x3 := hk.cell x3
      replace y0 := hk.cell y0
      replace y1 := hk.cell y1
      replace y2 := hk.cell y2
      replace y3 := hk.cell y3
      have lx0 := cell_lt x0
      have ly0 := cell_lt y0
      have ls0 := cell_lt s0
      have hB9 : Bel w w9 := hB8.trans hk
      replace HV := Lib.hid (HV.out.bel hk)
      replace HO := Lib.hid (HO.out.bel hk)
      clear hb hk hB8
      have HR := Lib.hid hR
      clear hR
      go_wp2_with fail
      refine (HHU.out _ _ (HR.out.bel (by repeat (first | assumption | exact Bel.refl _ | refine Bel.drew ?_ | refine Bel.drewN ?_ _ | refine Bel.alloc ?_ _ | refine Bel.setCell ?_ (by simp <;> omega) _ | refine Bel.trans ?_ (by assumption))))).mono ?_
      rintro e w10 ⟨rfl, hb⟩
      have hk : Bel w9 w10 := Bel.trans (by repeat (first | assumption | exact Bel.refl _ | refine Bel.drew ?_ | refine Bel.drewN ?_ _ | refine Bel.alloc ?_ _ | refine Bel.setCell ?_ (by simp <;> omega) _ | refine Bel.trans ?_ (by assumption))) hb
      replace x0 := hk.cell x0
      replace x1 := hk.cell x1
      replace x2 := hk.cell x2
      replace x3 := hk.cell x3
      replace y0 := hk.cell y0
      replace y1 := hk.cell y1
      replace y2 := hk.cell y2
      replace y3 := hk.cell y3
      replace s0 := hk.cell s0
      replace s1 := hk.cell s1
      have lx0 := cell_lt x0
      have ly0 := cell_lt y0
      have ls0 := cell_lt s0
      have hB10 : Bel w w10 := hB9.trans hk
      replace HV := Lib.hid (HV.out.bel hk)
      replace HO := Lib.hid (HO.out.bel hk)
      replace HR := Lib.hid (HR.out.bel hk)
      clear hb hk hB9
      go_wp2_with fail
      refine (HIT.out _ (HV.out.bel (by repeat (first | assumption | exact Bel.refl _ | refine Bel.drew ?_ | refine Bel.drewN ?_ _ | refine Bel.alloc ?_ _ | refine Bel.setCell ?_ (by simp <;> omega) _ | refine Bel.trans ?_ (by assumption)))) _ (HR.out.bel (by repeat (first | assumption | exact Bel.refl _ | refine Bel.drew ?_ | refine Bel.drewN ?_ _ | refine Bel.alloc ?_ _ | refine Bel.setCell ?_ (by simp <;> omega) _ | refine Bel.trans ?_ (by assumption))))).mono ?_
      rintro e w11 ⟨rfl, hb⟩
      have hk : Bel w10 w11 := Bel.trans (by repeat (first | assumption | exact Bel.refl _ | refine Bel.drew ?_ | refine Bel.drewN ?_ _ | refine Bel.alloc ?_ _ | refine Bel.setCell ?_ (by simp <;> omega) _ | refine Bel.trans ?_ (by assumption))) hb
      replace x0 := hk.cell x0
      replace x1 := hk.cell x1
      replace x2 := hk.cell x2
      replace x3 := hk.cell x3
      replace y0 := hk.cell y0
      replace y1 := hk.cell y1
      replace y2 := hk.cell y2
      replace y3 := hk.cell y3
      replace s0 := hk.cell s0
      replace s1 := hk.cell s1
      have lx0 := cell_lt x0
      have ly0 := cell_lt y0
      have ls0 := cell_lt s0
      have hB11 : Bel w w11 := hB10.trans hk
      replace HV := Lib.hid (HV.out.bel hk)
      replace HO := Lib.hid (HO.out.bel hk)
      replace HR := Lib.hid (HR.out.bel hk)
      clear hb hk hB10
      have HB11 := Lib.hid hB11
      clear hB11 s0 s1 ls0
      go_wp2
      refine wp_region_mixB (Plan.seq [0, 1, 1002, 1003, 4, 5, 6, 7, 8] .nil) (by kernel_rfl) (by kernel_rfl) (fun hcur => ?_)
      simp only [Plan.seq, Plan.fill, List.getD_cons_zero, List.getD_cons_succ, Nat.reduceLT, ↓reduceIte, Nat.reduceSub]
      apply mix_pure _ rfl
      · intro w' hw'
        have hcr := hw'.cells
        go_simp
        rfl
      intro K hK
      go_simp
      refine hK _ ?_
      clear hK K
      apply mix_pure _ rfl
      · intro w' hw'
        have hcr := hw'.cells
        go_simp
        rfl
      intro K hK
      go_simp
      refine hK _ ?_
      clear hK K
      refine mix_act rfl (fun K hK => ?_)
      go_simp
      refine (HCD.out _ _ (HR.out.bel hcur)).mono ?_
      rintro e w12 ⟨vm, rfl, hb, hM⟩
      have HM := Lib.hid hM
      simp only []
      refine hK _ _ (hcur.trans hb) (fun hcur => ?_)
      clear hK K hb hM
      refine mix_act rfl (fun K hK => ?_)
      go_simp
      refine (HHO.out _ _ (HO.out.bel hcur) _ HM.out).mono ?_
      rintro e w13 ⟨rfl, hb⟩
      simp only []
      refine hK _ _ (hcur.trans hb) (fun hcur => ?_)
      clear hK K hb
      apply mix_pure _ rfl
      · intro w' hw'
        have hcr := hw'.cells
        go_simp
        rfl
      intro K hK
      go_simp
      refine hK _ ?_
      clear hK K
      apply mix_pure _ rfl
      · intro w' hw'
        have hcr := hw'.cells
        go_simp
        rfl
      intro K hK
      go_simp
      refine hK _ ?_
      clear hK K
      apply mix_pure _ rfl
      · intro w' hw'
        have hcr := hw'.cells
        go_simp
        rfl
      intro K hK
      go_simp
      refine hK _ ?_
      clear hK K
      apply mix_pure _ rfl
      · intro w' hw'
        have hcr := hw'.cells
        go_simp
        rfl
      intro K hK
      go_simp
      refine hK _ ?_
      clear hK K
      apply mix_pure _ rfl
      · intro w' hw'
        have hcr := hw'.cells
        go_simp
        rfl
      intro K hK
      go_simp
      refine hK _ ?_
      clear hK K
      refine mix_nil ?_
      have hk := hcur
      clear hcur
      replace x0 := hk.cell x0
      replace x1 := hk.cell x1
      replace x2 := hk.cell x2
      replace x3 := hk.cell x3
      replace y0 := hk.cell y0
      replace y1 := hk.cell y1
      replace y2 := hk.cell y2
      replace y3 := hk.cell y3
      have lx0 := cell_lt x0
      have ly0 := cell_lt y0
      have hB13 : Bel w w13 := HB11.out.trans hk
      replace HV := Lib.hid (HV.out.bel hk)
      replace HO := Lib.hid (HO.out.bel hk)
      replace HR := Lib.hid (HR.out.bel hk)
      clear hk HB11
      go_wp2_with fail
      refine (HNA.out _ _ (HV.out.bel (by repeat (first | assumption | exact Bel.refl _ | refine Bel.drew ?_ | refine Bel.drewN ?_ _ | refine Bel.alloc ?_ _ | refine Bel.setCell ?_ (by simp <;> omega) _ | refine Bel.trans ?_ (by assumption)))) (HO.out.bel (by repeat (first | assumption | exact Bel.refl _ | refine Bel.drew ?_ | refine Bel.drewN ?_ _ | refine Bel.alloc ?_ _ | refine Bel.setCell ?_ (by simp <;> omega) _ | refine Bel.trans ?_ (by assumption))))).mono ?_
      rintro e w14 ⟨rfl, hb⟩
      have hk : Bel w13 w14 := Bel.trans (by repeat (first | assumption | exact Bel.refl _ | refine Bel.drew ?_ | refine Bel.drewN ?_ _ | refine Bel.alloc ?_ _ | refine Bel.setCell ?_ (by simp <;> omega) _ | refine Bel.trans ?_ (by assumption))) hb
      replace x0 := hk.cell x0
      replace x1 := hk.cell x1
      replace x2 := hk.cell x2
      replace x3 := hk.cell x3
      replace y0 := hk.cell y0
      replace y1 := hk.cell y1
      replace y2 := hk.cell y2
      replace y3 := hk.cell y3
      have lx0 := cell_lt x0
      have ly0 := cell_lt y0
      have hB14 : Bel w w14 := hB13.trans hk
      replace HV := Lib.hid (HV.out.bel hk)
      replace HO := Lib.hid (HO.out.bel hk)
      replace HR := Lib.hid (HR.out.bel hk)
      clear hb hk hB13
      go_wp2_with fail
      refine (works_any _).mono ?_
      rintro e wz ⟨rfl, hb⟩
      have HBZ := Lib.hid (hB14.trans (Bel.trans (by repeat (first | assumption | exact Bel.refl _ | refine Bel.drew ?_ | refine Bel.drewN ?_ _ | refine Bel.alloc ?_ _ | refine Bel.setCell ?_ (by simp <;> omega) _ | refine Bel.trans ?_ (by assumption))) hb))
      clear hb hB14
      go_wp2
      go_ret
      exact ⟨rfl, HBZ.out⟩
end Go.Proofs.Ytoiajjdhgffdaaa
