/-
  reference: Without.
-/
import Derived.Test.YtoiajjdhgffdaaaIdleV
import Derived.Test.YtoiajjdhgffdaaaTold
namespace Go.Proofs.Ytoiajjdhgffdaaa
open Go Go.RowKit
set_option maxHeartbeats 2000000
set_option maxRecDepth 100000
theorem atW_take {ws : List CW} {k i : Nat} (h : i < k) : atW (ws.take k) i = atW ws i := by unfold atW; simp [List.getD, h]
theorem atW_drop {ws : List CW} {k i : Nat} : atW (ws.drop k) i = atW ws (k + i) := by unfold atW; simp [List.getD, List.getElem?_drop]
theorem atW_left2 {a b : List CW} {k : Nat} (h : k < a.length) : atW (a ++ b) k = atW a k := by unfold atW; simp [List.getD, List.getElem?_append_left h]
theorem atW_right2 {a b : List CW} {k : Nat} (h : a.length ≤ k) : atW (a ++ b) k = atW b (k - a.length) := by unfold atW; simp [List.getD, List.getElem?_append_right h]
theorem wordCells_append (a b : List CW) : wordCells (a ++ b) = wordCells a ++ wordCells b := by
  apply List.ext_getElem?
  intro j
  by_cases h : j < a.length * 4
  · rw [List.getElem?_append_left (by rw [wordCells_len]; exact h), wordCells_at _ _ h, wordCells_at _ _ (by simp; omega)]
    unfold wcell
    rw [atW_left2 (by omega)]
  · rw [List.getElem?_append_right (by rw [wordCells_len]; omega), wordCells_len]
    by_cases h2 : j < (a ++ b).length * 4
    · rw [wordCells_at _ _ h2, wordCells_at _ _ (by simp at h2; omega)]
      unfold wcell
      rw [atW_right2 (by omega), show (j - a.length * 4) / 4 = j / 4 - a.length by omega, show (j - a.length * 4) % 4 = j % 4 by omega]
    · rw [List.getElem?_eq_none (by rw [wordCells_len]; omega), List.getElem?_eq_none (by rw [wordCells_len]; simp at h2; omega)]
theorem Without_any (t : CT) (v : Value) (k : Nat) (w : World) (hv : TrapAt w v t) (hroom : Room t) (hk : k < t.ws.length) :
    Calls Try.prog 49 #[v, .int .i64 k] w fun e w' => ∃ v', e = .returned v' ∧ Bel w w' ∧ TrapAt w' v' (without t k) := by
  have HCP := Lib.hid (fun wx (h : TrapAt wx v t) => Copy_any t v wx h hroom)
  have HV := Lib.hid hv
  obtain ⟨ov, wv, rfl, hrows, hwords⟩ := hv
  obtain ⟨a, c, b, off, rv, rfl, _, hlen, _⟩ := hrows
  obtain ⟨wa, wc, wb, woff, rfl, hwa, hwlen, hwc⟩ := hwords
  obtain rfl := hwa (by omega)
  have hws := hroom.ws
  have HS1 := Lib.hid (fun wx (hbx : Bel w wx) => WordsAt.src (w := wx) (wb := wb) (woff := woff) (ws := t.ws.take k) (fun i hi => by
    have hi2 : i < k := by simp at hi; omega
    obtain ⟨q0, q1, q2, q3⟩ := hwc i (by omega)
    rw [atW_take hi2]
    exact ⟨hbx.cell q0, hbx.cell q1, hbx.cell q2, hbx.cell q3⟩))
  have HS2 := Lib.hid (fun wx (hbx : Bel w wx) => WordsAt.src (w := wx) (wb := wb) (woff := woff + (k + 1) * 4) (ws := t.ws.drop (k + 1)) (fun i hi => by
    have hi2 : k + 1 + i < t.ws.length := by simp at hi; omega
    obtain ⟨q0, q1, q2, q3⟩ := hwc (k + 1 + i) (by omega)
    rw [atW_drop, show woff + (k + 1) * 4 + i * 4 = woff + (k + 1 + i) * 4 by omega]
    exact ⟨hbx.cell q0, hbx.cell q1, hbx.cell q2, hbx.cell q3⟩))
  have HWT := Lib.hid (show (without t k).ws = t.ws.take k ++ t.ws.drop (k + 1) from rfl)
  have hl1 : (t.ws.take k).length = k := by simp; omega
  have hl2 : (t.ws.drop (k + 1)).length = t.ws.length - (k + 1) := by simp
  obtain ⟨i3, hi3, hz3, hs3, hb3⟩ := info_parts mkWord
  have HI3 := Lib.hid hi3
  have HZ3 := Lib.hid hz3
  have hki : (k : Int) ≤ (t.ws.length : Int) := by omega
  have hkc : k ≤ wc := by omega
  have hkci : (k : Int) ≤ (wc : Int) := by omega
  clear hi3 hz3 hwc hwa
  by_cases hcap : wc = k + 1
  all_goals
    have HCAP := Lib.hid hcap
    clear hcap
    go_enter Try.func49, Try.ntmps49
    go_wp2_with fail
    refine (HCP.out _ (HV.out.bel (by repeat (first | assumption | exact Bel.refl _ | refine Bel.drew ?_ | refine Bel.drewN ?_ _ | refine Bel.alloc ?_ _ | refine Bel.setCell ?_ (by simp <;> omega) _ | refine Bel.trans ?_ (by assumption))))).mono ?_
    rintro e w1 ⟨oa, oc, g, cap, rfl, hb, hg, hown, hrow⟩
    have hsz := hb.szle
    simp only [World.size_alloc] at hsz hg
    have z0 : w.heap.size < w1.heap.size := by omega
    have z1 : w.heap.size + 1 < w1.heap.size := by omega
    have HBw := Lib.hid (show Bel w w1 from (by repeat (first | assumption | exact Bel.refl _ | refine Bel.drew ?_ | refine Bel.drewN ?_ _ | refine Bel.alloc ?_ _ | refine Bel.setCell ?_ (by simp <;> omega) _ | refine Bel.trans ?_ (by assumption))))
    have HROW := Lib.hid hrow
    have x0 : w1.cell? ⟨w.heap.size, 0, none⟩ = some (.int .i64 t.C) := hb.cell (by simp [World.cell?_alloc_lt])
    have x1 : w1.cell? ⟨w.heap.size, 1, none⟩ = some (.int .i64 t.T) := hb.cell (by simp [World.cell?_alloc_lt])
    have x2 : w1.cell? ⟨w.heap.size, 2, none⟩ = some (.slice a t.op.length c) := hb.cell (by simp [World.cell?_alloc_lt])
    have x3 : w1.cell? ⟨w.heap.size, 3, none⟩ = some (.slice (some ⟨wb, woff, none⟩) t.ws.length wc) := hb.cell (by simp [World.cell?_alloc_lt])
    have f0 : w1.cell? ⟨w.heap.size + 1, 0, none⟩ = some (.int .i64 0) := hb.cell ((row_facts (new_row (by simp))).1 0)
    have f1 : w1.cell? ⟨w.heap.size + 1, 1, none⟩ = some (.int .i64 0) := hb.cell ((row_facts (new_row (by simp))).1 1)
    have f2 : w1.cell? ⟨w.heap.size + 1, 2, none⟩ = some (.slice none 0 0) := hb.cell ((row_facts (new_row (by simp))).1 2)
    have f3 : w1.cell? ⟨w.heap.size + 1, 3, none⟩ = some (.slice none 0 0) := hb.cell ((row_facts (new_row (by simp))).1 3)
    have ff : ∀ o, w1.frozen? ⟨w.heap.size + 1, o, none⟩ = false := fun o => by rw [hb.frozens _ (by simp)]; exact (row_facts (new_row (by simp))).2 o
    clear hb hrow hown HCP
    go_wp2
    generalize hW2 : w1.alloc _ = W2
    have hB2 : Bel w1 W2 := by rw [← hW2]; exact (Bel.refl w1).alloc _
    have hS2 : W2.heap.size = w1.heap.size + 1 := by rw [← hW2]; simp
    have p0 : W2.cell? ⟨w1.heap.size, 0, none⟩ = some (.int .i64 t.C) := by rw [← hW2]; exact (row_facts (new_row rfl)).1 0
    have p1 : W2.cell? ⟨w1.heap.size, 1, none⟩ = some (.int .i64 t.T) := by rw [← hW2]; exact (row_facts (new_row rfl)).1 1
    have p2 : W2.cell? ⟨w1.heap.size, 2, none⟩ = some (.slice oa t.op.length oc) := by rw [← hW2]; exact (row_facts (new_row rfl)).1 2
    have p3 : W2.cell? ⟨w1.heap.size, 3, none⟩ = some (.slice (some ⟨g, 0, none⟩) t.ws.length cap) := by rw [← hW2]; exact (row_facts (new_row rfl)).1 3
    have pf : ∀ o, W2.frozen? ⟨w1.heap.size, o, none⟩ = false := by intro o; rw [← hW2]; exact (row_facts (new_row rfl)).2 o
    replace x0 := hB2.cell x0
    replace x1 := hB2.cell x1
    replace x2 := hB2.cell x2
    replace x3 := hB2.cell x3
    have lx0 := cell_lt x0
    have HB2 := Lib.hid (HBw.out.trans hB2)
    have HSZ2 := Lib.hid hS2
    clear hW2 hS2
    refine wp_region_mixTB (Plan.seq [1, 2, 3, 4, 6, 7, 8, 9, 10, 1000, 1005, 1011, 12] .nil) (by kernel_rfl) (by kernel_rfl) (fun hcur => ?_)
    simp only [Plan.seq, Plan.fill, List.getD_cons_zero, List.getD_cons_succ, Nat.reduceLT, ↓reduceIte, Nat.reduceSub]
    apply mix_pure _ rfl
    · intro w' hw'
      have hcr := hw'.cells
      go_simp
      rfl
    intro K hK
    go_simp
    refine hK _ ?_
    clear hK K
    apply mix_pure _ rfl
    · intro w' hw'
      have hcr := hw'.cells
      go_simp
      rfl
    intro K hK
    go_simp
    refine hK _ ?_
    clear hK K
    apply mix_pure _ rfl
    · intro w' hw'
      have hcr := hw'.cells
      go_simp
      rfl
    intro K hK
    go_simp
    refine hK _ ?_
    clear hK K
    apply mix_pure _ rfl
    · intro w' hw'
      have hcr := hw'.cells
      go_simp
      rfl
    intro K hK
    go_simp
    refine hK _ ?_
    clear hK K
    apply mix_pure _ rfl
    · intro w' hw'
      have hcr := hw'.cells
      go_simp
      rfl
    intro K hK
    go_simp
    refine hK _ ?_
    clear hK K
    apply mix_pure _ rfl
    · intro w' hw'
      have hcr := hw'.cells
      go_simp
      rfl
    intro K hK
    go_simp
    refine hK _ ?_
    clear hK K
    apply mix_pure _ rfl
    · intro w' hw'
      have hcr := hw'.cells
      go_simp
      rfl
    intro K hK
    go_simp
    refine hK _ ?_
    clear hK K
    apply mix_pure _ rfl
    · intro w' hw'
      have hcr := hw'.cells
      go_simp
      first | (rw [IntWalk.i64_in]; all_goals first | omega | rfl) | rfl
    intro K hK
    go_simp
    refine hK _ ?_
    clear hK K
    apply mix_pure _ rfl
    · intro w' hw'
      have hcr := hw'.cells
      go_simp
      rw [if_pos (by omega)]
    intro K hK
    go_simp
    refine hK _ ?_
    clear hK K
    refine mix_act rfl (fun K hK => ?_)
    go_simp
    refine hK _ _ (by repeat (first | assumption | exact Bel.refl _ | refine Bel.drew ?_ | refine Bel.drewN ?_ _ | refine Bel.alloc ?_ _ | refine Bel.setCell ?_ (by simp <;> omega) _ | refine Bel.trans ?_ (by assumption))) (fun hcur => ?_)
    clear hK K
    refine mix_act rfl (fun K hK => ?_)
    refine wp_append_opt _ _ 23 (by rfl) 44 i3 _ 4 32 Try.underlying23 HI3.out HZ3.out hs3 hb3 rfl (by decide) _ 0 [] (by rfl) (fresh_own ?_) (some ⟨wb, woff, none⟩) k wc (wordCells (t.ws.take k)) (by rfl) (by rw [wordCells_len, hl1]) (fun _ => ⟨_, rfl, HS1.out _ (HB2.out.trans (by repeat (first | assumption | exact Bel.refl _ | refine Bel.drew ?_ | refine Bel.drewN ?_ _ | refine Bel.alloc ?_ _ | refine Bel.setCell ?_ (by simp <;> omega) _ | refine Bel.trans ?_ (by assumption))))⟩) (wordCells_one _) (by unfold maxLen; omega) (by omega) ?_
    · exact new_blk rfl
    intro V1 w4 hown4 hgrow4 hwhere4
    obtain ⟨g4, cap4, rfl⟩ : ∃ g cap, V1 = .slice (some ⟨g, 0, none⟩) k cap := by
      rcases hown4.2 with ⟨rfl, _⟩ | ⟨g, cap, cur, rfl, _⟩
      · rcases hwhere4 with h | h <;> simp [Value.ownBlock] at h
      · exact ⟨g, cap, by simp⟩
    refine hK _ _ (Bel.grown (w := World.drew _) (by repeat (first | assumption | exact Bel.refl _ | refine Bel.drew ?_ | refine Bel.drewN ?_ _ | refine Bel.alloc ?_ _ | refine Bel.setCell ?_ (by simp <;> omega) _ | refine Bel.trans ?_ (by assumption))) hgrow4 (fun q h => by first | (simp [Value.ownBlock] at h; omega) | (injection h with h; omega))) (fun hcur => ?_)
    have HO4 := Lib.hid (show w4.ownsRow 0 44 4 (.slice (some ⟨g4, 0, none⟩) k cap4) k (wordCells (t.ws.take k)) by simpa using hown4)
    have HG4 := Lib.hid (show W2.heap.size ≤ g4 by have hwh := hwhere4; (try simp only [Value.ownBlock, Option.some.injEq, World.size_alloc, World.size_drew] at hwh); omega)
    have HC4 := Lib.hid hcur
    clear hK K hown4 hgrow4 hwhere4
    refine mix_act rfl (fun K hK => ?_)
    refine wp_append_opt _ _ 23 (by rfl) 44 i3 _ 4 32 Try.underlying23 HI3.out HZ3.out hs3 hb3 rfl (by decide) _ k (wordCells (t.ws.take k)) (by rfl) HO4.out _ (t.ws.length - (k + 1)) _ (wordCells (t.ws.drop (k + 1))) (by rfl) (by rw [wordCells_len, hl2]) ?_ (wordCells_one _) (by unfold maxLen; omega) (by omega) ?_
    · intro h0
      have hc0 := HCAP.out
      first
        | (rw [if_pos hc0]; exfalso; omega)
        | (rw [if_neg hc0]; exact ⟨_, rfl, HS2.out _ (HB2.out.trans HC4.out)⟩)
    intro V5 w5 hown5 hgrow5 hwhere5
    obtain ⟨g5, cap5, rfl⟩ : ∃ g cap, V5 = .slice (some ⟨g, 0, none⟩) (k + (t.ws.length - (k + 1))) cap := by
      rcases hown5.2 with ⟨rfl, _⟩ | ⟨g, cap, cur, rfl, _⟩
      · rcases hwhere5 with h | h <;> simp [Value.ownBlock] at h
      · exact ⟨g, cap, rfl⟩
    have HO5 := Lib.hid hown5
    have HW5 := Lib.hid hwhere5
    have HB5 := Lib.hid (HC4.out.grown hgrow5 (fun q h => by simp [Value.ownBlock] at h; have := HG4.out; omega))
    refine hK _ _ HB5.out (fun hcur => ?_)
    clear hK K hown5 hgrow5 hwhere5
    apply mix_pure _ rfl
    · intro w' hw'
      have hcr := hw'.cells
      go_simp
      rfl
    intro K hK
    go_simp
    refine hK _ ?_
    clear hK K
    refine mix_tailK rfl (fun K hK => ?_)
    have p0' := hcur.cell p0
    have p1' := hcur.cell p1
    have p2' := hcur.cell p2
    have p3' := hcur.cell p3
    have pf' : ∀ o, w5.frozen? ⟨w1.heap.size, o, none⟩ = false := fun o => (hcur.frozens ⟨w1.heap.size, o, none⟩ (by show w1.heap.size < W2.heap.size; have := HSZ2.out; omega)).trans (pf o)
    go_simp
    refine hK _ _ ?_
    clear hK K
    have HK5 := Lib.hid (show ∀ q, q < w1.heap.size → w5.heap[q]? = w1.heap[q]? from fun q hq => (hcur.below.block q (by have := HSZ2.out; omega)).trans (hB2.below.block q hq))
    have HS5 := Lib.hid (show W2.heap.size ≤ w5.heap.size from hcur.szle)
    have HBW5 := Lib.hid (HB2.out.trans hcur)
    have HG5 := Lib.hid (show W2.heap.size ≤ g5 by
      have h1 := HG4.out
      have h2 := HC4.out.szle
      rcases HW5.out with h | h
      · simp only [Value.ownBlock, Option.some.injEq] at h; omega
      · simp only [Value.ownBlock, Option.some.injEq] at h; omega)
    replace p0 := hcur.cell p0
    replace p1 := hcur.cell p1
    replace p2 := hcur.cell p2
    replace p3 := hcur.cell p3
    replace f0 := (hB2.trans hcur).cell f0
    replace f1 := (hB2.trans hcur).cell f1
    replace f2 := (hB2.trans hcur).cell f2
    replace f3 := (hB2.trans hcur).cell f3
    have gf : ∀ o, w5.frozen? ⟨w.heap.size + 1, o, none⟩ = false := fun o => ((hB2.trans hcur).frozens ⟨w.heap.size + 1, o, none⟩ z1).trans (ff o)
    have n1 : w.heap.size + 1 ≠ w1.heap.size := by omega
    have n2 : w1.heap.size ≠ w.heap.size + 1 := by omega
    clear hcur hB2 pf x0 x1 x2 x3 lx0 ff p0' p1' p2' p3' pf'
    go_wp2
    have h1 := HSZ2.out
    have h2 := HG5.out
    have h3 := HS5.out
    refine bodyPost_ret (v := .agg #[.int .i64 t.C, .int .i64 t.T, .slice oa t.op.length oc, .slice (some ⟨g5, 0, none⟩) (k + (t.ws.length - (k + 1))) cap5]) (by simp [results, Try.results49, go_sem, *]) rfl ⟨_, rfl, ?_, ?_⟩
    · exact ((((HBW5.out.setCell (by show _ ≤ w1.heap.size; omega) _).setCell (by show _ ≤ w.heap.size + 1; omega) _).setCell (by show _ ≤ w.heap.size + 1; omega) _).setCell (by show _ ≤ w.heap.size + 1; omega) _).setCell (by show _ ≤ w.heap.size + 1; omega) _
    · refine ⟨_, _, rfl, HROW.out _ (by simp; omega) (fun q k1 k2 k3 => ?_), ?_⟩
      · simp only [World.size_alloc] at k1
        have a1 : q ≠ w1.heap.size := by omega
        have a2 : q ≠ w.heap.size + 1 := by omega
        exact (heap_setCell_other _ _ _ _ (by exact a2)).trans ((heap_setCell_other _ _ _ _ (by exact a2)).trans ((heap_setCell_other _ _ _ _ (by exact a2)).trans ((heap_setCell_other _ _ _ _ (by exact a2)).trans ((heap_setCell_other _ _ _ _ (by exact a1)).trans (HK5.out q k2)))))
      · have HNA : ∀ q, Value.ownBlock (.slice (some ⟨g5, 0, none⟩) (k + (t.ws.length - (k + 1))) cap5) = some q → q ≠ w.heap.size + 1 := fun q e => by simp [Value.ownBlock] at e; omega
        have HNB : ∀ q, Value.ownBlock (.slice (some ⟨g5, 0, none⟩) (k + (t.ws.length - (k + 1))) cap5) = some q → q ≠ w1.heap.size := fun q e => by simp [Value.ownBlock] at e; omega
        have hl : (without t k).ws.length = k + (t.ws.length - (k + 1)) := by have := without_len hk; omega
        have ho := ownsRow_set (ownsRow_set (ownsRow_set (ownsRow_set (ownsRow_set (p := ⟨w1.heap.size, 3, none⟩) (u := .slice (some ⟨g5, 0, none⟩) (k + (t.ws.length - (k + 1))) cap5) HO5.out HNB) (p := ⟨w.heap.size + 1, 0, none⟩) (u := .int .i64 t.C) HNA) (p := ⟨w.heap.size + 1, 1, none⟩) (u := .int .i64 t.T) HNA) (p := ⟨w.heap.size + 1, 2, none⟩) (u := .slice oa t.op.length oc) HNA) (p := ⟨w.heap.size + 1, 3, none⟩) (u := .slice (some ⟨g5, 0, none⟩) (k + (t.ws.length - (k + 1))) cap5) HNA
        refine WordsAt.own (by rw [hl]; omega) ?_
        rw [hl, HWT.out, wordCells_append]
        exact ho
end Go.Proofs.Ytoiajjdhgffdaaa
