/-
  reference: Told, Counted.
-/
import Derived.Test.YtkdcdhkhadhcfaaCopy
import Derived.Test.YtkdcdhkhadhcfaaPlain
namespace Go.Proofs.Ytkdcdhkhadhcfaa
open Go Go.RowKit
set_option maxHeartbeats 1000000
set_option maxRecDepth 100000
theorem wordCells_told (ws : List CW) (x : CW) : wordCells (ws ++ [x]) = wordCells ws ++ [.int .i64 x.time, .int .i64 x.chamber, .int .i64 x.low, .int .i64 x.high] := by
  apply List.ext_getElem?
  intro j
  by_cases h : j < ws.length * 4
  · rw [List.getElem?_append_left (by rw [wordCells_len]; exact h), wordCells_at _ _ h, wordCells_at _ _ (by simp; omega)]
    unfold wcell
    rw [atW_left (by omega)]
  · rw [List.getElem?_append_right (by rw [wordCells_len]; omega), wordCells_len]
    by_cases h2 : j < ws.length * 4 + 4
    · rw [wordCells_at _ _ (by simp; omega)]
      unfold wcell
      rw [show j / 4 = ws.length by omega, atW_last]
      have : j = ws.length * 4 ∨ j = ws.length * 4 + 1 ∨ j = ws.length * 4 + 2 ∨ j = ws.length * 4 + 3 := by omega
      rcases this with e | e | e | e <;> subst e
      · rw [if_pos (by omega)]; simp
      · rw [if_neg (by omega), if_pos (by omega)]; simp
      · rw [if_neg (by omega), if_neg (by omega), if_pos (by omega)]; simp
      · rw [if_neg (by omega), if_neg (by omega), if_neg (by omega)]; simp
    · rw [List.getElem?_eq_none (by rw [wordCells_len]; simp; omega), List.getElem?_eq_none (by simp; omega)]
theorem frozen_keep {w w' : World} {k o : Nat} (h : w'.heap[k]? = w.heap[k]?) : w'.frozen? ⟨k, o, none⟩ = w.frozen? ⟨k, o, none⟩ := by unfold World.frozen?; rw [h]
/-- A trap in new memory. -/
def NewTrap (lo : Nat) (w : World) (v : Value) (t : CT) : Prop := ∀ w'' : World, w.heap.size ≤ w''.heap.size → (∀ k, lo ≤ k → k < w.heap.size → w''.heap[k]? = w.heap[k]?) → TrapAt w'' v t
theorem NewTrap.now {lo : Nat} {w : World} {v : Value} {t : CT} (h : NewTrap lo w v t) : TrapAt w v t := h w (Nat.le_refl _) fun _ _ _ => rfl
theorem NewTrap.less {lo lo2 : Nat} {w : World} {v : Value} {t : CT} (h : NewTrap lo w v t) (hl : lo2 ≤ lo) : NewTrap lo2 w v t := fun w'' h1 h2 => h w'' h1 fun k k1 k2 => h2 k (Nat.le_trans hl k1) k2
theorem NewTrap.set {lo : Nat} {w : World} {v u : Value} {t : CT} {p : Addr} (h : NewTrap lo w v t) (hp : p.block < lo) : NewTrap lo (w.setCell p u) v t := fun w'' h1 h2 => h w'' (by simpa using h1) fun k k1 k2 => by
  rw [h2 k k1 (by simpa using k2), heap_setCell_other _ _ _ _ (by omega)]
theorem NewTrap.bel {lo : Nat} {w w' : World} {v : Value} {t : CT} (h : NewTrap lo w v t) (hb : Bel w w') : NewTrap lo w' v t := fun w'' h1 h2 => h w'' (Nat.le_trans hb.szle h1) fun k k1 k2 => by
  rw [h2 k k1 (Nat.lt_of_lt_of_le k2 hb.szle), hb.below.block k k2]
theorem NewTrap.shape {lo : Nat} {w : World} {v : Value} {t : CT} (h : NewTrap lo w v t) : ∃ oa oc wa wc, v = .agg #[.int .i64 t.C, .int .i64 t.T, .slice oa t.op.length oc, .slice wa t.ws.length wc] := by
  obtain ⟨ov, wv, rfl, ⟨a, c, b, off, rv, rfl, _⟩, ⟨wa, wc, wb, woff, rfl, _⟩⟩ := h.now
  exact ⟨_, _, _, _, rfl⟩
theorem Told_any (t : CT) (x : CW) (v : Value) (w : World) (hv : TrapAt w v t) (hroom : Room t) :
    Calls Try.prog 27 #[v, x.val] w fun e w' => ∃ v', e = .returned v' ∧ Bel w w' ∧ NewTrap w.heap.size w' v' (told t x) := by
  have HCP := Lib.hid (fun wx (h : TrapAt wx v t) => Copy_any t v wx h hroom)
  have HV := Lib.hid hv
  obtain ⟨ov, wv, rfl, hrows, hwords⟩ := hv
  obtain ⟨a, c, b, off, rv, rfl, _, hlen, _⟩ := hrows
  obtain ⟨wa, wc, wb, woff, rfl, _, hwlen, _⟩ := hwords
  have hws := hroom.ws
  obtain ⟨i3, hi3, hz3, hs3, hb3⟩ := info_parts mkWord
  have HI3 := Lib.hid hi3
  have HZ3 := Lib.hid hz3
  clear hi3 hz3 hroom
  unfold CW.val
  go_enter Try.func27, Try.ntmps27
  go_wp2_with fail
  refine (HCP.out _ (HV.out.bel (by repeat (first | assumption | exact Bel.refl _ | refine Bel.drew ?_ | refine Bel.drewN ?_ _ | refine Bel.alloc ?_ _ | refine Bel.setCell ?_ (by simp <;> omega) _ | refine Bel.trans ?_ (by assumption))))).mono ?_
  rintro e w1 ⟨oa, oc, g, cap, rfl, hb, hg, hown, hrow⟩
  have hsz := hb.szle
  simp only [World.size_alloc] at hsz hg
  have z0 : w.heap.size < w1.heap.size := by omega
  have z1 : w.heap.size + 1 < w1.heap.size := by omega
  have z2 : w.heap.size + 1 + 1 < w1.heap.size := by omega
  have hBw : Bel w w1 := (by repeat (first | assumption | exact Bel.refl _ | refine Bel.drew ?_ | refine Bel.drewN ?_ _ | refine Bel.alloc ?_ _ | refine Bel.setCell ?_ (by simp <;> omega) _ | refine Bel.trans ?_ (by assumption)))
  have HROW := Lib.hid hrow
  have e0 : w1.cell? ⟨w.heap.size + 1, 0, none⟩ = some (.int .i64 x.time) := hb.cell (by simp [World.cell?_alloc_lt])
  have e1 : w1.cell? ⟨w.heap.size + 1, 1, none⟩ = some (.int .i64 x.chamber) := hb.cell (by simp [World.cell?_alloc_lt])
  have e2 : w1.cell? ⟨w.heap.size + 1, 2, none⟩ = some (.int .i64 x.low) := hb.cell (by simp [World.cell?_alloc_lt])
  have e3 : w1.cell? ⟨w.heap.size + 1, 3, none⟩ = some (.int .i64 x.high) := hb.cell (by simp [World.cell?_alloc_lt])
  have f0 : w1.cell? ⟨w.heap.size + 1 + 1, 0, none⟩ = some (.int .i64 0) := hb.cell ((row_facts (new_row (by simp))).1 0)
  have f1 : w1.cell? ⟨w.heap.size + 1 + 1, 1, none⟩ = some (.int .i64 0) := hb.cell ((row_facts (new_row (by simp))).1 1)
  have f2 : w1.cell? ⟨w.heap.size + 1 + 1, 2, none⟩ = some (.slice none 0 0) := hb.cell ((row_facts (new_row (by simp))).1 2)
  have f3 : w1.cell? ⟨w.heap.size + 1 + 1, 3, none⟩ = some (.slice none 0 0) := hb.cell ((row_facts (new_row (by simp))).1 3)
  have ff : ∀ o, w1.frozen? ⟨w.heap.size + 1 + 1, o, none⟩ = false := fun o => by rw [hb.frozens _ (by simp)]; exact (row_facts (new_row (by simp))).2 o
  have HOWN := Lib.hid hown
  have hgl := ownsRow_lt hown (g := g) rfl
  clear hb hrow hown HCP HV
  go_wp2_with (at_builtin; refine wpList_append_where rfl _ _ 45 rfl 53 i3 _ 4 32 Try.underlying45 HI3.out HZ3.out hs3 hb3 rfl (by decide) _ t.ws.length (wordCells t.ws) rfl (ownsRow_bel HOWN.out (((Bel.refl w1).alloc _).alloc _)) ⟨w1.heap.size + 1, 0, none⟩ 1 1 [.int .i64 x.time, .int .i64 x.chamber, .int .i64 x.low, .int .i64 x.high] rfl rfl (fun j u hu => by rw [add_off, (row_facts (new_row (by simp))).1]; simpa using hu) (fun y hy => by simp at hy; rcases hy with rfl | rfl | rfl | rfl <;> rfl) (by unfold maxLen; omega) (by omega) ?_)
  intro V' w5 hown5 hgrow5 hwhere5
  have hk5 : ∀ k, k < w1.heap.size → k ≠ g → w5.heap[k]? = w1.heap[k]? := fun k hk hne =>
    (hgrow5.block k (by simp; omega) (by simp [Value.ownBlock]; exact hne)).trans ((heap_alloc_old _ _ (by simp; omega)).trans (heap_alloc_old _ _ hk))
  have hp5 := (hgrow5.block w1.heap.size (by simp only [World.size_alloc]; omega) (by simp [Value.ownBlock]; omega)).trans ((heap_alloc_old _ _ (by simp)).trans (new_row rfl))
  have hs5 := hgrow5.size
  simp only [World.size_alloc] at hs5
  obtain ⟨g5, cap5, rfl⟩ : ∃ g cap, V' = .slice (some ⟨g, 0, none⟩) (t.ws.length + 1) cap := by
    rcases hown5.2 with ⟨_, h0⟩ | ⟨g, cap, cur, rfl, _⟩
    · omega
    · exact ⟨g, cap, rfl⟩
  have hg5 : w.heap.size + 3 ≤ g5 ∧ g5 ≠ w1.heap.size := by
    simp only [Value.ownBlock, Option.some.injEq] at hwhere5
    omega
  have hB5 : Bel w w5 := ((hBw.alloc _).alloc _).grown hgrow5 (fun k q => by simp [Value.ownBlock] at q; omega)
  obtain ⟨pc, pf⟩ := row_facts hp5
  have p0 : w5.cell? ⟨w1.heap.size, 0, none⟩ = some (.int .i64 t.C) := pc 0
  have p1 : w5.cell? ⟨w1.heap.size, 1, none⟩ = some (.int .i64 t.T) := pc 1
  have p2 : w5.cell? ⟨w1.heap.size, 2, none⟩ = some (.slice oa t.op.length oc) := pc 2
  have p3 : w5.cell? ⟨w1.heap.size, 3, none⟩ = some (.slice (some ⟨g, 0, none⟩) t.ws.length cap) := pc 3
  have kb := hk5 (w.heap.size + 1 + 1) z2 (by omega)
  have q0 : w5.cell? ⟨w.heap.size + 1 + 1, 0, none⟩ = some (.int .i64 0) := (World.cell?_of_block kb).trans f0
  have q1 : w5.cell? ⟨w.heap.size + 1 + 1, 1, none⟩ = some (.int .i64 0) := (World.cell?_of_block kb).trans f1
  have q2 : w5.cell? ⟨w.heap.size + 1 + 1, 2, none⟩ = some (.slice none 0 0) := (World.cell?_of_block kb).trans f2
  have q3 : w5.cell? ⟨w.heap.size + 1 + 1, 3, none⟩ = some (.slice none 0 0) := (World.cell?_of_block kb).trans f3
  have qf : ∀ o, w5.frozen? ⟨w.heap.size + 1 + 1, o, none⟩ = false := fun o => by rw [frozen_keep kb]; exact ff o
  have n1 : w.heap.size + 1 + 1 ≠ w1.heap.size := by omega
  have n2 : w1.heap.size ≠ w.heap.size + 1 + 1 := by omega
  have HK5 := Lib.hid hk5
  have HO5 := Lib.hid hown5
  have HS5 := Lib.hid hs5
  have HG5 := Lib.hid hg5
  have HGL := Lib.hid hgl
  have HZ2 := Lib.hid z2
  have hWL := hwlen
  have hOL := hlen
  clear hk5 hp5 hown5 hgrow5 hwhere5 pc kb f0 f1 f2 f3 ff e0 e1 e2 e3 hgl hg5 hs5
  go_wp2
  refine bodyPost_ret (v := .agg #[.int .i64 t.C, .int .i64 t.T, .slice oa t.op.length oc, .slice (some ⟨g5, 0, none⟩) (t.ws.length + 1) cap5]) (by simp [results, Try.results27, go_sem, *]) rfl ⟨_, rfl, ?_, ?_⟩
  · have h1 := HZ2.out
    exact ((((hB5.setCell (by show _ ≤ w1.heap.size; omega) _).setCell (by show _ ≤ w.heap.size + 1 + 1; omega) _).setCell (by show _ ≤ w.heap.size + 1 + 1; omega) _).setCell (by show _ ≤ w.heap.size + 1 + 1; omega) _).setCell (by show _ ≤ w.heap.size + 1 + 1; omega) _
  · have h1 := HZ2.out
    have h2 := HG5.out
    have h3 := HS5.out
    intro w'' hs'' hk''
    simp only [World.size_setCell] at hs'' hk''
    refine ⟨_, _, rfl, HROW.out _ (by omega) (fun k k1 k2 k3 => ?_), ?_⟩
    · simp only [World.size_alloc] at k1
      have a1 : k ≠ w1.heap.size := by omega
      have a2 : k ≠ w.heap.size + 1 + 1 := by omega
      rw [hk'' k (by omega) (by omega)]
      exact (heap_setCell_other _ _ _ _ (by exact a2)).trans ((heap_setCell_other _ _ _ _ (by exact a2)).trans ((heap_setCell_other _ _ _ _ (by exact a2)).trans ((heap_setCell_other _ _ _ _ (by exact a2)).trans ((heap_setCell_other _ _ _ _ (by exact a1)).trans (HK5.out k k2 k3)))))
    · have HNA : ∀ k, Value.ownBlock (.slice (some ⟨g5, 0, none⟩) (t.ws.length + 1) cap5) = some k → k ≠ w.heap.size + 1 + 1 := fun k q => by simp [Value.ownBlock] at q; omega
      have HNB : ∀ k, Value.ownBlock (.slice (some ⟨g5, 0, none⟩) (t.ws.length + 1) cap5) = some k → k ≠ w1.heap.size := fun k q => by simp [Value.ownBlock] at q; omega
      have ho := ownsRow_set (ownsRow_set (ownsRow_set (ownsRow_set (ownsRow_set (p := ⟨w1.heap.size, 3, none⟩) (u := Value.slice (some ⟨g5, 0, none⟩) (t.ws.length + 1) cap5) HO5.out HNB) (p := ⟨w.heap.size + 1 + 1, 0, none⟩) (u := .int .i64 t.C) HNA) (p := ⟨w.heap.size + 1 + 1, 1, none⟩) (u := .int .i64 t.T) HNA) (p := ⟨w.heap.size + 1 + 1, 2, none⟩) (u := .slice oa t.op.length oc) HNA) (p := ⟨w.heap.size + 1 + 1, 3, none⟩) (u := Value.slice (some ⟨g5, 0, none⟩) (t.ws.length + 1) cap5) HNA
      have hl : (told t x).ws.length = t.ws.length + 1 := by simp [told]
      refine WordsAt.own (by rw [hl]; omega) ?_
      rw [hl, show (told t x).ws = t.ws ++ [x] from rfl, wordCells_told]
      exact ownsRow_keep ho (fun k q => hk'' k (by simp [Value.ownBlock] at q; omega) (by have := ownsRow_lt ho q; simpa using this))
end Go.Proofs.Ytkdcdhkhadhcfaa
