/-
  law: copied.
-/
import Derived.Test.YtoiajjdhgffdaaaAppend2
import Derived.Test.YtoiajjdhgffdaaaTruth
namespace Go.Proofs.Ytoiajjdhgffdaaa
open Go Go.RowKit
set_option maxHeartbeats 1000000
set_option maxRecDepth 100000
/-- A row of the call's own reads as ints in every world that differs elsewhere. -/
theorem Off.own {w : World} {v x : Value} {l : List Int} (hl : l.length ≤ 140737488355328) (hx : w.ownsRow 0 3 1 x l.length (l.map (Value.int .i64))) (hv : ∀ g, v.ownBlock = some g → x.ownBlock ≠ some g) : Off w v fun w' => IntsAt w' x l := by
  intro w' hs hk
  rcases hx.2 with ⟨rfl, e⟩ | ⟨g, cap, cur, rfl, _, hh, hnc, _⟩
  · exact ⟨none, 0, 0, 0, by rw [e], fun q => by omega, ⟨hl, by omega⟩, fun j hj => by omega⟩
  · refine ⟨some ⟨g, 0, none⟩, cap, g, 0, rfl, fun _ => rfl, ⟨hl, hnc⟩, fun j hj => ?_⟩
    have h1 := hx.cells (g := g) rfl j (.int .i64 (at0 l j)) (by unfold at0; simp [List.getD, hj])
    have e : ((⟨g, 0, none⟩ : Addr).add j) = ⟨g, 0 + j, none⟩ := by
      unfold Addr.add
      by_cases e : j = 0
      · rw [if_pos e, e]
      · rw [if_neg e]
    rw [e] at h1
    rw [← h1]
    exact World.cell?_of_block (hk g (lt_of_block hh) (fun q => hv g q.symm rfl))
structure LSt (l : List (List Int)) (w0 : World) (n : Nat) (V : Value) (wr : World) : Prop where
  own : ∃ vs, wr.ownsRow 0 42 1 V n vs ∧ ∀ j, j < n → Off wr V fun w' => IntsAt w' (vs.getD j undef) (atL (l.take n) j)
  far : ∀ g, V.ownBlock = some g → w0.heap.size ≤ g
  bel : Bel w0 wr
theorem LSt.start (l : List (List Int)) (w0 : World) : LSt l w0 0 (.slice none 0 0) w0 :=
  ⟨⟨[], World.ownsRow_nil w0 0 _ 1, fun j hj => by omega⟩, fun g h => by simp [Value.ownBlock] at h, Bel.refl _⟩
theorem LSt.next {l : List (List Int)} {w0 wr wa w' : World} {n : Nat} {V V' x : Value} {vs : List Value} (hn : n < l.length) (hown : wr.ownsRow 0 42 1 V n vs)
    (hoff : ∀ j, j < n → Off wr V fun w' => IntsAt w' (vs.getD j undef) (atL (l.take n) j)) (hfar : ∀ g, V.ownBlock = some g → w0.heap.size ≤ g) (h0 : Bel w0 wr)
    (hb : Bel wr wa) (hx : Off wa V fun w' => IntsAt w' x (atL l n))
    (ho : w'.ownsRow 0 42 1 V' (n + 1) (vs ++ [x])) (hg : wa.grownBy w' V.ownBlock) (hv : V'.ownBlock = V.ownBlock ∨ V'.ownBlock = some wa.heap.size) :
    LSt l w0 (n + 1) V' w' := by
  have hl : (l.take n).length = n := by simp; omega
  have ht : l.take (n + 1) = l.take n ++ [atL l n] := by rw [List.take_add_one]; unfold atL; simp [List.getD, List.getElem?_eq_getElem hn]
  have key := OwnRows.add (w := wa) (w' := w') (v := V) (v' := V') (rows := l.take n) (row := atL l n) (vs := vs) (by rw [hl]; exact ownsRow_bel hown hb)
    (fun j hj => (hoff j (by rw [hl] at hj; exact hj)).bel hb) hx (by rw [hl]; exact ho) hg hv
  rw [← ht] at key
  obtain ⟨vs2, k1, k2⟩ := key
  have hl2 : (l.take (n + 1)).length = n + 1 := by simp; omega
  rw [hl2] at k1 k2
  refine ⟨⟨vs2, k1, k2⟩, fun g q => ?_, (h0.trans hb).grown hg hfar⟩
  rcases hv with e | e
  · exact hfar g (by rw [← e]; exact q)
  · rw [e] at q; injection q with q; have := h0.szle; have := hb.szle; omega
theorem LSt.rows {l : List (List Int)} {w0 wr : World} {V : Value} (hl : l.length ≤ 140737488355328) (h : LSt l w0 l.length V wr) : RowsAt wr V l := by
  obtain ⟨vs, h1, h2⟩ := h.own
  rw [List.take_length] at h2
  exact OwnRows.rows ⟨vs, h1, h2⟩ hl
theorem copied_any (v : Value) (l : List (List Int)) (w : World) (hv : RowsAt w v l) (h40 : l.length ≤ 40) (hr40 : ∀ i, i < l.length → (atL l i).length ≤ 40) :
    Calls Try.prog 63 #[v] w fun e w' => ∃ v', e = .returned v' ∧ Bel w w' ∧ RowsAt w' v' l := by
  obtain ⟨a, c, b, off, rv, rfl, ha, hlen, hc⟩ := hv
  obtain ⟨i1, hi1, hz1, hs1, hb1⟩ := info_parts mkInt
  obtain ⟨i2, hi2, hz2, hs2, hb2⟩ := info_parts mkInts
  have HI1 := Lib.hid hi1
  have HI2 := Lib.hid hi2
  have HZ1 := Lib.hid hz1
  have HZ2 := Lib.hid hz2
  clear hi1 hi2 hz1 hz2
  have hix := idxRows (c := c) ha
  have HC := Lib.hid hc
  have HR40 := Lib.hid hr40
  clear ha hc hr40
  go_enter Try.func63, Try.ntmps63
  go_wp2
  go_loopw [3, 4] (fun V i wr => ∃ n : Nat, n ≤ l.length ∧ i = .int .i64 n ∧ LSt l w n V wr) (fun _ i _ => l.length - (intOf i).toNat)
  case atStart => exact ⟨0, by omega, rfl, LSt.start l w⟩
  case round =>
    obtain ⟨n, hn, rfl, hR⟩ := hrel
    by_cases hlt : n < l.length
    · have hni : (n : Int) < (l.length : Int) := by omega
      obtain ⟨hci, hri⟩ := HC.out n hlt
      replace hci := hR.bel.cell hci
      replace hri := hri.bel hR.bel
      have hr := HR40.out n hlt
      obtain ⟨ai, ci, bi, offi, hrv, hai, hleni, hcells⟩ := hri
      rw [hrv] at hci
      clear hrv hleni
      have HAI := Lib.hid hai
      have HCE := Lib.hid hcells
      clear hai hcells
      have HR := Lib.hid hR
      clear hR
      have lb := cell_lt hci
      generalize hrow : atL l n = row at *
      have HROW := Lib.hid hrow
      clear hrow
      have hfresh : (wr.alloc (Obj.cells #[] 3)).ownsRow 0 3 1 (.slice (some ⟨wr.heap.size, 0, none⟩) 0 0) 0 [] :=
        ⟨rfl, .inr ⟨wr.heap.size, 0, #[], rfl, Nat.zero_le _, heap_alloc_new .., Nat.le_refl _, Nat.zero_le _, rfl, rfl⟩⟩
      have hsrc : 0 < row.length → ∃ ad, ai = some ad ∧ ∀ j u, (row.map (Value.int .i64))[j]? = some u → (wr.alloc (Obj.cells #[] 3)).cell? (ad.add j) = some u := fun h0 => ⟨_, HAI.out h0, fun j u hu => by
        have hj : j < row.length := by
          rcases Nat.lt_or_ge j row.length with q | q
          · exact q
          · rw [List.getElem?_eq_none (by simpa using q)] at hu; cases hu
        have e : ((⟨bi, offi, none⟩ : Addr).add j) = ⟨bi, offi + j, none⟩ := by
          unfold Addr.add
          by_cases e : j = 0
          · rw [if_pos e, e]; rfl
          · rw [if_neg e]
        have hu2 : u = .int .i64 (at0 row j) := by
          rw [List.getElem?_map, List.getElem?_eq_getElem hj] at hu
          simp at hu
          rw [← hu]; unfold at0; simp [List.getD, hj]
        rw [e, hu2]
        exact ((Bel.refl wr).alloc _).cell (HCE.out j hj)⟩
      have HFR := Lib.hid hfresh
      have HSR := Lib.hid hsrc
      clear hfresh hsrc
      go_wp2_with (at_builtin; refine wpList_append_opt rfl _ _ 42 rfl 3 i1 (.int .i64 0) 1 8 Try.underlying42 HI1.out HZ1.out hs1 hb1 rfl (by decide) _ 0 [] rfl HFR.out ai row.length ci (row.map (Value.int .i64)) rfl (by simp) HSR.out (fun x hx => by simp at hx; obtain ⟨q, _, rfl⟩ := hx; rfl) (by unfold maxLen; omega) (by omega) ?_)
      intro x w3 hown3 hgrow3 hwhere3
      have hB3 : Bel wr w3 := ((Bel.refl wr).alloc _).grown hgrow3 (fun k h => by simp [Value.ownBlock] at h; omega)
      obtain ⟨g, cap, rfl⟩ : ∃ g cap, x = .slice (some ⟨g, 0, none⟩) row.length cap := by
        rcases hown3.2 with ⟨rfl, _⟩ | ⟨g, cap, cur, rfl, _⟩
        · rcases hwhere3 with h | h <;> simp [Value.ownBlock] at h
        · exact ⟨g, cap, rfl⟩
      obtain ⟨vs, hown, hoff⟩ := HR.out.own
      have hownb := (ownsRow_bel hown hB3).alloc
      have HOWN := Lib.hid hown
      have HOFF := Lib.hid hoff
      have HB3 := Lib.hid hB3
      have HX3 : Hid (w3.ownsRow 0 3 1 (.slice (some ⟨g, 0, none⟩) row.length cap) row.length (row.map (Value.int .i64))) := Lib.hid (by simpa using hown3)
      have HW3 := Lib.hid (show wr.heap.size ≤ g by
        rcases hwhere3 with h | h
        · simp [Value.ownBlock] at h; omega
        · simp [Value.ownBlock] at h; omega)
      clear hown hoff hB3 hown3 hgrow3 hwhere3 HFR HSR HAI HCE hci lb
      go_wp2_with (at_builtin; refine wpList_append_where rfl _ _ 22 rfl 42 i2 (.slice none 0 0) 1 24 Try.underlying22 HI2.out HZ2.out hs2 hb2 rfl (by decide) _ n vs rfl (hownb _) ⟨w3.heap.size, 0, none⟩ 1 1 [.slice (some ⟨g, 0, none⟩) row.length cap] rfl rfl (cell_one_new _ _ _) (fun y hy => by simp at hy; subst hy; rfl) (by unfold maxLen; omega) (by omega) ?_)
      intro V' w5 hown5 hgrow5 hwhere5
      have HRN := Lib.hid (LSt.next (x := .slice (some ⟨g, 0, none⟩) row.length cap) (wa := w3.alloc _) hlt HOWN.out HOFF.out HR.out.far HR.out.bel (HB3.out.alloc _) (by
        rw [HROW.out]
        refine Off.own (by omega) (ownsRow_bel HX3.out ((Bel.refl w3).alloc _)) (fun k q e => ?_)
        have h1 := ownsRow_lt HOWN.out q
        have h2 := HW3.out
        simp [Value.ownBlock] at e
        omega) hown5 hgrow5 (by rw [World.size_alloc]; exact hwhere5))
      clear hown5 hgrow5 hwhere5
      go_wp2
      go_roundw
      case rel => exact ⟨n + 1, by omega, by go_num, HRN.out⟩
      case measure => simp [intOf]; omega
    · have hnT : n = l.length := by omega
      subst hnT
      have HRR := Lib.hid (hR.rows (by omega))
      have HB := Lib.hid hR.bel
      clear hR
      go_wp2
      go_ret
      exact ⟨_, rfl, HB.out, HRR.out⟩
end Go.Proofs.Ytoiajjdhgffdaaa
