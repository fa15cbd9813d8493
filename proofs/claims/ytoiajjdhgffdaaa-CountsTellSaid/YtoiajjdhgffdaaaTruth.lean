/-
  counts: Truth.
-/
import Derived.Test.YtoiajjdhgffdaaaOpen2
import Derived.Test.YtoiajjdhgffdaaaAppend
import Derived.OwnWalk
namespace Go.Proofs.Ytoiajjdhgffdaaa
open Go Go.RowKit
set_option maxHeartbeats 1000000
set_option maxRecDepth 100000
theorem mkInt : (Try.prog.info? 3).map (fun i => (i.zero, i.size, i.bytes)) = some (some (.int .i64 0), 1, 8) := by kernel_rfl
theorem mkInts : (Try.prog.info? 42).map (fun i => (i.zero, i.size, i.bytes)) = some (some (.slice none 0 0), 1, 24) := by kernel_rfl
/-! Laws of memory -/
theorem Bel.grown {a w w' : World} {r : Option Nat} (h : Bel a w) (hg : w.grownBy w' r) (hr : ∀ k, r = some k → a.heap.size ≤ k) : Bel a w' :=
  ⟨hg.os.trans h.os, hg.tape.trans h.tape, hg.output.trans h.output, Nat.le_trans h.size hg.size, fun k hk => by
    rw [hg.block k (Nat.lt_of_lt_of_le hk h.size) (fun q => by have := hr k q.symm; omega)]; exact h.block k hk⟩
theorem ownsRow_bel {w w' : World} {e : TypeId} {s n : Nat} {v : Value} {xs : List Value} (h : w.ownsRow 0 e s v n xs) (k : Bel w w') : w'.ownsRow 0 e s v n xs := by
  obtain ⟨h1, h2⟩ := h
  refine ⟨h1, ?_⟩
  rcases h2 with h2 | ⟨g, cap, cur, hv, hg, hh, r⟩
  · exact Or.inl h2
  · exact Or.inr ⟨g, cap, cur, hv, hg, by rw [k.below.block g (lt_of_block hh)]; exact hh, r⟩
theorem ownsRow_lt {w : World} {e : TypeId} {s n : Nat} {v : Value} {xs : List Value} (h : w.ownsRow 0 e s v n xs) {g : Nat} (hg : v.ownBlock = some g) : g < w.heap.size := by
  rcases h.2 with ⟨rfl, _⟩ | ⟨g2, cap, cur, rfl, _, hh, _⟩
  · simp [Value.ownBlock] at hg
  · simp [Value.ownBlock] at hg
    rw [← hg]; exact lt_of_block hh
/-- What does not lie in the own block stays. -/
theorem Off.ints {w : World} {v x : Value} {l : List Int} {b : Nat} (hl : l.length ≤ 140737488355328) (hx : x = .slice (some ⟨b, 0, none⟩) l.length l.length)
    (hc : ∀ j, j < l.length → w.cell? ⟨b, j, none⟩ = some (.int .i64 (at0 l j))) (hb : b < w.heap.size) (hv : ∀ g, v.ownBlock = some g → g ≠ b) : Off w v fun w' => IntsAt w' x l := by
  intro w' hs hk
  refine ⟨some ⟨b, 0, none⟩, l.length, b, 0, hx, fun _ => rfl, ⟨hl, Nat.le_refl _⟩, fun j hj => ?_⟩
  rw [Nat.zero_add, ← hc j hj]
  exact World.cell?_of_block (hk b hb (fun q => hv b q.symm rfl))
/-- A row of which the first k are written. -/
structure Part (w : World) (rb n k : Nat) (f : Nat → Int) : Prop where
  done : ∀ j, j < k → w.cell? ⟨rb, j, none⟩ = some (.int .i64 (f j))
  there : ∀ j, j < n → ∃ u, w.cell? ⟨rb, j, none⟩ = some u
  fz : ∀ o, w.frozen? ⟨rb, o, none⟩ = false
  lt : rb < w.heap.size
theorem Part.bel {w w' : World} {rb n k : Nat} {f : Nat → Int} (h : Part w rb n k f) (q : Bel w w') : Part w' rb n k f :=
  ⟨fun j hj => q.cell (h.done j hj), fun j hj => by obtain ⟨u, hu⟩ := h.there j hj; exact ⟨u, q.cell hu⟩, fun o => by rw [q.frozens _ h.lt]; exact h.fz o, Nat.lt_of_lt_of_le h.lt q.szle⟩
theorem Part.step {w : World} {rb n k : Nat} {f : Nat → Int} (h : Part w rb n k f) (hk : k < n) : Part (w.setCell ⟨rb, k, none⟩ (.int .i64 (f k))) rb n (k + 1) f := by
  refine ⟨fun j hj => ?_, fun j hj => ?_, fun o => by rw [World.frozen?_setCell]; exact h.fz o, by simpa using h.lt⟩
  · by_cases e : j = k
    · obtain ⟨u, hu⟩ := h.there k hk
      rw [e]; exact World.cell?_setCell_same _ _ _ (by rw [hu])
    · rw [World.cell?_setCell_other _ _ _ _ (by intro q; injection q; omega)]
      exact h.done j (by omega)
  · by_cases e : j = k
    · obtain ⟨u, hu⟩ := h.there k hk
      rw [e]; exact ⟨_, World.cell?_setCell_same _ _ _ (by rw [hu])⟩
    · rw [World.cell?_setCell_other _ _ _ _ (by intro q; injection q; omega)]
      exact h.there j hj
theorem Part.made {w : World} {rb n : Nat} {xs : List Value} {f : Nat → Int} (h : w.ownsRow 0 3 1 (.slice (some ⟨rb, 0, none⟩) n n) n xs) : Part w rb n 0 f := by
  have hl := h.1
  rcases h.2 with ⟨e, _⟩ | ⟨g, cap, cur, e, _, hh, hn, _, hcs, _⟩
  · cases e
  · injection e with e1 e2 e3
    injection e1 with e1
    injection e1 with e1
    subst e1
    refine ⟨fun j hj => by omega, fun j hj => ⟨cur[j]'(by omega), ?_⟩, fun o => ?_, lt_of_block hh⟩
    · simp [World.cell?, hh, Array.getElem?_eq_getElem (show j < cur.size by omega)]
    · simp [World.frozen?, hh]
/-! What Truth computes -/
def truthAt (t : CT) (i c : Nat) : Int := -(setMat t (-1) (nd t.C i c) 0) + setMat t (-1) (nd t.C i ((c : Int) + 1)) 0
def truthRow (t : CT) (i : Nat) : List Int := (List.range t.C.toNat).map (truthAt t i)
def truthTo (t : CT) (n : Nat) : List (List Int) := (List.range n).map (truthRow t)
def truthRows (t : CT) : List (List Int) := truthTo t t.T.toNat
theorem truthTo_succ (t : CT) (n : Nat) : truthTo t (n + 1) = truthTo t n ++ [truthRow t n] := by unfold truthTo; simp [List.range_succ]
theorem truthTo_len (t : CT) (n : Nat) : (truthTo t n).length = n := by unfold truthTo; simp
theorem truthRow_len (t : CT) (n : Nat) : (truthRow t n).length = t.C.toNat := by unfold truthRow; simp
theorem truthRow_at (t : CT) (n j : Nat) (h : j < t.C.toNat) : at0 (truthRow t n) j = truthAt t n j := by unfold truthRow at0; simp [List.getD, h]
def TruthPost (t : CT) (w : World) (e : Ending) (w' : World) : Prop :=
  (errR t true ≠ 0 ∧ e = .returned (.tuple #[.slice none 0 0, .int .i64 (errR t true)]) ∧ Bel w w') ∨
  (errR t true = 0 ∧ ∃ v, e = .returned (.tuple #[v, .int .i64 0]) ∧ RowsAt w' v (truthRows t) ∧ Bel w w')
/-- Between the rounds. -/
structure RowsSt (t : CT) (w0 : World) (n : Nat) (V : Value) (wr : World) : Prop where
  own : ∃ vs, wr.ownsRow 0 42 1 V n vs ∧ ∀ j, j < n → Off wr V fun w' => IntsAt w' (vs.getD j undef) (atL (truthTo t n) j)
  far : ∀ g, V.ownBlock = some g → w0.heap.size ≤ g
  bel : Bel w0 wr
theorem RowsSt.start (t : CT) (w0 : World) : RowsSt t w0 0 (.slice none 0 0) w0 :=
  ⟨⟨[], World.ownsRow_nil w0 0 _ 1, fun j hj => by omega⟩, fun g h => by simp [Value.ownBlock] at h, Bel.refl _⟩
theorem RowsSt.next {t : CT} {w0 wr wa w' : World} {n rb : Nat} {V V' : Value} {vs : List Value} (hown : wr.ownsRow 0 42 1 V n vs)
    (hoff : ∀ j, j < n → Off wr V fun w' => IntsAt w' (vs.getD j undef) (atL (truthTo t n) j)) (hfar : ∀ g, V.ownBlock = some g → w0.heap.size ≤ g) (h0 : Bel w0 wr)
    (hb : Bel wr wa) (hrb : wr.heap.size ≤ rb) (hC : t.C ≤ 4) (hP : Part wa rb t.C.toNat t.C.toNat (truthAt t n))
    (ho : w'.ownsRow 0 42 1 V' (n + 1) (vs ++ [.slice (some ⟨rb, 0, none⟩) t.C.toNat t.C.toNat])) (hg : wa.grownBy w' V.ownBlock) (hv : V'.ownBlock = V.ownBlock ∨ V'.ownBlock = some wa.heap.size) :
    RowsSt t w0 (n + 1) V' w' := by
  have hl := truthTo_len t n
  have hx : Off wa V fun w' => IntsAt w' (.slice (some ⟨rb, 0, none⟩) t.C.toNat t.C.toNat) (truthRow t n) := by
    refine Off.ints (b := rb) (by rw [truthRow_len]; omega) (by rw [truthRow_len]) (fun j hj => ?_) hP.lt (fun g q => by have := ownsRow_lt hown q; omega)
    rw [truthRow_len] at hj
    rw [truthRow_at t n j hj]; exact hP.done j hj
  have key := OwnRows.add (w := wa) (w' := w') (v := V) (v' := V') (rows := truthTo t n) (row := truthRow t n) (vs := vs) (by rw [hl]; exact ownsRow_bel hown hb)
    (fun j hj => (hoff j (by rw [hl] at hj; exact hj)).bel hb) hx (by rw [hl]; exact ho) hg hv
  rw [← truthTo_succ] at key
  obtain ⟨vs2, k1, k2⟩ := key
  rw [truthTo_len] at k1 k2
  refine ⟨⟨vs2, k1, k2⟩, fun g q => ?_, (h0.trans hb).grown hg hfar⟩
  rcases hv with e | e
  · exact hfar g (by rw [← e]; exact q)
  · rw [e] at q; injection q with q; have := h0.szle; have := hb.szle; omega
theorem RowsSt.rows {t : CT} {w0 wr : World} {V : Value} (hT : t.T ≤ 5) (h : RowsSt t w0 t.T.toNat V wr) : RowsAt wr V (truthRows t) := by
  obtain ⟨vs, h1, h2⟩ := h.own
  have hl : (truthRows t).length = t.T.toNat := truthTo_len t _
  exact OwnRows.rows ⟨vs, by rw [hl]; exact h1, fun j hj => h2 j (by rw [hl] at hj; exact hj)⟩ (by rw [hl]; omega)
theorem Truth_any (t : CT) (v : Value) (w : World) (hv : TrapAt w v t) : Calls Try.prog 20 #[v] w (TruthPost t w) := by
  have HV := Lib.hid hv
  obtain ⟨ov, wv, rfl, hrows, hwords⟩ := hv
  clear hrows hwords
  by_cases he : errR t true = 0
  · have HE := Lib.hid he
    obtain ⟨hex, hf⟩ := errR_exact he
    obtain ⟨f1, f2, f3, f4, _, _⟩ := hf
    have hS := hex.safe
    clear hex he
    have HP := Lib.hid (fun wz hz => open_ok t ov wv true wz hz HE.out)
    have HTA := Lib.hid (fun i c => (show truthAt t i c = -(setMat t (-1) (nd t.C i c) 0) + setMat t (-1) (nd t.C i ((c : Int) + 1)) 0 from rfl))
    obtain ⟨i1, hi1, hz1, hs1, hb1⟩ := info_parts mkInt
    obtain ⟨i2, hi2, hz2, hs2, hb2⟩ := info_parts mkInts
    have HI1 := Lib.hid hi1
    have HI2 := Lib.hid hi2
    have HZ1 := Lib.hid hz1
    have HZ2 := Lib.hid hz2
    clear hi1 hi2 hz1 hz2
    have HNC := Lib.hid (show t.C = ((t.C.toNat : Nat) : Int) by omega)
    go_enter Try.func20, Try.ntmps20
    go_wp2_with fail
    refine (HP.out _ (HV.out.bel (by repeat (first | assumption | exact Bel.refl _ | refine Bel.drew ?_ | refine Bel.drewN ?_ _ | refine Bel.alloc ?_ _ | refine Bel.setCell ?_ (by simp <;> omega) _ | refine Bel.trans ?_ (by assumption))))).mono ?_
    rintro e w1 ⟨tb, rfl, htb, hT, hb⟩
    have HW1 := Lib.hid (show Bel w w1 from (Bel.refl w |>.alloc _).trans hb)
    have zw : w.heap.size + 1 ≤ w1.heap.size := by have := hb.szle; simpa using this
    clear hb
    have c1 := hT.c1
    go_wp2
    clear c1
    go_loopw [6, 23] (fun V i wr => ∃ n : Nat, n ≤ t.T.toNat ∧ i = .int .i64 n ∧ RowsSt t w1 n V wr) (fun _ i _ => t.T.toNat - (intOf i).toNat)
    case atStart => exact ⟨0, by omega, rfl, RowsSt.start t w1⟩
    case round =>
      obtain ⟨n, hn, rfl, hR⟩ := hrel
      have hTr := hT.bel hR.bel
      have zr := hR.bel.szle
      have c0 := hTr.c0
      have c1 := hTr.c1
      by_cases hlt : n < t.T.toNat
      · have hni : (n : Int) < t.T := by omega
        go_wp2_with (at_make; refine wpList_make_full _ rfl _ _ 42 rfl 0 3 i1 (.int .i64 0) 1 Try.underlying42 HI1.out HZ1.out hs1 .i64 .i64 t.C t.C t.C.toNat rfl rfl HNC.out HNC.out (by rw [hb1]; omega) (by unfold maxLen; omega) (Nat.zero_le _) ?_)
        intro w2 hown2 hgrow2
        have hP2 : Part w2 wr.heap.size t.C.toNat 0 (truthAt t n) := Part.made hown2
        have hB2 : Bel wr w2 := (Bel.refl wr).grown hgrow2 (fun k h => by cases h)
        clear hown2 hgrow2
        generalize hrb : wr.heap.size = rb at *
        have hix := idxInts (c := t.C.toNat) (n := t.C.toNat) (b := rb) (off := 0) (a := some ⟨rb, 0, none⟩) (fun _ => rfl)
        go_wp2
        go_loopw [34] (fun i' wi => ∃ k : Nat, k ≤ t.C.toNat ∧ i' = .int .i64 k ∧ Bel wr wi ∧ Part wi rb t.C.toNat k (truthAt t n)) (fun i' _ => t.C.toNat - (intOf i').toNat)
        case atStart => exact ⟨0, by omega, rfl, hB2, hP2⟩
        case round =>
          obtain ⟨k, hk, rfl, hB, hP⟩ := hrel
          by_cases hltk : k < t.C.toNat
          · have hki : (k : Int) < t.C := by omega
            have hki2 : (k : Int) < ((t.C.toNat : Nat) : Int) := by omega
            have hTk := hTr.bel hB
            have zi := hP.lt
            have n0 : (0 : Nat) < 21 := by omega
            have n1 := (nd_val (C := t.C) (time := n) (chamber := k) (by omega) (by omega) (by omega) (by omega) f2).1
            have n2 := (nd_val (C := t.C) (time := n) (chamber := k + 1) (by omega) (by omega) (by omega) (by omega) f2).1
            obtain ⟨b1, b2⟩ := hS (nd t.C n k) 0
            obtain ⟨b3, b4⟩ := hS (nd t.C n (k + 1)) 0
            have hTAk := Lib.hid (HTA.out n k)
            go_wp2
            refine wp_region_mixTB (Plan.seq [0, 1, 2, 3, 4, 5, 6, 7, 11, 12, 13, 14, 15, 16, 17, 1008, 1009, 10, 1018, 1019, 20, 21, 22] .nil) (by kernel_rfl) (by kernel_rfl) (fun hcur => ?_)
            simp only [Plan.seq, Plan.fill, List.getD_cons_zero, List.getD_cons_succ, Nat.reduceLT, ↓reduceIte, Nat.reduceSub]
            apply mix_pure _ rfl
            · intro w' hw'
              have hcr := hw'.cells
              go_simp
              rfl
            intro K hK
            go_simp
            refine hK _ ?_
            clear hK K
            apply mix_pure _ rfl
            · intro w' hw'
              have hcr := hw'.cells
              go_simp
              rfl
            intro K hK
            go_simp
            refine hK _ ?_
            clear hK K
            apply mix_pure _ rfl
            · intro w' hw'
              have hcr := hw'.cells
              go_simp
              rfl
            intro K hK
            go_simp
            refine hK _ ?_
            clear hK K
            apply mix_pure _ rfl
            · intro w' hw'
              have hcr := hw'.cells
              go_simp
              rfl
            intro K hK
            go_simp
            refine hK _ ?_
            clear hK K
            apply mix_pure _ rfl
            · intro w' hw'
              have hcr := hw'.cells
              go_simp
              rfl
            intro K hK
            go_simp
            refine hK _ ?_
            clear hK K
            apply mix_pure _ rfl
            · intro w' hw'
              have hcr := hw'.cells
              go_simp
              rfl
            intro K hK
            go_simp
            refine hK _ ?_
            clear hK K
            apply mix_pure _ rfl
            · intro w' hw'
              have hcr := hw'.cells
              go_simp
              rfl
            intro K hK
            go_simp
            refine hK _ ?_
            clear hK K
            apply mix_pure _ rfl
            · intro w' hw'
              have hcr := hw'.cells
              go_simp
              rfl
            intro K hK
            go_simp
            refine hK _ ?_
            clear hK K
            apply mix_pure _ rfl
            · intro w' hw'
              have hcr := hw'.cells
              go_simp
              rfl
            intro K hK
            go_simp
            refine hK _ ?_
            clear hK K
            apply mix_pure _ rfl
            · intro w' hw'
              have hcr := hw'.cells
              go_simp
              rfl
            intro K hK
            go_simp
            refine hK _ ?_
            clear hK K
            apply mix_pure _ rfl
            · intro w' hw'
              have hcr := hw'.cells
              go_simp
              rfl
            intro K hK
            go_simp
            refine hK _ ?_
            clear hK K
            apply mix_pure _ rfl
            · intro w' hw'
              have hcr := hw'.cells
              go_simp
              rfl
            intro K hK
            go_simp
            refine hK _ ?_
            clear hK K
            apply mix_pure _ rfl
            · intro w' hw'
              have hcr := hw'.cells
              go_simp
              rfl
            intro K hK
            go_simp
            refine hK _ ?_
            clear hK K
            apply mix_pure _ rfl
            · intro w' hw'
              have hcr := hw'.cells
              go_simp
              rfl
            intro K hK
            go_simp
            refine hK _ ?_
            clear hK K
            apply mix_pure _ rfl
            · intro w' hw'
              have hcr := hw'.cells
              go_simp
              first | (rw [IntWalk.i64_in]; all_goals first | omega | rfl) | rfl
            intro K hK
            go_simp
            refine hK _ ?_
            clear hK K
            refine mix_act rfl (fun K hK => ?_)
            go_simp
            refine (node_any _ _ _ _ _ _ _ _ _ (by first | assumption | exact TrapP.bel ‹_› (by repeat (first | assumption | exact Bel.refl _ | refine Bel.drew ?_ | refine Bel.drewN ?_ _ | refine Bel.alloc ?_ _ | refine Bel.setCell ?_ (by simp <;> omega) _ | refine Bel.trans ?_ (by assumption)))) (by omega) (by omega) (by omega) (by omega) (by omega)).mono ?_
            rintro e w' ⟨rfl, rfl⟩
            simp only []
            refine hK _ _ hcur (fun hcur => ?_)
            clear hK K
            refine mix_act rfl (fun K hK => ?_)
            go_simp
            refine (between_any _ _ _ _ _ _ (by assumption) (by assumption) ‹Safe _› (by first | assumption | exact MatAt.bel (TrapP.mat ‹_›) (by repeat (first | assumption | exact Bel.refl _ | refine Bel.drew ?_ | refine Bel.drewN ?_ _ | refine Bel.alloc ?_ _ | refine Bel.setCell ?_ (by simp <;> omega) _ | refine Bel.trans ?_ (by assumption))))).mono ?_
            rintro e w' ⟨rfl, hb⟩
            have hcr := hb.cells
            have hfr := hb.frozens
            have hz := hb.szle
            (try simp only [World.size_drew] at hz)
            have z0 : w.heap.size < w'.heap.size := (by omega)
            simp only []
            refine hK _ _ (hcur.trans hb) (fun hcur => ?_)
            clear hK K
            apply mix_pure _ rfl
            · intro w' hw'
              have hcr := hw'.cells
              go_simp
              rfl
            intro K hK
            go_simp
            refine hK _ ?_
            clear hK K
            refine mix_act rfl (fun K hK => ?_)
            go_simp
            refine (node_any _ _ _ _ _ _ _ _ _ (by first | assumption | exact TrapP.bel ‹_› (by repeat (first | assumption | exact Bel.refl _ | refine Bel.drew ?_ | refine Bel.drewN ?_ _ | refine Bel.alloc ?_ _ | refine Bel.setCell ?_ (by simp <;> omega) _ | refine Bel.trans ?_ (by assumption)))) (by omega) (by omega) (by omega) (by omega) (by omega)).mono ?_
            rintro e w' ⟨rfl, rfl⟩
            simp only []
            refine hK _ _ hcur (fun hcur => ?_)
            clear hK K
            refine mix_act rfl (fun K hK => ?_)
            go_simp
            refine (between_any _ _ _ _ _ _ (by assumption) (by assumption) ‹Safe _› (by first | assumption | exact MatAt.bel (TrapP.mat ‹_›) (by repeat (first | assumption | exact Bel.refl _ | refine Bel.drew ?_ | refine Bel.drewN ?_ _ | refine Bel.alloc ?_ _ | refine Bel.setCell ?_ (by simp <;> omega) _ | refine Bel.trans ?_ (by assumption))))).mono ?_
            rintro e w' ⟨rfl, hb⟩
            have hcr := hb.cells
            have hfr := hb.frozens
            have hz := hb.szle
            (try simp only [World.size_alloc, World.size_drew, World.size_setCell, World.heap_drewN] at hz)
            have z0 : w.heap.size < w'.heap.size := (by omega)
            simp only []
            refine hK _ _ (hcur.trans hb) (fun hcur => ?_)
            clear hK K
            apply mix_pure _ rfl
            · intro w' hw'
              have hcr := hw'.cells
              go_simp
              rfl
            intro K hK
            go_simp
            refine hK _ ?_
            clear hK K
            apply mix_pure _ rfl
            · intro w' hw'
              have hcr := hw'.cells
              go_simp
              first | (rw [IntWalk.i64_in]; all_goals first | omega | rfl) | rfl
            intro K hK
            go_simp
            refine hK _ ?_
            clear hK K
            apply mix_pure _ rfl
            · intro w' hw'
              have hcr := hw'.cells
              go_simp
              rfl
            intro K hK
            go_simp
            refine hK _ ?_
            clear hK K
            refine mix_tailK rfl (fun K hK => ?_)
            obtain ⟨u, hu⟩ := (hP.bel hcur).there k hltk
            have hfz := (hP.bel hcur).fz k
            have HPk := Lib.hid (hTAk.out ▸ (hP.bel hcur).step hltk)
            have hfin := hcur
            go_simp
            refine hK _ _ ?_
            clear hK K
            have HBK := Lib.hid ((hB.trans hfin).setCell (p := ⟨rb, k, none⟩) (by show _ ≤ rb; omega) (.int .i64 (-(setMat t (-1) (nd t.C n k) 0) + setMat t (-1) (nd t.C n ((k : Int) + 1)) 0)))
            clear hfin hu hfz hcur hB hP hTk
            go_wp2
            go_roundw
            case rel => exact ⟨k + 1, by omega, by go_num, HBK.out, HPk.out⟩
            case measure => simp [intOf]; omega
          · have hkC : k = t.C.toNat := by omega
            subst hkC
            obtain ⟨vs, hown, hoff⟩ := hR.own
            have HOWN := Lib.hid hown
            have HOFF := Lib.hid hoff
            have HR := Lib.hid hR
            have HBB := Lib.hid hB
            have HPP := Lib.hid hP
            have hownb := (ownsRow_bel hown hB).alloc
            clear hown hoff hR hB hP
            go_wp2_with (at_builtin; refine wpList_append_where rfl _ _ 22 rfl 42 i2 (.slice none 0 0) 1 24 Try.underlying22 HI2.out HZ2.out hs2 hb2 rfl (by decide) _ n vs rfl (hownb _) ⟨wr.heap.size, 0, none⟩ 1 1 [.slice (some ⟨rb, 0, none⟩) t.C.toNat t.C.toNat] rfl rfl (cell_one_new _ _ _) (fun x hx => by simp at hx; subst hx; rfl) (by unfold maxLen; omega) (by omega) ?_)
            intro V' w3 hown3 hgrow3 hwhere
            have HRN := Lib.hid (RowsSt.next (wa := wr.alloc _) HOWN.out HOFF.out HR.out.far HR.out.bel (HBB.out.alloc _) (by omega) f2 (HPP.out.bel ((Bel.refl wr).alloc _)) hown3 hgrow3 (by rw [World.size_alloc]; exact hwhere))
            clear hown3 hgrow3 hwhere
            go_wp2
            go_roundw
            case rel => exact ⟨n + 1, by omega, by go_num, HRN.out⟩
            case measure => simp [intOf]; omega
      · have hnT : n = t.T.toNat := by omega
        subst hnT
        have HR := Lib.hid (hR.rows f4)
        have HB := Lib.hid (HW1.out.trans hR.bel)
        clear hR hTr c0
        go_wp2
        exact bodyPost_ret (v := .tuple #[u6, .int .i64 0]) (by simp [results, Try.results20, go_sem, *]) rfl (.inr ⟨HE.out, _, rfl, HR.out, HB.out⟩)
  · have hne : (errR t true != 0) = true := by rw [bne_iff_ne]; exact he
    have HE := Lib.hid he
    have HP := Lib.hid (fun wz hz => open_err t ov wv true wz hz HE.out)
    clear he
    go_enter Try.func20, Try.ntmps20
    go_wp2_with fail
    refine (HP.out _ (HV.out.bel (by repeat (first | assumption | exact Bel.refl _ | refine Bel.drew ?_ | refine Bel.drewN ?_ _ | refine Bel.alloc ?_ _ | refine Bel.setCell ?_ (by simp <;> omega) _ | refine Bel.trans ?_ (by assumption))))).mono ?_
    rintro e w1 ⟨rfl, hb⟩
    have HW1 := Lib.hid (show Bel w w1 from (Bel.refl w |>.alloc _).trans hb)
    clear hb
    go_wp2
    exact bodyPost_ret (v := .tuple #[.slice none 0 0, .int .i64 (errR t true)]) (by simp [results, Try.results20, go_sem, *]) rfl (.inl ⟨HE.out, rfl, HW1.out⟩)
end Go.Proofs.Ytoiajjdhgffdaaa
