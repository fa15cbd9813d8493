/-
  beasts: the steps of a belief, one by one: the iterator's contract.
-/
import Derived.Test.YtogiidkofddhaaaDoorBWith
import Derived.Test.YtogiidkofddhaaaDoorBR
namespace Go.Proofs.YtogiidkofddhaaaDoor
open Go Go.RowKit Go.Shelf
attribute [local go_sem] Oper.semAt_some
set_option maxHeartbeats 8000000
set_option maxRecDepth 100000
theorem dTo_pre {b : BT} {m : Nat} : ∀ (j k : Nat), ∃ post, dTo b m (k + j) = dTo b m k ++ post
  | 0, k => ⟨[], by simp⟩
  | j + 1, k => by
    obtain ⟨post, h⟩ := dTo_pre (b := b) (m := m) j k
    exact ⟨post ++ [(⟨1, ((k + j : Nat) : Int)⟩, [mvB (atD b.doors (k + j)) m])], by rw [show dTo b m (k + (j + 1)) = dTo b m (k + j) ++ [(⟨1, ((k + j : Nat) : Int)⟩, [mvB (atD b.doors (k + j)) m])] from rfl, h, List.append_assoc]⟩
theorem lTo_pre {b : BT} {m : Nat} : ∀ (j k : Nat), ∃ post, lTo b m (k + j) = lTo b m k ++ post
  | 0, k => ⟨[], by simp⟩
  | j + 1, k => by
    obtain ⟨post, h⟩ := lTo_pre (b := b) (m := m) j k
    have e : lTo b m (k + (j + 1)) = if splits m (at0 b.seen (k + j)) then lTo b m (k + j) ++ [lStep m (at0 b.seen (k + j))] else lTo b m (k + j) := rfl
    by_cases hs : splits m (at0 b.seen (k + j)) = true
    · exact ⟨post ++ [lStep m (at0 b.seen (k + j))], by rw [e, if_pos hs, h, List.append_assoc]⟩
    · exact ⟨post, by rw [e, if_neg hs, h]⟩
theorem lTo_yes {b : BT} {m k : Nat} (h : splits m (at0 b.seen k) = true) : lTo b m (k + 1) = lTo b m k ++ [lStep m (at0 b.seen k)] := by show (if _ then _ else _) = _; rw [if_pos h]
theorem lTo_no {b : BT} {m k : Nat} (h : splits m (at0 b.seen k) = false) : lTo b m (k + 1) = lTo b m k := by show (if _ then _ else _) = _; rw [if_neg (by simp [h])]
theorem door_pre {b : BT} {looks : Bool} {m k : Nat} (h : k < b.doors.length) : ∃ post, stepsOf b looks m = dTo b m k ++ (⟨1, (k : Int)⟩, [mvB (atD b.doors k) m]) :: post := by
  obtain ⟨j, hj⟩ := Nat.le.dest (show k + 1 ≤ b.doors.length from h)
  obtain ⟨post, hp⟩ := dTo_pre (b := b) (m := m) j (k + 1)
  rw [hj] at hp
  unfold stepsOf
  rw [hp]
  exact ⟨post ++ _, by show (dTo b m k ++ [_]) ++ post ++ _ = _; rw [List.append_assoc, List.append_assoc]; rfl⟩
theorem look_pre {b : BT} {m k : Nat} (h : k < b.seen.length) (hs : splits m (at0 b.seen k) = true) : ∃ post, stepsOf b true m = (dTo b m b.doors.length ++ lTo b m k) ++ lStep m (at0 b.seen k) :: post := by
  obtain ⟨j, hj⟩ := Nat.le.dest (show k + 1 ≤ b.seen.length from h)
  obtain ⟨post, hp⟩ := lTo_pre (b := b) (m := m) j (k + 1)
  rw [hj, lTo_yes hs] at hp
  unfold stepsOf
  rw [if_pos rfl, hp]
  exact ⟨post, by simp⟩
/-- How a step and what it leaves are handed over. -/
def StepAt (z : Nat) (x : BS × List Nat) (vs : Array Value) (W : World) : Prop := ∃ nv, vs = #[.agg #[.int .i64 x.1.k, .int .i64 x.1.x], nv] ∧ BelsAt W nv x.2 ∧ ∀ a n c, nv = .slice (some a) n c → z ≤ a.block
theorem bels_one {w : World} {m : Nat} {T : TypeId} : BelsAt (w.alloc (.cells #[.int .u8 (m : Int)] T)) (.slice (some ⟨w.heap.size, 0, none⟩) 1 1) [m] :=
  ⟨_, 1, w.heap.size, 0, rfl, fun _ => rfl, by simp, fun i hi => by
    have : i = 0 := by simp at hi; omega
    subst this
    exact (row_facts (new_row rfl)).1 0⟩
theorem bels_two {w : World} {m n : Nat} {T : TypeId} : BelsAt (w.alloc (.cells #[.int .u8 (m : Int), .int .u8 (n : Int)] T)) (.slice (some ⟨w.heap.size, 0, none⟩) 2 2) [m, n] :=
  ⟨_, 2, w.heap.size, 0, rfl, fun _ => rfl, by simp, fun i hi => by
    have : i = 0 ∨ i = 1 := by simp at hi; omega
    rcases this with rfl | rfl
    · exact (row_facts (new_row rfl)).1 0
    · exact (row_facts (new_row rfl)).1 1⟩
theorem hsteps_in (F : Fence) (n : Nat) (hf : F.fn 104) (hro : F.round = none) (hb s : Nat) (w : World) :
    CallsIn F n Tryd.prog 104 #[.pointer (some ⟨hb, 0, none⟩), .int .u8 (s : Int)] w fun e w' => e = .returned (.func (.func 113) #[] #[.pointer (some ⟨w.heap.size, 0, none⟩), .pointer (some ⟨w.heap.size + 1, 0, none⟩)]) ∧
      w' = (w.alloc (.cells #[.pointer (some ⟨hb, 0, none⟩)] 78)).alloc (.cells #[.int .u8 (s : Int)] 83) := by
  refine callsIn_of_wp Tryd.func104 rfl hf ?_ hro
  simp only [Tryd.ntmps104, List.size_toArray, List.length_cons, List.length_nil, Nat.reduceAdd, Nat.reduceSub, Array.replicate_succ, Array.replicate_zero, List.push_toArray, List.append_toArray, List.nil_append, List.cons_append]
  gi_wp2
  go_ret
  exact ⟨rfl, rfl⟩
theorem hsteps1_gives (n : Nat) (hn : 1 ≤ n) (hb mb bh bs s : Nat) (b : BT) (hval : validT b = true) (hs : s < 2 ^ (b.n.toNat + 1)) (dv sv pv : Value) (looks : Bool) (D : Nat → Prop) (w0 wz : World)
    (hD1 : ∀ g, D g → w0.heap.size ≤ g) (hD2 : ∀ g, D g → g < wz.heap.size) (n1 : ¬ D bh) (n2 : ¬ D bs) (n3 : ¬ D hb) (h0z : Bel w0 wz)
    (hh : HuntAt wz hb mb b dv sv pv looks) (c1 : wz.cell? ⟨bh, 0, none⟩ = some (.pointer (some ⟨hb, 0, none⟩))) (c2 : wz.cell? ⟨bs, 0, none⟩ = some (.int .u8 (s : Int))) (hdo : DoorsAt w0 dv b.doors) (hse : IntsAt w0 sv b.seen) :
    GivesTo Fence.wide n Tryd.prog 113 #[.pointer (some ⟨bh, 0, none⟩), .pointer (some ⟨bs, 0, none⟩)] (StepAt w0.heap.size) D (stepsOf b looks s) wz := by
  intro l J Jx w hW hJ hJx hY h0
  have hok := okb_iff.1 hval
  have hn1 := hok.n1
  have hn2 := hok.n2
  obtain ⟨da, dc, db, doff, rfl, hda, ⟨hdl, _⟩, hdc⟩ := hdo
  obtain ⟨sa, sc, sb, soff, rfl, hsa, ⟨hsl, _⟩, hsc⟩ := hse
  have hixd := idxDoors (c := dc) hda
  have hixs := idxInts (c := sc) hsa
  have hd8 := hok.dl
  have a1 := hW.cell (fun h => h) hh.box.c1
  have a2 := hW.cell (fun h => h) hh.box.c2
  have a6 := hW.cell (fun h => h) hh.looks
  replace c1 := hW.cell (fun h => h) c1
  replace c2 := hW.cell (fun h => h) c2
  have hdw : ∀ j, j < b.doors.length → w.cell? ⟨db, doff + j * 3, none⟩ = some (.int .i64 (atD b.doors j).a) ∧ w.cell? ⟨db, doff + j * 3 + 1, none⟩ = some (.int .i64 (atD b.doors j).b) ∧ w.cell? ⟨db, doff + j * 3 + 2, none⟩ = some (.int .i64 (atD b.doors j).cost) ∧ ¬ D db := fun j hj => by
    obtain ⟨x1, x2, x3⟩ := hdc j hj
    exact ⟨hW.cell (fun h => h) (h0z.cell x1), hW.cell (fun h => h) (h0z.cell x2), hW.cell (fun h => h) (h0z.cell x3), fun h => by have := hD1 _ h; have := cell_lt x1; simp only [] at this; omega⟩
  have hsw : ∀ j, j < b.seen.length → w.cell? ⟨sb, soff + j, none⟩ = some (.int .i64 (at0 b.seen j)) ∧ ¬ D sb := fun j hj => by
    have x1 := hsc j hj
    exact ⟨hW.cell (fun h => h) (h0z.cell x1), fun h => by have := hD1 _ h; have := cell_lt x1; simp only [] at this; omega⟩
  have hDw : ∀ g, D g → g < w.heap.size := fun g h => Nat.lt_of_lt_of_le (hD2 g h) hW.size
  have HC := Lib.hid (And.intro c1 (And.intro c2 (And.intro a1 (And.intro a2 a6))))
  have HDW := Lib.hid hdw
  have HSW := Lib.hid hsw
  have HD := Lib.hid hDw
  have HJ := Lib.hid hJ
  have HJX := Lib.hid hJx
  have HY := Lib.hid hY
  have H0 := Lib.hid h0
  have N1 := Lib.hid n1
  have N2 := Lib.hid n2
  have N3 := Lib.hid n3
  have HMV := Lib.hid (fun k (hk : k < b.doors.length) wx => bmove_any (atD b.doors k) s b.n.toNat (by omega) (by have := hok.dk k hk; rwa [show b.n = ((b.n.toNat : Nat) : Int) by omega] at this) hs wx)
  have HSI := Lib.hid (fun k (hk : k < b.seen.length) => show 0 ≤ at0 b.seen k ∧ at0 b.seen k ≤ b.n - 1 from hok.si _ (getD_mem b.seen k 0 hk))
  have hs256 : s < 256 := by have := hok.pow; omega
  have HZ := Lib.hid (show w0.heap.size ≤ w.heap.size from Nat.le_trans h0z.szle hW.size)
  clear hda hsa hdc hsc hh h0z hval hs hW hJ hJx hY h0 hD1 hD2 hdw hsw hDw n1 n2 n3 c1 c2 a1 a2 a6 hok
  have hlb : bh < w.heap.size := cell_lt HC.out.1
  refine callsIn_of_wp Tryd.func113 rfl trivial ?_ rfl
  simp only [Tryd.ntmps113, List.size_toArray, List.length_cons, List.length_nil, Nat.reduceAdd, Nat.reduceSub, Array.replicate_succ, Array.replicate_zero, List.push_toArray, List.append_toArray, List.nil_append, List.cons_append]
  obtain ⟨c1, c2, a1, a2, a6⟩ := HC.out
  gi_wp2
  clear c1 c2 a1 a2 a6
  gi_loopw [15] (fun i wr => ∃ k : Nat, k ≤ b.doors.length ∧ i = .int .i64 k ∧ J (dTo b s k) wr ∧ KeepC D w wr) (fun i _ => b.doors.length - (intOf i).toNat)
  case atStart => exact ⟨0, by omega, rfl, H0.out, KeepC.r _ _⟩
  case round =>
    clear H0
    obtain ⟨k, hk, rfl, hj, hkc⟩ := hrel
    have HJr := Lib.hid hj
    have HK := Lib.hid hkc
    obtain ⟨c1, c2, a1, a2, a6⟩ := HC.out
    replace c1 := hkc.cell N1.out c1
    replace c2 := hkc.cell N2.out c2
    replace a1 := hkc.cell N3.out a1
    replace a2 := hkc.cell N3.out a2
    replace a6 := hkc.cell N3.out a6
    have lc1 := cell_lt c1
    have lc2 := cell_lt c2
    have la := cell_lt a1
    clear hj hkc
    by_cases hlt : k < b.doors.length
    · have hlti : (k : Int) < (b.doors.length : Int) := by omega
      obtain ⟨x0, x1, x2, x3⟩ := HDW.out k hlt
      replace x0 := HK.out.cell x3 x0
      replace x1 := HK.out.cell x3 x1
      replace x2 := HK.out.cell x3 x2
      have lx := cell_lt x0
      have HPR := Lib.hid (door_pre (looks := looks) (m := s) hlt)
      have HMK := Lib.hid (HMV.out k hlt)
      have HNX := Lib.hid (show dTo b s (k + 1) = dTo b s k ++ [(⟨1, (k : Int)⟩, [mvB (atD b.doors k) s])] from rfl)
      generalize mvB (atD b.doors k) s = mv at *
      generalize atD b.doors k = d at *
      clear x3
      gi_wp2_with (refine ⟨trivial, ?_⟩; gi_at_call 79; refine (callsIn_wide.2 (HMK.out _)).mono ?_; rintro e w2 ⟨rfl, hb2⟩; have HB2 := Lib.hid (show Bel wr w2 from Bel.trans (by repeat (first | assumption | exact Bel.refl _ | refine Bel.drew ?_ | refine Bel.drewN ?_ _ | refine Bel.alloc ?_ _ | refine Bel.setCell ?_ (by simp <;> omega) _ | refine Bel.trans ?_ (by assumption))) hb2); clear hb2; obtain ⟨W1, hW1⟩ : ∃ W1, W1 = w2.alloc (.cells #[.int .u8 (mv : Int)] 83) := ⟨_, rfl⟩; have HB1 := Lib.hid (show Bel wr W1 by rw [hW1]; exact HB2.out.alloc _); obtain ⟨fn, tmps, assign, body, hy, hRd⟩ := HY.out (dTo b s k) (⟨1, (k : Int)⟩, [mv]) #[.agg #[.int .i64 1, .int .i64 (k : Int)], .slice (some ⟨w2.heap.size, 0, none⟩) 1 1] W1 HPR.out ⟨_, rfl, by rw [hW1]; exact bels_one, fun a n c e => by injection e with e _ _; injection e with e; rw [← e]; show w0.heap.size ≤ w2.heap.size; have := HB2.out.szle; have := HK.out.size; have := HZ.out; omega⟩ (HJ.out _ _ _ HJr.out HB1.out); have HRd := Lib.hid hRd; rw [hW1] at hy; have HW1 := Lib.hid hW1; clear hRd hW1)
      rw [← HW1.out]
      refine HRd.out.mono ?_
      rintro e W3 (⟨rfl, hJ3, hk3⟩ | ⟨rfl, hJx3⟩)
      · have HJ3 := Lib.hid hJ3
        have HK3 := Lib.hid (HK.out.t ((KeepC.of_bel HB1.out).t hk3))
        clear hJ3 hk3 c1 c2 a1 a2 a6 lc1 lc2 la x0 x1 x2 lx
        gi_wp2
        exact ⟨⟨k + 1, by omega, by go_num, by rw [HNX.out]; exact HJ3.out, HK3.out⟩, by simp [intOf]; omega⟩
      · have HJX3 := Lib.hid hJx3
        clear hJx3 c1 c2 a1 a2 a6 lc1 lc2 la x0 x1 x2 lx
        gi_wp2
        refine bodyPost_ret (results_none rfl _ _ _) rfl ?_
        exact ⟨⟨_, rfl⟩, .inr ⟨_, HJX3.out⟩⟩
    · obtain rfl : k = b.doors.length := by omega
      have HPX := Lib.hid (fun (hl : looks = false) => show stepsOf b looks s = dTo b s b.doors.length by unfold stepsOf; rw [hl]; simp)
      gi_wp2
      clear c1 c2 a1 a2 a6
      gi_loopw [36] (fun i wr => ∃ k : Nat, k ≤ b.seen.length ∧ i = .int .i64 k ∧ J (dTo b s b.doors.length ++ if looks then lTo b s k else []) wr ∧ KeepC D w wr) (fun i _ => b.seen.length - (intOf i).toNat)
      case atStart => exact ⟨0, by omega, rfl, by show J (_ ++ if looks = true then [] else []) _; rw [ite_self, List.append_nil]; exact HJr.out, HK.out⟩
      case round =>
        clear HJr HK lc1 lc2 la
        obtain ⟨k, hk, rfl, hj, hkc⟩ := hrel
        have HJr := Lib.hid hj
        have HK := Lib.hid hkc
        obtain ⟨c1, c2, a1, a2, a6⟩ := HC.out
        replace c1 := hkc.cell N1.out c1
        replace c2 := hkc.cell N2.out c2
        replace a1 := hkc.cell N3.out a1
        replace a2 := hkc.cell N3.out a2
        replace a6 := hkc.cell N3.out a6
        have lc1 := cell_lt c1
        have lc2 := cell_lt c2
        have la := cell_lt a1
        clear hj hkc
        by_cases hlt : k < b.seen.length
        · have hlti : (k : Int) < (b.seen.length : Int) := by omega
          obtain ⟨x0, x3⟩ := HSW.out k hlt
          replace x0 := HK.out.cell x3 x0
          have lx := cell_lt x0
          have HSK := Lib.hid (HSI.out k hlt)
          have HPR := Lib.hid (fun h => look_pre (m := s) hlt h)
          have HYS := Lib.hid (fun h => lTo_yes (b := b) (m := s) (k := k) h)
          have HNO := Lib.hid (fun h => lTo_no (b := b) (m := s) (k := k) h)
          have HSP := Lib.hid (show splits s (at0 b.seen k) = (decide (s &&& bitP (at0 b.seen k) ≠ 0) && decide (s &&& bitP (at0 b.seen k) ≠ s)) from rfl)
          have HLS := Lib.hid (show lStep s (at0 b.seen k) = (⟨2, at0 b.seen k⟩, [s &&& bitP (at0 b.seen k), s ^^^ (s &&& bitP (at0 b.seen k))]) from rfl)
          generalize at0 b.seen k = c at *
          obtain ⟨hc1, hc2⟩ := HSK.out
          have hb256 := bitP_lt (p := c) (by omega)
          have hy256 : s &&& bitP c < 256 := Nat.lt_of_le_of_lt Nat.and_le_left hs256
          have HOF := Lib.hid (fun vx wx (hx : IntsAt wx vx [c]) => (of_any vx [c] wx hx (fun j hj => by
            have : j = 0 := by simp at hj; omega
            subst this
            show -1 ≤ c ∧ c ≤ 6
            omega)).mono (R' := fun e w' => e = .returned (.int .u8 (bitP c : Int)) ∧ Bel wx w') fun e w' h => ⟨by rw [h.1, ofL_one], h.2⟩)
          have hu : bits BinOp.and IntKind.u8 (s : Int) (bitP c : Int) = ((s &&& bitP c : Nat) : Int) := u8and hs256 hb256
          have HUN : Hid (bits BinOp.andNot IntKind.u8 (s : Int) ((s &&& bitP c : Nat) : Int) = ((s ^^^ (s &&& bitP c) : Nat) : Int)) := Lib.hid (by rw [u8not hs256 hy256, ← Nat.and_assoc, Nat.and_self])
          clear x3
          gi_wp2
          refine wpIn_wide.2 ?_
          refine wp_region_mixB (Plan.seq [0, 1, 1002, 1003, 4, 5] .nil) (by kernel_rfl) (by kernel_rfl) (fun hcur => ?_)
          simp only [Plan.seq, Plan.fill, List.getD_cons_zero, List.getD_cons_succ, Nat.reduceLT, ↓reduceIte, Nat.reduceSub]
          apply mix_pure _ rfl
          · intro w' hw'
            have hcr := hw'.cells
            go_simp
            rfl
          intro K hK
          go_simp
          refine hK _ ?_
          clear hK K
          apply mix_pure _ rfl
          · intro w' hw'
            have hcr := hw'.cells
            go_simp
            rfl
          intro K hK
          go_simp
          refine hK _ ?_
          clear hK K
          refine mix_act rfl (fun K hK => ?_)
          go_simp
          refine hK _ _ (by repeat (first | assumption | exact Bel.refl _ | refine Bel.drew ?_ | refine Bel.drewN ?_ _ | refine Bel.alloc ?_ _ | refine Bel.setCell ?_ (by simp <;> omega) _ | refine Bel.trans ?_ (by assumption))) (fun hcur => ?_)
          clear hK K
          refine mix_act rfl (fun K hK => ?_)
          go_simp
          refine (HOF.out _ _ (one_ints.bel (Bel.drew (Bel.refl _)))).mono ?_
          rintro e w6 ⟨rfl, hb⟩
          simp only []
          refine hK _ _ (hcur.trans hb) (fun hcur => ?_)
          clear hK K hb
          apply mix_pure _ rfl
          · intro w' hw'
            have hcr := hw'.cells
            go_simp
            rfl
          intro K hK
          go_simp
          refine hK _ ?_
          clear hK K
          apply mix_pure _ rfl
          · intro w' hw'
            have hcr := hw'.cells
            go_simp
            rfl
          intro K hK
          go_simp
          refine hK _ ?_
          clear hK K
          refine mix_nil ?_
          have hun := HUN.out
          have HB6 := Lib.hid hcur
          have HJ6 := Lib.hid (HJ.out _ _ _ HJr.out hcur)
          have HK6 := Lib.hid (HK.out.t (KeepC.of_bel hcur))
          replace c1 := hcur.cell c1
          replace c2 := hcur.cell c2
          replace a6 := hcur.cell a6
          clear lc1 lc2 la lx x0 a1 a2 hcur HUN
          have lc1 := cell_lt c1
          have lc2 := cell_lt c2
          have la := cell_lt a6
          generalize bitP c = bc at *
          generalize hyg : s &&& bc = y at *
          generalize hng : s ^^^ y = no at *
          clear hyg hng
          go_simp
          cases looks with
          | false =>
            have HR := Lib.hid (show (dTo b s b.doors.length ++ if false = true then lTo b s (k + 1) else []) = (dTo b s b.doors.length ++ if false = true then lTo b s k else []) from rfl)
            gi_wp2
            all_goals first
              | (exfalso; rename_i q _; simp [undef] at q; done)
              | (refine ⟨fun f h => trivial, ?_⟩
                 gi_wp2
                 exact ⟨⟨k + 1, by omega, by go_num, by rw [HR.out]; exact HJ6.out, HK6.out⟩, by simp [intOf]; omega⟩)
          | true =>
            have HJ7 : Hid (J (dTo b s b.doors.length ++ lTo b s k) w6) := Lib.hid (by have := HJ6.out; rwa [if_pos rfl] at this)
            by_cases hy0 : y = 0
            · have e1 : ((y : Int) != 0) = false := by rw [hy0]; rfl
              have HR := Lib.hid (HNO.out (by rw [HSP.out, decide_eq_false (fun h => h hy0)]; rfl))
              clear hy0
              gi_wp2
              all_goals first
                | (exfalso; rename_i q _; simp [undef] at q; done)
                | (refine ⟨fun f h => trivial, ?_⟩
                   gi_wp2
                   exact ⟨⟨k + 1, by omega, by go_num, by rw [HR.out]; exact HJ7.out, HK6.out⟩, by simp [intOf]; omega⟩)
            · have e1 : ((y : Int) != 0) = true := by rw [bne_iff_ne]; omega
              by_cases hys : y = s
              · have e2 : ((y : Int) != (s : Int)) = false := by rw [hys]; simp
                have HR := Lib.hid (HNO.out (by rw [HSP.out, decide_eq_false (p := y ≠ s) (fun h => h hys), Bool.and_false]))
                clear hy0 hys
                gi_wp2
                all_goals first
                  | (exfalso; rename_i q _; simp [undef] at q; done)
                  | (refine ⟨fun f h => trivial, ?_⟩
                     gi_wp2
                     exact ⟨⟨k + 1, by omega, by go_num, by rw [HR.out]; exact HJ7.out, HK6.out⟩, by simp [intOf]; omega⟩)
              · have e2 : ((y : Int) != (s : Int)) = true := by rw [bne_iff_ne]; omega
                have hsp : splits s c = true := by rw [HSP.out, decide_eq_true (p := y ≠ 0) hy0, decide_eq_true (p := y ≠ s) hys]; rfl
                have HR := Lib.hid (HYS.out hsp)
                obtain ⟨W1, hW1⟩ : ∃ W1, W1 = w6.alloc (.cells #[.int .u8 (y : Int), .int .u8 (no : Int)] 83) := ⟨_, rfl⟩
                have hB1 : Bel w6 W1 := by rw [hW1]; exact (Bel.refl w6).alloc _
                obtain ⟨fn, tmps, assign, body, hy, hRd⟩ := HY.out (dTo b s b.doors.length ++ lTo b s k) (lStep s c) #[.agg #[.int .i64 2, .int .i64 c], .slice (some ⟨w6.heap.size, 0, none⟩) 2 2] W1 (HPR.out hsp) ⟨_, by rw [HLS.out], by rw [hW1, HLS.out]; exact bels_two, fun a n c e => by injection e with e _ _; injection e with e; rw [← e]; show w0.heap.size ≤ w6.heap.size; have := HK6.out.size; have := HZ.out; omega⟩ (HJ.out _ _ _ HJ7.out hB1)
                have HRd := Lib.hid hRd
                rw [hW1] at hy
                have HW1 := Lib.hid hW1
                have HB1 := Lib.hid hB1
                clear hRd hW1 hB1 hy0 hys hsp
                gi_wp2
                rw [← HW1.out]
                refine HRd.out.mono ?_
                rintro e W3 (⟨rfl, hJ3, hk3⟩ | ⟨rfl, hJx3⟩)
                · have HJ3 := Lib.hid hJ3
                  have HK3 := Lib.hid (HK6.out.t ((KeepC.of_bel HB1.out).t hk3))
                  clear hJ3 hk3 c1 c2 a6 lc1 lc2 la
                  gi_wp2
                  exact ⟨⟨k + 1, by omega, by go_num, by rw [HR.out, ← List.append_assoc]; exact HJ3.out, HK3.out⟩, by simp [intOf]; omega⟩
                · have HJX3 := Lib.hid hJx3
                  clear hJx3 c1 c2 a6 lc1 lc2 la
                  gi_wp2
                  refine bodyPost_ret (results_none rfl _ _ _) rfl ?_
                  exact ⟨⟨_, rfl⟩, .inr ⟨_, HJX3.out⟩⟩
        · obtain rfl : k = b.seen.length := by omega
          gi_wp2
          go_end0
          exact ⟨⟨_, rfl⟩, .inl HJr.out⟩
end Go.Proofs.YtogiidkofddhaaaDoor
