/-
  counts: follows, and what it says of numbers.
-/
import Derived.Test.YtoiajjdhgffdaaaBack
import Derived.Test.YtoiajjdhgffdaaaTold
import Derived.Test.YtoiajjdhgffdaaaIsT
namespace Go.Proofs.Ytoiajjdhgffdaaa
set_option linter.unusedVariables false
open Go Go.RowKit Go.Shelf
attribute [local go_sem] Oper.semAt_some
set_option maxHeartbeats 4000000
set_option maxRecDepth 100000
theorem old_row {w : World} {o : Obj} {r : Nat} (h : r < w.heap.size) : (w.alloc o).heap[r]? = w.heap[r]? := Below.heap_alloc w o r h
def fOk (lo : List Int) (x : Nat) (d : Int) : Bool := decide (0 ≤ d) && (decide (d = 0) || inB lo x)
def fStep (lb ln lo : List Int) (s : Int × Bool) (x : Fin ln.length) : Int × Bool := (s.1 + (at0 ln x.val - at0 lb x.val), s.2 && fOk lo x.val (s.1 + (at0 ln x.val - at0 lb x.val)))
def fRun (lb ln lo : List Int) (pre : List (Fin ln.length)) : Int × Bool := pre.foldl (fStep lb ln lo) (0, true)
theorem fRun_snoc (lb ln lo : List Int) (pre : List (Fin ln.length)) (x : Fin ln.length) : fRun lb ln lo (pre ++ [x]) = fStep lb ln lo (fRun lb ln lo pre) x := by unfold fRun; rw [List.foldl_append]; rfl
def followsB (lb ln lo : List Int) : Bool := (fRun lb ln lo (down ln.length ln.length)).2
theorem fRun_down_false {lb ln lo : List Int} {k : Nat} (h : (fRun lb ln lo (down ln.length k)).2 = false) : ∀ m, k ≤ m → m ≤ ln.length → (fRun lb ln lo (down ln.length m)).2 = false := by
  intro m hm
  obtain ⟨d, rfl⟩ := Nat.le.dest hm
  clear hm
  induction d with
  | zero => intro _; exact h
  | succ d ih =>
    intro h2
    rw [show k + (d + 1) = (k + d) + 1 by omega, down_succ (by omega), fRun_snoc]
    unfold fStep
    simp only []
    rw [ih (by omega)]; rfl
theorem fRun_bound0 {lb ln lo : List Int} (hb : ∀ j, 0 ≤ at0 lb j ∧ at0 lb j ≤ 40) (hn : ∀ j, j < ln.length → 0 ≤ at0 ln j ∧ at0 ln j ≤ 40) : ∀ (pre : List (Fin ln.length)) (s : Int × Bool), s.1 - 40 * (pre.length : Int) ≤ (pre.foldl (fStep lb ln lo) s).1 ∧ (pre.foldl (fStep lb ln lo) s).1 ≤ s.1 + 40 * (pre.length : Int)
  | [], s => by simp
  | x :: pre, s => by
    have ih := fRun_bound0 (lo := lo) hb hn pre (fStep lb ln lo s x)
    have h1 := hb x.val
    have h2 := hn x.val x.isLt
    have h3 : (fStep lb ln lo s x).1 = s.1 + (at0 ln x.val - at0 lb x.val) := rfl
    rw [List.foldl_cons, List.length_cons]
    omega
theorem fRun_bound {lb ln lo : List Int} (hb : ∀ j, 0 ≤ at0 lb j ∧ at0 lb j ≤ 40) (hn : ∀ j, j < ln.length → 0 ≤ at0 ln j ∧ at0 ln j ≤ 40) (pre : List (Fin ln.length)) : -(40 * (pre.length : Int)) ≤ (fRun lb ln lo pre).1 ∧ (fRun lb ln lo pre).1 ≤ 40 * (pre.length : Int) := by
  have := fRun_bound0 (lo := lo) hb hn pre (0, true)
  unfold fRun
  simp only [] at this
  omega
theorem once {c : Code} {F : Fence} {n : Nat} {P : Program} {Q : Exit → Act → World → Prop} {a : Act} {w : World} (a1 : Act) (W1 : World) (h : Q .normal a1 W1) (hc : ∀ Q' : Exit → Act → World → Prop, Q' .normal a1 W1 → c.wpIn F n P Q' a w) : c.wpIn F n P Q a w := hc Q h
theorem follows_any (vb vn vo : Value) (lb ln lo : List Int) (w : World) (hb : IntsAt w vb lb) (hn : IntsAt w vn ln) (ho : IntsAt w vo lo) (hl : lb.length = ln.length) (h40 : ln.length ≤ 40)
    (hbb : ∀ j, 0 ≤ at0 lb j ∧ at0 lb j ≤ 40) (hbn : ∀ j, j < ln.length → 0 ≤ at0 ln j ∧ at0 ln j ≤ 40) :
    Calls Try.prog 93 #[vb, vn, vo] w fun e w' => e = .returned (.bool (followsB lb ln lo)) ∧ Bel w w' := by
  have HO := Lib.hid ho
  obtain ⟨ba, bc, bb, boff, rfl, hba, hbl, hbc⟩ := hb
  obtain ⟨na, nc, nb, noff, rfl, hna, hnl, hnc⟩ := hn
  obtain ⟨oa, oc, ob, ooff, rfl, hoa, hol, hoc⟩ := ho
  have hixb := idxInts (c := bc) hba
  have HBC := Lib.hid hbc
  rw [hl] at hba hbl hixb HBC ⊢
  have HBB := Lib.hid hbb
  have HBN := Lib.hid hbn
  have HLN : 0 < ln.length → nb < w.heap.size := fun h => cell_lt (hnc 0 h)
  refine (callsIn_wide (n := 4)).1 ?_
  refine callsIn_of_wp_marks Try.func93 rfl trivial ?_ rfl
  simp only [Try.ntmps93, List.size_toArray, List.length_cons, List.length_nil, Nat.reduceAdd, Nat.reduceSub, Array.replicate_succ, Array.replicate_zero, List.push_toArray, List.append_toArray, List.nil_append, List.cons_append]
  clear hl hbc hbb hbn
  gi_wp2_with (refine ⟨trivial, ?_⟩; gi_at_call 104; refine (Back_in Fence.wide _ trivial rfl _ _ _ _).mono ?_; rintro e w' ⟨rfl, rfl⟩)
  generalize hW0 : World.alloc _ _ = W0
  have z0 : W0.heap.size = w.heap.size + 1 + 1 + 1 + 1 + 1 := by rw [← hW0]; simp only [World.size_alloc]
  have hB0 : Bel w W0 := by rw [← hW0]; exact (((((Bel.refl w).alloc _).alloc _).alloc _).alloc _).alloc _
  have q0 : W0.cell? ⟨w.heap.size, 0, none⟩ = some (.slice ba ln.length bc) := by rw [← hW0]; exact (row_facts ((old_row (by first | (simp; done) | (simp; omega) | omega)).trans ((old_row (by first | (simp; done) | (simp; omega) | omega)).trans ((old_row (by first | (simp; done) | (simp; omega) | omega)).trans ((old_row (by first | (simp; done) | (simp; omega) | omega)).trans (new_row (by first | rfl | (simp; done)))))))).1 0
  have q1 : W0.cell? ⟨w.heap.size + 1, 0, none⟩ = some (.slice oa lo.length oc) := by rw [← hW0]; exact (row_facts ((old_row (by first | (simp; done) | (simp; omega) | omega)).trans ((old_row (by first | (simp; done) | (simp; omega) | omega)).trans ((old_row (by first | (simp; done) | (simp; omega) | omega)).trans (new_row (by first | rfl | (simp; done))))))).1 0
  have q2 : W0.cell? ⟨w.heap.size + 1 + 1, 0, none⟩ = some (.bool false) := by rw [← hW0]; exact (row_facts ((old_row (by first | (simp; done) | (simp; omega) | omega)).trans ((old_row (by first | (simp; done) | (simp; omega) | omega)).trans (new_row (by first | rfl | (simp; done)))))).1 0
  have q3 : W0.cell? ⟨w.heap.size + 1 + 1 + 1, 0, none⟩ = some (.int .i64 0) := by rw [← hW0]; exact (row_facts ((old_row (by first | (simp; done) | (simp; omega) | omega)).trans (new_row (by first | rfl | (simp; done))))).1 0
  have q4 : W0.cell? ⟨w.heap.size + 1 + 1 + 1 + 1, 0, none⟩ = some (.slice na ln.length nc) := by rw [← hW0]; exact (row_facts (new_row (by first | rfl | (simp; done)))).1 0
  have r2 : W0.frozen? ⟨w.heap.size + 1 + 1, 0, none⟩ = false := by rw [← hW0]; exact (row_facts ((old_row (by first | (simp; done) | (simp; omega) | omega)).trans ((old_row (by first | (simp; done) | (simp; omega) | omega)).trans (new_row (by first | rfl | (simp; done)))))).2 0
  have r3 : W0.frozen? ⟨w.heap.size + 1 + 1 + 1, 0, none⟩ = false := by rw [← hW0]; exact (row_facts ((old_row (by first | (simp; done) | (simp; omega) | omega)).trans (new_row (by first | rfl | (simp; done))))).2 0
  clear hW0
  refine wpIn_rangeFunc_ownG rfl (by omega) (gf := 109) (lb := #[.pointer (some ⟨w.heap.size + 1 + 1 + 1 + 1, 0, none⟩)]) rfl trivial (enters_of Try.func109 (by kernel_rfl) rfl)
    (Back_stops Fence.wide (4 - 1) trivial rfl (by omega) (w.heap.size + 1 + 1 + 1 + 1) w.heap.size na nc nb noff ln hna h40 HLN W0 (by omega) (by omega) q4 (fun j hj => hB0.cell (hnc j hj))) KpB.t (KpB.b (by omega) (by omega)) (Below.refl _ _) (fun _ => rfl)
    (fun pre W => (W.cell? ⟨w.heap.size + 1 + 1 + 1 + 1, 0, none⟩ = some (.slice na ln.length nc) ∧ W.cell? ⟨w.heap.size, 0, none⟩ = some (.slice ba ln.length bc) ∧ W.cell? ⟨w.heap.size + 1, 0, none⟩ = some (.slice oa lo.length oc) ∧
      W.cell? ⟨w.heap.size + 1 + 1 + 1, 0, none⟩ = some (.int .i64 (fRun lb ln lo pre).1) ∧ W.frozen? ⟨w.heap.size + 1 + 1 + 1, 0, none⟩ = false ∧
      W.cell? ⟨w.heap.size + 1 + 1, 0, none⟩ = some (.bool false) ∧ W.frozen? ⟨w.heap.size + 1 + 1, 0, none⟩ = false ∧ (fRun lb ln lo pre).2 = true) ∧ Below w.heap.size w W)
    (fun c pre W => (c = .ret ∧ W.cell? ⟨w.heap.size + 1 + 1, 0, none⟩ = some (.bool false) ∧ (fRun lb ln lo pre).2 = false) ∧ Below w.heap.size w W)
    (OwnFrom.and (Own.from (fun s A B row hs hg hr => ⟨cell_kept hs.1 hg hr, cell_kept hs.2.1 hg hr, cell_kept hs.2.2.1 hg hr, cell_kept hs.2.2.2.1 hg hr, (frozen_kept hs.2.2.2.1 hg hr).trans hs.2.2.2.2.1, cell_kept hs.2.2.2.2.2.1 hg hr, (frozen_kept hs.2.2.2.2.2.1 hg hr).trans hs.2.2.2.2.2.2.1, hs.2.2.2.2.2.2.2⟩) _) (ownFrom_below (Nat.le_refl _) (by omega)))
    (fun c => OwnFrom.and (Own.from (fun s A B row hs hg hr => ⟨hs.1, cell_kept hs.2.1 hg hr, hs.2.2⟩) _) (ownFrom_below (Nat.le_refl _) (by omega)))
    ⟨⟨q4, q0, q1, q3, r3, q2, r2, rfl⟩, hB0⟩
    (fun x => { tmps := #[.slice ba ln.length bc, .slice na ln.length nc, .slice oa lo.length oc, .pointer (some ⟨w.heap.size, 0, none⟩), undef, .pointer (some ⟨w.heap.size + 1, 0, none⟩), .pointer (some ⟨w.heap.size + 1 + 1, 0, none⟩), .pointer (some ⟨w.heap.size + 1 + 1 + 1, 0, none⟩), .int .i64 ((x.val : Nat) : Int), .int .i64 (at0 ln x.val), .slice na ln.length nc, .func (.func 109) #[] #[.pointer (some ⟨w.heap.size + 1 + 1 + 1 + 1, 0, none⟩)], .int .i64 ((x.val : Nat) : Int), .int .i64 (at0 ln x.val), undef, undef, undef, undef, undef, undef, undef, undef, undef, undef, undef, undef, undef, undef, undef, undef, undef, undef, undef, undef], defers := [] }) ?assign ?body ?done ?stop
  case assign =>
    intro l x W K hK
    gi_wp2
    exact hK
  case body =>
    rintro l pre x W ⟨⟨c4, c0, c1, c3, c3f, c2, c2f, hgood⟩, hB⟩ hlen
    have hx := x.isLt
    have cb := (Bel.cell (w' := W) hB (HBC.out x.val hx))
    obtain ⟨g1, g2⟩ := fRun_bound (lo := lo) HBB.out HBN.out pre
    obtain ⟨g3, g4⟩ := HBB.out x.val
    obtain ⟨g5, g6⟩ := HBN.out x.val hx
    have hxi : ((x.val : Nat) : Int) < (ln.length : Int) := by omega
    have HST := Lib.hid (fRun_snoc lb ln lo pre x)
    have HSD := Lib.hid (show fStep lb ln lo (fRun lb ln lo pre) x = ((fRun lb ln lo pre).1 + (at0 ln x.val - at0 lb x.val), (fRun lb ln lo pre).2 && fOk lo x.val ((fRun lb ln lo pre).1 + (at0 ln x.val - at0 lb x.val))) from rfl)
    have hmx : Try.prog.follows .mixedOrders = true := by kernel_rfl
    generalize hd0 : (fRun lb ln lo pre).1 = d0 at *
    generalize hxn : at0 ln x.val = xn at *
    generalize hxb : at0 lb x.val = xb at *
    obtain ⟨d, hd⟩ : ∃ d, d = d0 + (xn - xb) := ⟨_, rfl⟩
    have hw1 : IntKind.i64.wrap (xn - xb) = xn - xb := IntWalk.i64_in _ (by omega)
    have hw2 : IntKind.i64.wrap (d0 + (xn - xb)) = d := by rw [hd]; exact IntWalk.i64_in _ (by omega)
    rw [hgood, Bool.true_and, ← hd] at HSD
    have hdb1 : -10000 ≤ d := by omega
    have hdb2 : d ≤ 10000 := by omega
    obtain ⟨W1, hW1⟩ : ∃ W1, W1 = (W.setCell ⟨w.heap.size + 1 + 1 + 1, 0, none⟩ (.int .i64 d)).drew := ⟨_, rfl⟩
    have hk1 : KeepsOthers W W1 := by rw [hW1]; exact (KeepsOthers.setCell _ _ _).trans (KeepsOthers.drew _)
    have hp1 : KpB w.heap.size (w.heap.size + 1 + 1 + 1 + 1) W W1 := by
      rw [hW1]
      exact ⟨((Below.refl _ W).setCell (p := ⟨w.heap.size + 1 + 1 + 1, 0, none⟩) (by show _ ≤ w.heap.size + 1 + 1 + 1; omega) _).drew, World.cell?_setCell_other _ _ _ _ (by intro q; injection q; omega)⟩
    have y0 : W1.cell? ⟨w.heap.size, 0, none⟩ = some (.slice ba ln.length bc) := by rw [hW1]; exact (World.cell?_setCell_other _ _ _ _ (by intro q; injection q; omega)).trans c0
    have y4 : W1.cell? ⟨w.heap.size + 1 + 1 + 1 + 1, 0, none⟩ = some (.slice na ln.length nc) := by rw [hW1]; exact (World.cell?_setCell_other _ _ _ _ (by intro q; injection q; omega)).trans c4
    have y1 : W1.cell? ⟨w.heap.size + 1, 0, none⟩ = some (.slice oa lo.length oc) := by rw [hW1]; exact (World.cell?_setCell_other _ _ _ _ (by intro q; injection q; omega)).trans c1
    have y2 : W1.cell? ⟨w.heap.size + 1 + 1, 0, none⟩ = some (.bool false) := by rw [hW1]; exact (World.cell?_setCell_other _ _ _ _ (by intro q; injection q; omega)).trans c2
    have y3 : W1.cell? ⟨w.heap.size + 1 + 1 + 1, 0, none⟩ = some (.int .i64 d) := by rw [hW1]; exact World.cell?_setCell_same' _ _ _ (by rw [c3]; rfl)
    have y2f : W1.frozen? ⟨w.heap.size + 1 + 1, 0, none⟩ = false := by rw [hW1, frozen_drew_own, World.frozen?_setCell]; exact c2f
    have y3f : W1.frozen? ⟨w.heap.size + 1 + 1 + 1, 0, none⟩ = false := by rw [hW1, frozen_drew_own, World.frozen?_setCell]; exact c3f
    gi_wp2
    refine once { tmps := #[.slice ba ln.length bc, .slice na ln.length nc, .slice oa lo.length oc, .pointer (some ⟨w.heap.size, 0, none⟩), undef, .pointer (some ⟨w.heap.size + 1, 0, none⟩), .pointer (some ⟨w.heap.size + 1 + 1, 0, none⟩), .pointer (some ⟨w.heap.size + 1 + 1 + 1, 0, none⟩), .int .i64 ((x.val : Nat) : Int), .int .i64 xn, .slice na ln.length nc, .func (.func 109) #[] #[.pointer (some ⟨w.heap.size + 1 + 1 + 1 + 1, 0, none⟩)], .int .i64 ((x.val : Nat) : Int), .int .i64 xn, .int .i64 d0, .int .i64 xn, .slice ba ln.length bc, .int .i64 ((x.val : Nat) : Int), .pointer (some ⟨bb, boff + x.val, none⟩), .int .i64 xb, .int .i64 (xn - xb), .int .i64 d, undef, undef, undef, undef, undef, undef, undef, undef, undef, undef, undef, undef], defers := [] } W1 ?_ (fun Q' hq => ?_)
    rotate_left
    · clear y0 y1 y2 y3 y4 y2f y3f hp1 hk1 HST HSD hdb1 hdb2
      gi_region
      all_goals
        (try simp only [← hd])
        (try rw [← hW1])
        exact hq
    · have HIO := Lib.hid (HO.out.bel (w' := W1) (hB.trans hp1.1))
      have HW := Lib.hid (And.intro hk1 hp1)
      have HBL := Lib.hid (show Below w.heap.size w W1 from hB.trans hp1.1)
      have hRun : ∀ bq, fOk lo x.val d = bq → Hid ((fRun lb ln lo (pre ++ [x])).1 = d ∧ (fRun lb ln lo (pre ++ [x])).2 = bq) := fun bq h => Lib.hid (by rw [HST.out, HSD.out, h]; exact ⟨rfl, rfl⟩)
      clear c0 c1 c2 c3 c4 c2f c3f cb hW1 hk1 hp1 hd hw1 hw2 g1 g2 g3 g4 g5 g6 HST HSD hd0 hxn hxb hgood hB
      by_cases d1 : d < 0
      · have q1 : decide (d < 0) = true := by simpa using d1
        have HR := hRun false (by unfold fOk; rw [decide_eq_false (by omega)]; rfl)
        clear hRun
        gi_wp2
        all_goals first
          | (exfalso; rename_i q _; simp [undef] at q; done)
          | (refine ⟨trivial, ?_⟩
             gi_wp2
             exact ⟨((HW.out.1).trans (KeepsOthers.setCell _ _ _)).from _, ⟨rfl, World.cell?_setCell_same' _ _ _ (by rw [y2]; rfl), HR.out.2⟩, HBL.out.setCell (p := ⟨w.heap.size + 1 + 1, 0, none⟩) (by show _ ≤ w.heap.size + 1 + 1; omega) _⟩)
      · have q1 : decide (d < 0) = false := by simpa using d1
        by_cases d2 : 0 < d
        · have q2 : decide (0 < d) = true := by simpa using d2
          cases hin : inB lo x.val
          all_goals
            have HIN := Lib.hid (fun wx hx => (Contains_any (.slice oa lo.length oc) lo (x.val : Nat) wx hx).mono (R' := fun e w' => e = .returned (.bool (inB lo x.val)) ∧ Bel wx w') fun e w' h => h)
            rw [hin] at HIN
          · have HR := hRun false (by unfold fOk; rw [hin, decide_eq_true (by omega), decide_eq_false (by omega)]; rfl)
            clear hRun hin
            gi_wp2_with (refine ⟨trivial, ?_⟩; gi_at_call 102; refine (CallsIn.inRound l (callsIn_wide.2 (HIN.out _ HIO.out))).mono ?_; rintro e w2 ⟨rfl, hb2⟩; have y2' := hb2.cell y2; have y2f' := (hb2.frozens ⟨w.heap.size + 1 + 1, 0, none⟩ (cell_lt y2)).trans y2f)
            exact ⟨(((HW.out.1).trans hb2.keeps).trans (KeepsOthers.setCell _ _ _)).from _, ⟨rfl, World.cell?_setCell_same' _ _ _ (by rw [y2']; rfl), HR.out.2⟩, (HBL.out.trans (hb2.below.mono HBL.out.size)).setCell (p := ⟨w.heap.size + 1 + 1, 0, none⟩) (by show _ ≤ w.heap.size + 1 + 1; omega) _⟩
          · have HR := hRun true (by unfold fOk; rw [hin, decide_eq_true (by omega), Bool.or_true]; rfl)
            clear hRun hin
            gi_wp2_with (refine ⟨trivial, ?_⟩; gi_at_call 102; refine (CallsIn.inRound l (callsIn_wide.2 (HIN.out _ HIO.out))).mono ?_; rintro e w2 ⟨rfl, hb2⟩)
            exact ⟨((HW.out.1).trans hb2.keeps).from _, HW.out.2.t ⟨hb2.below.mono HBL.out.size, hb2.cells ⟨w.heap.size + 1 + 1 + 1 + 1, 0, none⟩ (cell_lt y4)⟩, ⟨hb2.cell y4, hb2.cell y0, hb2.cell y1, by rw [HR.out.1]; exact hb2.cell y3, (hb2.frozens ⟨w.heap.size + 1 + 1 + 1, 0, none⟩ (cell_lt y3)).trans y3f, hb2.cell y2, (hb2.frozens ⟨w.heap.size + 1 + 1, 0, none⟩ (cell_lt y2)).trans y2f, HR.out.2⟩, HBL.out.trans (hb2.below.mono HBL.out.size)⟩
        · have q2 : decide (0 < d) = false := by simpa using d2
          have HR := hRun true (by unfold fOk; rw [decide_eq_true (by omega), decide_eq_true (show d = 0 by omega)]; rfl)
          clear hRun
          gi_wp2
          refine ⟨trivial, ?_⟩
          gi_wp2
          exact ⟨(HW.out.1).from _, HW.out.2, ⟨y4, y0, y1, by rw [HR.out.1]; exact y3, y3f, y2, y2f, HR.out.2⟩, HBL.out⟩
  case done =>
    rintro D xs W hD rfl ⟨⟨_, _, _, _, _, hc2, hf2, hgood⟩, hB⟩ hK
    have HG := Lib.hid hgood
    clear hgood
    gi_wp2
    have hK' := (KeepsOthers.setCell W ⟨w.heap.size + 1 + 1, 0, none⟩ (.bool true)).same D _ hK rfl
    refine ⟨by simp, .inl ⟨_, _, rfl, run_takeDeferred hK', ?_⟩⟩
    have hc5 := cell_kept (World.cell?_setCell_same' W ⟨w.heap.size + 1 + 1, 0, none⟩ (.bool true) (by rw [hc2]; rfl)) (grownBy_putObj' _ D (.deferred none)) (fun r e => by cases e; exact ⟨_, hK', rfl⟩)
    refine ⟨.bool true, ?_, by unfold followsB; rw [HG.out], (hB.setCell (p := ⟨w.heap.size + 1 + 1, 0, none⟩) (by show _ ≤ w.heap.size + 1 + 1; omega) _).trans (belowK_b (w := w) (Nat.le_refl _) _ D _ _ (by omega) hK' rfl rfl)⟩
    simp [results, Try.f93, go_sem, hc5]
  case stop =>
    rintro D c pre W hD ⟨k, hk, rfl⟩ ⟨⟨rfl, hc2, hbad⟩, hB⟩ hK
    gi_wp2
    refine ⟨by simp, .inl ⟨_, _, rfl, run_takeDeferred hK, ?_⟩⟩
    have hc5 := cell_kept hc2 (grownBy_putObj' _ D (.deferred none)) (fun r e => by cases e; exact ⟨_, hK, rfl⟩)
    refine ⟨.bool false, ?_, by unfold followsB; rw [fRun_down_false hbad _ hk (Nat.le_refl _)], hB.trans (belowK_b (w := w) (Nat.le_refl _) _ D _ _ (by omega) hK rfl rfl)⟩
    simp [results, Try.f93, go_sem, hc5]
theorem fOk_iff {lo : List Int} {x : Nat} {d : Int} : fOk lo x d = true ↔ 0 ≤ d ∧ (0 < d → inB lo x = true) := by
  unfold fOk
  rw [Bool.and_eq_true, Bool.or_eq_true, decide_eq_true_eq, decide_eq_true_eq]
  constructor
  · rintro ⟨h1, h2⟩
    exact ⟨h1, fun h3 => by rcases h2 with h2 | h2; · omega
                            · exact h2⟩
  · rintro ⟨h1, h2⟩
    refine ⟨h1, ?_⟩
    by_cases e : d = 0
    · exact .inl e
    · exact .inr (h2 (by omega))
def fOkAt (lb ln lo : List Int) (c : Nat) : Prop := 0 ≤ behOf ln c - behOf lb c ∧ (0 < behOf ln c - behOf lb c → inB lo c = true)
theorem fRun_down {lb ln lo : List Int} (hl : lb.length = ln.length) : ∀ k, k ≤ ln.length →
    (fRun lb ln lo (down ln.length k)).1 = behOf ln (ln.length - k) - behOf lb (ln.length - k) ∧ ((fRun lb ln lo (down ln.length k)).2 = true ↔ ∀ c, ln.length - k ≤ c → c < ln.length → fOkAt lb ln lo c)
  | 0, _ => by
    refine ⟨?_, ?_⟩
    · have e1 := behOf_end ln
      have e2 := behOf_end lb
      rw [hl] at e2
      rw [Nat.sub_zero, e1, e2]; rfl
    · exact ⟨fun _ c h1 h2 => by omega, fun _ => rfl⟩
  | k + 1, hk => by
    obtain ⟨h1, h2⟩ := fRun_down (lo := lo) hl k (by omega)
    have a := behOf_step ln (ln.length - 1 - k) (by omega)
    have b := behOf_step lb (ln.length - 1 - k) (by omega)
    rw [show ln.length - 1 - k + 1 = ln.length - k by omega] at a b
    have e : (fRun lb ln lo (down ln.length k)).1 + (at0 ln (ln.length - 1 - k) - at0 lb (ln.length - 1 - k)) = behOf ln (ln.length - 1 - k) - behOf lb (ln.length - 1 - k) := by omega
    rw [down_succ (by omega), fRun_snoc]
    unfold fStep
    simp only []
    rw [e, show ln.length - (k + 1) = ln.length - 1 - k by omega]
    refine ⟨rfl, ?_⟩
    rw [Bool.and_eq_true, h2, fOk_iff]
    constructor
    · rintro ⟨p, q⟩ c c1 c2
      by_cases ec : c = ln.length - 1 - k
      · rw [ec]; exact q
      · exact p c (by omega) c2
    · intro p
      exact ⟨fun c c1 c2 => p c (by omega) c2, p _ (Nat.le_refl _) (by omega)⟩
theorem follows_iff {lb ln lo : List Int} (hl : lb.length = ln.length) : followsB lb ln lo = true ↔ ∀ c, c < ln.length → fOkAt lb ln lo c := by
  have := (fRun_down (lo := lo) hl ln.length (Nat.le_refl _)).2
  unfold followsB
  rw [this, Nat.sub_self]
  exact ⟨fun h c hc => h c (by omega) hc, fun h c _ hc => h c hc⟩
/-- One step of numbers that have a row for each time. -/
theorem follows_step {t : CT} {l : List (List Int)} {i : Nat} (h0 : 0 < i) (h1 : (atL l i).length = t.C.toNat) (h2 : (atL l (i - 1)).length = t.C.toNat) :
    followsB (atL l (i - 1)) (atL l i) (atL t.op (i - 1)) = true ↔ ∀ c, c < t.C.toNat → StepOk t l i c := by
  rw [follows_iff (by rw [h1, h2]), h1]
  exact Iff.rfl
/-! A row, summed up one by one -/
theorem sumTo_mono {l : List Int} (h : ∀ j, j < l.length → 0 ≤ at0 l j) : ∀ k m, k ≤ m → m ≤ l.length → sumTo l k ≤ sumTo l m := by
  intro k m hkm
  obtain ⟨d, rfl⟩ := Nat.le.dest hkm
  clear hkm
  induction d with
  | zero => intro _; exact Int.le_refl _
  | succ d ih =>
    intro hm
    have a := ih (by omega)
    have b := h (k + d) (by omega)
    show _ ≤ sumTo l (k + d) + at0 l (k + d)
    omega
theorem behOf_zero (l : List Int) : behOf l 0 = sumTo l l.length := by unfold behOf; simp
/-- Where the sum goes beyond, or a number is below 0, the row is not one of a truth. -/
theorem rowNot {t : CT} {l : List Int} {k : Nat} (hk : k < l.length) (h : ¬ (0 ≤ at0 l k ∧ at0 l k ≤ 40 - sumTo l k)) : ¬ RowOk t l := fun q => by
  have hn : ∀ j, j < l.length → 0 ≤ at0 l j := fun j hj => (q.num j (by have := q.len; omega)).1
  have a := sumTo_mono hn (k + 1) l.length (by omega) (Nat.le_refl _)
  have b := q.all
  rw [behOf_zero] at b
  have c : sumTo l (k + 1) = sumTo l k + at0 l k := rfl
  have d := hn k hk
  omega
theorem rowYes {t : CT} {l : List Int} (h1 : l.length = t.C.toNat) (h : ∀ k, k < l.length → 0 ≤ at0 l k ∧ at0 l k ≤ 40 - sumTo l k) : RowOk t l := by
  have key : ∀ k, k ≤ l.length → 0 ≤ sumTo l k ∧ sumTo l k ≤ 40 := by
    intro k
    induction k with
    | zero => intro _; exact ⟨Int.le_refl _, by show (0 : Int) ≤ 40; omega⟩
    | succ k ih =>
      intro hk
      have a := ih (by omega)
      have b := h k (by omega)
      show 0 ≤ sumTo l k + at0 l k ∧ sumTo l k + at0 l k ≤ 40
      omega
  refine ⟨h1, fun c hc => ?_, by rw [behOf_zero]; exact (key _ (Nat.le_refl _)).2⟩
  have a := h c (by omega)
  have b := key c (by omega)
  omega
end Go.Proofs.Ytoiajjdhgffdaaa
