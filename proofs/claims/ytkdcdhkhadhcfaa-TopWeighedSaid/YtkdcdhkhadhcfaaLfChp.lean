/-
  lifts: the least cost of a crew that holds; Cheap.
-/
import Derived.Test.YtkdcdhkhadhcfaaLfCrew
import Derived.Test.YtkdcdhkhadhcfaaRound
namespace Go.Proofs.Ytkdcdhkhadhcfaa
open Go Go.RowKit Go.Shelf
attribute [local go_sem] Oper.semAt_some
set_option maxHeartbeats 8000000
set_option maxRecDepth 100000
theorem keep_frozen {D : Nat → Prop} {A B : World} (k : KeepC D A B) {b : Nat} {v : Value} (hd : ¬ D b) (hc : A.cell? ⟨b, 0, none⟩ = some v) (o : Nat) : B.frozen? ⟨b, o, none⟩ = A.frozen? ⟨b, o, none⟩ := by
  obtain ⟨ob, ho, hk⟩ := cells_of_cell hc
  unfold World.frozen?
  rw [k.block _ ob hd ho hk, ho]
/-- The two variables, as far as it looked. -/
structure ChSt (s : LSea) (w Wr : World) (tb cb nb g : Nat) (pre : List (List Int)) (W : World) : Prop where
  bel : Bel w W
  sz : Wr.heap.size ≤ W.heap.size
  t : W.cell? ⟨tb, 0, none⟩ = some (.pointer (some ⟨g, 0, none⟩))
  c : ∃ a n k, W.cell? ⟨cb, 0, none⟩ = some (.slice a n k)
  n : W.cell? ⟨nb, 0, none⟩ = some (.int .i64 (chV s pre (-1)))
  fc : ∀ o, W.frozen? ⟨cb, o, none⟩ = false
  fn : ∀ o, W.frozen? ⟨nb, o, none⟩ = false
theorem ChSt.go {s : LSea} {w Wr : World} {tb cb nb g : Nat} {pre : List (List Int)} {W W' : World} (h : ChSt s w Wr tb cb nb g pre W) (k : Bel W W') : ChSt s w Wr tb cb nb g pre W' :=
  ⟨h.bel.trans k, Nat.le_trans h.sz k.szle, k.cell h.t, by obtain ⟨a, n, q, e⟩ := h.c; exact ⟨a, n, q, k.cell e⟩, k.cell h.n, fun o => by obtain ⟨a, n, q, e⟩ := h.c; exact (k.frozens ⟨cb, o, none⟩ (show cb < W.heap.size from cell_lt e)).trans (h.fc o), fun o => (k.frozens ⟨nb, o, none⟩ (show nb < W.heap.size from cell_lt h.n)).trans (h.fn o)⟩
theorem ChSt.quiet {s : LSea} {w Wr : World} {tb cb nb g : Nat} {pre : List (List Int)} {W W' : World} (h : ChSt s w Wr tb cb nb g pre W) (q : Quiet Wr.heap.size W W') (hw : w.heap.size ≤ Wr.heap.size) : ChSt s w Wr tb cb nb g pre W' :=
  ⟨Below.trans h.bel (q.below.mono hw), Nat.le_trans h.sz q.below.size, q.keep.cell (fun h => h) h.t, by obtain ⟨a, n, k, e⟩ := h.c; exact ⟨a, n, k, q.keep.cell (fun h => h) e⟩, q.keep.cell (fun h => h) h.n, fun o => by obtain ⟨a, n, k, e⟩ := h.c; exact (keep_frozen q.keep (fun h => h) e o).trans (h.fc o), fun o => (keep_frozen q.keep (fun h => h) h.n o).trans (h.fn o)⟩
theorem chV_snoc (s : LSea) (pre : List (List Int)) (x : List Int) (y : Int) : chV s (pre ++ [x]) y = chNext s x (chV s pre y) := by
  rw [chV_append]; rfl
theorem ChSt.skip {s : LSea} {w Wr : World} {tb cb nb g : Nat} {pre : List (List Int)} {x : List Int} {W : World} (h : ChSt s w Wr tb cb nb g pre W) (hx : chNext s x (chV s pre (-1)) = chV s pre (-1)) : ChSt s w Wr tb cb nb g (pre ++ [x]) W :=
  ⟨h.bel, h.sz, h.t, h.c, by rw [chV_snoc, hx]; exact h.n, h.fc, h.fn⟩
theorem ChSt.take {s : LSea} {w Wr : World} {tb cb nb g : Nat} {pre : List (List Int)} {x : List Int} {W : World} {a : Option Addr} {n k : Nat} {y : Int} (h : ChSt s w Wr tb cb nb g pre W) (hw : w.heap.size ≤ cb ∧ w.heap.size ≤ nb ∧ tb ≠ cb ∧ tb ≠ nb ∧ cb ≠ nb) (hx : chNext s x (chV s pre (-1)) = y) :
    ChSt s w Wr tb cb nb g (pre ++ [x]) ((W.setCell ⟨cb, 0, none⟩ (.slice a n k)).setCell ⟨nb, 0, none⟩ (.int .i64 y)) ∧ KeepC (fun i => i = cb ∨ i = nb) W ((W.setCell ⟨cb, 0, none⟩ (.slice a n k)).setCell ⟨nb, 0, none⟩ (.int .i64 y)) := by
  obtain ⟨h1, h2, h3, h4, h5⟩ := hw
  have hk : KeepC (fun i => i = cb ∨ i = nb) W ((W.setCell ⟨cb, 0, none⟩ (.slice a n k)).setCell ⟨nb, 0, none⟩ (.int .i64 y)) := (KeepC.set (D := fun i => i = cb ∨ i = nb) _ ⟨cb, 0, none⟩ _ (.inl rfl)).t (KeepC.set (D := fun i => i = cb ∨ i = nb) _ ⟨nb, 0, none⟩ _ (.inr rfl))
  obtain ⟨a0, n0, k0, e0⟩ := h.c
  refine ⟨⟨(h.bel.setCell (p := ⟨cb, 0, none⟩) h1 _).setCell (p := ⟨nb, 0, none⟩) h2 _, Nat.le_trans h.sz hk.size, hk.cell (by rintro (q | q) <;> simp only at q <;> omega) h.t, ⟨a, n, k, ?_⟩, ?_, fun o => by rw [World.frozen?_setCell, World.frozen?_setCell]; exact h.fc o, fun o => by rw [World.frozen?_setCell, World.frozen?_setCell]; exact h.fn o⟩, hk⟩
  · rw [World.cell?_setCell_other _ _ _ _ (by intro q; injection q with q1 q2; omega)]; exact World.cell?_setCell_same _ _ _ e0
  · rw [chV_snoc, hx]; exact World.cell?_setCell_same _ _ _ (by rw [World.cell?_setCell_other _ _ _ _ (by intro q; injection q with q1 q2; omega)]; exact h.n)
/-- The two variables at the end. -/
structure EndSt (w W4 : World) (cb nb : Nat) (qa : Option Addr) (qn qc : Nat) (V : Int) (q : World) : Prop where
  bel : Bel w q
  ko : KeepsOthers W4 q
  c : q.cell? ⟨cb, 0, none⟩ = some (.slice qa qn qc)
  n : q.cell? ⟨nb, 0, none⟩ = some (.int .i64 V)
  fc : ∀ o, q.frozen? ⟨cb, o, none⟩ = false
  fn : ∀ o, q.frozen? ⟨nb, o, none⟩ = false
theorem cheapest_any (s : LSea) (g : Nat) (pv : Value) (ba : Option Addr) (bc : Nat) (w : World) (hs : LOk s) (hpv : ∃ a c, pv = .slice a s.pl.length c) (hx : SeaBx w g s pv (.slice ba s.bo.length bc) s.pl.length) (hb : BoAt w (.slice ba s.bo.length bc) s.bo) :
    Calls Try.prog 80 #[.pointer (some ⟨g, 0, none⟩)] w fun e w' => ∃ v, e = .returned (.tuple #[v, .int .i64 (cheapV s)]) ∧ Bel w w' := by
  have HHO := Lib.hid (fun (c : List Int) ov wx (hc : c ∈ crewsL s.bo.length s.pl.length []) (hbx : Bel w wx) (hv : IntsAt wx ov c) => lfHolds_any s pv c ov g ba bc wx hs (hx.bel hbx) (hb.bel hbx) hv (by have := (crews_in _ _ _ (fun x hx => by cases hx) hc).2; simpa using this) (fun i hi => (crews_in _ _ _ (fun x hx => by cases hx) hc).1 _ (getD_mem c i 0 hi)))
  have HIN := Lib.hid (fun (c : List Int) (hc : c ∈ crewsL s.bo.length s.pl.length []) => crews_in _ _ _ (fun x hx => by cases hx) hc)
  have HCO := Lib.hid (fun (c : List Int) (hc : ∀ x, x ∈ c → 0 ≤ x ∧ x < s.bo.length) k hk => cost_nn hs hc k hk)
  have HBK := Lib.hid (fun k (hk : k < s.bo.length) => hs.b hk)
  obtain ⟨_, _, bb, bo, be, hba, _, hbc⟩ := hb
  injection be with be1 _ be3
  subst be1 be3
  have hixb := idxBo (c := bc) hba
  have HBC := Lib.hid hbc
  obtain ⟨pa, pc, rfl⟩ := hpv
  have hp4 := hs.p4
  have hb6 := hs.b6
  have g2 := hx.c 2 _ rfl
  have g3 := hx.c 3 _ rfl
  have lg := hx.lt
  have HCH := Lib.hid (show cheapV s = chV s (crewsL s.bo.length s.pl.length []) (-1) from rfl)
  have HNX := Lib.hid (fun c x => show chNext s c x = if holdsV s c && (decide (x < 0) || decide (costV s c < x)) then costV s c else x from rfl)
  clear hs hx hba hbc
  generalize hGG : s.pl.length = G at *
  clear hGG
  generalize hBB : s.bo.length = B at *
  clear hBB
  refine (callsIn_wide (n := 4)).1 ?_
  refine callsIn_of_wp_marks Try.func80 rfl trivial ?_ rfl
  simp only [Try.ntmps80, List.size_toArray, List.length_cons, List.length_nil, Nat.reduceAdd, Nat.reduceSub, Array.replicate_succ, Array.replicate_zero, List.push_toArray, List.append_toArray, List.nil_append, List.cons_append]
  gi_wp2
  generalize hWr : World.alloc _ _ = Wr
  have hbr : Bel w Wr := by rw [← hWr]; exact (((Bel.refl w).alloc _).alloc _).alloc _
  have zr : Wr.heap.size = w.heap.size + 1 + 1 + 1 := by rw [← hWr]; simp only [World.size_alloc]
  have r1 : Bx Wr w.heap.size [.pointer (some ⟨g, 0, none⟩)] := by rw [← hWr]; exact ((Bx.new rfl).bel ((Bel.refl _).alloc _)).bel ((Bel.refl _).alloc _)
  have r2 : Bx Wr (w.heap.size + 1) [.slice none 0 0] := by rw [← hWr]; exact (Bx.new (by simp)).bel ((Bel.refl _).alloc _)
  have r3 : Bx Wr (w.heap.size + 1 + 1) [.int .i64 (-1)] := by rw [← hWr]; exact Bx.new (by simp)
  clear hWr
  have hgv : GivesRcv Fence.wide (4 - 1) Try.prog 107 (.pointer (some ⟨g, 0, none⟩)) (OrdAt (fun i => i = w.heap.size + 1 ∨ i = w.heap.size + 1 + 1)) (fun i => i = w.heap.size + 1 ∨ i = w.heap.size + 1 + 1) (crewsL B G []) Wr :=
    crews_gives G B g (fun i => i = w.heap.size + 1 ∨ i = w.heap.size + 1 + 1) Wr (4 - 1) ⟨by omega, by omega⟩ ⟨pa, pc, hbr.cell g2⟩ ⟨ba, bc, hbr.cell g3⟩ (by rintro (q | q) <;> omega) (fun k h => by rcases h with q | q <;> omega)
  have hch : ChSt s w Wr w.heap.size (w.heap.size + 1) (w.heap.size + 1 + 1) g [] Wr := ⟨hbr, Nat.le_refl _, r1.c 0 _ rfl, ⟨_, _, _, r2.c 0 _ rfl⟩, r3.c 0 _ rfl, r2.f, r3.f⟩
  have hwr : w.heap.size ≤ Wr.heap.size := by omega
  clear r1 r2 r3 zr hbr
  refine range_rcv rfl (by omega) (gf := 107) (rcv := .pointer (some ⟨g, 0, none⟩)) rfl trivial (enters_of Try.func107 (by kernel_rfl) rfl) hgv
    (fun x vs W h => by obtain ⟨nv, rfl, _, _⟩ := h; rfl)
    (fun pre W => ChSt s w Wr w.heap.size (w.heap.size + 1) (w.heap.size + 1 + 1) g pre W) (fun pre A B h q => h.quiet q hwr) hch
    (fun x a' W => ∃ na nc, a' = { tmps := #[.pointer (some ⟨g, 0, none⟩), .pointer (some ⟨w.heap.size, 0, none⟩), .pointer (some ⟨w.heap.size + 1, 0, none⟩), .pointer (some ⟨w.heap.size + 1 + 1, 0, none⟩), .slice na x.length nc, undef, undef, undef, .pointer (some ⟨g, 0, none⟩), .func (.func 107) #[.pointer (some ⟨g, 0, none⟩)] #[], .slice na x.length nc, undef, undef, undef, undef, undef, undef, undef, undef, undef, undef, undef, undef, undef, undef, undef, undef, undef, undef, undef, undef, undef, undef, undef, undef, undef, undef, undef, undef, undef, undef, undef, undef, undef], defers := [] } ∧ IntsAt W (.slice na x.length nc) x ∧ NoD (fun i => i = w.heap.size + 1 ∨ i = w.heap.size + 1 + 1) (.slice na x.length nc))
    (fun x a' A B h q => by obtain ⟨na, nc, h1, h2, h3⟩ := h; exact ⟨na, nc, h1, ints_keep h2 (fun _ _ _ _ _ h => h) q.keep, h3⟩) ?assign ?body ?done
  case assign =>
    intro l pre x vs W3 K hat hI hK
    obtain ⟨nv, rfl, hbl, hfr⟩ := hat
    obtain ⟨na, nc, _, _, rfl, _⟩ := id hbl
    have HK := Lib.hid hK
    have HI := Lib.hid hI
    clear hK hI
    gi_wp2
    exact HK.out _ _ ((Bel.refl W3).keeps.from _) (KeepC.r _ _) HI.out ⟨na, nc, by simp, hbl, hfr⟩
  case body =>
    rintro l pre x a' W3 ⟨post, hpost⟩ hI ⟨na, nc, rfl, hbl, hnd⟩
    have hmem : x ∈ crewsL B G [] := by rw [hpost]; simp
    have HC := Lib.hid (HHO.out x _ W3 hmem hI.bel hbl)
    have HI := Lib.hid hI
    have HBL := Lib.hid hbl
    obtain ⟨hxin, hxl⟩ := HIN.out x hmem
    have hx4 : x.length ≤ 4 := by simp only [List.length_nil] at hxl; omega
    have HXI := Lib.hid hxin
    have HCX := Lib.hid (HCO.out x hxin)
    have HN := Lib.hid (HNX.out x (chV s pre (-1)))
    have t0 := hI.t
    have lt0 := cell_lt t0
    clear hpost hmem hI hbl hnd hgv hch hxin hxl HHO HIN HCO HNX HCH
    gi_wp2_with fail
    refine ⟨trivial, ?_⟩
    refine (CallsIn.inRound l (callsIn_wide.2 HC.out)).mono ?_
    rintro e w2 ⟨rfl, hb2⟩
    have HB2 := Lib.hid hb2
    have HI2 := Lib.hid (HI.out.go hb2)
    clear hb2 t0 lt0 HI HC
    cases hh : holdsV s x
    · have HS := Lib.hid (show chNext s x (chV s pre (-1)) = chV s pre (-1) by rw [HN.out, hh]; rfl)
      clear hh HN
      gi_wp2
      exact ⟨HB2.out.keeps.from _, KeepC.of_bel HB2.out, HI2.out.skip HS.out⟩
    · have HN2 := Lib.hid (show chNext s x (chV s pre (-1)) = if (decide (chV s pre (-1) < 0) || decide (costV s x < chV s pre (-1))) then costV s x else chV s pre (-1) by rw [HN.out, hh]; simp only [Bool.true_and])
      clear hh HN
      have t0 := HI2.out.t
      have lt0 := cell_lt t0
      have gg := HI2.out.bel.cell g3
      have lgg := cell_lt gg
      have n0 := HI2.out.n
      have ln0 := cell_lt n0
      obtain ⟨qa, qn, qc, c0⟩ := HI2.out.c
      have lc0 := cell_lt c0
      have fc := HI2.out.fc
      have fn := HI2.out.fn
      have HXA := Lib.hid (HBL.out.bel HB2.out)
      obtain ⟨_, _, xb, xo, xe, hxa, _, hxc⟩ := HXA.out
      injection xe with xe1 _ xe3
      subst xe1 xe3
      have hixx := idxInts (c := nc) hxa
      have HXC := Lib.hid hxc
      clear hxa hxc
      gi_wp2_with fail
      gi_loopw [5, 17] (fun nv i wr => ∃ k : Nat, k ≤ x.length ∧ i = .int .i64 k ∧ nv = .int .i64 (costTo s x k) ∧ wr = w2) (fun _ i _ => x.length - (intOf i).toNat)
      case atStart => exact ⟨0, by omega, rfl, rfl, rfl⟩
      case round =>
        obtain ⟨k, hk, rfl, rfl, rfl⟩ := hrel
        obtain ⟨cb1, cb2⟩ := HCX.out k hk
        by_cases hlt : k < x.length
        · have hlti : (k : Int) < (x.length : Int) := by omega
          have hg := HXI.out (at0 x k) (getD_mem x k 0 hlt)
          obtain ⟨j, hj⟩ : ∃ j : Nat, at0 x k = (j : Int) := ⟨(at0 x k).toNat, by omega⟩
          have hjB : j < B := by omega
          have k0 := HXC.out k hlt
          rw [hj] at k0
          have lk := cell_lt k0
          have b1 := HI2.out.bel.cell (HBC.out j hjB).2
          have lb := cell_lt b1
          obtain ⟨_, _, p1, p2⟩ := HBK.out j hjB
          have HE := Lib.hid (show costTo s x (k + 1) = costTo s x k + (atBo s.bo j).pe by show _ + _ = _ + _; rw [hj]; rfl)
          clear hj hg HXC HBC HBK HXI HN2
          generalize (atBo s.bo j).pe = P at *
          generalize costTo s x k = C at *
          gi_wp2
          exact ⟨⟨k + 1, by omega, by go_num, by rw [HE.out], by trivial⟩, by simp [intOf]; omega⟩
        · have hlti : ¬ (k : Int) < (x.length : Int) := by omega
          obtain rfl : k = x.length := by omega
          have HCV := Lib.hid (show costTo s x x.length = costV s x from rfl)
          rw [HCV.out] at cb1 cb2 ⊢
          clear HCV HXC HBC HBK HXI HCX
          have HCK := Lib.hid (fun y hy => (HI2.out).take (x := x) (a := na) (n := x.length) (k := nc) (y := y) ⟨by omega, by omega, by omega, by omega, by omega⟩ hy)
          have HSK := Lib.hid (fun hy => (HI2.out).skip (x := x) hy)
          generalize costV s x = C at *
          generalize hY : chV s pre (-1) = Y at *
          have HY := Lib.hid hY
          clear hY
          by_cases hY0 : Y < 0
          · have dY : decide (Y < 0) = true := decide_eq_true hY0
            have HR := Lib.hid (HCK.out C (by rw [HN2.out, dY]; rfl))
            clear HCK HSK HN2 hY0
            gi_wp2
            exact ⟨(HB2.out.keeps.trans ((KeepsOthers.setCell _ _ _).trans (KeepsOthers.setCell _ _ _))).from _, (KeepC.of_bel HB2.out).t HR.out.2, HR.out.1⟩
          · have dY : decide (Y < 0) = false := decide_eq_false hY0
            by_cases hC : C < Y
            · have dC : decide (C < Y) = true := decide_eq_true hC
              have HR := Lib.hid (HCK.out C (by rw [HN2.out, dY, dC]; rfl))
              clear HCK HSK HN2 hY0 hC
              gi_wp2
              exact ⟨(HB2.out.keeps.trans ((KeepsOthers.setCell _ _ _).trans (KeepsOthers.setCell _ _ _))).from _, (KeepC.of_bel HB2.out).t HR.out.2, HR.out.1⟩
            · have dC : decide (C < Y) = false := decide_eq_false hC
              have HR := Lib.hid (HSK.out (by rw [HN2.out, dY, dC]; rfl))
              clear HCK HSK HN2 hY0 hC
              gi_wp2
              exact ⟨HB2.out.keeps.from _, KeepC.of_bel HB2.out, HR.out⟩
  case done =>
    rintro Bq W4 hB hI hBd
    have hBl := (Array.getElem?_eq_some_iff.1 hBd).1
    have HMK := Lib.hid (show Marks w.heap.size W4 [{ target := .collected Bq, args := #[] }] W4.heap.size from ⟨Bq, rfl, by omega, hBl, hBd, trivial⟩)
    have HI := Lib.hid hI
    have n0 := hI.n
    obtain ⟨qa, qn, qc, c0⟩ := hI.c
    have l0 := cell_lt c0
    have ln := cell_lt n0
    have fc := hI.fc
    have fn := hI.fn
    rw [← HCH.out] at n0
    clear hI hBd hgv hch
    gi_wp2
    refine wpIn_wide.2 ?_
    generalize hV : cheapV s = V at *
    have HV := Lib.hid hV
    clear hV
    have d0 : EndSt w W4 (w.heap.size + 1) (w.heap.size + 1 + 1) qa qn qc V W4.drew := ⟨HI.out.bel.drew, (Bel.refl W4).drew.keeps, c0, n0, fc, fn⟩
    refine wp_region_mixC (Plan.seq [0, 1, 1002, 1003] .nil) (fun q => EndSt w W4 (w.heap.size + 1) (w.heap.size + 1 + 1) qa qn qc V q) (by kernel_rfl) (by kernel_rfl) (d0) (fun hcur => ?_)
    simp only [Plan.seq, Plan.fill, List.getD_cons_zero, List.getD_cons_succ, Nat.reduceLT, ↓reduceIte, Nat.reduceSub]
    apply mix_pure _ rfl
    · intro w' hw'
      have x0 := hw'.c
      have x1 := hw'.n
      go_simp
      rfl
    intro K hK
    go_simp
    refine hK _ ?_
    clear hK K
    apply mix_pure _ rfl
    · intro w' hw'
      have x0 := hw'.c
      have x1 := hw'.n
      go_simp
      rfl
    intro K hK
    go_simp
    refine hK _ ?_
    clear hK K
    refine mix_act rfl (fun K hK => ?_)
    go_simp
    generalize hW7 : World.drew _ = W7
    have h7 : EndSt w W4 (w.heap.size + 1) (w.heap.size + 1 + 1) qa qn qc V W7 := by
      rw [← hW7]
      exact ⟨(HI.out.bel.setCell (p := ⟨w.heap.size + 1, 0, none⟩) (by show w.heap.size ≤ w.heap.size + 1; omega) _).drew, (KeepsOthers.setCell _ _ _).trans (Bel.refl _).drew.keeps, World.cell?_setCell_same _ _ _ c0,
        (World.cell?_setCell_other _ _ _ _ (by intro q; injection q with q1 q2; omega)).trans n0, fun o => (World.frozen?_setCell ..).trans (fc o), fun o => (World.frozen?_setCell ..).trans (fn o)⟩
    refine hK _ _ h7 (fun hcur => ?_)
    clear hK K hW7 h7
    refine mix_act rfl (fun K hK => ?_)
    have x1 := hcur.n
    have xf := hcur.fn
    have xl := cell_lt x1
    go_simp
    have h8 : EndSt w W4 (w.heap.size + 1) (w.heap.size + 1 + 1) qa qn qc V (W7.setCell ⟨w.heap.size + 1 + 1, 0, none⟩ (.int .i64 V)) :=
      ⟨hcur.bel.setCell (p := ⟨w.heap.size + 1 + 1, 0, none⟩) (by show w.heap.size ≤ w.heap.size + 1 + 1; omega) _, hcur.ko.trans (KeepsOthers.setCell _ _ _), (World.cell?_setCell_other _ _ _ _ (by intro q; injection q with q1 q2; omega)).trans hcur.c, World.cell?_setCell_same _ _ _ hcur.n, fun o => (World.frozen?_setCell ..).trans (hcur.fc o), fun o => (World.frozen?_setCell ..).trans (hcur.fn o)⟩
    refine hK _ _ h8 (fun hcur => ?_)
    clear hK K x1 xf xl h8
    refine mix_nil ?_
    generalize World.setCell _ _ _ = W8 at *
    have HE := Lib.hid hcur
    have x0 := hcur.c
    have x1 := hcur.n
    have xl := cell_lt x0
    have xm := cell_lt x1
    clear hcur d0 c0 n0 l0 ln fc fn
    gi_wp2
    refine leaves_marks (Marks.keep HMK.out (fun k _ _ hk => HE.out.ko.same k _ hk rfl)) (fun w' hk hbl hm => ?_)
    have y0 := hk.cell (fun h => h) x0
    have y1 := hk.cell (fun h => h) x1
    refine ⟨.tuple #[.slice qa qn qc, .int .i64 V], ?_, ⟨.slice qa qn qc, by rw [HV.out]⟩, Below.trans HE.out.bel hbl⟩
    simp [results, Try.f80, go_sem, *]
end Go.Proofs.Ytkdcdhkhadhcfaa
