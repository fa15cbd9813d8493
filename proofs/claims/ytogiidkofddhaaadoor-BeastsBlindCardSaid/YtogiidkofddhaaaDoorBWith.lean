/-
  beasts: the price of a step, and of what it leaves at the worst.
-/
import Derived.Test.YtogiidkofddhaaaDoorBHunt
namespace Go.Proofs.YtogiidkofddhaaaDoor
open Go Go.RowKit
set_option maxHeartbeats 4000000
set_option maxRecDepth 100000
def atN (l : List Nat) (i : Nat) : Nat := l.getD i 0
/-- A slice of beliefs. -/
def BelsAt (w : World) (v : Value) (l : List Nat) : Prop :=
  ∃ a c b off, v = .slice a l.length c ∧ (0 < l.length → a = some ⟨b, off, none⟩) ∧ (l.length ≤ 64 ∧ l.length ≤ c) ∧ ∀ i, i < l.length → w.cell? ⟨b, off + i, none⟩ = some (.int .u8 (atN l i : Int))
theorem BelsAt.bel {w w' : World} {v : Value} {l : List Nat} (h : BelsAt w v l) (k : Bel w w') : BelsAt w' v l := by
  obtain ⟨a, c, b, off, h1, h2, h3, h4⟩ := h
  exact ⟨a, c, b, off, h1, h2, h3, fun i hi => k.cell (h4 i hi)⟩
theorem infoBel : ∃ i, Tryd.prog.info? 83 = some i := Option.isSome_iff_exists.1 (by kernel_rfl)
theorem cellsBel : Tryd.prog.cellsOf 83 = 1 := by kernel_rfl
theorem idxBels {a : Option Addr} {n c b off : Nat} (ha : 0 < n → a = some ⟨b, off, none⟩) :
    ∀ (w : World) (i : Nat), i < n → (Instr.indexAt 85 (.slice a n c) (.int .i64 i)).run Tryd.prog w = .ok (.pointer (some ⟨b, off + i, none⟩)) w := by
  obtain ⟨i0, hi0⟩ := infoBel
  have h := idxRule (P := Tryd.prog) 85 83 1 Tryd.underlying85 hi0 cellsBel (c := c) ha
  simpa using h
def wstTo (pr : PrT) (l : List Nat) (k : Nat) : Int × Int := (l.take k).foldl (fun w s => if lessP w (ofP pr s) then ofP pr s else w) (-1, -1)
theorem wstTo_succ {pr : PrT} {l : List Nat} {k : Nat} (h : k < l.length) : wstTo pr l (k + 1) = if lessP (wstTo pr l k) (ofP pr (atN l k)) then ofP pr (atN l k) else wstTo pr l k := by
  unfold wstTo
  rw [List.take_succ_eq_append_getElem h, List.foldl_append]
  unfold atN
  rw [getD_lt l k 0 h]
  rfl
theorem wstTo_in {pr : PrT} (hp : ∀ s, 0 ≤ (ofP pr s).1 ∧ (ofP pr s).1 ≤ 1073741824 ∧ 0 ≤ (ofP pr s).2 ∧ (ofP pr s).2 ≤ 1073741824) {l : List Nat} : ∀ k, k ≤ l.length → -1 ≤ (wstTo pr l k).1 ∧ (wstTo pr l k).1 ≤ 1073741824 ∧ -1 ≤ (wstTo pr l k).2 ∧ (wstTo pr l k).2 ≤ 1073741824
  | 0, _ => by show (-1 : Int) ≤ -1 ∧ (-1 : Int) ≤ 1073741824 ∧ (-1 : Int) ≤ -1 ∧ (-1 : Int) ≤ 1073741824; omega
  | k + 1, hk => by
    have ih := wstTo_in hp (l := l) k (by omega)
    rw [wstTo_succ (by omega)]
    have := hp (atN l k)
    split <;> omega
theorem two_cells {W : World} {c : Nat} {a0 a1 u0 u1 : Value} (h0 : W.cell? ⟨c, 0, none⟩ = some a0) (h1 : W.cell? ⟨c, 1, none⟩ = some a1) :
    ((W.setCell ⟨c, 0, none⟩ u0).setCell ⟨c, 1, none⟩ u1).cell? ⟨c, 0, none⟩ = some u0 ∧ ((W.setCell ⟨c, 0, none⟩ u0).setCell ⟨c, 1, none⟩ u1).cell? ⟨c, 1, none⟩ = some u1 := by
  refine ⟨?_, ?_⟩
  · rw [World.cell?_setCell_other _ _ _ _ (by intro q; injection q; omega)]
    exact World.cell?_setCell_same _ _ _ (by rw [h0])
  · exact World.cell?_setCell_same _ _ _ (by rw [World.cell?_setCell_other _ _ _ _ (by intro q; injection q; omega), h1])
theorem hwith_any (hb mb : Nat) (b : BT) (hval : validT b = true) (dv sv pv : Value) (looks : Bool) (pr : PrT) (hpr : ∀ s, 0 ≤ (ofP pr s).1 ∧ (ofP pr s).1 ≤ 1073741824 ∧ 0 ≤ (ofP pr s).2 ∧ (ofP pr s).2 ≤ 1073741824)
    (x : BS) (hx : IsStp b x) (nv : Value) (l : List Nat) (w : World) (hf : FarAt w) (hh : HuntAt w hb mb b dv sv pv looks) (hm : MapP w mb pr) (hn : BelsAt w nv l) (hv : BTrapAt w (.agg #[.int .i64 b.n, dv, sv, .int .i64 b.look, .int .i64 b.eats, pv]) b) :
    Calls Tryd.prog 105 #[.pointer (some ⟨hb, 0, none⟩), .agg #[.int .i64 x.k, .int .i64 x.x], nv] w fun e w' => e = .returned (.agg #[.int .i64 (withP b pr (x, l)).1, .int .i64 (withP b pr (x, l)).2]) ∧ Bel w w' := by
  have HH := Lib.hid hh
  have HF := Lib.hid hf
  have HOF := Lib.hid (fun s wx hw => hof_any hb mb s b dv sv pv looks pr wx (hf.bel hw) (hh.bel hw) (hm.bel hw))
  have HCO := Lib.hid (fun wx hw => cost_any b hval x hx _ wx (hv.bel hw))
  have hcs : 1 ≤ costS b x ∧ costS b x ≤ 29 := by
    have hb := okb_iff.1 hval
    have := hb.l1; have := hb.l2; have := hb.e1; have := hb.e2
    unfold costS
    split
    · omega
    · rcases hx with ⟨_, g1, g2⟩ | ⟨g, _⟩
      · obtain ⟨_, _, _, _, _⟩ := hb.dk x.x.toNat (by omega); omega
      · omega
  have HW := Lib.hid (show withP b pr (x, l) = if wstTo pr l l.length = farP then farP else (costS b x + (wstTo pr l l.length).1, (wstTo pr l l.length).2 + 1) by unfold withP worstP wstTo; rw [List.take_length])
  have HWI := Lib.hid (fun k hk => wstTo_in hpr (l := l) k hk)
  obtain ⟨a, c, nb, off, rfl, ha, ⟨hl64, _⟩, hc⟩ := hn
  have hix := idxBels (c := c) ha
  have HC := Lib.hid hc
  clear ha hc hh hf hm hv hpr hval hx
  generalize costS b x = cs at *
  generalize withP b pr (x, l) = rp at *
  go_enter Tryd.func105, Tryd.ntmps105
  go_wp2
  generalize hW0 : World.alloc _ _ = W0
  have hB0 : Bel w W0 := by rw [← hW0]; exact (((Bel.refl w).alloc _).alloc _).alloc _
  have s0 : W0.cell? ⟨w.heap.size, 0, none⟩ = some (.int .i64 x.k) := by rw [← hW0]; exact (row_facts ((old_row (by first | (simp; done) | (simp; omega) | omega)).trans ((old_row (by first | (simp; done) | (simp; omega) | omega)).trans (new_row rfl)))).1 0
  have s1 : W0.cell? ⟨w.heap.size, 1, none⟩ = some (.int .i64 x.x) := by rw [← hW0]; exact (row_facts ((old_row (by first | (simp; done) | (simp; omega) | omega)).trans ((old_row (by first | (simp; done) | (simp; omega) | omega)).trans (new_row rfl)))).1 1
  have r0 : W0.cell? ⟨w.heap.size + 1, 0, none⟩ = some (.int .i64 0) := by rw [← hW0]; exact (row_facts ((old_row (by first | (simp; done) | (simp; omega) | omega)).trans (new_row (by first | rfl | (simp; done) | (simp; omega) | omega)))).1 0
  have r1 : W0.cell? ⟨w.heap.size + 1, 1, none⟩ = some (.int .i64 0) := by rw [← hW0]; exact (row_facts ((old_row (by first | (simp; done) | (simp; omega) | omega)).trans (new_row (by first | rfl | (simp; done) | (simp; omega) | omega)))).1 1
  have rf : ∀ o, W0.frozen? ⟨w.heap.size + 1, o, none⟩ = false := by rw [← hW0]; exact (row_facts ((old_row (by first | (simp; done) | (simp; omega) | omega)).trans (new_row (by first | rfl | (simp; done) | (simp; omega) | omega)))).2
  have q0 : W0.cell? ⟨w.heap.size + 2, 0, none⟩ = some (.int .i64 (-1)) := by rw [← hW0]; exact (row_facts (new_row (by first | rfl | (simp; done) | (simp; omega) | omega))).1 0
  have q1 : W0.cell? ⟨w.heap.size + 2, 1, none⟩ = some (.int .i64 (-1)) := by rw [← hW0]; exact (row_facts (new_row (by first | rfl | (simp; done) | (simp; omega) | omega))).1 1
  have qf : ∀ o, W0.frozen? ⟨w.heap.size + 2, o, none⟩ = false := by rw [← hW0]; exact (row_facts (new_row (by first | rfl | (simp; done) | (simp; omega) | omega))).2
  have z0 : W0.heap.size = w.heap.size + 3 := by rw [← hW0]; simp
  have HX := Lib.hid (And.intro s0 (And.intro s1 (And.intro r0 (And.intro r1 (And.intro (rf 0) (rf 1))))))
  have HQ := Lib.hid (And.intro q0 (And.intro q1 (And.intro (qf 0) (qf 1))))
  have HB0 := Lib.hid hB0
  clear hW0 hB0 s0 s1 r0 r1 rf q0 q1 qf
  go_loopw [14] (fun i wr => ∃ k : Nat, k ≤ l.length ∧ i = .int .i64 k ∧ Bel w wr ∧ KeepC (fun g => g = w.heap.size + 2) W0 wr ∧ wr.cell? ⟨w.heap.size + 2, 0, none⟩ = some (.int .i64 (wstTo pr l k).1) ∧ wr.cell? ⟨w.heap.size + 2, 1, none⟩ = some (.int .i64 (wstTo pr l k).2) ∧
    wr.frozen? ⟨w.heap.size + 2, 0, none⟩ = false ∧ wr.frozen? ⟨w.heap.size + 2, 1, none⟩ = false) (fun i _ => l.length - (intOf i).toNat)
  case atStart => exact ⟨0, by omega, rfl, HB0.out, KeepC.r _ _, HQ.out.1, HQ.out.2.1, HQ.out.2.2.1, HQ.out.2.2.2⟩
  case round =>
    obtain ⟨k, hk, rfl, hB, hK, q0, q1, g0, g1⟩ := hrel
    have HB := Lib.hid hB
    have HK := Lib.hid hK
    have lq := cell_lt q0
    by_cases hlt : k < l.length
    · have hlti : (k : Int) < (l.length : Int) := by omega
      have hck := hB.cell (HC.out k hlt)
      have lck := cell_lt hck
      have HS := Lib.hid (wstTo_succ (pr := pr) hlt)
      have HOK := Lib.hid (HOF.out (atN l k))
      have HLE := Lib.hid (fun wx => less_any (wstTo pr l k) (ofP pr (atN l k)) wx)
      clear hB hK
      generalize wstTo pr l k = u at *
      generalize ofP pr (atN l k) = pk at *
      generalize atN l k = sk at *
      go_wp2_with fail
      refine (HOK.out _ HB.out).mono ?_
      rintro e w2 ⟨rfl, hb2⟩
      have HB2 := Lib.hid (HB.out.trans hb2)
      have HK2 := Lib.hid (HK.out.t (KeepC.of_bel hb2))
      replace q0 := hb2.cell q0
      replace q1 := hb2.cell q1
      replace g0 := (hb2.frozens ⟨w.heap.size + 2, 0, none⟩ lq).trans g0
      replace g1 := (hb2.frozens ⟨w.heap.size + 2, 1, none⟩ lq).trans g1
      have lq2 := cell_lt q0
      clear hb2 hck lck
      go_wp2_with fail
      refine (HLE.out _).mono ?_
      rintro e w3 ⟨rfl, hb3⟩
      have y0 : w3.cell? ⟨w2.heap.size, 0, none⟩ = some (.int .i64 pk.1) := hb3.cell ((row_facts (new_row rfl)).1 0)
      have y1 : w3.cell? ⟨w2.heap.size, 1, none⟩ = some (.int .i64 pk.2) := hb3.cell ((row_facts (new_row rfl)).1 1)
      have hk3 : Bel w2 w3 := Bel.trans (by repeat (first | assumption | exact Bel.refl _ | refine Bel.drew ?_ | refine Bel.drewN ?_ _ | refine Bel.alloc ?_ _ | refine Bel.setCell ?_ (by simp <;> omega) _ | refine Bel.trans ?_ (by assumption))) hb3
      have HB3 := Lib.hid (HB2.out.trans hk3)
      have HK3 := Lib.hid (HK2.out.t (KeepC.of_bel hk3))
      replace q0 := hk3.cell q0
      replace q1 := hk3.cell q1
      replace g0 := (hk3.frozens ⟨w.heap.size + 2, 0, none⟩ lq2).trans g0
      replace g1 := (hk3.frozens ⟨w.heap.size + 2, 1, none⟩ lq2).trans g1
      have lq3 := cell_lt q0
      have ly := cell_lt y0
      clear hb3 hk3 lq lq2
      cases hle : lessP u pk
      · have HN : Hid (wstTo pr l (k + 1) = u) := Lib.hid (by rw [HS.out, hle]; rfl)
        rw [hle] at *
        go_wp2
        go_roundw
        case rel => exact ⟨k + 1, by omega, by go_num, HB3.out, HK3.out, by rw [HN.out]; exact q0, by rw [HN.out]; exact q1, g0, g1⟩
        case measure => simp [intOf]; omega
      · have HN : Hid (wstTo pr l (k + 1) = pk) := Lib.hid (by rw [HS.out, hle]; rfl)
        rw [hle] at *
        obtain ⟨n0, n1⟩ := two_cells (u0 := .int .i64 pk.1) (u1 := .int .i64 pk.2) q0 q1
        have HN2 := Lib.hid (And.intro n0 n1)
        clear n0 n1
        go_wp2
        go_roundw
        case rel => exact ⟨k + 1, by omega, by go_num, (HB3.out.setCell (p := ⟨w.heap.size + 2, 0, none⟩) (by show _ ≤ w.heap.size + 2; omega) _).setCell (p := ⟨w.heap.size + 2, 1, none⟩) (by show _ ≤ w.heap.size + 2; omega) _, HK3.out.t ((KeepC.set (D := fun g => g = w.heap.size + 2) _ ⟨w.heap.size + 2, 0, none⟩ _ rfl).t (KeepC.set (D := fun g => g = w.heap.size + 2) _ ⟨w.heap.size + 2, 1, none⟩ _ rfl)), by rw [HN.out]; exact HN2.out.1, by rw [HN.out]; exact HN2.out.2, by simp only [World.frozen?_setCell]; exact g0, by simp only [World.frozen?_setCell]; exact g1⟩
        case measure => simp [intOf]; omega
    · have hkl : k = l.length := by omega
      subst hkl
      obtain ⟨s0, s1, r0, r1, rf0, rf1⟩ := HX.out
      have nd : ∀ g, g < w.heap.size + 2 → ¬ (g = w.heap.size + 2) := fun g h => by omega
      replace s0 := HK.out.cell (p := ⟨w.heap.size, 0, none⟩) (nd _ (by show w.heap.size < _; omega)) s0
      replace s1 := HK.out.cell (p := ⟨w.heap.size, 1, none⟩) (nd _ (by show w.heap.size < _; omega)) s1
      replace rf0 := (HK.out.frozen (p := ⟨w.heap.size + 1, 0, none⟩) (nd _ (by show w.heap.size + 1 < _; omega)) r0).trans rf0
      replace rf1 := (HK.out.frozen (p := ⟨w.heap.size + 1, 1, none⟩) (nd _ (by show w.heap.size + 1 < _; omega)) r1).trans rf1
      replace r0 := HK.out.cell (p := ⟨w.heap.size + 1, 0, none⟩) (nd _ (by show w.heap.size + 1 < _; omega)) r0
      replace r1 := HK.out.cell (p := ⟨w.heap.size + 1, 1, none⟩) (nd _ (by show w.heap.size + 1 < _; omega)) r1
      obtain ⟨f0, f1⟩ := HF.out.bel hB
      have lf := cell_lt f0
      have ls := cell_lt s0
      have lr := cell_lt r0
      obtain ⟨u1, u2, u3, u4⟩ := HWI.out l.length (Nat.le_refl _)
      clear hB hK nd
      generalize wstTo pr l l.length = u at *
      by_cases hfar : u = farP
      · have HE := Lib.hid (show rp = (1073741824, 1073741824) by rw [HW.out, if_pos hfar]; rfl)
        obtain ⟨a1, a2⟩ := u
        have e1 : a1 = 1073741824 := congrArg Prod.fst hfar
        have e2 : a2 = 1073741824 := congrArg Prod.snd hfar
        subst e1 e2
        obtain ⟨n0, n1⟩ := two_cells (u0 := .int .i64 1073741824) (u1 := .int .i64 1073741824) r0 r1
        clear hfar HW
        go_wp2
        exact bodyPost_ret (v := .agg #[.int .i64 1073741824, .int .i64 1073741824]) (by simp [results, Tryd.results105, go_sem, n0, n1]) rfl ⟨by rw [HE.out], (HB.out.setCell (p := ⟨w.heap.size + 1, 0, none⟩) (by show _ ≤ w.heap.size + 1; omega) _).setCell (p := ⟨w.heap.size + 1, 1, none⟩) (by show _ ≤ w.heap.size + 1; omega) _⟩
      · have HE := Lib.hid (show rp = (cs + u.1, u.2 + 1) by rw [HW.out, if_neg hfar])
        have hdis : (u.1 == 1073741824) = false ∨ ((u.1 == 1073741824) = true ∧ (u.2 == 1073741824) = false) := by
          by_cases g : u.1 = 1073741824
          · refine .inr ⟨by simpa using g, ?_⟩
            rw [beq_eq_false_iff_ne]
            intro g2
            exact hfar (Prod.ext g g2)
          · exact .inl (by simpa using g)
        obtain ⟨b0, b1, b2, b3, b4, b5⟩ := (HH.out.bel HB.out).box
        have lb := cell_lt b0
        have hw1 : IntKind.i64.wrap (cs + u.1) = cs + u.1 := IntWalk.i64_in _ (by omega)
        have hw2 : IntKind.i64.wrap (u.2 + 1) = u.2 + 1 := IntWalk.i64_in _ (by omega)
        have HCB := Lib.hid (fun wx (hx : Bel wr wx) => HCO.out wx (HB.out.trans hx))
        clear hfar HW u3 u4
        rcases hdis with e1 | ⟨e1, e2⟩
        all_goals
          go_wp2
          refine wp_region_mixTB (Plan.seq [0, 1, 2, 3, 4, 6, 7, 9, 10, 11, 1005, 8, 12] .nil) (by kernel_rfl) (by kernel_rfl) (fun hcur => ?_)
          simp only [Plan.seq, Plan.fill, List.getD_cons_zero, List.getD_cons_succ, Nat.reduceLT, ↓reduceIte, Nat.reduceSub]
          apply mix_pure _ rfl
          · intro w' hw'
            have hcr := hw'.cells
            go_simp
            rfl
          intro K hK
          go_simp
          refine hK _ ?_
          clear hK K
          apply mix_pure _ rfl
          · intro w' hw'
            have hcr := hw'.cells
            go_simp
            rfl
          intro K hK
          go_simp
          refine hK _ ?_
          clear hK K
          apply mix_pure _ rfl
          · intro w' hw'
            have hcr := hw'.cells
            go_simp
            rfl
          intro K hK
          go_simp
          refine hK _ ?_
          clear hK K
          apply mix_pure _ rfl
          · intro w' hw'
            have hcr := hw'.cells
            go_simp
            rfl
          intro K hK
          go_simp
          refine hK _ ?_
          clear hK K
          apply mix_pure _ rfl
          · intro w' hw'
            have hcr := hw'.cells
            go_simp
            rfl
          intro K hK
          go_simp
          refine hK _ ?_
          clear hK K
          apply mix_pure _ rfl
          · intro w' hw'
            have hcr := hw'.cells
            go_simp
            rfl
          intro K hK
          go_simp
          refine hK _ ?_
          clear hK K
          apply mix_pure _ rfl
          · intro w' hw'
            have hcr := hw'.cells
            go_simp
            rfl
          intro K hK
          go_simp
          refine hK _ ?_
          clear hK K
          apply mix_pure _ rfl
          · intro w' hw'
            have hcr := hw'.cells
            go_simp
            rfl
          intro K hK
          go_simp
          refine hK _ ?_
          clear hK K
          apply mix_pure _ rfl
          · intro w' hw'
            have hcr := hw'.cells
            go_simp
            rfl
          intro K hK
          go_simp
          refine hK _ ?_
          clear hK K
          apply mix_pure _ rfl
          · intro w' hw'
            have hcr := hw'.cells
            go_simp
            first | (rw [IntWalk.i64_in]; all_goals first | omega | rfl) | rfl
          intro K hK
          go_simp
          refine hK _ ?_
          clear hK K
          refine mix_act rfl (fun K hK => ?_)
          go_simp
          refine (HCB.out _ hcur).mono ?_
          rintro e w5 ⟨rfl, hb⟩
          have hcr5 := hb.cells
          have hfr5 := hb.frozens
          have hz5 := hb.szle
          simp only []
          refine hK _ _ (hcur.trans hb) (fun hcur => ?_)
          clear hK K
          apply mix_pure _ rfl
          · intro w' hw'
            have hcr := hw'.cells
            go_simp
            first | (rw [IntWalk.i64_in]; all_goals first | omega | rfl) | rfl
          intro K hK
          go_simp
          refine hK _ ?_
          clear hK K
          apply mix_pure _ rfl
          · intro w' hw'
            have hcr := hw'.cells
            go_simp
            rfl
          intro K hK
          go_simp
          refine hK _ ?_
          clear hK K
          refine mix_tailK rfl (fun K hK => ?_)
          have r0' := hcur.cell r0
          have r1' := hcur.cell r1
          have rf0' := (hcur.frozens ⟨w.heap.size + 1, 0, none⟩ lr).trans rf0
          have rf1' := (hcur.frozens ⟨w.heap.size + 1, 1, none⟩ lr).trans rf1
          go_simp
          refine hK _ _ ?_
          clear hK K
          obtain ⟨n0, n1⟩ := two_cells (u0 := .int .i64 (cs + u.1)) (u1 := .int .i64 (u.2 + 1)) (hcur.cell r0) (hcur.cell r1)
          have HBX := Lib.hid (HB.out.trans hcur)
          go_wp2
          exact bodyPost_ret (v := .agg #[.int .i64 (cs + u.1), .int .i64 (u.2 + 1)]) (by simp [results, Tryd.results105, go_sem, n0, n1]) rfl ⟨by rw [HE.out], (HBX.out.setCell (p := ⟨w.heap.size + 1, 0, none⟩) (by show _ ≤ w.heap.size + 1; omega) _).setCell (p := ⟨w.heap.size + 1, 1, none⟩) (by show _ ≤ w.heap.size + 1; omega) _⟩
end Go.Proofs.YtogiidkofddhaaaDoor
