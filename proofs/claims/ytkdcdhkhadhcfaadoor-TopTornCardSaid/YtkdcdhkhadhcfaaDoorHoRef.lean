/-
  mesh: the reference's within, May, Orders (how many, no more), Check of a net without pairs.
-/
import Derived.Test.YtkdcdhkhadhcfaaDoorHoBest
namespace Go.Proofs.YtkdcdhkhadhcfaaDoor
open Go Go.RowKit
set_option maxHeartbeats 8000000
set_option maxRecDepth 100000
theorem R4within_any (n l h : Int) (w : World) : Calls Tryd.prog 39 #[.int .i64 n, .int .i64 l, .int .i64 h] w fun e w' => e = .returned (.bool (withinB n l h)) ∧ w = w' := by
  go_enter Tryd.func39, Tryd.ntmps39
  go_wp2_with (first | (go_at_call 24; refine (Within_any _ _ _ _).mono ?_; rintro e w' ⟨rfl, rfl⟩))
  go_ret
  exact ⟨rfl, rfl⟩
theorem R4May_any (m : Int) (ha : Option Addr) (G hc : Nat) (l : List Int) (lv : Value) (h : Int) (w : World) (hl : IntsAt w lv l) :
    Calls Tryd.prog 59 #[.agg #[.int .i64 m, .slice ha G hc, .slice none 0 0], lv, .int .i64 h] w fun e w' => e = .returned (.bool (!inB l h)) ∧ Bel w w' := by
  have HC := Lib.hid (fun wx (hx : Bel w wx) => In_any lv l h wx (hl.bel hx))
  obtain ⟨la, lc, lb, lo, rfl, _, _, _⟩ := hl
  generalize inB l h = r at *
  generalize l.length = k0 at *
  cases r
  · skip
    go_enter Tryd.func59, Tryd.ntmps59
    go_wp2_with (go_at_call 29; refine (HC.out _ (by repeat (first | assumption | exact Bel.refl _ | refine Bel.drew ?_ | refine Bel.drewN ?_ _ | refine Bel.alloc ?_ _ | refine Bel.setCell ?_ (by simp <;> omega) _ | refine Bel.trans ?_ (by assumption)))).mono ?_; rintro e w' ⟨rfl, rfl⟩)
    have x2 : (w.alloc (.cells #[.int .i64 m, .slice ha G hc, .slice none 0 0] 62)).cell? ⟨w.heap.size, 2, none⟩ = some (.slice none 0 0) := (row_facts (new_row rfl)).1 2
    have lx := cell_lt x2
    have HB := Lib.hid (show Bel w (w.alloc (.cells #[.int .i64 m, .slice ha G hc, .slice none 0 0] 62)) from (Bel.refl w).alloc _)
    generalize World.alloc _ _ = W at *
    go_loopw [7] (fun i wr => i = .int .i64 0 ∧ wr = W) (fun _ _ => 0)
    case atStart => exact ⟨rfl, rfl⟩
    case round =>
      obtain ⟨rfl, rfl⟩ := hrel
      go_wp2
      go_ret
      exact ⟨rfl, HB.out⟩
  · skip
    go_enter Tryd.func59, Tryd.ntmps59
    go_wp2_with (go_at_call 29; refine (HC.out _ (by repeat (first | assumption | exact Bel.refl _ | refine Bel.drew ?_ | refine Bel.drewN ?_ _ | refine Bel.alloc ?_ _ | refine Bel.setCell ?_ (by simp <;> omega) _ | refine Bel.trans ?_ (by assumption)))).mono ?_; rintro e w' ⟨rfl, rfl⟩)
    go_ret
    exact ⟨rfl, (by repeat (first | assumption | exact Bel.refl _ | refine Bel.drew ?_ | refine Bel.drewN ?_ _ | refine Bel.alloc ?_ _ | refine Bel.setCell ?_ (by simp <;> omega) _ | refine Bel.trans ?_ (by assumption)))⟩
/-- A list of values in memory. -/
def RwsAt (w : World) (v : Value) (n : Nat) : Prop :=
  ∃ a c, ∃ xs : List Value, v = .slice a n c ∧ xs.length = n ∧ (0 < n → ∃ b, a = some b ∧ ∀ j u, xs[j]? = some u → w.cell? (b.add j) = some u) ∧ ∀ u, u ∈ xs → u.oneCell' = true
/-- Such a list that the call makes. -/
structure RwSt (n : Nat) (w0 : World) (V : Value) (wr : World) : Prop where
  own : ∃ xs, wr.ownsRow 0 33 1 V n xs ∧ ∀ u, u ∈ xs → u.oneCell' = true
  far : ∀ g, V.ownBlock = some g → w0.heap.size ≤ g
  bel : Bel w0 wr
theorem RwSt.start (w0 : World) : RwSt 0 w0 (.slice none 0 0) w0 := ⟨⟨[], World.ownsRow_nil w0 0 _ 1, fun u h => by cases h⟩, fun g h => by simp [Value.ownBlock] at h, Bel.refl _⟩
theorem RwSt.next {n m : Nat} {w0 wa w' : World} {V V' : Value} {xs ys : List Value} (hb : Bel w0 wa) (hf : ∀ g, V.ownBlock = some g → w0.heap.size ≤ g) (h1 : ∀ u, u ∈ xs → u.oneCell' = true) (h2 : ∀ u, u ∈ ys → u.oneCell' = true)
    (ho : w'.ownsRow 0 33 1 V' (n + m) (xs ++ ys)) (hg : wa.grownBy w' V.ownBlock) (hv : V'.ownBlock = V.ownBlock ∨ V'.ownBlock = some wa.heap.size) : RwSt (n + m) w0 V' w' := by
  refine ⟨⟨_, ho, fun u hu => ?_⟩, fun g q => ?_, hb.grown hg hf⟩
  · rcases List.mem_append.1 hu with q | q
    · exact h1 u q
    · exact h2 u q
  · rcases hv with e | e
    · exact hf g (by rw [← e]; exact q)
    · rw [e] at q; injection q with q; have := hb.szle; omega
theorem RwSt.at {n : Nat} {w0 wr : World} {V : Value} (h : RwSt n w0 V wr) : RwsAt wr V n := by
  obtain ⟨⟨xs, ho, h1⟩, _, _⟩ := h
  have hlen : xs.length = n := by have := ho.1; omega
  have ho' := ho
  rcases ho.2 with ⟨rfl, h0⟩ | ⟨g, cap, cur, rfl, _, hg, hnc, hcm, hcs, htake⟩
  · subst h0
    exact ⟨none, 0, xs, rfl, hlen, fun q => absurd q (by simp), h1⟩
  · refine ⟨some ⟨g, 0, none⟩, cap, xs, rfl, hlen, fun _ => ⟨_, rfl, fun j u hu => ?_⟩, h1⟩
    have hj : j < xs.length := by
      rcases Nat.lt_or_ge j xs.length with q | q
      · exact q
      · rw [List.getElem?_eq_none q] at hu; cases hu
    have := World.ownsRow.cellAt (h := ho') j (by omega)
    rw [add_at, Nat.zero_add, this]
    exact hu
theorem RwSt.len {n : Nat} {w0 wr : World} {V : Value} (h : RwSt n w0 V wr) : ∃ a c, V = .slice a n c := by
  obtain ⟨a, c, _, e, _⟩ := h.at
  exact ⟨a, c, e⟩
theorem pow_six {G r : Nat} (hG : G ≤ 6) (hr : r ≤ G) : G ^ r ≤ 46656 := by
  have h1 : G ^ r ≤ 6 ^ r := Nat.pow_le_pow_left hG r
  have h2 : 6 ^ r ≤ 6 ^ 6 := Nat.pow_le_pow_right (by omega) (by omega)
  omega
theorem new_at {w W : World} {o : Obj} (h : (w.alloc o).drew = W) : Bel w W ∧ W.heap[w.heap.size]? = some o ∧ W.heap.size = w.heap.size + 1 := by
  subst h
  exact ⟨((Bel.refl w).alloc _).drew, heap_alloc_new .., World.size_alloc ..⟩
theorem new_at2 {w W : World} {o : Obj} (h : w.alloc o = W) : Bel w W ∧ W.heap[w.heap.size]? = some o ∧ W.heap.size = w.heap.size + 1 := by
  subst h
  exact ⟨(Bel.refl w).alloc _, heap_alloc_new .., World.size_alloc ..⟩
theorem fresh_obj {W : World} {g : Nat} {T : TypeId} {sz : Nat} (h : W.heap[g]? = some (.cells #[] T (0, 0))) : W.ownsRow 0 T sz (.slice (some ⟨g, 0, none⟩) 0 0) 0 [] := fresh_at h
theorem news_obj {W : World} {g : Nat} {T : TypeId} {v : Value} (h : W.heap[g]? = some (.cells #[v] T (0, 0))) : W.cell? ⟨g, 0, none⟩ = some v := (row_facts h).1 0
theorem news_src {w : World} {g : Nat} {v : Value} (h : w.cell? ⟨g, 0, none⟩ = some v) : ∀ j u, ([v] : List Value)[j]? = some u → w.cell? ((⟨g, 0, none⟩ : Addr).add j) = some u := fun j u hu => by
  have hj : j = 0 := by
    rcases Nat.eq_zero_or_pos j with q | q
    · exact q
    · rw [List.getElem?_eq_none (by show 1 ≤ j; omega)] at hu; cases hu
  subst hj
  rw [add_at]
  injection hu with hu
  rw [← hu]; exact h
theorem grown_e {a w w' : World} {T sz g : Nat} (hb : Bel a w) (_hE : w.ownsRow 0 T sz (.slice (some ⟨g, 0, none⟩) 0 0) 0 []) (hG : a.heap.size ≤ g) (hg : w.grownBy w' (Value.slice (some ⟨g, 0, none⟩) 0 0).ownBlock) : Bel a w' :=
  hb.grown hg fun j e => by
    have e2 : some g = some j := e
    injection e2 with e2
    omega
theorem where_e {a w : World} {T sz g : Nat} {V : Value} (hb : Bel a w) (_hE : w.ownsRow 0 T sz (.slice (some ⟨g, 0, none⟩) 0 0) 0 []) (hG : a.heap.size ≤ g) (hw : V.ownBlock = (Value.slice (some ⟨g, 0, none⟩) 0 0).ownBlock ∨ V.ownBlock = some w.heap.size) : ∀ j, V.ownBlock = some j → a.heap.size ≤ j := fun j e => by
  rcases hw with q | q
  · rw [q] at e
    have e2 : some g = some j := e
    injection e2 with e2
    omega
  · rw [q] at e
    injection e with e
    have := hb.szle
    omega
theorem keep_e {w w' : World} {T sz g k : Nat} {u : Value} (_hE : w.ownsRow 0 T sz (.slice (some ⟨g, 0, none⟩) 0 0) 0 []) (hg : w.grownBy w' (Value.slice (some ⟨g, 0, none⟩) 0 0).ownBlock) (hne : g < k ∨ k < g) (hN : w.cell? ⟨k, 0, none⟩ = some u) : w'.cell? ⟨k, 0, none⟩ = some u :=
  (World.cell?_of_block (hg.block k (cell_lt hN) (fun e => by
    have e2 : some k = some g := e
    injection e2 with e2
    omega))).trans hN
theorem R4Orders_any (m : Int) (ha : Option Addr) (G hc : Nat) (hG : G ≤ 6) : ∀ (r : Nat) (L : List Int) (lv : Value) (w : World), L.length + r = G → IntsAt w lv L →
    Calls Tryd.prog 41 #[.agg #[.int .i64 m, .slice ha G hc, .slice none 0 0], lv] w fun e w' => ∃ V n, e = .returned V ∧ RwsAt w' V n ∧ n ≤ G ^ r ∧ Bel w w'
  | 0, L, lv, w, hL, hl => by
    obtain ⟨la, lc, lb, lo, rfl, _, _, _⟩ := hl
    have hq : ((L.length : Int) == (G : Int)) = true := by rw [beq_iff_eq]; omega
    generalize L.length = k0 at *
    clear hL
    go_enter Tryd.func41, Tryd.ntmps41
    go_wp2
    go_ret
    refine ⟨_, 1, rfl, ⟨_, 1, [.slice la k0 lc], rfl, rfl, fun _ => ⟨_, rfl, news_src ?_⟩, fun u hu => by simp at hu; subst hu; rfl⟩, by simp, (by repeat (first | assumption | exact Bel.refl _ | refine Bel.drew ?_ | refine Bel.drewN ?_ _ | refine Bel.alloc ?_ _ | refine Bel.setCell ?_ (by simp <;> omega) _ | refine Bel.trans ?_ (by assumption)))⟩
    exact (row_facts (new_row (by simp))).1 0
  | r + 1, L, lv, w, hL, hl => by
    have HIH := Lib.hid (R4Orders_any m ha G hc hG r)
    have HM := Lib.hid (fun k wx (hx : Bel w wx) => R4May_any m ha G hc L lv k wx (hl.bel hx))
    have HLV := Lib.hid hl
    obtain ⟨la, lc, lb, lo, rfl, hla, ⟨hLl, _⟩, hlc⟩ := hl
    have HSRC := Lib.hid (fun wx (hb : Bel w wx) => ints_from (w := wx) hla fun i hi => hb.cell (hlc i hi))
    have hq : ((L.length : Int) == (G : Int)) = false := by rw [beq_eq_false_iff_ne]; omega
    have HPW := Lib.hid (pow_six hG (show r ≤ G by omega))
    have HPS := Lib.hid (show G ^ (r + 1) = G * G ^ r by rw [Nat.pow_succ, Nat.mul_comm])
    have HLL := Lib.hid (show L.length + 1 + r = G by omega)
    have hk6 : L.length ≤ 6 := by omega
    obtain ⟨i1, hi1, hz1, hs1, hb1⟩ := info_parts mkInt
    have HI1 := Lib.hid hi1
    have HZ1 := Lib.hid hz1
    obtain ⟨i2, hi2, hz2, hs2, hb2⟩ := info_parts mkInts
    have HI2 := Lib.hid hi2
    have HZ2 := Lib.hid hz2
    have HON := Lib.hid (ints_one L)
    have HLE := Lib.hid (show (L.map (Value.int .i64)).length = L.length by simp)
    rw [HPS.out]
    generalize G ^ r = P at *
    clear hL hla hlc hi1 hz1 hi2 hz2 HPS
    generalize hkk : L.length = k0 at *
    have HKK := Lib.hid hkk
    clear hkk
    go_enter Tryd.func41, Tryd.ntmps41
    go_wp2
    have x0 : (w.alloc (.cells #[.int .i64 m, .slice ha G hc, .slice none 0 0] 62)).cell? ⟨w.heap.size, 0, none⟩ = some (.int .i64 m) := (row_facts (new_row rfl)).1 0
    have x1 : (w.alloc (.cells #[.int .i64 m, .slice ha G hc, .slice none 0 0] 62)).cell? ⟨w.heap.size, 1, none⟩ = some (.slice ha G hc) := (row_facts (new_row rfl)).1 1
    have x2 : (w.alloc (.cells #[.int .i64 m, .slice ha G hc, .slice none 0 0] 62)).cell? ⟨w.heap.size, 2, none⟩ = some (.slice none 0 0) := (row_facts (new_row rfl)).1 2
    have HB := Lib.hid (show Bel w (w.alloc (.cells #[.int .i64 m, .slice ha G hc, .slice none 0 0] 62)) from (Bel.refl w).alloc _)
    generalize World.alloc _ _ = W at *
    go_loopw [5, 6] (fun V i wr => ∃ k n : Nat, k ≤ G ∧ i = .int .i64 k ∧ RwSt n W V wr ∧ n ≤ k * P) (fun _ i _ => G - (intOf i).toNat)
    case atStart => exact ⟨0, 0, by omega, rfl, RwSt.start W, by omega⟩
    case round =>
      obtain ⟨k, n, hk, rfl, hst, hn⟩ := hrel
      obtain ⟨va, vc, hV⟩ := hst.len
      subst hV
      have HST := Lib.hid hst
      have HB1 := Lib.hid (HB.out.trans hst.bel)
      have y0 := hst.bel.cell x0
      have y1 := hst.bel.cell x1
      have y2 := hst.bel.cell x2
      have ly := cell_lt y0
      have HNN := Lib.hid hn
      have HNB := Lib.hid (show n ≤ 280000 by
        have : k * P ≤ 6 * 46656 := Nat.mul_le_mul (by omega) HPW.out
        omega)
      clear hst hn
      by_cases hlt : k < G
      · have hlti : (k : Int) < (G : Int) := by omega
        have HMM := Lib.hid (fun wx (hx : Bel wr wx) => HM.out k wx (HB1.out.trans hx))
        generalize inB L k = c at *
        cases c with
        | true =>
          go_wp2_with (go_at_call 59; refine (HMM.out _ (by repeat (first | assumption | exact Bel.refl _ | refine Bel.drew ?_ | refine Bel.drewN ?_ _ | refine Bel.alloc ?_ _ | refine Bel.setCell ?_ (by simp <;> omega) _ | refine Bel.trans ?_ (by assumption)))).mono ?_; rintro e w2 ⟨rfl, hb⟩; have HB2 := Lib.hid hb; clear hb)
          go_roundw
          case rel =>
            refine ⟨k + 1, n, by omega, by go_num, ⟨?_, HST.out.far, HST.out.bel.trans HB2.out⟩, ?_⟩
            · obtain ⟨xs, h1, h2⟩ := HST.out.own; exact ⟨xs, ownsRow_bel h1 HB2.out, h2⟩
            · have := HNN.out; rw [Nat.add_mul]; omega
          case measure => simp [intOf]; omega
        | false =>
          go_wp2_with (first | (go_at_call 59; refine (HMM.out _ (by repeat (first | assumption | exact Bel.refl _ | refine Bel.drew ?_ | refine Bel.drewN ?_ _ | refine Bel.alloc ?_ _ | refine Bel.setCell ?_ (by simp <;> omega) _ | refine Bel.trans ?_ (by assumption)))).mono ?_; rintro e w2 ⟨rfl, hb⟩; have HB2 := Lib.hid hb; replace y0 := hb.cell y0; replace y1 := hb.cell y1; replace y2 := hb.cell y2; replace ly := cell_lt y0; clear hb) | fail)
          have HST2 : Hid (RwSt n W (.slice va n vc) w2) := Lib.hid (by
            obtain ⟨xs, h1, h2⟩ := HST.out.own
            exact ⟨⟨xs, ownsRow_bel h1 HB2.out, h2⟩, HST.out.far, HST.out.bel.trans HB2.out⟩)
          have HSR := Lib.hid (fun wx (hx : Bel w2 wx) => HSRC.out wx ((HB1.out.trans HB2.out).trans hx))
          have HC0 := Lib.hid (Bel.refl w2)
          refine wp_region_mixC (Plan.seq [0, 1, 3, 5] (.both 2 (.both 4 (Plan.seq [1006, 1007, 1008, 1009, 10] .nil) 6 (Plan.seq [1004, 1007, 1008, 1009, 10] .nil)) 6 (Plan.seq [1002, 1004, 1007, 1008, 1009, 10] .nil))) (fun q => Bel W q) (by kernel_rfl) (by kernel_rfl) (HST2.out.bel.drew) (fun hcur => ?_)
          simp only [Plan.seq, Plan.fill, List.getD_cons_zero, List.getD_cons_succ, Nat.reduceLT, ↓reduceIte, Nat.reduceSub]
          apply mix_pure _ rfl
          · intro w' hw'
            have z0 := hw'.cell x0
            have z1 := hw'.cell x1
            have z2 := hw'.cell x2
            go_simp
            rfl
          intro K hK
          go_simp
          refine hK _ ?_
          clear hK K
          apply mix_pure _ rfl
          · intro w' hw'
            have z0 := hw'.cell x0
            have z1 := hw'.cell x1
            have z2 := hw'.cell x2
            go_simp
            rfl
          intro K hK
          go_simp
          refine hK _ ?_
          clear hK K
          apply mix_pure _ rfl
          · intro w' hw'
            have z0 := hw'.cell x0
            have z1 := hw'.cell x1
            have z2 := hw'.cell x2
            go_simp
            rfl
          intro K hK
          go_simp
          refine hK _ ?_
          clear hK K
          apply mix_pure _ rfl
          · intro w' hw'
            have z0 := hw'.cell x0
            have z1 := hw'.cell x1
            have z2 := hw'.cell x2
            go_simp
            rfl
          intro K hK
          go_simp
          refine hK _ ?_
          clear hK K
          refine mix_both ?_ ?_
          · refine mix_act rfl (fun K hK => ?_)
            go_simp
            first | (have hh := HN.out; clear hh; generalize hWA : World.alloc _ _ = WA; have hna := new_at2 hWA) | (generalize hWA : World.drew (World.alloc _ _) = WA; have hna := new_at hWA)
            have HE := Lib.hid (fresh_obj (T := 3) (sz := 1) hna.2.1)
            have hbn := hna.1
            have HG0 := Lib.hid HC0.out.szle
            try have HNE := Lib.hid (cell_lt HN.out)
            try replace HN := Lib.hid (hbn.cell HN.out)
            replace HC0 := Lib.hid (HC0.out.trans hbn)
            refine hK _ _ (HST2.out.bel.trans HC0.out) (fun hcur => ?_)
            clear hK K hbn hWA hna
            refine mix_both ?_ ?_
            · refine mix_act rfl (fun K hK => ?_)
              refine wp_append_opt _ _ 33 rfl 3 i1 (.int .i64 0) 1 8 Tryd.underlying33 HI1.out HZ1.out hs1 hb1 rfl (by decide) _ 0 [] rfl HE.out la k0 lc (L.map (Value.int .i64)) rfl (by rw [HLE.out, Nat.mul_one]) (HSR.out _ HC0.out) HON.out (by unfold maxLen; omega) (by omega) ?_
              intro V4 w4 hown hgrow hwhere
              have HF := Lib.hid hown
              have hb4 : Bel w2 w4 := grown_e HC0.out HE.out HG0.out hgrow
              have HV4 := Lib.hid (where_e HC0.out HE.out HG0.out hwhere)
              first | replace HN := Lib.hid (keep_e HE.out hgrow (.inl HNE.out) HN.out) | replace HN := Lib.hid (keep_e HE.out hgrow (.inr HNE.out) HN.out) | skip
              replace HC0 := Lib.hid hb4
              refine hK _ _ (HST2.out.bel.trans hb4) (fun hcur => ?_)
              clear hK K hb4 hown hgrow hwhere HE
              refine mix_act rfl (fun K hK => ?_)
              go_simp
              first | (have hh := HG0.out; clear hh; generalize hWB : World.alloc _ _ = WB; have hnb := new_at2 hWB) | (generalize hWB : World.drew (World.alloc _ _) = WB; have hnb := new_at hWB)
              have HN := Lib.hid (news_obj hnb.2.1)
              have hbn := hnb.1
              try have HNE := Lib.hid (ownsRow_lt HE.out rfl)
              try replace HE := Lib.hid (ownsRow_bel HE.out hbn)
              try replace HF := Lib.hid (ownsRow_bel HF.out hbn)
              replace HC0 := Lib.hid (HC0.out.trans hbn)
              refine hK _ _ (HST2.out.bel.trans HC0.out) (fun hcur => ?_)
              clear hK K hbn hWB hnb
              refine mix_act rfl (fun K hK => ?_)
              refine wp_append_opt _ _ 33 rfl 3 i1 (.int .i64 0) 1 8 Tryd.underlying33 HI1.out HZ1.out hs1 hb1 rfl (by decide) _ (0 + k0) ([] ++ L.map (Value.int .i64)) rfl HF.out (some _) 1 1 [.int .i64 (k : Int)] rfl rfl (fun _ => ⟨_, rfl, news_src HN.out⟩) (fun u hu => by simp at hu; subst hu; rfl) (by unfold maxLen; omega) (by omega) ?_
              intro V7 w7 hown hgrow hwhere
              have hi7 : Hid (IntsAt w7 V7 (L ++ [(k : Int)])) := Lib.hid (ownInts (by rw [List.length_append, List.length_singleton, HKK.out]; omega) (by simpa [HKK.out, Nat.zero_add] using hown))
              have hb7 : Bel w2 w7 := HC0.out.grown hgrow HV4.out
              replace HC0 := Lib.hid hb7
              refine hK _ _ (HST2.out.bel.trans hb7) (fun hcur => ?_)
              clear hK K hb7 hown hgrow hwhere HF HN
              refine mix_act rfl (fun K hK => ?_)
              go_simp
              refine (HIH.out (L ++ [(k : Int)]) V7 w7 (by rw [List.length_append, List.length_singleton, HKK.out]; exact HLL.out) hi7.out).mono ?_
              rintro e w8 ⟨V8, n8, rfl, hr8, hn8, hb8⟩
              have HR8 := Lib.hid hr8
              have HN8 := Lib.hid hn8
              have HN9 := Lib.hid (show n8 ≤ 46656 from Nat.le_trans hn8 HPW.out)
              replace HC0 := Lib.hid (HC0.out.trans hb8)
              have hbb := HST2.out.bel.trans HC0.out
              clear hr8 hn8 hb8
              simp only []
              refine hK _ _ hbb (fun hcur => ?_)
              clear hK K hbb
              refine mix_act rfl (fun K hK => ?_)
              obtain ⟨xs, hxo, hx1⟩ := HST2.out.own
              have hxo8 := ownsRow_bel hxo HC0.out
              have hr8 := HR8.out
              obtain ⟨a8, c8, ys, rfl, hyl, hys, hy1⟩ := hr8
              have HN9' := HN9.out
              have HNB' := HNB.out
              refine wp_append_opt _ _ 22 rfl 33 i2 (.slice none 0 0) 1 24 Tryd.underlying22 HI2.out HZ2.out hs2 hb2 rfl (by decide) _ n xs rfl hxo8 a8 n8 c8 ys rfl (by omega) hys hy1 (by unfold maxLen; omega) (by omega) ?_
              intro V9 w9 hown hgrow hwhere
              have HST9 := Lib.hid (RwSt.next hcur HST2.out.far hx1 hy1 hown hgrow hwhere)
              refine hK _ _ HST9.out.bel (fun hcur => ?_)
              clear hK K hown hgrow hwhere hxo hxo8 hx1 hys hy1 HC0
              apply mix_pure _ rfl
              · intro w' hw'
                have z0 := hw'.cell x0
                have z1 := hw'.cell x1
                have z2 := hw'.cell x2
                go_simp
                rfl
              intro K hK
              go_simp
              refine hK _ ?_
              clear hK K
              refine mix_nil ?_
              go_wp2
              go_roundw
              case rel => exact ⟨k + 1, n + n8, by omega, by go_num, HST9.out, by have := HNN.out; have := HN8.out; rw [Nat.add_mul]; omega⟩
              case measure => simp [intOf]; omega
            · refine mix_act rfl (fun K hK => ?_)
              go_simp
              first | (have hh := HG0.out; clear hh; generalize hWB : World.alloc _ _ = WB; have hnb := new_at2 hWB) | (generalize hWB : World.drew (World.alloc _ _) = WB; have hnb := new_at hWB)
              have HN := Lib.hid (news_obj hnb.2.1)
              have hbn := hnb.1
              try have HNE := Lib.hid (ownsRow_lt HE.out rfl)
              try replace HE := Lib.hid (ownsRow_bel HE.out hbn)
              try replace HF := Lib.hid (ownsRow_bel HF.out hbn)
              replace HC0 := Lib.hid (HC0.out.trans hbn)
              refine hK _ _ (HST2.out.bel.trans HC0.out) (fun hcur => ?_)
              clear hK K hbn hWB hnb
              refine mix_act rfl (fun K hK => ?_)
              refine wp_append_opt _ _ 33 rfl 3 i1 (.int .i64 0) 1 8 Tryd.underlying33 HI1.out HZ1.out hs1 hb1 rfl (by decide) _ 0 [] rfl HE.out la k0 lc (L.map (Value.int .i64)) rfl (by rw [HLE.out, Nat.mul_one]) (HSR.out _ HC0.out) HON.out (by unfold maxLen; omega) (by omega) ?_
              intro V4 w4 hown hgrow hwhere
              have HF := Lib.hid hown
              have hb4 : Bel w2 w4 := grown_e HC0.out HE.out HG0.out hgrow
              have HV4 := Lib.hid (where_e HC0.out HE.out HG0.out hwhere)
              first | replace HN := Lib.hid (keep_e HE.out hgrow (.inl HNE.out) HN.out) | replace HN := Lib.hid (keep_e HE.out hgrow (.inr HNE.out) HN.out) | skip
              replace HC0 := Lib.hid hb4
              refine hK _ _ (HST2.out.bel.trans hb4) (fun hcur => ?_)
              clear hK K hb4 hown hgrow hwhere HE
              refine mix_act rfl (fun K hK => ?_)
              refine wp_append_opt _ _ 33 rfl 3 i1 (.int .i64 0) 1 8 Tryd.underlying33 HI1.out HZ1.out hs1 hb1 rfl (by decide) _ (0 + k0) ([] ++ L.map (Value.int .i64)) rfl HF.out (some _) 1 1 [.int .i64 (k : Int)] rfl rfl (fun _ => ⟨_, rfl, news_src HN.out⟩) (fun u hu => by simp at hu; subst hu; rfl) (by unfold maxLen; omega) (by omega) ?_
              intro V7 w7 hown hgrow hwhere
              have hi7 : Hid (IntsAt w7 V7 (L ++ [(k : Int)])) := Lib.hid (ownInts (by rw [List.length_append, List.length_singleton, HKK.out]; omega) (by simpa [HKK.out, Nat.zero_add] using hown))
              have hb7 : Bel w2 w7 := HC0.out.grown hgrow HV4.out
              replace HC0 := Lib.hid hb7
              refine hK _ _ (HST2.out.bel.trans hb7) (fun hcur => ?_)
              clear hK K hb7 hown hgrow hwhere HF HN
              refine mix_act rfl (fun K hK => ?_)
              go_simp
              refine (HIH.out (L ++ [(k : Int)]) V7 w7 (by rw [List.length_append, List.length_singleton, HKK.out]; exact HLL.out) hi7.out).mono ?_
              rintro e w8 ⟨V8, n8, rfl, hr8, hn8, hb8⟩
              have HR8 := Lib.hid hr8
              have HN8 := Lib.hid hn8
              have HN9 := Lib.hid (show n8 ≤ 46656 from Nat.le_trans hn8 HPW.out)
              replace HC0 := Lib.hid (HC0.out.trans hb8)
              have hbb := HST2.out.bel.trans HC0.out
              clear hr8 hn8 hb8
              simp only []
              refine hK _ _ hbb (fun hcur => ?_)
              clear hK K hbb
              refine mix_act rfl (fun K hK => ?_)
              obtain ⟨xs, hxo, hx1⟩ := HST2.out.own
              have hxo8 := ownsRow_bel hxo HC0.out
              have hr8 := HR8.out
              obtain ⟨a8, c8, ys, rfl, hyl, hys, hy1⟩ := hr8
              have HN9' := HN9.out
              have HNB' := HNB.out
              refine wp_append_opt _ _ 22 rfl 33 i2 (.slice none 0 0) 1 24 Tryd.underlying22 HI2.out HZ2.out hs2 hb2 rfl (by decide) _ n xs rfl hxo8 a8 n8 c8 ys rfl (by omega) hys hy1 (by unfold maxLen; omega) (by omega) ?_
              intro V9 w9 hown hgrow hwhere
              have HST9 := Lib.hid (RwSt.next hcur HST2.out.far hx1 hy1 hown hgrow hwhere)
              refine hK _ _ HST9.out.bel (fun hcur => ?_)
              clear hK K hown hgrow hwhere hxo hxo8 hx1 hys hy1 HC0
              apply mix_pure _ rfl
              · intro w' hw'
                have z0 := hw'.cell x0
                have z1 := hw'.cell x1
                have z2 := hw'.cell x2
                go_simp
                rfl
              intro K hK
              go_simp
              refine hK _ ?_
              clear hK K
              refine mix_nil ?_
              go_wp2
              go_roundw
              case rel => exact ⟨k + 1, n + n8, by omega, by go_num, HST9.out, by have := HNN.out; have := HN8.out; rw [Nat.add_mul]; omega⟩
              case measure => simp [intOf]; omega
          · refine mix_act rfl (fun K hK => ?_)
            go_simp
            first | (have hh := HG0.out; clear hh; generalize hWB : World.alloc _ _ = WB; have hnb := new_at2 hWB) | (generalize hWB : World.drew (World.alloc _ _) = WB; have hnb := new_at hWB)
            have HN := Lib.hid (news_obj hnb.2.1)
            have hbn := hnb.1
            try have HNE := Lib.hid (ownsRow_lt HE.out rfl)
            try replace HE := Lib.hid (ownsRow_bel HE.out hbn)
            try replace HF := Lib.hid (ownsRow_bel HF.out hbn)
            replace HC0 := Lib.hid (HC0.out.trans hbn)
            refine hK _ _ (HST2.out.bel.trans HC0.out) (fun hcur => ?_)
            clear hK K hbn hWB hnb
            refine mix_act rfl (fun K hK => ?_)
            go_simp
            first | (have hh := HN.out; clear hh; generalize hWA : World.alloc _ _ = WA; have hna := new_at2 hWA) | (generalize hWA : World.drew (World.alloc _ _) = WA; have hna := new_at hWA)
            have HE := Lib.hid (fresh_obj (T := 3) (sz := 1) hna.2.1)
            have hbn := hna.1
            have HG0 := Lib.hid HC0.out.szle
            try have HNE := Lib.hid (cell_lt HN.out)
            try replace HN := Lib.hid (hbn.cell HN.out)
            replace HC0 := Lib.hid (HC0.out.trans hbn)
            refine hK _ _ (HST2.out.bel.trans HC0.out) (fun hcur => ?_)
            clear hK K hbn hWA hna
            refine mix_act rfl (fun K hK => ?_)
            refine wp_append_opt _ _ 33 rfl 3 i1 (.int .i64 0) 1 8 Tryd.underlying33 HI1.out HZ1.out hs1 hb1 rfl (by decide) _ 0 [] rfl HE.out la k0 lc (L.map (Value.int .i64)) rfl (by rw [HLE.out, Nat.mul_one]) (HSR.out _ HC0.out) HON.out (by unfold maxLen; omega) (by omega) ?_
            intro V4 w4 hown hgrow hwhere
            have HF := Lib.hid hown
            have hb4 : Bel w2 w4 := grown_e HC0.out HE.out HG0.out hgrow
            have HV4 := Lib.hid (where_e HC0.out HE.out HG0.out hwhere)
            first | replace HN := Lib.hid (keep_e HE.out hgrow (.inl HNE.out) HN.out) | replace HN := Lib.hid (keep_e HE.out hgrow (.inr HNE.out) HN.out) | skip
            replace HC0 := Lib.hid hb4
            refine hK _ _ (HST2.out.bel.trans hb4) (fun hcur => ?_)
            clear hK K hb4 hown hgrow hwhere HE
            refine mix_act rfl (fun K hK => ?_)
            refine wp_append_opt _ _ 33 rfl 3 i1 (.int .i64 0) 1 8 Tryd.underlying33 HI1.out HZ1.out hs1 hb1 rfl (by decide) _ (0 + k0) ([] ++ L.map (Value.int .i64)) rfl HF.out (some _) 1 1 [.int .i64 (k : Int)] rfl rfl (fun _ => ⟨_, rfl, news_src HN.out⟩) (fun u hu => by simp at hu; subst hu; rfl) (by unfold maxLen; omega) (by omega) ?_
            intro V7 w7 hown hgrow hwhere
            have hi7 : Hid (IntsAt w7 V7 (L ++ [(k : Int)])) := Lib.hid (ownInts (by rw [List.length_append, List.length_singleton, HKK.out]; omega) (by simpa [HKK.out, Nat.zero_add] using hown))
            have hb7 : Bel w2 w7 := HC0.out.grown hgrow HV4.out
            replace HC0 := Lib.hid hb7
            refine hK _ _ (HST2.out.bel.trans hb7) (fun hcur => ?_)
            clear hK K hb7 hown hgrow hwhere HF HN
            refine mix_act rfl (fun K hK => ?_)
            go_simp
            refine (HIH.out (L ++ [(k : Int)]) V7 w7 (by rw [List.length_append, List.length_singleton, HKK.out]; exact HLL.out) hi7.out).mono ?_
            rintro e w8 ⟨V8, n8, rfl, hr8, hn8, hb8⟩
            have HR8 := Lib.hid hr8
            have HN8 := Lib.hid hn8
            have HN9 := Lib.hid (show n8 ≤ 46656 from Nat.le_trans hn8 HPW.out)
            replace HC0 := Lib.hid (HC0.out.trans hb8)
            have hbb := HST2.out.bel.trans HC0.out
            clear hr8 hn8 hb8
            simp only []
            refine hK _ _ hbb (fun hcur => ?_)
            clear hK K hbb
            refine mix_act rfl (fun K hK => ?_)
            obtain ⟨xs, hxo, hx1⟩ := HST2.out.own
            have hxo8 := ownsRow_bel hxo HC0.out
            have hr8 := HR8.out
            obtain ⟨a8, c8, ys, rfl, hyl, hys, hy1⟩ := hr8
            have HN9' := HN9.out
            have HNB' := HNB.out
            refine wp_append_opt _ _ 22 rfl 33 i2 (.slice none 0 0) 1 24 Tryd.underlying22 HI2.out HZ2.out hs2 hb2 rfl (by decide) _ n xs rfl hxo8 a8 n8 c8 ys rfl (by omega) hys hy1 (by unfold maxLen; omega) (by omega) ?_
            intro V9 w9 hown hgrow hwhere
            have HST9 := Lib.hid (RwSt.next hcur HST2.out.far hx1 hy1 hown hgrow hwhere)
            refine hK _ _ HST9.out.bel (fun hcur => ?_)
            clear hK K hown hgrow hwhere hxo hxo8 hx1 hys hy1 HC0
            apply mix_pure _ rfl
            · intro w' hw'
              have z0 := hw'.cell x0
              have z1 := hw'.cell x1
              have z2 := hw'.cell x2
              go_simp
              rfl
            intro K hK
            go_simp
            refine hK _ ?_
            clear hK K
            refine mix_nil ?_
            go_wp2
            go_roundw
            case rel => exact ⟨k + 1, n + n8, by omega, by go_num, HST9.out, by have := HNN.out; have := HN8.out; rw [Nat.add_mul]; omega⟩
            case measure => simp [intOf]; omega
      · have hlti : ¬ (k : Int) < (G : Int) := by omega
        have hke : k = G := by omega
        have HR := Lib.hid (show RwsAt wr (.slice va n vc) n from HST.out.at)
        have HN2 := Lib.hid (show n ≤ G * P by have := HNN.out; rw [hke] at this; exact this)
        clear hke
        go_wp2
        go_ret
        first | exact ⟨_, n, rfl, HR.out, HN2.out, HB1.out⟩ | exact ⟨_, rfl, n, HR.out, HN2.out, HB1.out⟩ | exact ⟨n, rfl, HR.out, HN2.out, HB1.out⟩
end Go.Proofs.YtkdcdhkhadhcfaaDoor
