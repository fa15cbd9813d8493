/-
  lifts: the closure that tries all crews: what it yields; crews.
-/
import Derived.Test.YtkdcdhkhadhcfaaLfOpen
import Derived.Test.YtkdcdhkhadhcfaaLfRcv
import Derived.Test.YtkdcdhkhadhcfaaCut
namespace Go.Proofs.Ytkdcdhkhadhcfaa
open Go Go.RowKit Go.Shelf
attribute [local go_sem] Oper.semAt_some
set_option maxHeartbeats 8000000
set_option maxRecDepth 100000
/-- A slice outside the blocks that D names. -/
def NoD (D : Nat → Prop) (v : Value) : Prop := ∀ a n c, v = .slice (some a) n c → 0 < n → ¬ D a.block
theorem ints_keep {D : Nat → Prop} {W W' : World} {v : Value} {l : List Int} (h : IntsAt W v l) (hd : NoD D v) (k : KeepC D W W') : IntsAt W' v l := by
  obtain ⟨a, c, b, off, rfl, ha, hl, hc⟩ := h
  refine ⟨a, c, b, off, rfl, ha, hl, fun i hi => ?_⟩
  have := ha (by omega)
  subst this
  have hb : ¬ D b := hd _ _ _ rfl (by omega)
  exact k.cell hb (hc i hi)
theorem ints_src {w : World} {la : Option Addr} {k0 lc : Nat} {L : List Int} (h : IntsAt w (.slice la k0 lc) L) (hlen : L.length = k0) : 0 < k0 → ∃ b, la = some b ∧ ∀ j u, (L.map (Value.int .i64))[j]? = some u → w.cell? (b.add j) = some u := by
  obtain ⟨a, c, b, off, e, ha, hl, hc⟩ := h
  injection e with e1 e2 e3
  subst e1
  intro h0
  refine ⟨_, ha (by omega), fun j u hu => ?_⟩
  have hj : j < L.length := by
    rcases Nat.lt_or_ge j L.length with q | q
    · exact q
    · rw [List.getElem?_eq_none (by simpa using q)] at hu; cases hu
  rw [add_at, hc j hj]
  unfold at0
  rw [List.getElem?_map, List.getElem?_eq_getElem hj] at hu
  simpa [List.getD, hj] using hu
/-- How an order is handed over. -/
def OrdAt (D : Nat → Prop) (x : List Int) (vs : Array Value) (W : World) : Prop := ∃ v, vs = #[v] ∧ IntsAt W v x ∧ NoD D v
theorem own_at {w : World} {T sz n m c : Nat} {a : Addr} {V : Value} {xs : List Value} (h : w.ownsRow 0 T sz V n xs) (e : V = .slice (some a) m c) : (Value.slice (some a) m c).ownBlock = some a.block := by
  subst e
  rcases h.2 with ⟨h0, _⟩ | ⟨g, cap, cur, hv, _⟩
  · cases h0
  · injection hv with e1 e2 e3
    injection e1 with e1
    subst e1
    rfl
theorem new_at2 {w W : World} {o : Obj} (h : w.alloc o = W) : Bel w W ∧ W.heap[w.heap.size]? = some o ∧ W.heap.size = w.heap.size + 1 := by
  subst h
  exact ⟨(Bel.refl w).alloc _, heap_alloc_new .., World.size_alloc ..⟩
theorem news_obj {W : World} {g : Nat} {T : TypeId} {v : Value} (h : W.heap[g]? = some (.cells #[v] T (0, 0))) : W.cell? ⟨g, 0, none⟩ = some v := (row_facts h).1 0
theorem news_src {w : World} {g : Nat} {v : Value} (h : w.cell? ⟨g, 0, none⟩ = some v) : ∀ j u, ([v] : List Value)[j]? = some u → w.cell? ((⟨g, 0, none⟩ : Addr).add j) = some u := fun j u hu => by
  have hj : j = 0 := by
    rcases Nat.eq_zero_or_pos j with q | q
    · exact q
    · rw [List.getElem?_eq_none (by show 1 ≤ j; omega)] at hu; cases hu
  subst hj
  rw [add_at]
  injection hu with hu
  rw [← hu]; exact h
/-- The call's blocks. -/
structure CrAt (D : Nat → Prop) (W : World) (G B : Nat) (g sb yb mb l : Nat) : Prop where
  s : W.cell? ⟨sb, 0, none⟩ = some (.pointer (some ⟨g, 0, none⟩))
  p : ∃ a c, W.cell? ⟨g, 2, none⟩ = some (.slice a G c)
  b : ∃ a c, W.cell? ⟨g, 3, none⟩ = some (.slice a B c)
  y : W.cell? ⟨yb, 0, none⟩ = some (.func (.yield l) #[] #[])
  m : W.cell? ⟨mb, 0, none⟩ = some (.func (.func 124) #[] #[.pointer (some ⟨sb, 0, none⟩), .pointer (some ⟨yb, 0, none⟩), .pointer (some ⟨mb, 0, none⟩)])
  ng : ¬ D g
  ns : ¬ D sb
  ny : ¬ D yb
  nm : ¬ D mb
  lt : ∀ k, D k → k < W.heap.size
theorem CrAt.keep {D : Nat → Prop} {W W' : World} {G B g sb yb mb l : Nat} (h : CrAt D W G B g sb yb mb l) (k : KeepC D W W') : CrAt D W' G B g sb yb mb l :=
  ⟨k.cell h.ns h.s, by obtain ⟨a, c, q⟩ := h.p; exact ⟨a, c, k.cell h.ng q⟩, by obtain ⟨a, c, q⟩ := h.b; exact ⟨a, c, k.cell h.ng q⟩, k.cell h.ny h.y, k.cell h.nm h.m, h.ng, h.ns, h.ny, h.nm, fun i hi => Nat.lt_of_lt_of_le (h.lt i hi) k.size⟩
def CrewOk (D : Nat → Prop) (J : List (List Int) → World → Prop) (pre xs : List (List Int)) (W : World) (e : Ending) (W' : World) : Prop :=
  e = .returned (.bool true) ∧ J (pre ++ xs) W' ∧ KeepC D W W'
theorem crew_any (G B : Nat) (g sb yb mb l : Nat) (D : Nat → Prop) (J : List (List Int) → World → Prop) (all : List (List Int)) (nn : Nat) (hGB : G ≤ 100 ∧ B ≤ 100)
    (hJ : ∀ s A B, J s A → Bel A B → J s B)
    (hY : ∀ pre x vs W1, (∃ post, all = pre ++ x :: post) → OrdAt D x vs W1 → J pre W1 →
      YieldAt Fence.wide nn Try.prog l vs W1 fun e W' => e = .returned (.bool true) ∧ J (pre ++ [x]) W' ∧ KeepC D W1 W') :
    ∀ (r : Nat) (L : List Int) (lv : Value) (pre : List (List Int)) (W : World), L.length + r = G → (∃ post, all = pre ++ crewsL B r L ++ post) → J pre W → CrAt D W G B g sb yb mb l → IntsAt W lv L → NoD D lv →
      Calls Try.prog 124 #[lv, .pointer (some ⟨sb, 0, none⟩), .pointer (some ⟨yb, 0, none⟩), .pointer (some ⟨mb, 0, none⟩)] W (CrewOk D J pre (crewsL B r L) W)
  | 0, L, lv, pre, W, hL, hall, h0, hP, hlv, hn => by
    have HP := Lib.hid hP
    obtain ⟨pa, pc, p2⟩ := hP.p
    obtain ⟨fn, tmps, assign, body, hy, hRd⟩ := hY pre L #[lv] W (by obtain ⟨post, e⟩ := hall; exact ⟨post, by rw [e, List.append_assoc]; rfl⟩) ⟨lv, rfl, hlv, hn⟩ h0
    have HRd := Lib.hid hRd
    have s0 := hP.s
    have y0 := hP.y
    have lp := cell_lt s0
    have lg := cell_lt p2
    have ly := cell_lt y0
    obtain ⟨la, lc, lb', lo, rfl, _, _, _⟩ := hlv
    have hmm : G = L.length := by omega
    rw [hmm] at p2
    have hor : crewsL B 0 L = [L] := rfl
    rw [hor]
    clear hP hRd hY hall h0 hmm HP hor hL
    generalize L.length = k at *
    refine (callsIn_wide (n := nn + 1)).1 ?_
    refine callsIn_of_wp Try.func124 rfl trivial ?_ rfl
    simp only [Try.ntmps124, List.size_toArray, List.length_cons, List.length_nil, Nat.reduceAdd, Nat.reduceSub, Array.replicate_succ, Array.replicate_zero, List.push_toArray, List.append_toArray, List.nil_append, List.cons_append]
    gi_wp2
    refine HRd.out.mono ?_
    rintro e W3 ⟨rfl, hJ3, hk3⟩
    have HJ3 := Lib.hid hJ3
    have HK3 := Lib.hid hk3
    clear hJ3 hk3
    gi_wp2
    go_ret
    exact ⟨rfl, HJ3.out, HK3.out⟩
  | r + 1, L, lv, pre, W, hL, hall, h0, hP, hlv, hn => by
    have HIH := Lib.hid (crew_any G B g sb yb mb l D J all nn hGB hJ hY r)
    have HP := Lib.hid hP
    have HJ := Lib.hid hJ
    have HLV := Lib.hid hlv
    have HN := Lib.hid hn
    have H0 := Lib.hid h0
    have HALL := Lib.hid hall
    obtain ⟨pa, pc, p2⟩ := hP.p
    obtain ⟨ba, bc, p3⟩ := hP.b
    have s0 := hP.s
    have lp := cell_lt s0
    have lg := cell_lt p2
    obtain ⟨la, lc, lb', lo, rfl, _, ⟨hLl, _⟩, _⟩ := hlv
    have HLc := Lib.hid (show L.length + (r + 1) = G from hL)
    have hne : ((L.length : Int) == (G : Int)) = false := by rw [beq_eq_false_iff_ne]; omega
    have hk100 : L.length ≤ 100 := by omega
    have HX := Lib.hid (show crewsL B (r + 1) L = crewsTo (crewsL B r) L B from rfl)
    have HC0 := Lib.hid (fun k wx (hx : KeepC D W wx) => Contains_any _ L k wx (ints_keep HLV.out HN.out hx))
    obtain ⟨i1, hi1, hz1, hs1, hb1⟩ := info_parts mkInt
    have HI1 := Lib.hid hi1
    have HZ1 := Lib.hid hz1
    clear hP hY hall h0 hn hJ hi1 hz1
    refine (callsIn_wide (n := nn + 1)).1 ?_
    refine callsIn_of_wp Try.func124 rfl trivial ?_ rfl
    simp only [Try.ntmps124, List.size_toArray, List.length_cons, List.length_nil, Nat.reduceAdd, Nat.reduceSub, Array.replicate_succ, Array.replicate_zero, List.push_toArray, List.append_toArray, List.nil_append, List.cons_append]
    generalize hlen : L.length = k0 at *
    clear hL
    gi_wp2
    gi_loopw [25] (fun i wr => ∃ k : Nat, k ≤ B ∧ i = .int .i64 k ∧ J (pre ++ crewsTo (crewsL B r) L k) wr ∧ KeepC D W wr) (fun i _ => B - (intOf i).toNat)
    case atStart => exact ⟨0, by omega, rfl, by rw [show crewsTo (crewsL B r) L 0 = [] from rfl, List.append_nil]; exact H0.out, KeepC.r _ _⟩
    case round =>
      obtain ⟨k, hk, rfl, hj, hkc⟩ := hrel
      have HJr := Lib.hid hj
      have HK := Lib.hid hkc
      have HPr := Lib.hid (HP.out.keep hkc)
      by_cases hlt : k < B
      · have hlti : (k : Int) < (B : Int) := by omega
        have HC1 := Lib.hid (fun wx (hx : Bel wr wx) => HC0.out k wx (hkc.t (KeepC.of_bel hx)))
        have HNX := Lib.hid (show crewsTo (crewsL B r) L (k + 1) = crewsTo (crewsL B r) L k ++ (if inB L k then [] else crewsL B r (L ++ [(k : Int)])) from rfl)
        have HPRE := Lib.hid (crews_pre (m := B) (r := r) (k := k) (L := L) hlt)
        have q3 := HPr.out.m
        have lm := cell_lt q3
        clear hj hkc HC0 s0 p2 p3 lp lg
        generalize hc : inB L k = c at *
        have HCB := Lib.hid hc
        clear hc
        cases c with
        | true =>
          have HR := Lib.hid (show crewsTo (crewsL B r) L (k + 1) = crewsTo (crewsL B r) L k by rw [HNX.out]; simp)
          gi_wp2_with fail
          refine wpIn_wide.2 ?_
          refine wp_region_mixC (Plan.seq [0, 1, 1002, 3, 4, 5, 6, 7, 8, 9, 10, 11, 12, 1013, 1014, 1015, 16, 17] .nil) (fun q => Bel wr q) (by kernel_rfl) (by kernel_rfl) ((Bel.refl _).drew) (fun hcur => ?_)
          simp only [Plan.seq, Plan.fill, List.getD_cons_zero, List.getD_cons_succ, Nat.reduceLT, ↓reduceIte, Nat.reduceSub]
          apply mix_pure _ rfl
          · intro w' hw'
            go_simp
            rfl
          intro K hK
          go_simp
          refine hK _ ?_
          clear hK K
          apply mix_pure _ rfl
          · intro w' hw'
            go_simp
            rfl
          intro K hK
          go_simp
          refine hK _ ?_
          clear hK K
          refine mix_act rfl (fun K hK => ?_)
          go_simp
          refine (HC1.out _ hcur).mono ?_
          rintro e w1 ⟨rfl, hb1⟩
          simp only []
          refine hK _ _ (hcur.trans hb1) (fun hcur => ?_)
          clear hK K hb1
          apply mix_pure _ rfl
          · intro w' hw'
            go_simp
            rfl
          intro K hK
          go_simp
          refine hK _ ?_
          clear hK K
          apply mix_pure _ rfl
          · intro w' hw'
            go_simp
            rfl
          intro K hK
          go_simp
          refine hK _ ?_
          clear hK K
          refine mix_skip (by go_simp) ?_
          intro K hK
          go_simp
          refine hK _ ?_
          clear hK K
          refine mix_skip (by go_simp) ?_
          intro K hK
          go_simp
          refine hK _ ?_
          clear hK K
          refine mix_skip (by go_simp) ?_
          intro K hK
          go_simp
          refine hK _ ?_
          clear hK K
          refine mix_skip (by go_simp) ?_
          intro K hK
          go_simp
          refine hK _ ?_
          clear hK K
          refine mix_skip (by go_simp) ?_
          intro K hK
          go_simp
          refine hK _ ?_
          clear hK K
          refine mix_skip (by go_simp) ?_
          intro K hK
          go_simp
          refine hK _ ?_
          clear hK K
          refine mix_skip (by go_simp) ?_
          intro K hK
          go_simp
          refine hK _ ?_
          clear hK K
          refine mix_skip (by go_simp) ?_
          intro K hK
          go_simp
          refine hK _ ?_
          clear hK K
          refine mix_askip (by go_simp) ?_
          intro K hK
          go_simp
          refine hK _ ?_
          clear hK K
          refine mix_askip (by go_simp) ?_
          intro K hK
          go_simp
          refine hK _ ?_
          clear hK K
          refine mix_askip (by go_simp) ?_
          intro K hK
          go_simp
          refine hK _ ?_
          clear hK K
          refine mix_skip (by go_simp) ?_
          intro K hK
          go_simp
          refine hK _ ?_
          clear hK K
          apply mix_pure _ rfl
          · intro w' hw'
            go_simp
            rfl
          intro K hK
          go_simp
          refine hK _ ?_
          clear hK K
          refine mix_nil ?_
          have HB1 := Lib.hid hcur
          clear hcur
          gi_wp2
          exact ⟨⟨k + 1, by omega, by go_num, by rw [HR.out]; exact HJ.out _ _ _ HJr.out HB1.out, HK.out.t (KeepC.of_bel HB1.out)⟩, by simp [intOf]; omega⟩
        | false =>
          have HR := Lib.hid (show crewsTo (crewsL B r) L (k + 1) = crewsTo (crewsL B r) L k ++ crewsL B r (L ++ [(k : Int)]) by rw [HNX.out]; simp)
          have HPA := Lib.hid (show ∃ post, all = pre ++ crewsTo (crewsL B r) L k ++ crewsL B r (L ++ [(k : Int)]) ++ post by
            obtain ⟨p1, e1⟩ := HALL.out
            obtain ⟨p2, e2⟩ := HPRE.out
            refine ⟨p2 ++ p1, ?_⟩
            simp only [Bool.false_eq_true, if_false] at e2
            rw [e1, e2]
            simp [List.append_assoc])
          have HLx := Lib.hid (ints_keep HLV.out HN.out HK.out)
          have HLL := Lib.hid hlen
          have HSR := Lib.hid (fun wx (hx : Bel wr wx) => ints_src (HLx.out.bel hx) hlen)
          gi_wp2_with fail
          refine wpIn_wide.2 ?_
          have HC9 := Lib.hid (Bel.refl wr)
          refine wp_region_mixC (Plan.seq [0, 1, 1002, 3, 4, 5, 6, 7, 8, 9, 10, 11, 12, 1013, 1014, 1015, 16, 17] .nil) (fun q => q.cell? ⟨mb, 0, none⟩ = some (.func (.func 124) #[] #[.pointer (some ⟨sb, 0, none⟩), .pointer (some ⟨yb, 0, none⟩), .pointer (some ⟨mb, 0, none⟩)])) (by kernel_rfl) (by kernel_rfl) (q3) (fun hcur => ?_)
          simp only [Plan.seq, Plan.fill, List.getD_cons_zero, List.getD_cons_succ, Nat.reduceLT, ↓reduceIte, Nat.reduceSub]
          apply mix_pure _ rfl
          · intro w' hw'
            go_simp
            rfl
          intro K hK
          go_simp
          refine hK _ ?_
          clear hK K
          apply mix_pure _ rfl
          · intro w' hw'
            go_simp
            rfl
          intro K hK
          go_simp
          refine hK _ ?_
          clear hK K
          refine mix_act rfl (fun K hK => ?_)
          go_simp
          refine (HC1.out _ (Bel.refl _).drew).mono ?_
          rintro e w1 ⟨rfl, hb1⟩
          simp only []
          have HB1 := Lib.hid (((Bel.refl wr).drew).trans hb1)
          refine hK _ _ (HB1.out.cell q3) (fun hcur => ?_)
          clear hK K hb1
          apply mix_pure _ rfl
          · intro w' hw'
            go_simp
            rfl
          intro K hK
          go_simp
          refine hK _ ?_
          clear hK K
          apply mix_pure _ rfl
          · intro w' hw'
            go_simp
            rfl
          intro K hK
          go_simp
          refine hK _ ?_
          clear hK K
          apply mix_pureG _ (by go_simp)
          · intro w' hw'
            go_simp
            rfl
          intro K hK
          go_simp
          refine hK _ ?_
          clear hK K
          apply mix_pureG _ (by go_simp)
          · intro w' hw'
            go_simp
            rfl
          intro K hK
          go_simp
          refine hK _ ?_
          clear hK K
          apply mix_pureG _ (by go_simp)
          · intro w' hw'
            go_simp
            rfl
          intro K hK
          go_simp
          refine hK _ ?_
          clear hK K
          apply mix_pureG _ (by go_simp)
          · intro w' hw'
            go_simp
            rfl
          intro K hK
          go_simp
          refine hK _ ?_
          clear hK K
          apply mix_pureG _ (by go_simp)
          · intro w' hw'
            go_simp
            rfl
          intro K hK
          go_simp
          refine hK _ ?_
          clear hK K
          apply mix_pureG _ (by go_simp)
          · intro w' hw'
            go_simp
            rfl
          intro K hK
          go_simp
          refine hK _ ?_
          clear hK K
          apply mix_pureG _ (by go_simp)
          · intro w' hw'
            go_simp
            rfl
          intro K hK
          go_simp
          refine hK _ ?_
          clear hK K
          apply mix_pureG _ (by go_simp)
          · intro w' hw'
            go_simp
            rfl
          intro K hK
          go_simp
          refine hK _ ?_
          clear hK K
          refine mix_actG (by go_simp) (fun K hK => ?_)
          go_simp
          generalize hWA : World.alloc _ _ = WA
          have hna := new_at2 hWA
          have HN3 := Lib.hid (news_src (news_obj hna.2.1))
          have HB3 := Lib.hid (HB1.out.trans hna.1)
          refine hK _ _ (HB3.out.cell q3) (fun hcur => ?_)
          clear hK K hWA hna
          refine mix_actG (by go_simp) (fun K hK => ?_)
          refine wp_append_cut _ _ 26 rfl 3 i1 (.int .i64 0) 1 8 Try.underlying26 HI1.out HZ1.out hs1 hb1 rfl (by decide) la k0 (L.map (Value.int .i64)) rfl (by rw [List.length_map, HLL.out, Nat.mul_one]) (HSR.out _ HB3.out) ⟨w1.heap.size, 0, none⟩ 1 1 [.int .i64 (k : Int)] rfl rfl HN3.out (by decide) (by unfold maxLen; omega) (by omega) ?_
          intro V' w4 hown hbel hblk
          have HOWN := Lib.hid hown
          have HB4 := Lib.hid (HB3.out.trans hbel)
          have HBK := Lib.hid (show ¬ ∃ g, V'.ownBlock = some g ∧ D g from fun ⟨g, q1, q2⟩ => by
            rw [hblk] at q1
            injection q1 with q1
            have := HPr.out.lt g q2
            have := HB3.out.szle
            omega)
          refine hK _ _ (HB4.out.cell q3) (fun hcur => ?_)
          clear hK K hown hbel hblk
          refine mix_actG (by go_simp) (fun K hK => ?_)
          go_simp
          have hi4 : IntsAt w4 V' (L ++ [(k : Int)]) := ownInts (by rw [List.length_append, List.length_singleton, HLL.out]; omega) (by have := HOWN.out; rw [List.length_append, List.length_singleton, HLL.out, List.map_append]; exact this)
          have hn4 : NoD D V' := fun a m c e _ => fun hd => HBK.out ⟨a.block, by rw [e]; exact own_at HOWN.out e, hd⟩
          refine (HIH.out (L ++ [(k : Int)]) V' (pre ++ crewsTo (crewsL B r) L k) w4 (by rw [List.length_append, List.length_singleton, HLL.out]; have := HLc.out; omega) (HPA.out) (HJ.out _ _ _ HJr.out HB4.out) (HPr.out.keep (KeepC.of_bel HB4.out)) hi4 hn4).mono ?_
          rintro e w5 ⟨rfl, h51, h53⟩
          have HT := Lib.hid h51
          have HK5 := Lib.hid (HK.out.t ((KeepC.of_bel HB4.out).t h53))
          have hp5 := (HPr.out.keep ((KeepC.of_bel HB4.out).t h53)).m
          clear h51 h53 hi4 hn4
          simp only []
          refine hK _ _ hp5 (fun hcur => ?_)
          clear hK K hp5
          apply mix_pureG _ (by go_simp)
          · intro w' hw'
            go_simp
            rfl
          intro K hK
          go_simp
          refine hK _ ?_
          clear hK K
          apply mix_pure _ rfl
          · intro w' hw'
            go_simp
            rfl
          intro K hK
          go_simp
          refine hK _ ?_
          clear hK K
          refine mix_nil ?_
          clear hcur q3 lm
          gi_wp2
          exact ⟨⟨k + 1, by omega, by go_num, by rw [HR.out, ← List.append_assoc]; exact HT.out, HK5.out⟩, by simp [intOf]; omega⟩
      · obtain rfl : k = B := by omega
        clear hj hkc HC0
        gi_wp2
        go_ret
        exact ⟨rfl, by rw [HX.out]; exact HJr.out, HK.out⟩
theorem run_store_func {P : Program} (w : World) (a : Addr) (m : Mode) (f : Fn) (xs ys : Array Value) : (store a (.func f xs ys) m).run P w = stored P w a (.func f xs ys) m := run_store P w a _ m rfl
attribute [local go_sem] run_store_func
theorem crews_gives (G B : Nat) (g : Nat) (D : Nat → Prop) (w : World) (nn : Nat) (hGB : G ≤ 100 ∧ B ≤ 100)
    (hp : ∃ a c, w.cell? ⟨g, 2, none⟩ = some (.slice a G c)) (hb : ∃ a c, w.cell? ⟨g, 3, none⟩ = some (.slice a B c)) (ng : ¬ D g) (lt : ∀ k, D k → k < w.heap.size) :
    GivesRcv Fence.wide nn Try.prog 107 (.pointer (some ⟨g, 0, none⟩)) (OrdAt D) D (crewsL B G []) w := by
  intro l J W hW hJ hY h0
  replace hp : ∃ a c, W.cell? ⟨g, 2, none⟩ = some (.slice a G c) := by obtain ⟨a, c, q⟩ := hp; exact ⟨a, c, hW.cell (fun h => h) q⟩
  replace hb : ∃ a c, W.cell? ⟨g, 3, none⟩ = some (.slice a B c) := by obtain ⟨a, c, q⟩ := hb; exact ⟨a, c, hW.cell (fun h => h) q⟩
  have lt' : ∀ k, D k → k < W.heap.size := fun k h => Nat.lt_of_lt_of_le (lt k h) hW.size
  have HM := Lib.hid (fun Wx hP h => crew_any G B g W.heap.size (W.heap.size + 1) (W.heap.size + 1 + 1) l D J (crewsL B G []) (nn - 1) hGB hJ hY G [] (.slice none 0 0) [] Wx (by simp) ⟨[], by simp⟩ h hP (IntsAt.nil Wx) (fun a n c e _ => by simp at e))
  have HPL := Lib.hid (fun Wx (hbx : Bel W Wx) hs hy hmm => CrAt.mk (D := D) (G := G) (B := B) (g := g) (sb := W.heap.size) (yb := W.heap.size + 1) (mb := W.heap.size + 1 + 1) (l := l) (W := Wx) hs (by obtain ⟨a, c, q⟩ := hp; exact ⟨a, c, hbx.cell q⟩) (by obtain ⟨a, c, q⟩ := hb; exact ⟨a, c, hbx.cell q⟩) hy hmm ng (fun h => by have := lt' _ h; omega) (fun h => by have := lt' _ h; omega) (fun h => by have := lt' _ h; omega) (fun k h => Nat.lt_of_lt_of_le (lt' k h) hbx.szle))
  have HJ := Lib.hid (fun Wx (hbx : Bel W Wx) => hJ _ _ _ h0 hbx)
  clear hW hJ hY h0 hp hb ng lt lt'
  refine callsIn_wide.2 ?_
  go_enter Try.func107, Try.ntmps107
  go_wp2_with fail
  generalize hWx : World.alloc _ _ = Wx
  have hbx : Bel W Wx := by rw [← hWx]; exact (((Bel.refl W).alloc _).alloc _).alloc _
  refine (HM.out _ (HPL.out _ hbx ?_ ?_ ?_) (HJ.out _ hbx)).mono ?_
  · rw [← hWx]; exact Bel.cell ((Bel.refl _).alloc _) (Bel.cell ((Bel.refl _).alloc _) ((row_facts (new_row rfl)).1 0))
  · rw [← hWx]; exact Bel.cell ((Bel.refl _).alloc _) ((row_facts (new_row (by simp))).1 0)
  · rw [← hWx]; exact (row_facts (new_row (by simp))).1 0
  · rintro e w5 ⟨rfl, h5, _⟩
    have H5 := Lib.hid h5
    clear h5 hbx hWx
    go_wp2
    go_end0
    exact ⟨⟨_, rfl⟩, H5.out⟩
end Go.Proofs.Ytkdcdhkhadhcfaa
