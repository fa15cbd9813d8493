/-
  mesh: the closure that tries all orders: what it yields.
-/
import Derived.Test.YtkdcdhkhadhcfaaDoorHoMem
import Derived.Test.YtkdcdhkhadhcfaaDoorClo2
namespace Go.Proofs.YtkdcdhkhadhcfaaDoor
open Go Go.RowKit Go.Shelf
attribute [local go_sem] Oper.semAt_some
set_option maxHeartbeats 8000000
set_option maxRecDepth 100000
/-- A slice outside the blocks that D names. -/
def NoD (D : Nat → Prop) (v : Value) : Prop := ∀ a n c, v = .slice (some a) n c → 0 < n → ¬ D a.block
theorem ints_keep {D : Nat → Prop} {W W' : World} {v : Value} {l : List Int} (h : IntsAt W v l) (hd : NoD D v) (k : KeepC D W W') : IntsAt W' v l := by
  obtain ⟨a, c, b, off, rfl, ha, hl, hc⟩ := h
  refine ⟨a, c, b, off, rfl, ha, hl, fun i hi => ?_⟩
  have := ha (by omega)
  subst this
  have hb : ¬ D b := hd _ _ _ rfl (by omega)
  exact k.cell hb (hc i hi)
theorem prs_keep {D : Nat → Prop} {W W' : World} {v : Value} {l : List HPr} (h : PrsAt W v l) (hd : NoD D v) (k : KeepC D W W') : PrsAt W' v l := by
  obtain ⟨a, c, b, off, rfl, ha, hl, hc⟩ := h
  refine ⟨a, c, b, off, rfl, ha, hl, fun i hi => ?_⟩
  have := ha (by omega)
  subst this
  have hb : ¬ D b := hd _ _ _ rfl (by omega)
  exact ⟨k.cell hb (hc i hi).1, k.cell hb (hc i hi).2⟩
theorem holes_keep {D : Nat → Prop} {W W' : World} {v : Value} {l : List Hole} (h : HolesAt W v l) (hd : NoD D v) (k : KeepC D W W') : HolesAt W' v l := by
  obtain ⟨a, c, b, off, rfl, ha, hl, hc⟩ := h
  refine ⟨a, c, b, off, rfl, ha, hl, fun i hi => ?_⟩
  have := ha (by omega)
  subst this
  obtain ⟨q0, q1, q2, q3⟩ := hc i hi
  have hb : ¬ D b := hd _ _ _ rfl (by omega)
  exact ⟨k.cell hb q0, k.cell hb q1, k.cell hb q2, k.cell hb q3⟩
theorem ordsTo_pre {rec : List Int → List (List Int)} {n : MNet} {L : List Int} : ∀ (j k : Nat), ∃ post, ordsTo rec n L (k + j) = ordsTo rec n L k ++ post
  | 0, k => ⟨[], by simp⟩
  | j + 1, k => by
    obtain ⟨post, h⟩ := ordsTo_pre (rec := rec) (n := n) (L := L) j k
    exact ⟨post ++ (if canB n (k + j : Nat) L then rec (L ++ [((k + j : Nat) : Int)]) else []), by rw [show ordsTo rec n L (k + (j + 1)) = ordsTo rec n L (k + j) ++ (if canB n (k + j : Nat) L then rec (L ++ [((k + j : Nat) : Int)]) else []) from rfl, h, List.append_assoc]⟩
theorem ords_pre {n : MNet} {r k : Nat} {L : List Int} (hk : k < n.holes.length) : ∃ post, ords n (r + 1) L = ordsTo (ords n r) n L k ++ (if canB n k L then ords n r (L ++ [(k : Int)]) else []) ++ post := by
  obtain ⟨j, hj⟩ := Nat.le.dest (show k + 1 ≤ n.holes.length from hk)
  obtain ⟨post, hp⟩ := ordsTo_pre (rec := ords n r) (n := n) (L := L) j (k + 1)
  rw [hj] at hp
  exact ⟨post, hp⟩
theorem ints_src {w : World} {la : Option Addr} {k0 lc : Nat} {L : List Int} (h : IntsAt w (.slice la k0 lc) L) (hlen : L.length = k0) : 0 < k0 → ∃ b, la = some b ∧ ∀ j u, (L.map (Value.int .i64))[j]? = some u → w.cell? (b.add j) = some u := by
  obtain ⟨a, c, b, off, e, ha, hl, hc⟩ := h
  injection e with e1 e2 e3
  subst e1
  intro h0
  refine ⟨_, ha (by omega), fun j u hu => ?_⟩
  have hj : j < L.length := by
    rcases Nat.lt_or_ge j L.length with q | q
    · exact q
    · rw [List.getElem?_eq_none (by simpa using q)] at hu; cases hu
  rw [add_at, hc j hj]
  unfold at0
  rw [List.getElem?_map, List.getElem?_eq_getElem hj] at hu
  simpa [List.getD, hj] using hu
/-- How an order is handed over. -/
def OrdAt (D : Nat → Prop) (x : List Int) (vs : Array Value) (W : World) : Prop := ∃ v, vs = #[v] ∧ IntsAt W v x ∧ NoD D v
/-- The call's blocks. -/
structure PlanAt (D : Nat → Prop) (W : World) (n : MNet) (hv pv : Value) (pb yb mb l : Nat) : Prop where
  p0 : W.cell? ⟨pb, 0, none⟩ = some (.int .i64 n.men)
  p1 : W.cell? ⟨pb, 1, none⟩ = some hv
  p2 : W.cell? ⟨pb, 2, none⟩ = some pv
  y : W.cell? ⟨yb, 0, none⟩ = some (.func (.yield l) #[] #[])
  m : W.cell? ⟨mb, 0, none⟩ = some (.func (.func 110) #[] #[.pointer (some ⟨pb, 0, none⟩), .pointer (some ⟨yb, 0, none⟩), .pointer (some ⟨mb, 0, none⟩)])
  holes : HolesAt W hv n.holes
  prs : PrsAt W pv n.prs
  np : ¬ D pb
  ny : ¬ D yb
  nm : ¬ D mb
  nh : NoD D hv
  nq : NoD D pv
  lt : ∀ g, D g → g < W.heap.size
theorem PlanAt.keep {D : Nat → Prop} {W W' : World} {n : MNet} {hv pv : Value} {pb yb mb l : Nat} (h : PlanAt D W n hv pv pb yb mb l) (k : KeepC D W W') : PlanAt D W' n hv pv pb yb mb l :=
  ⟨k.cell h.np h.p0, k.cell h.np h.p1, k.cell h.np h.p2, k.cell h.ny h.y, k.cell h.nm h.m, holes_keep h.holes h.nh k, prs_keep h.prs h.nq k, h.np, h.ny, h.nm, h.nh, h.nq, fun g hg => Nat.lt_of_lt_of_le (h.lt g hg) k.size⟩
def MoreOk (D : Nat → Prop) (J Jx : List (List Int) → World → Prop) (pre xs : List (List Int)) (W : World) (e : Ending) (W' : World) : Prop :=
  (e = .returned (.bool true) ∧ J (pre ++ xs) W' ∧ KeepC D W W') ∨ (e = .returned (.bool false) ∧ (∃ q, Jx q W') ∧ KeepC D W W')
theorem more_cases {D : Nat → Prop} {J Jx : List (List Int) → World → Prop} {pre xs : List (List Int)} {W W' : World} {e : Ending} (h : MoreOk D J Jx pre xs W e W') :
    ∃ b : Bool, e = .returned (.bool b) ∧ (b = true → J (pre ++ xs) W') ∧ (b = false → ∃ q, Jx q W') ∧ KeepC D W W' := by
  rcases h with ⟨h1, h2, h3⟩ | ⟨h1, h2, h3⟩
  · exact ⟨true, h1, fun _ => h2, fun h => by simp at h, h3⟩
  · exact ⟨false, h1, fun h => by simp at h, fun _ => h2, h3⟩
theorem own_at {w : World} {T sz n m c : Nat} {a : Addr} {V : Value} {xs : List Value} (h : w.ownsRow 0 T sz V n xs) (e : V = .slice (some a) m c) : (Value.slice (some a) m c).ownBlock = some a.block := by
  subst e
  rcases h.2 with ⟨h0, _⟩ | ⟨g, cap, cur, hv, _⟩
  · cases h0
  · injection hv with e1 e2 e3
    injection e1 with e1
    subst e1
    rfl
theorem more_any (n : MNet) (hv pv : Value) (pb yb mb l : Nat) (D : Nat → Prop) (J Jx : List (List Int) → World → Prop) (all : List (List Int)) (nn : Nat)
    (hm : n.holes.length ≤ 1000000)
    (hJ : ∀ s A B, J s A → Bel A B → J s B) (hJx : ∀ s A B, Jx s A → Bel A B → Jx s B)
    (hY : ∀ pre x vs W1, (∃ post, all = pre ++ x :: post) → OrdAt D x vs W1 → J pre W1 →
      YieldAt Fence.wide nn Tryd.prog l vs W1 fun e W' => (e = .returned (.bool true) ∧ J (pre ++ [x]) W' ∧ KeepC D W1 W') ∨ (e = .returned (.bool false) ∧ Jx (pre ++ [x]) W' ∧ KeepC D W1 W')) :
    ∀ (r : Nat) (L : List Int) (lv : Value) (pre : List (List Int)) (W : World), L.length + r = n.holes.length → (∃ post, all = pre ++ ords n r L ++ post) → J pre W → PlanAt D W n hv pv pb yb mb l → IntsAt W lv L → NoD D lv →
      Calls Tryd.prog 110 #[lv, .pointer (some ⟨pb, 0, none⟩), .pointer (some ⟨yb, 0, none⟩), .pointer (some ⟨mb, 0, none⟩)] W (MoreOk D J Jx pre (ords n r L) W)
  | 0, L, lv, pre, W, hL, hall, h0, hP, hlv, hn => by
    have HP := Lib.hid hP
    obtain ⟨ha, hc, hb, ho, rfl, _, _, _⟩ := hP.holes
    obtain ⟨fn, tmps, assign, body, hy, hRd⟩ := hY pre L #[lv] W (by obtain ⟨post, e⟩ := hall; exact ⟨post, by rw [e, List.append_assoc]; rfl⟩) ⟨lv, rfl, hlv, hn⟩ h0
    have HRd := Lib.hid hRd
    have p1 := hP.p1
    have y0 := hP.y
    have lp := cell_lt p1
    have ly := cell_lt y0
    obtain ⟨la, lc, lb', lo, rfl, _, _, _⟩ := hlv
    have hmm : n.holes.length = L.length := by omega
    rw [hmm] at p1
    have hor : ords n 0 L = [L] := rfl
    rw [hor]
    clear hP hRd hY hall h0 hmm hm HP hor
    generalize L.length = k at *
    refine (callsIn_wide (n := nn + 1)).1 ?_
    refine callsIn_of_wp Tryd.func110 rfl trivial ?_ rfl
    simp only [Tryd.ntmps110, List.size_toArray, List.length_cons, List.length_nil, Nat.reduceAdd, Nat.reduceSub, Array.replicate_succ, Array.replicate_zero, List.push_toArray, List.append_toArray, List.nil_append, List.cons_append]
    gi_wp2
    refine HRd.out.mono ?_
    rintro e W3 (⟨rfl, hJ3, hk3⟩ | ⟨rfl, hJx3, hk3⟩)
    · have HJ3 := Lib.hid hJ3
      have HK3 := Lib.hid hk3
      clear hJ3 hk3
      gi_wp2
      go_ret
      exact .inl ⟨rfl, HJ3.out, HK3.out⟩
    · have HJ3 := Lib.hid hJx3
      have HK3 := Lib.hid hk3
      clear hJx3 hk3
      gi_wp2
      go_ret
      exact .inr ⟨rfl, ⟨_, HJ3.out⟩, HK3.out⟩
  | r + 1, L, lv, pre, W, hL, hall, h0, hP, hlv, hn => by
    have HIH := Lib.hid (more_any n hv pv pb yb mb l D J Jx all nn hm hJ hJx hY r)
    have HP := Lib.hid hP
    have HJ := Lib.hid hJ
    have HLV := Lib.hid hlv
    have HN := Lib.hid hn
    have H0 := Lib.hid h0
    have HALL := Lib.hid hall
    obtain ⟨ha, hc, hb, ho, rfl, _, ⟨hG, _⟩, _⟩ := hP.holes
    obtain ⟨pa, pc, pb', po, rfl, _, ⟨hQ, _⟩, _⟩ := hP.prs
    have p0 := hP.p0
    have p1 := hP.p1
    have p2 := hP.p2
    have lp := cell_lt p1
    obtain ⟨la, lc, lb', lo, rfl, _, ⟨hLl, _⟩, _⟩ := hlv
    have HLc := Lib.hid (show L.length + (r + 1) = n.holes.length from hL)
    have hne : ((L.length : Int) == (n.holes.length : Int)) = false := by rw [beq_eq_false_iff_ne]; omega
    have HX := Lib.hid (show ords n (r + 1) L = ordsTo (ords n r) n L n.holes.length from rfl)
    have HC0 := Lib.hid (fun k wx (hx : KeepC D W wx) => Contains_any _ L k wx (ints_keep HLV.out HN.out hx))
    have HR0 := Lib.hid (fun k wx (hx : KeepC D W wx) => hready_any n k L (.agg #[.int .i64 n.men, .slice ha n.holes.length hc, .slice pa n.prs.length pc]) _ wx ⟨_, _, rfl, (HP.out.keep hx).holes, (HP.out.keep hx).prs⟩ (ints_keep HLV.out HN.out hx))
    obtain ⟨i1, hi1, hz1, hs1, hb1⟩ := info_parts mkInt
    have HI1 := Lib.hid hi1
    have HZ1 := Lib.hid hz1
    clear hP hY hall h0 hn hJ hJx hi1 hz1
    refine (callsIn_wide (n := nn + 1)).1 ?_
    refine callsIn_of_wp Tryd.func110 rfl trivial ?_ rfl
    simp only [Tryd.ntmps110, List.size_toArray, List.length_cons, List.length_nil, Nat.reduceAdd, Nat.reduceSub, Array.replicate_succ, Array.replicate_zero, List.push_toArray, List.append_toArray, List.nil_append, List.cons_append]
    generalize hlen : L.length = k0 at *
    generalize hgl : n.holes.length = G at *
    generalize n.prs.length = X at *
    gi_wp2
    gi_loopw [21] (fun i wr => ∃ k : Nat, k ≤ G ∧ i = .int .i64 k ∧ J (pre ++ ordsTo (ords n r) n L k) wr ∧ KeepC D W wr) (fun i _ => G - (intOf i).toNat)
    case atStart => exact ⟨0, by omega, rfl, by rw [show ordsTo (ords n r) n L 0 = [] from rfl, List.append_nil]; exact H0.out, KeepC.r _ _⟩
    case round =>
      obtain ⟨k, hk, rfl, hj, hkc⟩ := hrel
      have HJr := Lib.hid hj
      have HK := Lib.hid hkc
      have HPr := Lib.hid (HP.out.keep hkc)
      replace p0 := hkc.cell HP.out.np p0
      replace p1 := hkc.cell HP.out.np p1
      replace p2 := hkc.cell HP.out.np p2
      have lp := cell_lt p1
      by_cases hlt : k < G
      · have hlti : (k : Int) < (G : Int) := by omega
        have HC1 := Lib.hid (HC0.out k wr hkc)
        have HR1 := Lib.hid (fun wx (hx : Bel wr wx) => HR0.out k wx (hkc.t (KeepC.of_bel hx)))
        have HCB := Lib.hid (show canB n k L = (!inB L k && prsB n.prs k L) from rfl)
        have HNX := Lib.hid (show ordsTo (ords n r) n L (k + 1) = ordsTo (ords n r) n L k ++ (if canB n k L then ords n r (L ++ [(k : Int)]) else []) from rfl)
        have HPRE := Lib.hid (ords_pre (n := n) (r := r) (k := k) (L := L) (by omega))
        clear hj hkc HC0 HR0
        generalize inB L k = c at *
        generalize prsB n.prs k L = d at *
        cases c with
        | true =>
          have HR := Lib.hid (show ordsTo (ords n r) n L (k + 1) = ordsTo (ords n r) n L k by rw [HNX.out, HCB.out]; simp)
          gi_wp2_with (refine ⟨trivial, ?_⟩; gi_at_call 98; refine (callsIn_wide.2 (HC1.out)).mono ?_; rintro e w1 ⟨rfl, hb1⟩; have HB1 := Lib.hid hb1; replace p0 := hb1.cell p0; replace p1 := hb1.cell p1; replace p2 := hb1.cell p2; clear hb1)
          refine ⟨trivial, ?_⟩
          gi_wp2
          exact ⟨⟨k + 1, by omega, by go_num, by rw [HR.out]; exact HJ.out _ _ _ HJr.out HB1.out, HK.out.t (KeepC.of_bel HB1.out)⟩, by simp [intOf]; omega⟩
        | false =>
          cases d with
          | false =>
            have HR := Lib.hid (show ordsTo (ords n r) n L (k + 1) = ordsTo (ords n r) n L k by rw [HNX.out, HCB.out]; simp)
            gi_wp2_with (first | (refine ⟨trivial, ?_⟩; gi_at_call 98; refine (callsIn_wide.2 (HC1.out)).mono ?_; rintro e w1 ⟨rfl, hb1⟩; have HB1 := Lib.hid hb1; replace p0 := hb1.cell p0; replace p1 := hb1.cell p1; replace p2 := hb1.cell p2; clear hb1) | (refine ⟨trivial, ?_⟩; gi_at_call 111; refine (callsIn_wide.2 (HR1.out _ HB1.out)).mono ?_; rintro e w2 ⟨rfl, hb2⟩; have HB2 := Lib.hid (HB1.out.trans hb2); clear hb2))
            exact ⟨⟨k + 1, by omega, by go_num, by rw [HR.out]; exact HJ.out _ _ _ HJr.out HB2.out, HK.out.t (KeepC.of_bel HB2.out)⟩, by simp [intOf]; omega⟩
          | true =>
            have HR := Lib.hid (show ordsTo (ords n r) n L (k + 1) = ordsTo (ords n r) n L k ++ ords n r (L ++ [(k : Int)]) by rw [HNX.out, HCB.out]; simp)
            gi_wp2_with (first | (refine ⟨trivial, ?_⟩; gi_at_call 98; refine (callsIn_wide.2 (HC1.out)).mono ?_; rintro e w1 ⟨rfl, hb1⟩; have HB1 := Lib.hid hb1; replace p0 := hb1.cell p0; replace p1 := hb1.cell p1; replace p2 := hb1.cell p2; clear hb1) | (refine ⟨trivial, ?_⟩; gi_at_call 111; refine (callsIn_wide.2 (HR1.out _ HB1.out)).mono ?_; rintro e w2 ⟨rfl, hb2⟩; have HB2 := Lib.hid (HB1.out.trans hb2); clear hb2) | fail)
            have HB2' := HB2.out
            have HPx := Lib.hid (HPr.out.keep (KeepC.of_bel HB2.out))
            have q3 := HPx.out.m
            have lm := cell_lt q3
            have HLx := Lib.hid (ints_keep HLV.out HN.out (HK.out.t (KeepC.of_bel HB2.out)))
            have HJx := Lib.hid (HJ.out _ _ _ HJr.out HB2.out)
            have HLL := Lib.hid hlen
            have HPA := Lib.hid (show ∃ post, all = pre ++ ordsTo (ords n r) n L k ++ ords n r (L ++ [(k : Int)]) ++ post by
              obtain ⟨p1, e1⟩ := HALL.out
              obtain ⟨p2, e2⟩ := HPRE.out
              refine ⟨p2 ++ p1, ?_⟩
              have hcb : canB n k L = true := by rw [HCB.out]; rfl
              rw [hcb, if_pos rfl] at e2
              rw [e1, e2]
              simp [List.append_assoc])
            have HSR := Lib.hid (fun wx (hx : Bel w2 wx) => ints_src (HLx.out.bel hx) hlen)
            refine wpIn_wide.2 ?_
            refine wp_region_mixC (Plan.seq [0, 1, 2, 3, 4, 5, 6, 7, 1008, 1009, 1010, 11] .nil) (fun q => q.cell? ⟨mb, 0, none⟩ = some (.func (.func 110) #[] #[.pointer (some ⟨pb, 0, none⟩), .pointer (some ⟨yb, 0, none⟩), .pointer (some ⟨mb, 0, none⟩)])) (by kernel_rfl) (by kernel_rfl) (q3) (fun hcur => ?_)
            simp only [Plan.seq, Plan.fill, List.getD_cons_zero, List.getD_cons_succ, Nat.reduceLT, ↓reduceIte, Nat.reduceSub]
            apply mix_pure _ rfl
            · intro w' hw'
              go_simp
              rfl
            intro K hK
            go_simp
            refine hK _ ?_
            clear hK K
            apply mix_pure _ rfl
            · intro w' hw'
              go_simp
              rfl
            intro K hK
            go_simp
            refine hK _ ?_
            clear hK K
            apply mix_pure _ rfl
            · intro w' hw'
              go_simp
              rfl
            intro K hK
            go_simp
            refine hK _ ?_
            clear hK K
            apply mix_pure _ rfl
            · intro w' hw'
              go_simp
              rfl
            intro K hK
            go_simp
            refine hK _ ?_
            clear hK K
            apply mix_pure _ rfl
            · intro w' hw'
              go_simp
              rfl
            intro K hK
            go_simp
            refine hK _ ?_
            clear hK K
            apply mix_pure _ rfl
            · intro w' hw'
              go_simp
              rfl
            intro K hK
            go_simp
            refine hK _ ?_
            clear hK K
            apply mix_pure _ rfl
            · intro w' hw'
              go_simp
              rfl
            intro K hK
            go_simp
            refine hK _ ?_
            clear hK K
            apply mix_pure _ rfl
            · intro w' hw'
              go_simp
              rfl
            intro K hK
            go_simp
            refine hK _ ?_
            clear hK K
            refine mix_act rfl (fun K hK => ?_)
            go_simp
            obtain ⟨W3, hW3⟩ : ∃ W3, W3 = (w2.alloc (.cells #[.int .i64 (k : Int)] 3)).drew := ⟨_, rfl⟩
            have hb3 : Bel w2 W3 := by rw [hW3]; exact ((Bel.refl w2).alloc _).drew
            have HN3 := Lib.hid (show ∀ j u, ([.int .i64 (k : Int)] : List Value)[j]? = some u → W3.cell? ((⟨w2.heap.size, 0, none⟩ : Addr).add j) = some u from fun j u hu => by
              rw [hW3, add_at]
              exact ((Bel.refl _).drew).cell (by rw [Nat.zero_add, (row_facts (new_row rfl)).1]; simpa using hu))
            have HB3 := Lib.hid hb3
            rw [← hW3]
            refine hK _ _ (hb3.cell q3) (fun hcur => ?_)
            clear hK K hW3 hb3
            refine mix_act rfl (fun K hK => ?_)
            refine wp_append_cut _ _ 33 rfl 3 i1 (.int .i64 0) 1 8 Tryd.underlying33 HI1.out HZ1.out hs1 hb1 rfl (by decide) la k0 (L.map (Value.int .i64)) rfl (by rw [List.length_map, HLL.out, Nat.mul_one]) (HSR.out _ HB3.out) ⟨w2.heap.size, 0, none⟩ 1 1 [.int .i64 (k : Int)] rfl rfl HN3.out (by decide) (by unfold maxLen; omega) (by omega) ?_
            intro V' w4 hown hbel hblk
            have HOWN := Lib.hid hown
            have HB4 := Lib.hid (HB3.out.trans hbel)
            have HBK := Lib.hid (show ¬ ∃ g, V'.ownBlock = some g ∧ D g from fun ⟨g, q1, q2⟩ => by
              rw [hblk] at q1
              injection q1 with q1
              have := HPx.out.lt g q2
              have := HB3.out.szle
              omega)
            refine hK _ _ (hbel.cell hcur) (fun hcur => ?_)
            clear hK K hown hbel hblk
            refine mix_act rfl (fun K hK => ?_)
            go_simp
            have hi4 : IntsAt w4 V' (L ++ [(k : Int)]) := ownInts (by rw [List.length_append, List.length_singleton, HLL.out]; omega) (by have := HOWN.out; rw [List.length_append, List.length_singleton, HLL.out, List.map_append]; exact this)
            have hn4 : NoD D V' := fun a m c e _ => fun hd => HBK.out ⟨a.block, by rw [e]; exact own_at HOWN.out e, hd⟩
            refine (HIH.out (L ++ [(k : Int)]) V' (pre ++ ordsTo (ords n r) n L k) w4 (by rw [List.length_append, List.length_singleton, HLL.out]; have := HLc.out; omega) (HPA.out) (HJ.out _ _ _ HJx.out HB4.out) (HPx.out.keep (KeepC.of_bel HB4.out)) hi4 hn4).mono ?_
            rintro e w5 hmo
            obtain ⟨b, rfl, h51, h52, h53⟩ := more_cases hmo
            have HT := Lib.hid h51
            have HF := Lib.hid h52
            have HK5 := Lib.hid ((HK.out.t (KeepC.of_bel HB2.out)).t ((KeepC.of_bel HB4.out).t h53))
            have hp5 := (HPx.out.keep ((KeepC.of_bel HB4.out).t h53)).m
            clear hmo h51 h52 h53 hi4 hn4
            simp only []
            refine hK _ _ hp5 (fun hcur => ?_)
            clear hK K hp5
            apply mix_pure _ rfl
            · intro w' hw'
              go_simp
              rfl
            intro K hK
            go_simp
            refine hK _ ?_
            clear hK K
            refine mix_nil ?_
            clear hcur q3 lm p0 p1 p2
            cases b with
            | true =>
              gi_wp2
              exact ⟨⟨k + 1, by omega, by go_num, by rw [HR.out, ← List.append_assoc]; exact HT.out rfl, HK5.out⟩, by simp [intOf]; omega⟩
            | false =>
              gi_wp2
              go_ret
              exact .inr ⟨rfl, HF.out (by simp), HK5.out⟩
      · obtain rfl : k = G := by omega
        clear hj hkc HC0 HR0
        gi_wp2
        go_ret
        exact .inl ⟨rfl, by rw [HX.out]; exact HJr.out, HK.out⟩
theorem run_store_func {P : Program} (w : World) (a : Addr) (m : Mode) (f : Fn) (xs ys : Array Value) : (store a (.func f xs ys) m).run P w = stored P w a (.func f xs ys) m := run_store P w a _ m rfl
attribute [local go_sem] run_store_func
theorem orders1_gives (n : MNet) (hv pv : Value) (pb : Nat) (D : Nat → Prop) (w : World) (nn : Nat) (hm : n.holes.length ≤ 1000000)
    (p0 : w.cell? ⟨pb, 0, none⟩ = some (.int .i64 n.men)) (p1 : w.cell? ⟨pb, 1, none⟩ = some hv) (p2 : w.cell? ⟨pb, 2, none⟩ = some pv) (hh : HolesAt w hv n.holes) (hq : PrsAt w pv n.prs)
    (np : ¬ D pb) (nh : NoD D hv) (nq : NoD D pv) (lt : ∀ g, D g → g < w.heap.size) :
    GivesTo2 Fence.wide nn Tryd.prog 109 #[.pointer (some ⟨pb, 0, none⟩)] (OrdAt D) D (ords n n.holes.length []) w := by
  intro l J Jx W hW hJ hJx hY h0
  have hno : ∀ v : Value, NoD (fun _ => False) v := fun v a _ _ _ _ h => h
  replace p0 := hW.cell (fun h => h) p0
  replace p1 := hW.cell (fun h => h) p1
  replace p2 := hW.cell (fun h => h) p2
  replace hh := holes_keep hh (hno _) hW
  replace hq := prs_keep hq (hno _) hW
  have lt' : ∀ g, D g → g < W.heap.size := fun g h => Nat.lt_of_lt_of_le (lt g h) hW.size
  have lp := cell_lt p0
  have HM := Lib.hid (fun Wx hP h => more_any n hv pv pb W.heap.size (W.heap.size + 1) l D J Jx (ords n n.holes.length []) (nn - 1) hm hJ hJx hY n.holes.length [] (.slice none 0 0) [] Wx (by simp) ⟨[], by simp⟩ h hP (IntsAt.nil Wx) (fun a n c e _ => by simp at e))
  have HPL := Lib.hid (fun Wx (hb : Bel W Wx) hy hmm => PlanAt.mk (D := D) (n := n) (hv := hv) (pv := pv) (pb := pb) (yb := W.heap.size) (mb := W.heap.size + 1) (l := l) (W := Wx) (hb.cell p0) (hb.cell p1) (hb.cell p2) hy hmm (hh.bel hb) (hq.bel hb) np (fun h => by have := lt' _ h; omega) (fun h => by have := lt' _ h; omega) nh nq (fun g h => Nat.lt_of_lt_of_le (lt' g h) hb.szle))
  have HJ := Lib.hid (fun Wx (hb : Bel W Wx) => hJ _ _ _ h0 hb)
  clear hW hJ hJx hY h0 hno hh hq np nh nq lt lt' p0 p1 p2 hm
  have s1 : ((W.alloc (.cells #[.func (.yield l) #[] #[]] 165)).alloc (.cells #[.nilFunc] 165)).cell? ⟨W.heap.size + 1, 0, none⟩ = some .nilFunc := (row_facts (new_row (by simp))).1 0
  have s2 : ((W.alloc (.cells #[.func (.yield l) #[] #[]] 165)).alloc (.cells #[.nilFunc] 165)).frozen? ⟨W.heap.size + 1, 0, none⟩ = false := (row_facts (new_row (by simp))).2 0
  refine callsIn_wide.2 ?_
  go_enter Tryd.func109, Tryd.ntmps109
  go_wp2_with fail
  clear s1 s2
  have hbx : Bel W ((W.alloc (.cells #[.func (.yield l) #[] #[]] 165)).alloc (.cells #[.func (.func 110) #[] #[.pointer (some ⟨pb, 0, none⟩), .pointer (some ⟨W.heap.size, 0, none⟩), .pointer (some ⟨W.heap.size + 1, 0, none⟩)]] 165)) := ((Bel.refl W).alloc _).alloc _
  refine (HM.out _ (HPL.out _ hbx ?_ ?_) (HJ.out _ hbx)).mono ?_
  · exact Bel.cell ((Bel.refl _).alloc _) ((row_facts (new_row rfl)).1 0)
  · exact (row_facts (new_row (by simp))).1 0
  · rintro e w5 hmo
    obtain ⟨b, rfl, h51, h52, _⟩ := more_cases hmo
    have HT := Lib.hid h51
    have HF := Lib.hid h52
    clear hmo h51 h52 hbx
    go_wp2
    go_end0
    refine ⟨⟨_, rfl⟩, ?_⟩
    cases b with
    | true => exact .inl (HT.out rfl)
    | false => exact .inr (HF.out rfl)
end Go.Proofs.YtkdcdhkhadhcfaaDoor
