/-
  beasts: the reference's Way, Trapped.
-/
import Derived.Test.YtogiidkofddhaaaDoorBRef9
import Derived.Test.YtogiidkofddhaaaDoorBLeast
import Derived.Test.YtogiidkofddhaaaDoorBNx
import Derived.Test.YtogiidkofddhaaaDoorBTrap
import Derived.Test.YtogiidkofddhaaaDoorBLaw2
namespace Go.Proofs.YtogiidkofddhaaaDoor
set_option linter.unusedVariables false
open Go Go.RowKit Go.Shelf
set_option maxHeartbeats 4000000
set_option maxRecDepth 100000
/-- The cells of a row summed up. -/
def cellN (w : World) (g k : Nat) : Nat := match w.cell? ⟨g, k, none⟩ with
  | some v => (intOf v).toNat
  | none => 0
def tabN (w : World) (g n : Nat) : Nat := sumN (cellN w g) n
def sumT (c : List Int) : Nat := sumN (fun k => (at0 c k).toNat) c.length
/-- The table of a call's own, that it turns in place. -/
structure TabSt (c : List Int) (w2 : World) (g cap : Nat) (wr : World) : Prop where
  turn : Turn g 0 64 w2 wr
  own : wr.ownsRow 0 3 1 (.slice (some ⟨g, 0, none⟩) c.length cap) c.length (c.map (Value.int .i64))
theorem TabSt.keep {c : List Int} {w2 wr wx : World} {g cap : Nat} (h : TabSt c w2 g cap wr) (k : Bel wr wx) : TabSt c w2 g cap wx := ⟨h.turn.trans (Bel.turn _ _ _ k), ownsRow_bel h.own k⟩
theorem TabSt.ints {c : List Int} {w2 wr : World} {g cap : Nat} (h : TabSt c w2 g cap wr) (hl : c.length ≤ 64) : IntsAt wr (.slice (some ⟨g, 0, none⟩) c.length cap) c := ownInts (by omega) h.own
theorem TabSt.cell {c : List Int} {w2 wr : World} {g cap : Nat} (h : TabSt c w2 g cap wr) {k : Nat} (hk : k < c.length) : wr.cell? ⟨g, k, none⟩ = some (.int .i64 (at0 c k)) := by
  have := h.own.cells (g := g) rfl k (.int .i64 (at0 c k)) (by unfold at0; simp [List.getD, hk])
  rw [addr_off, Nat.zero_add] at this
  exact this
theorem TabSt.row {c : List Int} {w2 wr : World} {g cap : Nat} (h : TabSt c w2 g cap wr) : ∃ cs : Array Value, wr.heap[g]? = some (.cells cs 3 (0, 0)) ∧ c.length ≤ cs.size := by
  rcases h.own.2 with ⟨e, _⟩ | ⟨g', cap', cur, e, _, hh, hnc, hcm, hcs, _⟩
  · cases e
  · injection e with e1 e2 e3
    injection e1 with e1
    injection e1 with e1
    subst e1
    exact ⟨cur, hh, by omega⟩
theorem TabSt.fz {c : List Int} {w2 wr : World} {g cap : Nat} (h : TabSt c w2 g cap wr) (o : Nat) : wr.frozen? ⟨g, o, none⟩ = false := by
  obtain ⟨cs, hh, _⟩ := h.row
  exact (row_facts hh).2 o
theorem TabSt.lt {c : List Int} {w2 wr : World} {g cap : Nat} (h : TabSt c w2 g cap wr) : g < wr.heap.size := by
  obtain ⟨cs, hh, _⟩ := h.row
  exact lt_of_block hh
theorem TabSt.tab {c : List Int} {w2 wr : World} {g cap n : Nat} (h : TabSt c w2 g cap wr) (hn : n = c.length) : tabN wr g n = sumT c := by
  subst hn
  exact sumN_congr fun i hi => by unfold cellN; rw [h.cell hi]; rfl
theorem TabSt.put {c : List Int} {w2 wr : World} {g cap : Nat} (h : TabSt c w2 g cap wr) (hl : c.length ≤ 64) {k : Nat} (hk : k < c.length) (x : Int) : TabSt (c.set k x) w2 g cap (wr.setCell ⟨g, k, none⟩ (.int .i64 x)) := by
  refine ⟨h.turn.trans ((Only.refl g 0 64 wr).setCell (Nat.zero_le _) (by omega) _).turn, ?_⟩
  rw [List.length_set]
  refine ⟨by simp, ?_⟩
  rcases h.own.2 with ⟨e, _⟩ | ⟨g', cap', cur, e, hb, hh, hnc, hcm, hcs, ht⟩
  · cases e
  · injection e with e1 e2 e3
    injection e1 with e1
    injection e1 with e1
    subst e1 e3
    refine .inr ⟨g, cap, cur.setIfInBounds k (.int .i64 x), rfl, hb, ?_, hnc, hcm, by simpa using hcs, ?_⟩
    · simp [World.setCell, Array.getElem?_modify, hh]
    · rw [Array.toList_setIfInBounds, List.take_set, ht, List.map_set]
theorem sumT_lt {c : List Int} {k : Nat} {x : Int} (hk : k < c.length) (h0 : 0 ≤ x) (h : x < at0 c k) : sumT (c.set k x) < sumT c := by
  unfold sumT
  rw [List.length_set]
  refine sumN_lt (s := k) hk (fun i hi hne => ?_) ?_
  · rw [at0_set hk, if_neg hne]
  · rw [at0_set hk, if_pos rfl]; omega
def t0 (k : Nat) : List Int := (List.range k).map fun i => if i < 2 then 0 else 1099511627776
theorem t0_succ (k : Nat) : t0 (k + 1) = t0 k ++ [if k < 2 then 0 else 1099511627776] := by unfold t0; rw [List.range_succ, List.map_append]; rfl
theorem t0_len (k : Nat) : (t0 k).length = k := by unfold t0; simp
theorem t0_at {k i : Nat} (h : i < k) : at0 (t0 k) i = if i < 2 then 0 else 1099511627776 := by unfold t0 at0; simp [List.getD, h]
theorem t0_tab {b : BT} (hb : Okb b) {looks : Bool} {per stp : Int} : TabR b looks per stp (t0 (2 ^ (b.n.toNat + 1))) := by
  have h2 : 2 ≤ 2 ^ (b.n.toNat + 1) := by rw [Nat.pow_succ]; have := Nat.two_pow_pos b.n.toNat; omega
  refine ⟨t0_len _, by rw [t0_at (by omega)]; rfl, fun m hm => ?_⟩
  rw [t0_at hm.2]
  by_cases e : m < 2
  · have := hm.1
    obtain rfl : m = 1 := by omega
    rw [if_pos e]
    exact .inr ⟨by omega, by omega, .sea (by omega)⟩
  · rw [if_neg e]; exact .inl rfl
theorem TabR.cost {b : BT} {looks : Bool} {per stp : Int} {c : List Int} (h : TabR b looks per stp c) : CostT b c := ⟨h.len, fun _ hk => (h.in hk).1, fun _ hk => (h.in hk).2⟩
/-- No step of these makes it less. -/
def ClosTo (b : BT) (looks : Bool) (per stp : Int) (c : List Int) (k : Nat) : Prop := ∀ m, Dom b m → m ≠ 1 → m < k → ∀ x, x ∈ stepsR b looks → at0 c m ≤ withR b c m x per stp
theorem ClosTo.all {b : BT} {looks : Bool} {per stp : Int} {c : List Int} {k : Nat} (h : ClosTo b looks per stp c k) (hk : 2 ^ (b.n.toNat + 1) ≤ k) : ClosR b looks per stp c := fun m hm h1 x hx => h m hm h1 (Nat.lt_of_lt_of_le hm.2 hk) x hx
theorem ClosTo.start {b : BT} {looks : Bool} {per stp : Int} {c : List Int} : ClosTo b looks per stp c 2 := fun m hm h1 h2 => by have := hm.1; omega
def ClosAt (b : BT) (looks : Bool) (per stp : Int) (c : List Int) (k j : Nat) : Prop := ∀ i, i < j → at0 c k ≤ withR b c k (atS (stepsR b looks) i) per stp
theorem ClosTo.next {b : BT} {looks : Bool} {per stp : Int} {c : List Int} {k : Nat} (h : ClosTo b looks per stp c k) (h2 : ClosAt b looks per stp c k (stepsR b looks).length) : ClosTo b looks per stp c (k + 1) := fun m hm h1 hk x hx => by
  by_cases e : m = k
  · obtain ⟨i, hi, he⟩ := mem_getD (stepsR b looks) x default hx
    have := h2 i hi
    rw [e, ← he]
    exact this
  · exact h m hm h1 (by omega) x hx
theorem stepsR_len {b : BT} {looks : Bool} : (stepsR b looks).length ≤ b.doors.length + b.seen.length := by
  unfold stepsR
  rw [List.length_append]
  cases looks <;> simp
theorem IntSt.some {l : List Int} {w0 wr : World} {V : Value} (h : IntSt l w0 V wr) (hl : 0 < l.length) : ∃ g cap, V = .slice (some ⟨g, 0, none⟩) l.length cap ∧ w0.heap.size ≤ g ∧ g < wr.heap.size := by
  rcases h.own.2 with ⟨_, e⟩ | ⟨g, cap, cur, rfl, _, hh, _⟩
  · omega
  · exact ⟨g, cap, rfl, h.far g rfl, lt_of_block hh⟩
theorem BoxB.turn {w w' : World} {tb g lo hi : Nat} {b : BT} {dv sv pv : Value} (h : BoxB w tb b dv sv pv) (k : Turn g lo hi w w') (hne : tb ≠ g) : BoxB w' tb b dv sv pv :=
  ⟨k.other hne h.c0, k.other hne h.c1, k.other hne h.c2, k.other hne h.c3, k.other hne h.c4, k.other hne h.c5⟩
def flagN : Value → Nat
  | .bool true => 1
  | _ => 0
/-- Between the rounds of Costs. -/
def CoR2 (b : BT) (looks : Bool) (per stp : Int) (w2 : World) (g cap : Nat) (f : Value) (wr : World) : Prop :=
  ∃ c fb, f = .bool fb ∧ TabSt c w2 g cap wr ∧ TabR b looks per stp c ∧ (fb = false → ClosR b looks per stp c)
def CoR3 (b : BT) (looks : Bool) (per stp : Int) (w2 : World) (g cap N : Nat) (c : List Int) (f i : Value) (wr : World) : Prop :=
  ∃ c' fb, ∃ k : Nat, f = .bool fb ∧ i = .int .i64 k ∧ 2 ≤ k ∧ k ≤ N ∧ TabSt c' w2 g cap wr ∧ TabR b looks per stp c' ∧ (fb = true → sumT c' < sumT c) ∧ (fb = false → c' = c ∧ ClosTo b looks per stp c k)
def CoR4 (b : BT) (looks : Bool) (per stp : Int) (w2 : World) (g cap : Nat) (c : List Int) (k : Nat) (f i : Value) (wr : World) : Prop :=
  ∃ c' fb, ∃ j : Nat, f = .bool fb ∧ i = .int .i64 j ∧ j ≤ (stepsR b looks).length ∧ TabSt c' w2 g cap wr ∧ TabR b looks per stp c' ∧ (fb = true → sumT c' < sumT c) ∧ (fb = false → c' = c ∧ ClosTo b looks per stp c k ∧ ClosAt b looks per stp c k j)
theorem ClosAt.next {b : BT} {looks : Bool} {per stp : Int} {c : List Int} {k j : Nat} (h : ClosAt b looks per stp c k j) (h2 : at0 c k ≤ withR b c k (atS (stepsR b looks) j) per stp) : ClosAt b looks per stp c k (j + 1) := fun i hi => by
  by_cases e : i = j
  · rw [e]; exact h2
  · exact h i (by omega)
theorem asc_len8 {l : List Int} (h : Asc l) (h2 : ∀ p, p ∈ l → -1 ≤ p ∧ p ≤ 6) : l.length ≤ 8 := by
  have e := plOf_ofL h h2
  have := plOf_len (ofL l)
  rw [e] at this
  exact this
theorem Okb.sl {b : BT} (h : Okb b) : b.seen.length ≤ 8 := asc_len8 h.sa fun p hp => by have := h.si p hp; have := h.n2; omega
theorem Okb.pl {b : BT} (h : Okb b) : b.places.length ≤ 8 := asc_len8 h.pa fun p hp => by have := h.pi p hp; have := h.n2; omega
theorem R6Costs_any (b : BT) (hval : validT b = true) (looks : Bool) (per stp : Int) (hps : 1 ≤ per ∧ per ≤ 1000 ∧ 0 ≤ stp ∧ stp ≤ 1) (hsm : Small b looks per stp) (v : Value) (w : World) (hv : BTrapAt w v b) :
    Calls Tryd.prog 69 #[v, .bool looks, .int .i64 per, .int .i64 stp] w fun e w' => ∃ V c, e = .returned V ∧ IntsAt w' V c ∧ TabO b looks per stp c ∧ Bel w w' := by
  have hok := okb_iff.1 hval
  have n1 := hok.n1
  have n2 := hok.n2
  have hway : Way per stp := ⟨hps.1, hps.2.2.1⟩
  have HST := Lib.hid (fun wx (hx : Bel w wx) => R6Steps_any b looks v wx (hv.bel hx) (by have := hok.dl; omega) (by have := hok.sl; omega))
  have HWI := Lib.hid (fun c (hc : CostT b c) k (hk : Dom b k) j (hj : j < (stepsR b looks).length) cv pv wx (hx : Bel w wx) (h1 : IntsAt wx cv c) (h2 : IntsAt wx pv (plOf k)) => R6with_any b hval looks per stp hps c hc k hk (atS (stepsR b looks) j) (getD_mem _ _ _ hj) v cv pv wx (hv.bel hx) h1 h2)
  have HPO := Lib.hid (fun k (hk : k < 64) wx => R6PlacesOf_any k (by omega) wx)
  have HSL := Lib.hid (show (stepsR b looks).length ≤ 16 by have := stepsR_len (b := b) (looks := looks); have := hok.dl; have := hok.sl; omega)
  have HTAB0 := Lib.hid (t0_tab (looks := looks) (per := per) (stp := stp) hok)
  have HCLO := Lib.hid (fun c (h1 : TabR b looks per stp c) (h2 : ClosR b looks per stp c) => show TabO b looks per stp c from ⟨h1.len, fun m hm => h2.opt hok hway hsm h1 hm⟩)
  have HALL := Lib.hid (fun c k (h : ClosTo b looks per stp c k) hk => h.all hk)
  have HPUT := Lib.hid (fun c (h1 : TabR b looks per stp c) m (hm : Dom b m) (hm1 : m ≠ 1) j (hj : j < (stepsR b looks).length) (hlt : withR b c m (atS (stepsR b looks) j) per stp < at0 c m) => (show TabR b looks per stp (c.set m (withR b c m (atS (stepsR b looks) j) per stp)) ∧ 0 ≤ withR b c m (atS (stepsR b looks) j) per stp from h1.put hok hway hm hm1 (getD_mem (stepsR b looks) j default hj) hlt))
  have hp64 := hok.pow
  have HDOM := Lib.hid (fun m (h1 : 2 ≤ m) (h2 : m < 2 ^ (b.n.toNat + 1)) => show Dom b m from ⟨by omega, h2⟩)
  have hN : (2 : Int) * 2 ^ b.n.toNat = ((2 ^ (b.n.toNat + 1) : Nat) : Int) := by rw [Nat.pow_succ]; push_cast; omega
  have hN2 : 2 ≤ 2 ^ (b.n.toNat + 1) := by rw [Nat.pow_succ]; have := Nat.two_pow_pos b.n.toNat; omega
  have HLEN := Lib.hid (fun c (h : TabR b looks per stp c) => h.len)
  obtain ⟨da, dc, sa, sc, pa, pc, rfl, _, _, _⟩ := hv.open
  have HBX := Lib.hid (fun wx hx => (BoxB.new (w := w) (b := b) (dv := .slice da b.doors.length dc) (sv := .slice sa b.seen.length sc) (pv := .slice pa b.places.length pc) (T := 25)).bel (w' := wx) hx)
  obtain ⟨i1, hi1, hz1, hs1, hb1⟩ := info_parts mkInt
  have HI1 := Lib.hid hi1
  have HZ1 := Lib.hid hz1
  have HT0 := Lib.hid (fun k => t0_succ k)
  have HTL := Lib.hid (fun k => t0_len k)
  have HT00 := Lib.hid (show t0 0 = [] from rfl)
  clear hv hok hway hi1 hz1 hsm
  generalize 2 ^ (b.n.toNat + 1) = N at *
  go_enter Tryd.func69, Tryd.ntmps69
  go_wp2
  generalize hW0 : World.alloc _ _ = W0
  have HB := Lib.hid (show Bel w W0 by rw [← hW0]; exact (Bel.refl w).alloc _)
  have HY := Lib.hid (HBX.out W0 (by rw [← hW0]; exact Bel.refl _))
  have HG := Lib.hid (show w.heap.size < W0.heap.size by rw [← hW0]; simp)
  clear hW0 HBX
  go_loopw [9, 10] (fun V i wr => ∃ k : Nat, k ≤ N ∧ i = .int .i64 k ∧ IntSt (t0 k) W0 V wr) (fun _ i _ => N - (intOf i).toNat)
  case atStart => exact ⟨0, by omega, rfl, by rw [HT00.out]; exact IntSt.start W0⟩
  case round =>
    obtain ⟨k, hk, rfl, hst⟩ := hrel
    have HST1 := Lib.hid hst
    obtain ⟨y0, y1, y2, y3, y4, y5⟩ := HY.out.bel hst.bel
    have ly := cell_lt y0
    have htl := HTL.out k
    by_cases hlt : k < N
    · have hlti : (k : Int) < (N : Int) := by omega
      have HTK := Lib.hid (HT0.out k)
      clear hst
      by_cases h2 : k < 2
      · rw [show (if k < 2 then (0 : Int) else 1099511627776) = _ from if_pos h2] at HTK
        have h2i : (k : Int) < 2 := by omega
        go_wp2_with (at_builtin; refine wpList_append_where rfl _ _ 23 rfl 3 i1 (.int .i64 0) 1 8 Tryd.underlying23 HI1.out HZ1.out hs1 hb1 rfl (by decide) _ (t0 k).length ((t0 k).map (Value.int .i64)) rfl (ownsRow_bel HST1.out.own ((Bel.refl _).alloc _)) ⟨wr.heap.size, 0, none⟩ 1 1 [.int .i64 0] rfl rfl (cell_one_new _ _ _) (fun y hy => by simp at hy; subst hy; rfl) (by unfold maxLen; omega) (by omega) ?_; intro V' w7 hown hgrow hwhere)
        have HNX := Lib.hid ((HST1.out.keep ((Bel.refl _).alloc _)).next hown hgrow hwhere)
        clear hown hgrow hwhere
        go_wp2
        go_roundw
        case rel => exact ⟨k + 1, by omega, by go_num, by rw [HTK.out]; exact HNX.out⟩
        case measure => simp [intOf]; omega
      · rw [show (if k < 2 then (0 : Int) else 1099511627776) = _ from if_neg h2] at HTK
        have h2i : ¬ (k : Int) < 2 := by omega
        go_wp2_with (at_builtin; refine wpList_append_where rfl _ _ 23 rfl 3 i1 (.int .i64 0) 1 8 Tryd.underlying23 HI1.out HZ1.out hs1 hb1 rfl (by decide) _ (t0 k).length ((t0 k).map (Value.int .i64)) rfl (ownsRow_bel HST1.out.own ((Bel.refl _).alloc _)) ⟨wr.heap.size, 0, none⟩ 1 1 [.int .i64 1099511627776] rfl rfl (cell_one_new _ _ _) (fun y hy => by simp at hy; subst hy; rfl) (by unfold maxLen; omega) (by omega) ?_; intro V' w7 hown hgrow hwhere)
        have HNX := Lib.hid ((HST1.out.keep ((Bel.refl _).alloc _)).next hown hgrow hwhere)
        clear hown hgrow hwhere
        go_wp2
        go_roundw
        case rel => exact ⟨k + 1, by omega, by go_num, by rw [HTK.out]; exact HNX.out⟩
        case measure => simp [intOf]; omega
    · have hlti : ¬ (k : Int) < (N : Int) := by omega
      obtain rfl : k = N := by omega
      obtain ⟨g, cap, hV, hg1, hg2⟩ := hst.some (by omega)
      subst hV
      rw [htl]
      have HSTw := Lib.hid (fun wx (hx : Bel wr wx) => HST.out wx (HB.out.trans (hst.bel.trans hx)))
      have HBwr := Lib.hid (HB.out.trans hst.bel)
      have HYwr := Lib.hid (HY.out.bel hst.bel)
      clear hst HST
      go_wp2_with fail
      refine (HSTw.out _ (Bel.refl _)).mono ?_
      rintro e w2 ⟨VS, rfl, hss⟩
      have hB2 := hss.bel
      have HB2 := Lib.hid (HBwr.out.trans hB2)
      have hY2 := HYwr.out.bel hB2
      have HT2 := Lib.hid (show TabSt (t0 k) w2 g cap w2 from ⟨Turn.refl _ _ _ _, by have := HST1.out.own; exact ownsRow_bel this hB2⟩)
      have hfar := hss.far
      have hgt := HG.out
      obtain ⟨sa2, sc2, sb2, soff2, rfl, hsa2, _, hsc2⟩ := hss.read (by have := HSL.out; omega)
      have hixs := idxSteps (c := sc2) hsa2
      have HBOX := Lib.hid (fun wx (hx : Turn g 0 64 w2 wx) => hY2.turn hx (by omega))
      have HSTC := Lib.hid (fun wx (hx : Turn g 0 64 w2 wx) j (hj : j < (stepsR b looks).length) => by
        have hne : sb2 ≠ g := by
          have := hfar sb2 (by rw [hsa2 (by omega)]; rfl)
          omega
        exact (⟨hx.other hne (hsc2 j hj).1, hx.other hne (hsc2 j hj).2⟩ : wx.cell? ⟨sb2, soff2 + j * 2, none⟩ = some (.int .i64 (atS (stepsR b looks) j).k) ∧ wx.cell? ⟨sb2, soff2 + j * 2 + 1, none⟩ = some (.int .i64 (atS (stepsR b looks) j).x)))
      have HBW := Lib.hid (fun wx (hx : Turn g 0 64 w2 wx) => hx.bel HB2.out (by have := HB.out.szle; omega))
      clear hss hB2 hY2 hfar hsa2 hsc2 HYwr HSTw HBwr HST1 HY HG HB hg1 hg2 hgt y0 y1 y2 y3 y4 y5 ly hlt hlti
      have hll := HSL.out
      go_wp2
      go_loopw [12] (fun f wx => CoR2 b looks per stp w2 g cap f wx) (fun f wx => 2 * tabN wx g k + flagN f)
      case atStart => exact ⟨t0 k, true, rfl, HT2.out, HTAB0.out, by intro q; cases q⟩
      case round =>
        obtain ⟨c, fb, rfl, hts, htr, hcl⟩ := hrel
        cases fb
        · have hi := hts.ints (by rw [HLEN.out c htr]; omega)
          rw [HLEN.out c htr] at hi
          have HI := Lib.hid hi
          have HTO := Lib.hid (HCLO.out c htr (hcl rfl))
          have HF := Lib.hid (HBW.out _ hts.turn)
          clear hts htr hcl hi
          go_wp2
          go_ret
          exact ⟨_, c, rfl, HI.out, HTO.out, HF.out⟩
        · have HTS := Lib.hid hts
          have HTR := Lib.hid htr
          have HTB := Lib.hid (hts.tab (HLEN.out c htr).symm)
          clear hts htr hcl
          go_wp2
          go_loopw [12, 13] (fun f i wx => CoR3 b looks per stp w2 g cap k c f i wx) (fun _ i _ => k - (intOf i).toNat)
          case atStart => exact ⟨c, false, 2, rfl, rfl, by omega, hN2, HTS.out, HTR.out, (by intro q; cases q), fun _ => ⟨rfl, .start⟩⟩
          case round =>
            obtain ⟨c', fb, m, rfl, rfl, hm1, hm2, hts, htr, hdn, hcl⟩ := hrel
            have HTS' := Lib.hid hts
            have HTR' := Lib.hid htr
            have HDN := Lib.hid hdn
            have HCL := Lib.hid hcl
            clear hts htr hdn hcl
            by_cases hlt : m < k
            · have hlti : (m : Int) < (k : Int) := by omega
              have HDM := Lib.hid (HDOM.out m hm1 hlt)
              go_wp2
              go_loopw [12, 14] (fun f i wx => CoR4 b looks per stp w2 g cap c m f i wx) (fun _ i _ => (stepsR b looks).length - (intOf i).toNat)
              case atStart => exact ⟨c', fb, 0, rfl, rfl, by omega, HTS'.out, HTR'.out, HDN.out, fun q => ⟨(HCL.out q).1, (HCL.out q).2, fun i hi => by omega⟩⟩
              case round =>
                obtain ⟨c2, fb2, j, rfl, rfl, hj, hts, htr, hdn, hcl⟩ := hrel
                have HTS2 := Lib.hid hts
                have HTR2 := Lib.hid htr
                have HDN2 := Lib.hid hdn
                have HCL2 := Lib.hid hcl
                clear hts htr hdn hcl
                by_cases hltj : j < (stepsR b looks).length
                · have hltji : (j : Int) < ((stepsR b looks).length : Int) := by omega
                  obtain ⟨y0, y1, y2, y3, y4, y5⟩ := HBOX.out _ HTS2.out.turn
                  have ly := cell_lt y0
                  obtain ⟨s0, s1⟩ := HSTC.out _ HTS2.out.turn j hltj
                  have ls := cell_lt s0
                  have hml : m < c2.length := by rw [HLEN.out c2 HTR2.out]; exact hlt
                  have q0 := HTS2.out.cell hml
                  have HPm := Lib.hid (fun wx => HPO.out m (by omega) wx)
                  have hci := HTS2.out.ints (by rw [HLEN.out c2 HTR2.out]; omega)
                  rw [HLEN.out c2 HTR2.out] at hci
                  have HCI := Lib.hid hci
                  have HWm := Lib.hid (fun pv wx hx (h2 : IntsAt wx pv (plOf m)) => HWI.out c2 HTR2.out.cost m HDM.out j hltj _ pv wx ((HBW.out _ HTS2.out.turn).trans hx) (HCI.out.bel hx) h2)
                  have HPU := Lib.hid (HPUT.out c2 HTR2.out m HDM.out (by omega) j hltj)
                  have HSUM := Lib.hid (fun x h0 (h : x < at0 c2 m) => Nat.lt_of_lt_of_le (sumT_lt hml h0 h) (show sumT c2 ≤ sumT c by
                    cases fb2
                    · rw [(HCL2.out rfl).1]; exact Nat.le_refl _
                    · exact Nat.le_of_lt (HDN2.out rfl)))
                  have HNL := Lib.hid (fun (h : ¬ withR b c2 m (atS (stepsR b looks) j) per stp < at0 c2 m) (q : fb2 = false) => (by
                    obtain ⟨e1, e2, e3⟩ := HCL2.out q
                    rw [e1] at h
                    exact ⟨e1, e2, e3.next (by omega)⟩ : c2 = c ∧ ClosTo b looks per stp c m ∧ ClosAt b looks per stp c m (j + 1)))
                  have HMC := Lib.hid hml
                  have HC64 := Lib.hid (show c2.length ≤ 64 by rw [HLEN.out c2 HTR2.out]; exact hp64)
                  clear hci hml
                  generalize withR b c2 m (atS (stepsR b looks) j) per stp = cw at *
                  generalize at0 c2 m = a0 at *
                  generalize (atS (stepsR b looks) j).k = xk at *
                  generalize (atS (stepsR b looks) j).x = xx at *
                  go_wp2
                  refine wp_region_mixB (Plan.seq [0, 1, 2, 4, 5, 6, 7, 8, 9, 1003, 1010, 11] .nil) (by kernel_rfl) (by kernel_rfl) (fun hcur => ?_)
                  simp only [Plan.seq, Plan.fill, List.getD_cons_zero, List.getD_cons_succ, Nat.reduceLT, ↓reduceIte, Nat.reduceSub]
                  apply mix_pure _ rfl
                  · intro w' hw'
                    have hcr := hw'.cells
                    go_simp
                    rfl
                  intro K hK
                  go_simp
                  refine hK _ ?_
                  clear hK K
                  apply mix_pure _ rfl
                  · intro w' hw'
                    have hcr := hw'.cells
                    go_simp
                    rfl
                  intro K hK
                  go_simp
                  refine hK _ ?_
                  clear hK K
                  apply mix_pure _ rfl
                  · intro w' hw'
                    have hcr := hw'.cells
                    go_simp
                    rfl
                  intro K hK
                  go_simp
                  refine hK _ ?_
                  clear hK K
                  apply mix_pure _ rfl
                  · intro w' hw'
                    have hcr := hw'.cells
                    go_simp
                    rfl
                  intro K hK
                  go_simp
                  refine hK _ ?_
                  clear hK K
                  apply mix_pure _ rfl
                  · intro w' hw'
                    have hcr := hw'.cells
                    go_simp
                    rfl
                  intro K hK
                  go_simp
                  refine hK _ ?_
                  clear hK K
                  apply mix_pure _ rfl
                  · intro w' hw'
                    have hcr := hw'.cells
                    go_simp
                    rfl
                  intro K hK
                  go_simp
                  refine hK _ ?_
                  clear hK K
                  apply mix_pure _ rfl
                  · intro w' hw'
                    have hcr := hw'.cells
                    go_simp
                    rfl
                  intro K hK
                  go_simp
                  refine hK _ ?_
                  clear hK K
                  apply mix_pure _ rfl
                  · intro w' hw'
                    have hcr := hw'.cells
                    go_simp
                    rfl
                  intro K hK
                  go_simp
                  refine hK _ ?_
                  clear hK K
                  apply mix_pure _ rfl
                  · intro w' hw'
                    have hcr := hw'.cells
                    go_simp
                    rfl
                  intro K hK
                  go_simp
                  refine hK _ ?_
                  clear hK K
                  refine mix_act rfl (fun K hK => ?_)
                  go_simp
                  refine (HPm.out _).mono ?_
                  rintro e w4 ⟨V4, rfl, hI⟩
                  have hb := hI.bel
                  have HI4 := Lib.hid (ownInts (l := plOf m) (by have := plOf_len m; omega) hI.own)
                  simp only []
                  refine hK _ _ (hcur.trans hb) (fun hcur => ?_)
                  clear hK K hb hI
                  refine mix_act rfl (fun K hK => ?_)
                  go_simp
                  refine (HWm.out _ _ hcur HI4.out).mono ?_
                  rintro e w5 ⟨rfl, hb⟩
                  simp only []
                  refine hK _ _ (hcur.trans hb) (fun hcur => ?_)
                  clear hK K hb
                  apply mix_pure _ rfl
                  · intro w' hw'
                    have hcr := hw'.cells
                    go_simp
                    rfl
                  intro K hK
                  go_simp
                  refine hK _ ?_
                  clear hK K
                  refine mix_nil ?_
                  have HTS3 := Lib.hid (HTS2.out.keep hcur)
                  replace q0 := hcur.cell q0
                  have lq := cell_lt q0
                  have hfz := HTS3.out.fz m
                  have hixt := idxInts (n := k) (c := cap) (a := some ⟨g, 0, none⟩) (b := g) (off := 0) (fun _ => rfl)
                  simp only [Nat.zero_add] at hixt
                  clear hcur y0 y1 y2 y3 y4 y5 ly s0 s1 ls
                  by_cases hle : cw < a0
                  · obtain ⟨p1, p2⟩ := HPU.out hle
                    have HP1 := Lib.hid p1
                    have HS1 := Lib.hid (HSUM.out cw p2 hle)
                    have HTS4 := Lib.hid (HTS3.out.put HC64.out HMC.out cw)
                    clear p1 p2
                    go_wp2
                    go_roundw
                    case rel => exact ⟨c2.set m cw, true, j + 1, rfl, by go_num, by omega, HTS4.out, HP1.out, fun _ => HS1.out, by intro q; cases q⟩
                    case measure => simp [intOf]; omega
                  · go_wp2
                    go_roundw
                    case rel => exact ⟨c2, fb2, j + 1, rfl, by go_num, by omega, HTS3.out, HTR2.out, HDN2.out, HNL.out (by omega)⟩
                    case measure => simp [intOf]; omega
                · have hltji : ¬ (j : Int) < ((stepsR b looks).length : Int) := by omega
                  obtain rfl : j = (stepsR b looks).length := by omega
                  go_wp2
                  go_roundw
                  case rel => exact ⟨c2, fb2, m + 1, rfl, by go_num, by omega, by omega, HTS2.out, HTR2.out, HDN2.out, fun q => ⟨(HCL2.out q).1, (HCL2.out q).2.1.next (HCL2.out q).2.2⟩⟩
                  case measure => simp [intOf]; omega
            · have hlti : ¬ (m : Int) < (k : Int) := by omega
              obtain rfl : m = k := by omega
              have HTB' := Lib.hid (HTS'.out.tab (HLEN.out c' HTR'.out).symm)
              cases fb
              all_goals
                go_wp2
                go_roundw
              case rel => exact ⟨c', _, rfl, HTS'.out, HTR'.out, fun _ => by
                  obtain ⟨e, h⟩ := HCL.out rfl
                  rw [e]
                  exact HALL.out c m h (Nat.le_refl _)⟩
              case measure =>
                rw [HTB'.out, HTB.out, (HCL.out rfl).1]
                show 2 * sumT c + 0 < 2 * sumT c + 1
                omega
              case rel => exact ⟨c', _, rfl, HTS'.out, HTR'.out, by intro q; cases q⟩
              case measure =>
                rw [HTB'.out, HTB.out]
                have := HDN.out rfl
                show 2 * sumT c' + 1 < 2 * sumT c + 1
                omega
end Go.Proofs.YtogiidkofddhaaaDoor
namespace Go.Proofs.YtogiidkofddhaaaDoor
set_option linter.unusedVariables false
open Go Go.RowKit Go.Shelf
set_option maxHeartbeats 4000000
set_option maxRecDepth 100000
theorem TabO.at {b : BT} (hb : Okb b) {looks : Bool} {per stp : Int} {c : List Int} (h : TabO b looks per stp c) {s : Nat} (hs : Dom b s) : s < c.length ∧ at0 c s = (opt b looks per stp s).getD 1099511627776 := ⟨by rw [h.1]; exact hs.2, h.2 s hs⟩
/-- The price and the error of a table's cell. -/
theorem opt_far {b : BT} (hb : Okb b) {looks : Bool} {l : List Int} (hs : Dom b (ofL l)) :
    ((opt b looks 1 0 (ofL l)).getD 1099511627776 = 1099511627776 ∧ optV b looks l = 0 ∧ optE b looks l = 3) ∨ ((opt b looks 1 0 (ofL l)).getD 1099511627776 < 1099511627776 ∧ optV b looks l = (opt b looks 1 0 (ofL l)).getD 1099511627776 ∧ optE b looks l = 0) := by
  cases h : opt b looks 1 0 (ofL l) with
  | none => exact .inl ⟨rfl, optVE_none h⟩
  | some u =>
    have := small_1 hb (ofL l) u hs h
    exact .inr ⟨by show u < _; omega, (optVE_some h).1, (optVE_some h).2⟩
theorem R6least_any (b : BT) (hval : validT b = true) (looks : Bool) (v : Value) (w : World) (hv : BTrapAt w v b) :
    Calls Tryd.prog 86 #[v, .bool looks] w fun e w' => e = .returned (.tuple #[.int .i64 (optV b looks b.places), .int .i64 (optE b looks b.places)]) ∧ Bel w w' := by
  have hok := okb_iff.1 hval
  have hn2 := hok.n2
  have hD := dom_places hok
  have HCO := Lib.hid (fun wx (hx : Bel w wx) => R6Costs_any b hval looks 1 0 (by omega) (small_1 hok) v wx (hv.bel hx))
  have HTA := Lib.hid (fun c (h : TabO b looks 1 0 c) => h.at hok hD)
  have hfar := opt_far hok (looks := looks) hD
  obtain ⟨da, dc, sa, sc, pa, pc, rfl, _, _, hp⟩ := hv.open
  have HSO := Lib.hid (fun wx (hx : Bel w wx) => R6Some_any _ b.places wx (hp.bel hx) hok.pa (fun p hp => by have := hok.pi p hp; omega))
  have HBX := Lib.hid (fun wx hx => (BoxB.new (w := w) (b := b) (dv := .slice da b.doors.length dc) (sv := .slice sa b.seen.length sc) (pv := .slice pa b.places.length pc) (T := 25)).bel (w' := wx) hx)
  generalize (opt b looks 1 0 (ofL b.places)).getD 1099511627776 = K at *
  generalize ofL b.places = s at *
  generalize optV b looks b.places = V at *
  generalize optE b looks b.places = E at *
  clear hv hp hok hD hval
  go_enter Tryd.func86, Tryd.ntmps86
  go_wp2
  generalize hW0 : World.alloc _ _ = W0
  have HB := Lib.hid (show Bel w W0 by rw [← hW0]; exact (Bel.refl w).alloc _)
  obtain ⟨y0, y1, y2, y3, y4, y5⟩ := HBX.out W0 (by rw [← hW0]; exact Bel.refl _)
  have ly := cell_lt y0
  clear hW0 HBX
  refine wp_region_mixB (Plan.seq [0, 1, 3, 4, 1002, 1005, 6, 1007, 8] .nil) (by kernel_rfl) (by kernel_rfl) (fun hcur => ?_)
  simp only [Plan.seq, Plan.fill, List.getD_cons_zero, List.getD_cons_succ, Nat.reduceLT, ↓reduceIte, Nat.reduceSub]
  apply mix_pure _ rfl
  · intro w' hw'
    have hcr := hw'.cells
    go_simp
    rfl
  intro K hK
  go_simp
  refine hK _ ?_
  clear hK K
  apply mix_pure _ rfl
  · intro w' hw'
    have hcr := hw'.cells
    go_simp
    rfl
  intro K hK
  go_simp
  refine hK _ ?_
  clear hK K
  apply mix_pure _ rfl
  · intro w' hw'
    have hcr := hw'.cells
    go_simp
    rfl
  intro K hK
  go_simp
  refine hK _ ?_
  clear hK K
  apply mix_pure _ rfl
  · intro w' hw'
    have hcr := hw'.cells
    go_simp
    rfl
  intro K hK
  go_simp
  refine hK _ ?_
  clear hK K
  refine mix_act rfl (fun K hK => ?_)
  go_simp
  refine (HCO.out _ (HB.out.trans hcur)).mono ?_
  rintro e w4 ⟨V4, c, rfl, hi, ht, hb⟩
  obtain ⟨t1, t2⟩ := HTA.out c ht
  obtain ⟨ca, cc, cb, coff, rfl, hca, _, hcc⟩ := hi
  have hixc := idxInts (c := cc) hca
  have q0 := hcc s t1
  rw [t2] at q0
  have lq := cell_lt q0
  simp only []
  refine hK _ _ (hcur.trans hb) (fun hcur => ?_)
  clear hK K hb hca hcc t2 ht
  refine mix_act rfl (fun K hK => ?_)
  go_simp
  refine (HSO.out _ (HB.out.trans hcur)).mono ?_
  rintro e w5 ⟨rfl, hb⟩
  try replace q0 := hb.cell q0
  try have lq := cell_lt q0
  simp only []
  refine hK _ _ (hcur.trans hb) (fun hcur => ?_)
  clear hK K hb
  apply mix_pure _ rfl
  · intro w' hw'
    have hcr := hw'.cells
    go_simp
    rfl
  intro K hK
  go_simp
  refine hK _ ?_
  clear hK K
  refine mix_act rfl (fun K hK => ?_)
  go_simp
  refine hK _ _ hcur (fun hcur => ?_)
  clear hK K
  apply mix_pure _ rfl
  · intro w' hw'
    have hcr := hw'.cells
    go_simp
    rfl
  intro K hK
  go_simp
  refine hK _ ?_
  clear hK K
  refine mix_nil ?_
  have HF := Lib.hid (HB.out.trans hcur)
  clear hcur y0 y1 y2 y3 y4 y5 ly q0 lq hixc
  rcases hfar with ⟨h1, h2, h3⟩ | ⟨h1, h2, h3⟩
  · have hb1 : (K == 1099511627776) = true := by simpa using h1
    have HV := Lib.hid h2
    have HE := Lib.hid h3
    clear h1 h2 h3
    go_wp2
    exact bodyPost_ret (v := .tuple #[.int .i64 0, .int .i64 3]) (by simp [results, Tryd.results86, go_sem]) rfl ⟨rvI HV.out HE.out, HF.out⟩
  · have hb1 : (K == 1099511627776) = false := by rw [beq_eq_false_iff_ne]; omega
    have HV := Lib.hid h2
    have HE := Lib.hid h3
    clear h1 h2 h3
    go_wp2
    exact bodyPost_ret (v := .tuple #[.int .i64 K, .int .i64 0]) (by simp [results, Tryd.results86, go_sem]) rfl ⟨rvI HV.out HE.out, HF.out⟩
theorem R6Least_any (b : BT) (v : Value) (w : World) (hv : BTrapAt w v b) :
    Calls Tryd.prog 40 #[v] w fun e w' => e = .returned (.tuple #[.int .i64 (leastV b true), .int .i64 (leastE b true)]) ∧ Bel w w' := by
  have HC := Lib.hid (fun wx (hx : Bel w wx) => R6Check_any b v wx (hv.bel hx))
  have HLE := Lib.hid (fun hval wx (hx : Bel w wx) => R6least_any b hval true v wx (hv.bel hx))
  obtain ⟨da, dc, sa, sc, pa, pc, rfl, _, _, _⟩ := hv.open
  have HBX := Lib.hid (fun wx hx => (BoxB.new (w := w) (b := b) (dv := .slice da b.doors.length dc) (sv := .slice sa b.seen.length sc) (pv := .slice pa b.places.length pc) (T := 25)).bel (w' := wx) hx)
  clear hv
  cases hval : validT b
  · obtain ⟨e1, e2⟩ := least_bad (looks := true) hval
    have E1 := Lib.hid e1
    have E2 := Lib.hid e2
    rw [chkT_false hval] at HC
    clear hval e1 e2 HLE
    go_enter Tryd.func40, Tryd.ntmps40
    go_wp2_with fail
    refine (HC.out _ (by repeat (first | assumption | exact Bel.refl _ | refine Bel.drew ?_ | refine Bel.drewN ?_ _ | refine Bel.alloc ?_ _ | refine Bel.setCell ?_ (by simp <;> omega) _ | refine Bel.trans ?_ (by assumption)))).mono ?_
    rintro e w1 ⟨rfl, hb⟩
    have HB := Lib.hid (show Bel w w1 from Bel.trans (by repeat (first | assumption | exact Bel.refl _ | refine Bel.drew ?_ | refine Bel.drewN ?_ _ | refine Bel.alloc ?_ _ | refine Bel.setCell ?_ (by simp <;> omega) _ | refine Bel.trans ?_ (by assumption))) hb)
    clear hb
    go_wp2
    exact bodyPost_ret (v := .tuple #[.int .i64 0, .int .i64 60]) (by simp [results, Tryd.results40, go_sem]) rfl ⟨rvI E1.out E2.out, HB.out⟩
  · obtain ⟨e1, e2⟩ := least_good (looks := true) hval
    have E1 := Lib.hid e1
    have E2 := Lib.hid e2
    have HL := Lib.hid (HLE.out hval)
    rw [chkT_true hval] at HC
    clear hval e1 e2 HLE
    generalize optV b true b.places = V at *
    generalize optE b true b.places = E at *
    go_enter Tryd.func40, Tryd.ntmps40
    go_wp2_with fail
    refine (HC.out _ (by repeat (first | assumption | exact Bel.refl _ | refine Bel.drew ?_ | refine Bel.drewN ?_ _ | refine Bel.alloc ?_ _ | refine Bel.setCell ?_ (by simp <;> omega) _ | refine Bel.trans ?_ (by assumption)))).mono ?_
    rintro e w1 ⟨rfl, hb⟩
    have HB := Lib.hid (show Bel w w1 from Bel.trans (by repeat (first | assumption | exact Bel.refl _ | refine Bel.drew ?_ | refine Bel.drewN ?_ _ | refine Bel.alloc ?_ _ | refine Bel.setCell ?_ (by simp <;> omega) _ | refine Bel.trans ?_ (by assumption))) hb)
    obtain ⟨y0, y1, y2, y3, y4, y5⟩ := HBX.out w1 hb
    have ly := cell_lt y0
    clear hb
    go_wp2_with fail
    refine (HL.out _ HB.out).mono ?_
    rintro e w2 ⟨rfl, hb⟩
    have HB2 := Lib.hid (HB.out.trans hb)
    clear hb y0 y1 y2 y3 y4 y5 ly
    go_wp2
    exact bodyPost_ret (v := .tuple #[.int .i64 V, .int .i64 E]) (by simp [results, Tryd.results40, go_sem]) rfl ⟨rvI E1.out E2.out, HB2.out⟩
theorem R6Blind_any (b : BT) (v : Value) (w : World) (hv : BTrapAt w v b) :
    Calls Tryd.prog 47 #[v] w fun e w' => e = .returned (.tuple #[.int .i64 (leastV b false), .int .i64 (leastE b false)]) ∧ Bel w w' := by
  have HC := Lib.hid (fun wx (hx : Bel w wx) => R6Check_any b v wx (hv.bel hx))
  have HLE := Lib.hid (fun hval wx (hx : Bel w wx) => R6least_any b hval false v wx (hv.bel hx))
  obtain ⟨da, dc, sa, sc, pa, pc, rfl, _, _, _⟩ := hv.open
  have HBX := Lib.hid (fun wx hx => (BoxB.new (w := w) (b := b) (dv := .slice da b.doors.length dc) (sv := .slice sa b.seen.length sc) (pv := .slice pa b.places.length pc) (T := 25)).bel (w' := wx) hx)
  clear hv
  cases hval : validT b
  · obtain ⟨e1, e2⟩ := least_bad (looks := false) hval
    have E1 := Lib.hid e1
    have E2 := Lib.hid e2
    rw [chkT_false hval] at HC
    clear hval e1 e2 HLE
    go_enter Tryd.func47, Tryd.ntmps47
    go_wp2_with fail
    refine (HC.out _ (by repeat (first | assumption | exact Bel.refl _ | refine Bel.drew ?_ | refine Bel.drewN ?_ _ | refine Bel.alloc ?_ _ | refine Bel.setCell ?_ (by simp <;> omega) _ | refine Bel.trans ?_ (by assumption)))).mono ?_
    rintro e w1 ⟨rfl, hb⟩
    have HB := Lib.hid (show Bel w w1 from Bel.trans (by repeat (first | assumption | exact Bel.refl _ | refine Bel.drew ?_ | refine Bel.drewN ?_ _ | refine Bel.alloc ?_ _ | refine Bel.setCell ?_ (by simp <;> omega) _ | refine Bel.trans ?_ (by assumption))) hb)
    clear hb
    go_wp2
    exact bodyPost_ret (v := .tuple #[.int .i64 0, .int .i64 60]) (by simp [results, Tryd.results47, go_sem]) rfl ⟨rvI E1.out E2.out, HB.out⟩
  · obtain ⟨e1, e2⟩ := least_good (looks := false) hval
    have E1 := Lib.hid e1
    have E2 := Lib.hid e2
    have HL := Lib.hid (HLE.out hval)
    rw [chkT_true hval] at HC
    clear hval e1 e2 HLE
    generalize optV b false b.places = V at *
    generalize optE b false b.places = E at *
    go_enter Tryd.func47, Tryd.ntmps47
    go_wp2_with fail
    refine (HC.out _ (by repeat (first | assumption | exact Bel.refl _ | refine Bel.drew ?_ | refine Bel.drewN ?_ _ | refine Bel.alloc ?_ _ | refine Bel.setCell ?_ (by simp <;> omega) _ | refine Bel.trans ?_ (by assumption)))).mono ?_
    rintro e w1 ⟨rfl, hb⟩
    have HB := Lib.hid (show Bel w w1 from Bel.trans (by repeat (first | assumption | exact Bel.refl _ | refine Bel.drew ?_ | refine Bel.drewN ?_ _ | refine Bel.alloc ?_ _ | refine Bel.setCell ?_ (by simp <;> omega) _ | refine Bel.trans ?_ (by assumption))) hb)
    obtain ⟨y0, y1, y2, y3, y4, y5⟩ := HBX.out w1 hb
    have ly := cell_lt y0
    clear hb
    go_wp2_with fail
    refine (HL.out _ HB.out).mono ?_
    rintro e w2 ⟨rfl, hb⟩
    have HB2 := Lib.hid (HB.out.trans hb)
    clear hb y0 y1 y2 y3 y4 y5 ly
    go_wp2
    exact bodyPost_ret (v := .tuple #[.int .i64 V, .int .i64 E]) (by simp [results, Tryd.results47, go_sem]) rfl ⟨rvI E1.out E2.out, HB2.out⟩
end Go.Proofs.YtogiidkofddhaaaDoor
namespace Go.Proofs.YtogiidkofddhaaaDoor
set_option linter.unusedVariables false
open Go Go.RowKit Go.Shelf
set_option maxHeartbeats 4000000
set_option maxRecDepth 100000
theorem find_ix {α : Type} [Inhabited α] {p : α → Bool} : ∀ {l : List α} {x : α}, l.find? p = some x → ∃ i, i < l.length ∧ l.getD i default = x ∧ p x = true ∧ ∀ j, j < i → p (l.getD j default) = false
  | [], x, h => by simp at h
  | a :: l, x, h => by
    rw [List.find?_cons] at h
    cases e : p a with
    | true =>
      rw [e] at h
      injection h with h
      subst h
      exact ⟨0, by simp, rfl, e, fun j hj => by omega⟩
    | false =>
      rw [e] at h
      obtain ⟨i, h1, h2, h3, h4⟩ := find_ix (l := l) h
      refine ⟨i + 1, by simpa using h1, by simpa using h2, h3, fun j hj => ?_⟩
      cases j with
      | zero => simpa using e
      | succ j => have := h4 j (by omega); simpa using this
theorem TabO.cost {b : BT} (hb : Okb b) {looks : Bool} {per stp : Int} (hw : Way per stp) (hsm : Small b looks per stp) {c : List Int} (h : TabO b looks per stp c) : CostT b c := by
  refine ⟨h.1, fun k hk => ?_, fun k hk => ?_⟩
  all_goals
    rw [h.2 k hk]
    cases e : opt b looks per stp k with
    | none => show _ ≤ _; simp
    | some u =>
      have h0 := opt_nonneg hb hw hk e
      have h1 := hsm k u hk e
      show _ ≤ _
      simp only [Option.getD_some]
      omega
/-- Where the reference finds its step. -/
theorem nextR_at {b : BT} (hb : Okb b) {looks : Bool} {per stp : Int} (hw : Way per stp) (hsm : Small b looks per stp) (hlo : per ≤ 1000 ∧ stp ≤ 1) {c : List Int} (h : TabO b looks per stp c) {s : Nat} (hs : Dom b s) {u : Int} (hu : opt b looks per stp s = some u)
    {y : BS × List Nat} (hy : nextV b looks per stp (opt b looks per stp) s = some y) :
    ∃ i, i < (stepsR b looks).length ∧ atS (stepsR b looks) i = y.1 ∧ y.2 = partsM b s y.1 ∧ withR b c s (atS (stepsR b looks) i) per stp = at0 c s ∧ ∀ j, j < i → withR b c s (atS (stepsR b looks) j) per stp ≠ at0 c s := by
  have e := nextR_eq hb hw hsm hlo h hs hu
  rw [hy] at e
  cases hn : nextR b looks per stp c s with
  | none => rw [hn] at e; cases e
  | some x =>
    rw [hn] at e
    injection e with e
    obtain ⟨i, h1, h2, h3, h4⟩ := find_ix hn
    have h2' : atS (stepsR b looks) i = x := h2
    refine ⟨i, h1, by rw [h2', ← e], by rw [← e], ?_, fun j hj => ?_⟩
    · rw [h2']; exact of_decide_eq_true h3
    · exact of_decide_eq_false (h4 j hj)
theorem R6next_any (b : BT) (hval : validT b = true) (c : List Int) (hc : TabO b true 1 0 c) (s : Nat) (hs : Dom b s) (h1 : s ≠ 1) (u : Int) (hu : opt b true 1 0 s = some u) (v cv pv : Value) (w : World) (hv : BTrapAt w v b) (hcv : IntsAt w cv c) (hp : IntsAt w pv (plOf s)) :
    Calls Tryd.prog 71 #[v, cv, pv] w fun e w' => e = .returned (.agg #[.int .i64 (nextS b s).1.k, .int .i64 (nextS b s).1.x]) ∧ Bel w w' := by
  have hok := okb_iff.1 hval
  obtain ⟨i0, hi0, hat, _, hwi, hwj⟩ := nextR_at hok way_1 (small_1 hok) (by omega) hc hs hu (nextS_spec hok hs h1 hu).1
  have HIN := Lib.hid (fun p hp => plOf_in hok hs p hp)
  have hn2 := hok.n2
  have HST := Lib.hid (fun wx (hx : Bel w wx) => R6Steps_any b true v wx (hv.bel hx) (by have := hok.dl; omega) (by have := hok.sl; omega))
  have HWI := Lib.hid (fun j (hj : j < (stepsR b true).length) wx (hx : Bel w wx) => R6with_any b hval true 1 0 (by omega) c (hc.cost hok way_1 (small_1 hok)) s hs (atS (stepsR b true) j) (getD_mem _ _ _ hj) v cv pv wx (hv.bel hx) (hcv.bel hx) (hp.bel hx))
  have HSO := Lib.hid (fun wx (hx : Bel w wx) => by
    have q := R6Some_any pv (plOf s) wx (hp.bel hx) (plTo_asc _ 8) (fun p hp => by have := HIN.out p hp; omega)
    rw [show ofL (plOf s) = s from ofL_plOf (Dom.lt256 hok hs)] at q
    exact q)
  have hsl : s < c.length := by rw [hc.1]; exact hs.2
  have HSL := Lib.hid (show (stepsR b true).length ≤ 16 by have := stepsR_len (b := b) (looks := true); have := hok.dl; have := hok.sl; omega)
  have HWJ := Lib.hid hwj
  have HWQ := Lib.hid hwi
  obtain ⟨da, dc, sa, sc, pa, pc, rfl, _, _, _⟩ := hv.open
  obtain ⟨ca, cc, cb, coff, rfl, hca, _, hcc⟩ := hcv
  obtain ⟨qa, qc, qb, qoff, rfl, -⟩ := hp
  have hixc := idxInts (c := cc) hca
  have HC := Lib.hid (hcc s hsl)
  have HBX := Lib.hid (fun T2 y wx hx => (BoxB.new (w := w) (b := b) (dv := .slice da b.doors.length dc) (sv := .slice sa b.seen.length sc) (pv := .slice pa b.places.length pc) (T := 25)).bel (w' := wx) (Bel.trans ((Bel.refl _).alloc (.cells y T2)) hx))
  have hc2 : ∀ (W W' : World), Bel (W.alloc (.cells #[.int .i64 0, .int .i64 0] 50)) W' → (∀ o, W'.frozen? ⟨W.heap.size, o, none⟩ = false) ∧ W'.cell? ⟨W.heap.size, 0, none⟩ = some (.int .i64 0) ∧ W'.cell? ⟨W.heap.size, 1, none⟩ = some (.int .i64 0) := fun W W' h =>
    ⟨fun o => (h.frozens ⟨W.heap.size, o, none⟩ (by simp)).trans ((row_facts (new_row rfl)).2 o), h.cell ((row_facts (new_row rfl)).1 0), h.cell ((row_facts (new_row rfl)).1 1)⟩
  have HC2 := Lib.hid hc2
  rw [← hat]
  clear hv hca hcc hc hu hs h1 hok hval hwi hwj hat hc2 HIN
  go_enter Tryd.func71, Tryd.ntmps71
  go_wp2_with fail
  refine (HST.out _ (by repeat (first | assumption | exact Bel.refl _ | refine Bel.drew ?_ | refine Bel.drewN ?_ _ | refine Bel.alloc ?_ _ | refine Bel.setCell ?_ (by simp <;> omega) _ | refine Bel.trans ?_ (by assumption)))).mono ?_
  rintro e w2 ⟨VS, rfl, hss⟩
  have hb := hss.bel
  have HB := Lib.hid (show Bel w w2 from Bel.trans (by repeat (first | assumption | exact Bel.refl _ | refine Bel.drew ?_ | refine Bel.drewN ?_ _ | refine Bel.alloc ?_ _ | refine Bel.setCell ?_ (by simp <;> omega) _ | refine Bel.trans ?_ (by assumption))) hb)
  have HY := Lib.hid (HBX.out _ _ _ hb)
  have HZ := Lib.hid (fun wx (hx : Bel w2 wx) => HC2.out _ wx (hb.trans hx))
  have hza : w.heap.size + 1 < w2.heap.size := by have := hb.szle; simp at this; omega
  obtain ⟨sa2, sc2, sb2, soff2, rfl, hsa2, _, hsc2⟩ := hss.read (by have := HSL.out; omega)
  have hixs := idxSteps (c := sc2) hsa2
  have HSC := Lib.hid hsc2
  have hll := HSL.out
  simp only [World.size_alloc] at HZ
  clear hb hss hsa2 hsc2 HBX HC2 HST
  go_wp2
  go_loopw [8] (fun i wr => ∃ k : Nat, k ≤ i0 ∧ i = .int .i64 k ∧ Bel w2 wr) (fun i _ => i0 - (intOf i).toNat)
  case atStart => exact ⟨0, by omega, rfl, Bel.refl _⟩
  case round =>
    obtain ⟨k, hk, rfl, hw⟩ := hrel
    have HWR := Lib.hid hw
    have hkl : k < (stepsR b true).length := by omega
    have HWk := Lib.hid (HWI.out k hkl)
    have HSB := Lib.hid (fun wx (hx : Bel wr wx) => HSO.out wx (HB.out.trans (hw.trans hx)))
    have HWB := Lib.hid (fun wx (hx : Bel wr wx) => HWk.out wx (HB.out.trans (hw.trans hx)))
    obtain ⟨y0, y1, y2, y3, y4, y5⟩ := HY.out.bel hw
    have ly := cell_lt y0
    have s0 := hw.cell (HSC.out k hkl).1
    have s1 := hw.cell (HSC.out k hkl).2
    have ls := cell_lt s0
    have q0 := (HB.out.trans hw).cell HC.out
    have lq := cell_lt q0
    by_cases hlt : k < i0
    · have hne := HWJ.out k hlt
      clear hw HWk
      generalize withR b c s (atS (stepsR b true) k) 1 0 = cw at *
      generalize at0 c s = a0 at *
      have hb1 : (cw != a0) = true := by simpa using hne
      generalize hxk : (atS (stepsR b true) k).k = xk at *
      generalize hxx : (atS (stepsR b true) k).x = xx at *
      clear hne hxk hxx
      go_wp2
      refine wp_region_mixB (Plan.seq [0, 1, 2, 3, 4, 5, 6, 8, 9, 1007, 1010, 11, 12, 13] .nil) (by kernel_rfl) (by kernel_rfl) (fun hcur => ?_)
      simp only [Plan.seq, Plan.fill, List.getD_cons_zero, List.getD_cons_succ, Nat.reduceLT, ↓reduceIte, Nat.reduceSub]
      apply mix_pure _ rfl
      · intro w' hw'
        have hcr := hw'.cells
        go_simp
        rfl
      intro K hK
      go_simp
      refine hK _ ?_
      clear hK K
      apply mix_pure _ rfl
      · intro w' hw'
        have hcr := hw'.cells
        go_simp
        rfl
      intro K hK
      go_simp
      refine hK _ ?_
      clear hK K
      apply mix_pure _ rfl
      · intro w' hw'
        have hcr := hw'.cells
        go_simp
        rfl
      intro K hK
      go_simp
      refine hK _ ?_
      clear hK K
      apply mix_pure _ rfl
      · intro w' hw'
        have hcr := hw'.cells
        go_simp
        rfl
      intro K hK
      go_simp
      refine hK _ ?_
      clear hK K
      apply mix_pure _ rfl
      · intro w' hw'
        have hcr := hw'.cells
        go_simp
        rfl
      intro K hK
      go_simp
      refine hK _ ?_
      clear hK K
      apply mix_pure _ rfl
      · intro w' hw'
        have hcr := hw'.cells
        go_simp
        rfl
      intro K hK
      go_simp
      refine hK _ ?_
      clear hK K
      apply mix_pure _ rfl
      · intro w' hw'
        have hcr := hw'.cells
        go_simp
        rfl
      intro K hK
      go_simp
      refine hK _ ?_
      clear hK K
      apply mix_pure _ rfl
      · intro w' hw'
        have hcr := hw'.cells
        go_simp
        rfl
      intro K hK
      go_simp
      refine hK _ ?_
      clear hK K
      apply mix_pure _ rfl
      · intro w' hw'
        have hcr := hw'.cells
        go_simp
        rfl
      intro K hK
      go_simp
      refine hK _ ?_
      clear hK K
      refine mix_act rfl (fun K hK => ?_)
      go_simp
      refine (HWB.out _ hcur).mono ?_
      rintro e w5 ⟨rfl, hb⟩
      simp only []
      refine hK _ _ (hcur.trans hb) (fun hcur => ?_)
      clear hK K hb
      refine mix_act rfl (fun K hK => ?_)
      go_simp
      refine (HSB.out _ hcur).mono ?_
      rintro e w6 ⟨rfl, hb⟩
      simp only []
      refine hK _ _ (hcur.trans hb) (fun hcur => ?_)
      clear hK K hb
      apply mix_pure _ rfl
      · intro w' hw'
        have hcr := hw'.cells
        go_simp
        rfl
      intro K hK
      go_simp
      refine hK _ ?_
      clear hK K
      apply mix_pure _ rfl
      · intro w' hw'
        have hcr := hw'.cells
        go_simp
        rfl
      intro K hK
      go_simp
      refine hK _ ?_
      clear hK K
      apply mix_pure _ rfl
      · intro w' hw'
        have hcr := hw'.cells
        go_simp
        rfl
      intro K hK
      go_simp
      refine hK _ ?_
      clear hK K
      refine mix_nil ?_
      have HF := Lib.hid (HWR.out.trans hcur)
      clear hcur y0 y1 y2 y3 y4 y5 ly s0 s1 ls q0 lq
      go_wp2
      go_roundw
      case rel => exact ⟨k + 1, by omega, by go_num, HF.out⟩
      case measure => simp [intOf]; omega
    · obtain rfl : k = i0 := by omega
      have hne := HWQ.out
      clear hw HWk
      generalize withR b c s (atS (stepsR b true) k) 1 0 = cw at *
      generalize at0 c s = a0 at *
      have hb1 : (cw != a0) = false := by simpa using hne
      generalize hxk : (atS (stepsR b true) k).k = xk at *
      generalize hxx : (atS (stepsR b true) k).x = xx at *
      have HXK := Lib.hid hxk
      have HXX := Lib.hid hxx
      clear hne hxk hxx
      go_wp2
      refine wp_region_mixB (Plan.seq [0, 1, 2, 3, 4, 5, 6, 8, 9, 1007, 1010, 11, 12, 13] .nil) (by kernel_rfl) (by kernel_rfl) (fun hcur => ?_)
      simp only [Plan.seq, Plan.fill, List.getD_cons_zero, List.getD_cons_succ, Nat.reduceLT, ↓reduceIte, Nat.reduceSub]
      apply mix_pure _ rfl
      · intro w' hw'
        have hcr := hw'.cells
        go_simp
        rfl
      intro K hK
      go_simp
      refine hK _ ?_
      clear hK K
      apply mix_pure _ rfl
      · intro w' hw'
        have hcr := hw'.cells
        go_simp
        rfl
      intro K hK
      go_simp
      refine hK _ ?_
      clear hK K
      apply mix_pure _ rfl
      · intro w' hw'
        have hcr := hw'.cells
        go_simp
        rfl
      intro K hK
      go_simp
      refine hK _ ?_
      clear hK K
      apply mix_pure _ rfl
      · intro w' hw'
        have hcr := hw'.cells
        go_simp
        rfl
      intro K hK
      go_simp
      refine hK _ ?_
      clear hK K
      apply mix_pure _ rfl
      · intro w' hw'
        have hcr := hw'.cells
        go_simp
        rfl
      intro K hK
      go_simp
      refine hK _ ?_
      clear hK K
      apply mix_pure _ rfl
      · intro w' hw'
        have hcr := hw'.cells
        go_simp
        rfl
      intro K hK
      go_simp
      refine hK _ ?_
      clear hK K
      apply mix_pure _ rfl
      · intro w' hw'
        have hcr := hw'.cells
        go_simp
        rfl
      intro K hK
      go_simp
      refine hK _ ?_
      clear hK K
      apply mix_pure _ rfl
      · intro w' hw'
        have hcr := hw'.cells
        go_simp
        rfl
      intro K hK
      go_simp
      refine hK _ ?_
      clear hK K
      apply mix_pure _ rfl
      · intro w' hw'
        have hcr := hw'.cells
        go_simp
        rfl
      intro K hK
      go_simp
      refine hK _ ?_
      clear hK K
      refine mix_act rfl (fun K hK => ?_)
      go_simp
      refine (HWB.out _ hcur).mono ?_
      rintro e w5 ⟨rfl, hb⟩
      simp only []
      refine hK _ _ (hcur.trans hb) (fun hcur => ?_)
      clear hK K hb
      refine mix_act rfl (fun K hK => ?_)
      go_simp
      refine (HSB.out _ hcur).mono ?_
      rintro e w6 ⟨rfl, hb⟩
      simp only []
      refine hK _ _ (hcur.trans hb) (fun hcur => ?_)
      clear hK K hb
      apply mix_pure _ rfl
      · intro w' hw'
        have hcr := hw'.cells
        go_simp
        rfl
      intro K hK
      go_simp
      refine hK _ ?_
      clear hK K
      apply mix_pure _ rfl
      · intro w' hw'
        have hcr := hw'.cells
        go_simp
        rfl
      intro K hK
      go_simp
      refine hK _ ?_
      clear hK K
      apply mix_pure _ rfl
      · intro w' hw'
        have hcr := hw'.cells
        go_simp
        rfl
      intro K hK
      go_simp
      refine hK _ ?_
      clear hK K
      refine mix_nil ?_
      have HF := Lib.hid (HB.out.trans (HWR.out.trans hcur))
      obtain ⟨z0, z1, z2⟩ := HZ.out _ (HWR.out.trans hcur)
      have f0 := z0 0
      have f1 := z0 1
      have lz := cell_lt z1
      replace s0 := hcur.cell s0
      replace s1 := hcur.cell s1
      have ls := cell_lt s0
      clear hcur y0 y1 y2 y3 y4 y5 ly q0 lq z0
      go_wp2
      obtain ⟨n0, n1⟩ := two_cells (u0 := .int .i64 xk) (u1 := .int .i64 xx) z1 z2
      exact bodyPost_ret (v := .agg #[.int .i64 xk, .int .i64 xx]) (by simp [results, Tryd.results71, go_sem, n0, n1]) rfl ⟨by rw [HXK.out, HXX.out], (HF.out.setCell (by simp) _).setCell (by simp) _⟩
theorem R6Next_any (b : BT) (v : Value) (w : World) (hv : BTrapAt w v b) :
    Calls Tryd.prog 41 #[v] w fun e w' => e = .returned (.tuple #[.agg #[.int .i64 (nextA b).k, .int .i64 (nextA b).x], .int .i64 (leastE b true)]) ∧ Bel w w' := by
  have HC := Lib.hid (fun wx (hx : Bel w wx) => R6Check_any b v wx (hv.bel hx))
  have HV := Lib.hid hv
  obtain ⟨da, dc, sa, sc, pa, pc, rfl, _, _, hp⟩ := hv.open
  have HP := Lib.hid hp
  have HBX := Lib.hid (fun T2 y wx hx => (BoxB.new (w := w) (b := b) (dv := .slice da b.doors.length dc) (sv := .slice sa b.seen.length sc) (pv := .slice pa b.places.length pc) (T := 25)).bel (w' := wx) (Bel.trans ((Bel.refl _).alloc (.cells y T2)) hx))
  have hc2 : ∀ (W W' : World), Bel (W.alloc (.cells #[.int .i64 0, .int .i64 0] 50)) W' → (∀ o, W'.frozen? ⟨W.heap.size, o, none⟩ = false) ∧ W'.cell? ⟨W.heap.size, 0, none⟩ = some (.int .i64 0) ∧ W'.cell? ⟨W.heap.size, 1, none⟩ = some (.int .i64 0) := fun W W' h =>
    ⟨fun o => (h.frozens ⟨W.heap.size, o, none⟩ (by simp)).trans ((row_facts (new_row rfl)).2 o), h.cell ((row_facts (new_row rfl)).1 0), h.cell ((row_facts (new_row rfl)).1 1)⟩
  have HC2 := Lib.hid hc2
  clear hv hp hc2
  cases hval : validT b
  · have E1 := Lib.hid (show nextA b = ⟨0, 0⟩ by unfold nextA; rw [hval]; rfl)
    have E2 := Lib.hid (least_bad (looks := true) hval).2
    rw [chkT_false hval] at HC
    clear hval
    go_enter Tryd.func41, Tryd.ntmps41
    go_wp2_with fail
    refine (HC.out _ (by repeat (first | assumption | exact Bel.refl _ | refine Bel.drew ?_ | refine Bel.drewN ?_ _ | refine Bel.alloc ?_ _ | refine Bel.setCell ?_ (by simp <;> omega) _ | refine Bel.trans ?_ (by assumption)))).mono ?_
    rintro e w1 ⟨rfl, hb⟩
    have HB := Lib.hid (show Bel w w1 from Bel.trans (by repeat (first | assumption | exact Bel.refl _ | refine Bel.drew ?_ | refine Bel.drewN ?_ _ | refine Bel.alloc ?_ _ | refine Bel.setCell ?_ (by simp <;> omega) _ | refine Bel.trans ?_ (by assumption))) hb)
    obtain ⟨q0, q1, q2⟩ := HC2.out _ _ hb
    simp only [World.size_alloc] at q0 q1 q2
    have f0 := q0 0
    have f1 := q0 1
    clear hb q0
    go_wp2
    obtain ⟨n0, n1⟩ := two_cells (u0 := .int .i64 0) (u1 := .int .i64 0) q1 q2
    exact bodyPost_ret (v := .tuple #[.agg #[.int .i64 0, .int .i64 0], .int .i64 60]) (by simp [results, Tryd.results41, go_sem, n0, n1]) rfl ⟨rvN (by rw [E1.out]) (by rw [E1.out]) E2.out, (HB.out.setCell (by simp) _).setCell (by simp) _⟩
  have e2 := (least_good (looks := true) hval).2
  rw [chkT_true hval] at HC
  have hok := okb_iff.1 hval
  have hn2 := hok.n2
  have hD := dom_places hok
  have hpl : plOf (ofL b.places) = b.places := plOf_ofL hok.pa fun p hp => by have := hok.pi p hp; omega
  have HCO := Lib.hid (fun wx (hx : Bel w wx) => R6Costs_any b hval true 1 0 (by omega) (small_1 hok) _ wx (HV.out.bel hx))
  have HTA := Lib.hid (fun c (h : TabO b true 1 0 c) => h.at hok hD)
  have HSO := Lib.hid (fun wx (hx : Bel w wx) => R6Some_any _ b.places wx (HP.out.bel hx) hok.pa (fun p hp => by have := hok.pi p hp; omega))
  cases ho : opt b true 1 0 (ofL b.places) with
  | none =>
    obtain ⟨o3, o4⟩ := optVE_none ho
    have E1 := Lib.hid (show nextA b = ⟨0, 0⟩ by unfold nextA; rw [hval, ho]; rfl)
    have E2 := Lib.hid (e2.trans o4)
    rw [ho] at HTA
    simp only [Option.getD_none] at HTA
    generalize ofL b.places = s at *
    clear hval e2 ho o3 o4 hok hD hpl HV HP
    go_enter Tryd.func41, Tryd.ntmps41
    go_wp2_with fail
    refine (HC.out _ (by repeat (first | assumption | exact Bel.refl _ | refine Bel.drew ?_ | refine Bel.drewN ?_ _ | refine Bel.alloc ?_ _ | refine Bel.setCell ?_ (by simp <;> omega) _ | refine Bel.trans ?_ (by assumption)))).mono ?_
    rintro e w1 ⟨rfl, hb⟩
    have HB := Lib.hid (show Bel w w1 from Bel.trans (by repeat (first | assumption | exact Bel.refl _ | refine Bel.drew ?_ | refine Bel.drewN ?_ _ | refine Bel.alloc ?_ _ | refine Bel.setCell ?_ (by simp <;> omega) _ | refine Bel.trans ?_ (by assumption))) hb)
    have HZ := Lib.hid (fun wx (hx : Bel w1 wx) => HC2.out _ wx (hb.trans hx))
    have HY := Lib.hid (HBX.out _ _ _ hb)
    obtain ⟨y0, y1, y2, y3, y4, y5⟩ := HY.out
    have ly := cell_lt y0
    simp only [World.size_alloc] at HZ
    clear hb
    go_wp2_with fail
    refine (HCO.out _ HB.out).mono ?_
    rintro e w2 ⟨V2, c, rfl, hi, ht, hb⟩
    have HW2 := Lib.hid hb
    obtain ⟨t1, t2⟩ := HTA.out c ht
    obtain ⟨ca, cc, cb, coff, rfl, hca, _, hcc⟩ := hi
    have hixc := idxInts (c := cc) hca
    have q0 := hcc s t1
    rw [t2] at q0
    replace y0 := hb.cell y0
    replace y5 := hb.cell y5
    have ly := cell_lt y0
    clear hb hca hcc t2 ht y1 y2 y3 y4
    go_wp2_with fail
    refine (HSO.out _ (HB.out.trans HW2.out)).mono ?_
    rintro e w3 ⟨rfl, hb⟩
    have HW3 := Lib.hid (HW2.out.trans hb)
    replace q0 := hb.cell q0
    have lq := cell_lt q0
    obtain ⟨z0, z1, z2⟩ := HZ.out _ HW3.out
    have f0 := z0 0
    have f1 := z0 1
    have lz := cell_lt z1
    clear hb y0 y5 ly z0
    go_wp2
    obtain ⟨n0, n1⟩ := two_cells (u0 := .int .i64 0) (u1 := .int .i64 0) z1 z2
    exact bodyPost_ret (v := .tuple #[.agg #[.int .i64 0, .int .i64 0], .int .i64 3]) (by simp [results, Tryd.results41, go_sem, n0, n1]) rfl ⟨rvN (by rw [E1.out]) (by rw [E1.out]) E2.out, ((HB.out.trans HW3.out).setCell (by simp) _).setCell (by simp) _⟩
  | some u =>
    obtain ⟨o3, o4⟩ := optVE_some ho
    have E1 := Lib.hid (show nextA b = (nextS b (ofL b.places)).1 by unfold nextA; rw [hval, ho]; rfl)
    have E2 := Lib.hid (e2.trans o4)
    have HNX := Lib.hid (fun c (h : TabO b true 1 0 c) cv wx (hx : Bel w wx) (hi : IntsAt wx cv c) => R6next_any b hval c h (ofL b.places) hD (ofL_ne1 hok) u ho _ cv _ wx (HV.out.bel hx) hi (by rw [hpl]; exact HP.out.bel hx))
    have hu := small_1 hok (ofL b.places) u hD ho
    rw [ho] at HTA
    simp only [Option.getD_some] at HTA
    generalize nextS b (ofL b.places) = ns at *
    generalize ofL b.places = s at *
    have hb1 : (u == 1099511627776) = false := by rw [beq_eq_false_iff_ne]; omega
    clear hval e2 ho o3 o4 hok hD hpl hu HV HP
    go_enter Tryd.func41, Tryd.ntmps41
    go_wp2_with fail
    refine (HC.out _ (by repeat (first | assumption | exact Bel.refl _ | refine Bel.drew ?_ | refine Bel.drewN ?_ _ | refine Bel.alloc ?_ _ | refine Bel.setCell ?_ (by simp <;> omega) _ | refine Bel.trans ?_ (by assumption)))).mono ?_
    rintro e w1 ⟨rfl, hb⟩
    have HB := Lib.hid (show Bel w w1 from Bel.trans (by repeat (first | assumption | exact Bel.refl _ | refine Bel.drew ?_ | refine Bel.drewN ?_ _ | refine Bel.alloc ?_ _ | refine Bel.setCell ?_ (by simp <;> omega) _ | refine Bel.trans ?_ (by assumption))) hb)
    have HZ := Lib.hid (fun wx (hx : Bel w1 wx) => HC2.out _ wx (hb.trans hx))
    have HY := Lib.hid (HBX.out _ _ _ hb)
    obtain ⟨y0, y1, y2, y3, y4, y5⟩ := HY.out
    have ly := cell_lt y0
    simp only [World.size_alloc] at HZ
    clear hb
    go_wp2_with fail
    refine (HCO.out _ HB.out).mono ?_
    rintro e w2 ⟨V2, c, rfl, hi, ht, hb⟩
    have HW2 := Lib.hid hb
    have HI := Lib.hid hi
    have HN2 := Lib.hid (HNX.out c ht)
    obtain ⟨t1, t2⟩ := HTA.out c ht
    obtain ⟨ca, cc, cb, coff, rfl, hca, _, hcc⟩ := hi
    have hixc := idxInts (c := cc) hca
    have q0 := hcc s t1
    rw [t2] at q0
    replace y0 := hb.cell y0
    replace y1 := hb.cell y1
    replace y2 := hb.cell y2
    replace y3 := hb.cell y3
    replace y4 := hb.cell y4
    replace y5 := hb.cell y5
    have ly := cell_lt y0
    clear hb hca hcc t2 ht
    go_wp2_with fail
    refine (HSO.out _ (HB.out.trans HW2.out)).mono ?_
    rintro e w3 ⟨rfl, hb⟩
    have HW3 := Lib.hid (HW2.out.trans hb)
    have HI3 := Lib.hid (HI.out.bel hb)
    replace q0 := hb.cell q0
    have lq := cell_lt q0
    replace y0 := hb.cell y0
    replace y1 := hb.cell y1
    replace y2 := hb.cell y2
    replace y3 := hb.cell y3
    replace y4 := hb.cell y4
    replace y5 := hb.cell y5
    have ly := cell_lt y0
    clear hb HI
    go_wp2_with fail
    refine (HN2.out _ _ (HB.out.trans HW3.out) HI3.out).mono ?_
    rintro e w4 ⟨rfl, hb⟩
    have HW4 := Lib.hid (HW3.out.trans hb)
    obtain ⟨z0, z1, z2⟩ := HZ.out _ HW4.out
    have f0 := z0 0
    have f1 := z0 1
    have lz := cell_lt z1
    clear hb y0 y1 y2 y3 y4 y5 ly q0 lq z0
    go_wp2
    obtain ⟨n0, n1⟩ := two_cells (u0 := .int .i64 ns.1.k) (u1 := .int .i64 ns.1.x) z1 z2
    exact bodyPost_ret (v := .tuple #[.agg #[.int .i64 ns.1.k, .int .i64 ns.1.x], .int .i64 0]) (by simp [results, Tryd.results41, go_sem, n0, n1]) rfl ⟨rvN (by rw [E1.out]) (by rw [E1.out]) E2.out, ((HB.out.trans HW4.out).setCell (by simp) _).setCell (by simp) _⟩
end Go.Proofs.YtogiidkofddhaaaDoor
namespace Go.Proofs.YtogiidkofddhaaaDoor
set_option linter.unusedVariables false
open Go Go.RowKit Go.Shelf
set_option maxHeartbeats 4000000
set_option maxRecDepth 100000
theorem one_okb {b : BT} (hb : Okb b) {c : Int} (h1 : 0 ≤ c) (h2 : c ≤ b.n - 1) : Okb (plB b [c]) := plB_ok hb (by simp [Asc]) (fun p hp => by rw [List.mem_singleton.1 hp]; omega) (by simp)
theorem R6Way_any (b : BT) (v : Value) (c : Int) (w : World) (hv : BTrapAt w v b) :
    Calls Tryd.prog 42 #[v, .int .i64 c] w fun e w' => e = .returned (.tuple #[.int .i64 (wayV b c), .int .i64 (wayE b c)]) ∧ Bel w w' := by
  have HAS := Lib.hid (fun is wx (hx : Bel w wx) => R6ask_any b is v wx (hv.bel hx))
  have HID := Lib.hid (fun wx (hx : Bel w wx) => R6IsChamber_any b c v wx (hv.bel hx))
  have HV := Lib.hid hv
  have HAE := Lib.hid (show askT b (chamB b.n c) = if validT b then (if chamB b.n c then 0 else 1) else 60 from rfl)
  have HWE := Lib.hid (show wayE b c = if validT b then (if chamB b.n c then optE b true [c] else 1) else 60 from rfl)
  have HWV := Lib.hid (show wayV b c = if validT b then (if chamB b.n c then optV b true [c] else 0) else 0 from rfl)
  obtain ⟨da, dc, sa, sc, pa, pc, rfl, _, _, _⟩ := hv.open
  have HBX := Lib.hid (fun wx hx => (BoxB.new (w := w) (b := b) (dv := .slice da b.doors.length dc) (sv := .slice sa b.seen.length sc) (pv := .slice pa b.places.length pc) (T := 25)).bel (w' := wx) hx)
  clear hv
  have hcase : (∃ er, er ≠ 0 ∧ askT b (chamB b.n c) = er ∧ wayE b c = er ∧ wayV b c = 0) ∨ (validT b = true ∧ chamB b.n c = true) := by
    rw [HAE.out, HWE.out, HWV.out]
    cases h1 : validT b
    · exact .inl ⟨60, by omega, rfl, rfl, rfl⟩
    · cases h2 : chamB b.n c
      · exact .inl ⟨1, by omega, rfl, rfl, rfl⟩
      · exact .inr ⟨rfl, rfl⟩
  rcases hcase with ⟨er, h0, h1, h2, h3⟩ | ⟨hval, his⟩
  · have HE := Lib.hid h2
    have HVV := Lib.hid h3
    have hb1 : (er != 0) = true := by simpa using h0
    have HAS1 := Lib.hid (HAS.out (chamB b.n c))
    rw [h1] at HAS1
    clear h0 h1 h2 h3 HAE HWE HWV HAS HV
    go_enter Tryd.func42, Tryd.ntmps42
    go_wp2
    generalize hW0 : World.alloc _ _ = W0
    have HB := Lib.hid (show Bel w W0 by rw [← hW0]; exact (Bel.refl w).alloc _)
    obtain ⟨y0, y1, y2, y3, y4, y5⟩ := HBX.out W0 (by rw [← hW0]; exact Bel.refl _)
    have ly := cell_lt y0
    clear hW0 HBX
    refine wp_region_mixB (Plan.seq [0, 1, 2, 1003, 1004, 5] .nil) (by kernel_rfl) (by kernel_rfl) (fun hcur => ?_)
    simp only [Plan.seq, Plan.fill, List.getD_cons_zero, List.getD_cons_succ, Nat.reduceLT, ↓reduceIte, Nat.reduceSub]
    apply mix_pure _ rfl
    · intro w' hw'
      have hcr := hw'.cells
      go_simp
      rfl
    intro K hK
    go_simp
    refine hK _ ?_
    clear hK K
    apply mix_pure _ rfl
    · intro w' hw'
      have hcr := hw'.cells
      go_simp
      rfl
    intro K hK
    go_simp
    refine hK _ ?_
    clear hK K
    apply mix_pure _ rfl
    · intro w' hw'
      have hcr := hw'.cells
      go_simp
      rfl
    intro K hK
    go_simp
    refine hK _ ?_
    clear hK K
    refine mix_act rfl (fun K hK => ?_)
    go_simp
    refine (HID.out _ (HB.out.trans hcur)).mono ?_
    rintro e w4 ⟨rfl, hb⟩
    simp only []
    refine hK _ _ (hcur.trans hb) (fun hcur => ?_)
    clear hK K hb
    refine mix_act rfl (fun K hK => ?_)
    go_simp
    refine (HAS1.out _ (HB.out.trans hcur)).mono ?_
    rintro e w5 ⟨rfl, hb⟩
    simp only []
    refine hK _ _ (hcur.trans hb) (fun hcur => ?_)
    clear hK K hb
    apply mix_pure _ rfl
    · intro w' hw'
      have hcr := hw'.cells
      go_simp
      rfl
    intro K hK
    go_simp
    refine hK _ ?_
    clear hK K
    refine mix_nil ?_
    have HF := Lib.hid (HB.out.trans hcur)
    clear hcur y0 y1 y2 y3 y4 y5 ly
    go_wp2
    exact bodyPost_ret (v := .tuple #[.int .i64 0, .int .i64 er]) (by simp [results, Tryd.results42, go_sem, *]) rfl ⟨rvI HVV.out HE.out, HF.out⟩
  have hok := okb_iff.1 hval
  have hch := his
  rw [chamB_in hok.n1 hok.n2] at hch
  obtain ⟨c1, c2⟩ := withinB_true.1 hch
  have hok1 := one_okb hok c1 c2
  have hval1 := okb_iff.2 hok1
  have hD : Dom b (ofL [c]) := dom_ofL hok (by simp) fun p hp => by rw [List.mem_singleton.1 hp]; omega
  have ho := opt_plB (l := [c]) hok hok1 (looks := true) hD
  have HVV := Lib.hid (show wayV b c = optV (plB b [c]) true (plB b [c]).places by rw [HWV.out, hval, his]; unfold optV; rw [show (plB b [c]).places = [c] from rfl, ho]; rfl)
  have HE := Lib.hid (show wayE b c = optE (plB b [c]) true (plB b [c]).places by rw [HWE.out, hval, his]; unfold optE; rw [show (plB b [c]).places = [c] from rfl, ho]; rfl)
  have HAT := Lib.hid (fun wx (hx : Bel w wx) => At_any b c _ wx (HV.out.bel hx) (by have := hok.dl; omega) (by have := hok.sl; omega) (by have := hok.pl; omega))
  have HLE := Lib.hid (fun V wx (h : BTrapAt wx V (plB b [c])) => R6least_any (plB b [c]) hval1 true V wx h)
  have HAS1 := Lib.hid (HAS.out true)
  rw [show askT b true = 0 by unfold askT; rw [hval]; rfl] at HAS1
  rw [his] at HID
  generalize optV (plB b [c]) true (plB b [c]).places = V0 at *
  generalize optE (plB b [c]) true (plB b [c]).places = E0 at *
  clear HAE HWE HWV HAS HV hval his hch c1 c2 hok1 hval1 hD ho hok
  go_enter Tryd.func42, Tryd.ntmps42
  go_wp2
  generalize hW0 : World.alloc _ _ = W0
  have HB := Lib.hid (show Bel w W0 by rw [← hW0]; exact (Bel.refl w).alloc _)
  have HY := Lib.hid (HBX.out W0 (by rw [← hW0]; exact Bel.refl _))
  obtain ⟨y0, y1, y2, y3, y4, y5⟩ := HY.out
  have ly := cell_lt y0
  clear hW0 HBX
  refine wp_region_mixB (Plan.seq [0, 1, 2, 1003, 1004, 5] .nil) (by kernel_rfl) (by kernel_rfl) (fun hcur => ?_)
  simp only [Plan.seq, Plan.fill, List.getD_cons_zero, List.getD_cons_succ, Nat.reduceLT, ↓reduceIte, Nat.reduceSub]
  apply mix_pure _ rfl
  · intro w' hw'
    have hcr := hw'.cells
    go_simp
    rfl
  intro K hK
  go_simp
  refine hK _ ?_
  clear hK K
  apply mix_pure _ rfl
  · intro w' hw'
    have hcr := hw'.cells
    go_simp
    rfl
  intro K hK
  go_simp
  refine hK _ ?_
  clear hK K
  apply mix_pure _ rfl
  · intro w' hw'
    have hcr := hw'.cells
    go_simp
    rfl
  intro K hK
  go_simp
  refine hK _ ?_
  clear hK K
  refine mix_act rfl (fun K hK => ?_)
  go_simp
  refine (HID.out _ (HB.out.trans hcur)).mono ?_
  rintro e w4 ⟨rfl, hb⟩
  simp only []
  refine hK _ _ (hcur.trans hb) (fun hcur => ?_)
  clear hK K hb
  refine mix_act rfl (fun K hK => ?_)
  go_simp
  refine (HAS1.out _ (HB.out.trans hcur)).mono ?_
  rintro e w5 ⟨rfl, hb⟩
  simp only []
  refine hK _ _ (hcur.trans hb) (fun hcur => ?_)
  clear hK K hb
  apply mix_pure _ rfl
  · intro w' hw'
    have hcr := hw'.cells
    go_simp
    rfl
  intro K hK
  go_simp
  refine hK _ ?_
  clear hK K
  refine mix_nil ?_
  have HF := Lib.hid (HB.out.trans hcur)
  clear y0 y1 y2 y3 y4 y5 ly
  obtain ⟨y0, y1, y2, y3, y4, y5⟩ := HY.out.bel hcur
  have ly := cell_lt y0
  clear hcur HY
  go_wp2_with fail
  refine (HAT.out _ HF.out).mono ?_
  rintro e w6 ⟨V6, rfl, h6, hb⟩
  have HB6 := Lib.hid (HF.out.trans hb)
  have H6 := Lib.hid h6
  clear hb h6 y0 y1 y2 y3 y4 y5 ly
  go_wp2_with fail
  refine (HLE.out _ _ H6.out).mono ?_
  rintro e w7 ⟨rfl, hb⟩
  have HB7 := Lib.hid (HB6.out.trans hb)
  clear hb
  go_wp2
  exact bodyPost_ret (v := .tuple #[.int .i64 V0, .int .i64 E0]) (by simp [results, Tryd.results42, go_sem]) rfl ⟨rvI HVV.out HE.out, HB7.out⟩
theorem tr_cell {b : BT} (hb : Okb b) {k : Nat} (hk : k < b.n.toNat) :
    Dom b (ofL [(k : Int)]) ∧ (((opt b true 1 0 (ofL [(k : Int)])).getD 1099511627776 = 1099511627776 ∧ trTo b (k + 1) = trTo b k ++ [(k : Int)]) ∨ ((opt b true 1 0 (ofL [(k : Int)])).getD 1099511627776 ≠ 1099511627776 ∧ trTo b (k + 1) = trTo b k)) := by
  have hD : Dom b (ofL [(k : Int)]) := dom_ofL hb (by simp) fun p hp => by rw [List.mem_singleton.1 hp]; omega
  refine ⟨hD, ?_⟩
  have e : trTo b (k + 1) = if (opt b true 1048576 1 (ofL [(k : Int)])).isSome then trTo b k else trTo b k ++ [(k : Int)] := by rw [ofL_one]; rfl
  rw [e]
  cases ho : opt b true 1048576 1 (ofL [(k : Int)]) with
  | none =>
    rw [(opt_none_P hb hD ho).2]
    exact .inl ⟨rfl, rfl⟩
  | some u =>
    have o2 := (opt_some_P hb hD ho).2
    have := small_1 hb _ _ hD o2
    rw [o2]
    refine .inr ⟨?_, rfl⟩
    simp only [Option.getD_some]
    omega
theorem R6Trapped_any (b : BT) (v : Value) (w : World) (hv : BTrapAt w v b) :
    Calls Tryd.prog 44 #[v] w fun e w' => ∃ V, e = .returned (.tuple #[V, .int .i64 (chkT b)]) ∧ IntsAt w' V (trapA b) ∧ Bel w w' := by
  have HC := Lib.hid (fun wx (hx : Bel w wx) => R6Check_any b v wx (hv.bel hx))
  have HV := Lib.hid hv
  obtain ⟨da, dc, sa, sc, pa, pc, rfl, _, _, _⟩ := hv.open
  have HBX := Lib.hid (fun wx hx => (BoxB.new (w := w) (b := b) (dv := .slice da b.doors.length dc) (sv := .slice sa b.seen.length sc) (pv := .slice pa b.places.length pc) (T := 25)).bel (w' := wx) hx)
  clear hv
  cases hval : validT b
  · have E1 := Lib.hid (show trapA b = [] by unfold trapA; rw [hval]; rfl)
    have E2 := Lib.hid (chkT_false hval)
    rw [chkT_false hval] at HC
    clear hval HV
    go_enter Tryd.func44, Tryd.ntmps44
    go_wp2_with fail
    refine (HC.out _ (by repeat (first | assumption | exact Bel.refl _ | refine Bel.drew ?_ | refine Bel.drewN ?_ _ | refine Bel.alloc ?_ _ | refine Bel.setCell ?_ (by simp <;> omega) _ | refine Bel.trans ?_ (by assumption)))).mono ?_
    rintro e w1 ⟨rfl, hb⟩
    have HB := Lib.hid (show Bel w w1 from Bel.trans (by repeat (first | assumption | exact Bel.refl _ | refine Bel.drew ?_ | refine Bel.drewN ?_ _ | refine Bel.alloc ?_ _ | refine Bel.setCell ?_ (by simp <;> omega) _ | refine Bel.trans ?_ (by assumption))) hb)
    clear hb
    go_wp2
    exact bodyPost_ret (v := .tuple #[.slice none 0 0, .int .i64 60]) (by simp [results, Tryd.results44, go_sem]) rfl ⟨_, rvL E2.out, by rw [E1.out]; exact IntsAt.nil _, HB.out⟩
  have hok := okb_iff.1 hval
  have hn1 := hok.n1
  have hn2 := hok.n2
  have E1 := Lib.hid (show trapA b = trTo b b.n.toNat by unfold trapA; rw [hval]; rfl)
  have E2 := Lib.hid (chkT_true hval)
  rw [chkT_true hval] at HC
  have HCO := Lib.hid (fun wx (hx : Bel w wx) => R6Costs_any b hval true 1 0 (by omega) (small_1 hok) _ wx (HV.out.bel hx))
  have HTA := Lib.hid (fun c (h : TabO b true 1 0 c) s hs => h.at hok (s := s) hs)
  have HTR := Lib.hid (fun k (hk : k < b.n.toNat) => tr_cell hok hk)
  have HTL := Lib.hid (fun k => trTo_len (b := b) k)
  have HT0 := Lib.hid (show trTo b 0 = [] from rfl)
  have HSO := Lib.hid (fun (k : Nat) (hk : k < b.n.toNat) pv wx (h : IntsAt wx pv [(k : Int)]) => R6Some_any pv [(k : Int)] wx h (by simp [Asc]) (fun p hp => by rw [List.mem_singleton.1 hp]; omega))
  obtain ⟨i1, hi1, hz1, hs1, hb1⟩ := info_parts mkInt
  have HI1 := Lib.hid hi1
  have HZ1 := Lib.hid hz1
  clear hval hok hi1 hz1 HV
  go_enter Tryd.func44, Tryd.ntmps44
  go_wp2_with fail
  refine (HC.out _ (by repeat (first | assumption | exact Bel.refl _ | refine Bel.drew ?_ | refine Bel.drewN ?_ _ | refine Bel.alloc ?_ _ | refine Bel.setCell ?_ (by simp <;> omega) _ | refine Bel.trans ?_ (by assumption)))).mono ?_
  rintro e w1 ⟨rfl, hb⟩
  have HB := Lib.hid (show Bel w w1 from Bel.trans (by repeat (first | assumption | exact Bel.refl _ | refine Bel.drew ?_ | refine Bel.drewN ?_ _ | refine Bel.alloc ?_ _ | refine Bel.setCell ?_ (by simp <;> omega) _ | refine Bel.trans ?_ (by assumption))) hb)
  have HY := Lib.hid (HBX.out _ hb)
  obtain ⟨y0, y1, y2, y3, y4, y5⟩ := HY.out
  have ly := cell_lt y0
  clear hb
  go_wp2_with fail
  refine (HCO.out _ HB.out).mono ?_
  rintro e w2 ⟨V2, c, rfl, hi, ht, hb⟩
  have HB2 := Lib.hid (HB.out.trans hb)
  have HY2 := Lib.hid (HY.out.bel hb)
  have HTC := Lib.hid (HTA.out c ht)
  obtain ⟨ca, cc, cb, coff, rfl, hca, _, hcc⟩ := hi
  have hixc := idxInts (c := cc) hca
  have HCC := Lib.hid hcc
  clear hb hca hcc ht y0 y1 y2 y3 y4 y5 ly HBX HTA
  go_wp2
  go_loopw [6, 7] (fun V i wr => ∃ k : Nat, k ≤ b.n.toNat ∧ i = .int .i64 k ∧ IntSt (trTo b k) w2 V wr) (fun _ i _ => b.n.toNat - (intOf i).toNat)
  case atStart => exact ⟨0, by omega, rfl, by rw [HT0.out]; exact IntSt.start w2⟩
  case round =>
    obtain ⟨k, hk, rfl, hst⟩ := hrel
    have HST := Lib.hid hst
    obtain ⟨y0, y1, y2, y3, y4, y5⟩ := HY2.out.bel hst.bel
    have ly := cell_lt y0
    have htl := HTL.out k
    by_cases hlt : k < b.n.toNat
    · have hlti : (k : Int) < b.n := by omega
      obtain ⟨hD, hcase⟩ := HTR.out k hlt
      obtain ⟨t1, t2⟩ := HTC.out _ hD
      have q0 := hst.bel.cell (HCC.out _ t1)
      rw [t2] at q0
      have HS := Lib.hid (HSO.out k hlt)
      have HW := Lib.hid (hst.bel)
      clear hst hD t2
      generalize (opt b true 1 0 (ofL [(k : Int)])).getD 1099511627776 = K at *
      generalize ofL [(k : Int)] = s at *
      rcases hcase with ⟨e1, e2⟩ | ⟨e1, e2⟩
      · have hbk : (K == 1099511627776) = true := by simpa using e1
        have HN := Lib.hid e2
        clear e1 e2
        go_wp2_with fail
        refine (HS.out _ _ one_ints).mono ?_
        rintro e w4 ⟨rfl, hb⟩
        have HK := Lib.hid (show Bel wr w4 from Bel.trans (by repeat (first | assumption | exact Bel.refl _ | refine Bel.drew ?_ | refine Bel.drewN ?_ _ | refine Bel.alloc ?_ _ | refine Bel.setCell ?_ (by simp <;> omega) _ | refine Bel.trans ?_ (by assumption))) hb)
        replace q0 := HK.out.cell q0
        have lq := cell_lt q0
        have HST4 := Lib.hid (HST.out.keep HK.out)
        clear hb y0 y1 y2 y3 y4 y5 ly
        go_wp2_with (at_builtin; refine wpList_append_where rfl _ _ 23 rfl 3 i1 (.int .i64 0) 1 8 Tryd.underlying23 HI1.out HZ1.out hs1 hb1 rfl (by decide) _ (trTo b k).length ((trTo b k).map (Value.int .i64)) rfl (ownsRow_bel HST4.out.own ((Bel.refl w4).alloc _)) ⟨w4.heap.size, 0, none⟩ 1 1 [.int .i64 _] rfl rfl (cell_one_new _ _ _) (fun y hy => by simp at hy; subst hy; rfl) (by unfold maxLen; omega) (by omega) ?_; intro V' w7 hown hgrow hwhere)
        have HNX := Lib.hid ((HST4.out.keep ((Bel.refl w4).alloc _)).next hown hgrow hwhere)
        clear hown hgrow hwhere q0 lq
        go_wp2
        go_roundw
        case rel => exact ⟨k + 1, by omega, by go_num, by rw [HN.out]; exact HNX.out⟩
        case measure => simp [intOf]; omega
      · have hbk : (K == 1099511627776) = false := by simpa using e1
        have HN := Lib.hid e2
        clear e1 e2
        go_wp2_with fail
        refine (HS.out _ _ one_ints).mono ?_
        rintro e w4 ⟨rfl, hb⟩
        have HK := Lib.hid (show Bel wr w4 from Bel.trans (by repeat (first | assumption | exact Bel.refl _ | refine Bel.drew ?_ | refine Bel.drewN ?_ _ | refine Bel.alloc ?_ _ | refine Bel.setCell ?_ (by simp <;> omega) _ | refine Bel.trans ?_ (by assumption))) hb)
        replace q0 := HK.out.cell q0
        have lq := cell_lt q0
        have HST4 := Lib.hid (HST.out.keep HK.out)
        clear hb y0 y1 y2 y3 y4 y5 ly
        go_wp2
        go_roundw
        case rel => exact ⟨k + 1, by omega, by go_num, by rw [HN.out]; exact HST4.out⟩
        case measure => simp [intOf]; omega
    · have hlti : ¬ (k : Int) < b.n := by omega
      obtain rfl : k = b.n.toNat := by omega
      have HB3 := Lib.hid (HB2.out.trans hst.bel)
      clear hst
      go_wp2
      exact bodyPost_ret (v := .tuple #[u6, .int .i64 0]) (by simp [results, Tryd.results44, go_sem]) rfl ⟨_, rvL E2.out, by rw [E1.out]; exact ownInts (by omega) HST.out.own, HB3.out⟩
theorem sameInts_eq (v v2 : Value) (l : List Int) (w : World) (hv : IntsAt w v l) (hv2 : IntsAt w v2 l) : Calls Tryd.prog 29 #[v, v2] w fun e w' => e = .returned (.bool true) ∧ Bel w w' :=
  (SameInts_any v v2 l l w hv hv2).mono fun e w' q => ⟨by rw [q.1, show sameB l l = true by unfold sameB; exact decide_eq_true rfl], q.2⟩
end Go.Proofs.YtogiidkofddhaaaDoor
