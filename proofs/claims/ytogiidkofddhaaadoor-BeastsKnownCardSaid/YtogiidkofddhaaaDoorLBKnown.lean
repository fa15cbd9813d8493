/-
  law: BeastsKnown: with fewer Places Least and Blind are not greater; Least is at most Blind, and at least Way of each of the Places; with one Place all three are the same: the call returns true for every trap and chamber, and changes nothing that was there
-/
import Derived.Test.YtogiidkofddhaaaDoorBWorks
import Derived.Test.YtogiidkofddhaaaDoorBLaw2
namespace Go.Proofs.YtogiidkofddhaaaDoor
open Go Go.RowKit Go.Shelf
set_option maxHeartbeats 8000000
set_option maxRecDepth 100000
def lessTo (l : List Int) (c : Int) (k : Nat) : List Int := lessL (l.take k) c
theorem lessTo_succ {l : List Int} {c : Int} {k : Nat} (h : k < l.length) : lessTo l c (k + 1) = if at0 l k = c then lessTo l c k else lessTo l c k ++ [at0 l k] := by
  unfold lessTo lessL
  have e : at0 l k = l[k] := by unfold at0; exact getD_lt l k 0 h
  rw [List.take_succ_eq_append_getElem h, List.filter_append, e]
  by_cases q : l[k] = c
  · rw [if_pos q]; simp [q]
  · rw [if_neg q]; simp [q]
theorem lessTo_len {l : List Int} {c : Int} {k : Nat} : (lessTo l c k).length ≤ l.length := by
  unfold lessTo lessL
  have h1 := List.length_filter_le (fun p => decide (p ≠ c)) (l.take k)
  have h2 : (l.take k).length ≤ l.length := by rw [List.length_take]; omega
  omega
/-- The rounds that make the places without one: the box of the copy holds the list. -/
structure LessSt (w Wb : World) (ob : Nat) (l : List Int) (V : Value) (wr : World) : Prop where
  own : wr.ownsRow 0 3 1 V l.length (l.map (Value.int .i64))
  far : ∀ g, V.ownBlock = some g → Wb.heap.size ≤ g
  bel : Bel w wr
  keep : ∀ k, k < Wb.heap.size → k ≠ ob → wr.heap[k]? = Wb.heap[k]?
  size : Wb.heap.size ≤ wr.heap.size
  o5 : wr.cell? ⟨ob, 5, none⟩ = some V
  oc : ∀ j, j ≠ 5 → wr.cell? ⟨ob, j, none⟩ = Wb.cell? ⟨ob, j, none⟩
  fz : wr.frozen? ⟨ob, 5, none⟩ = false
theorem LessSt.cell {w Wb wr : World} {ob : Nat} {l : List Int} {V u : Value} {p : Addr} (h : LessSt w Wb ob l V wr) (hc : Wb.cell? p = some u) (hp : p.block ≠ ob) : wr.cell? p = some u := by
  rw [World.cell?_of_block (h.keep p.block (cell_lt hc) hp)]; exact hc
theorem LessSt.next {w Wb wr wa w5 : World} {ob : Nat} {l : List Int} {V V' : Value} {x : Int} (h : LessSt w Wb ob l V wr) (hob : ob < Wb.heap.size) (hw : w.heap.size ≤ ob) (hb : Below Wb.heap.size wr wa) (hsz : wr.heap.size ≤ wa.heap.size) (hbel : Bel wr wa)
    (ho : w5.ownsRow 0 3 1 V' (l.length + 1) (l.map (Value.int .i64) ++ [.int .i64 x])) (hg : wa.grownBy w5 V.ownBlock) (hv : V'.ownBlock = V.ownBlock ∨ V'.ownBlock = some wa.heap.size) :
    LessSt w Wb ob (l ++ [x]) V' (w5.setCell ⟨ob, 5, none⟩ V') := by
  have hgs := hg.size
  have far' : ∀ g, V'.ownBlock = some g → Wb.heap.size ≤ g := fun g q => by
    rcases hv with e | e
    · exact h.far g (by rw [← e]; exact q)
    · rw [e] at q; injection q with q; have := h.size; omega
  have kb : ∀ k, k < Wb.heap.size → w5.heap[k]? = wr.heap[k]? := fun k hk =>
    (hg.block k (by have := h.size; omega) (fun q => by have := h.far k q.symm; omega)).trans (hb.block k hk)
  refine ⟨own_set (by simpa using ho) (fun g q => by have := far' g q; show g ≠ ob; omega), far', ?_, fun k hk hne => ?_, by rw [World.size_setCell]; have := h.size; omega, World.cell?_setCell_same _ _ _ (by rw [World.cell?_of_block (kb ob hob)]; exact h.o5), fun j hj => ?_, ?_⟩
  · exact ((h.bel.trans hbel).grown hg (fun k q => by have := h.far k q; have := h.size; omega)).setCell hw _
  · rw [Below.heap_setCell _ _ _ _ (by exact hne), kb k hk, h.keep k hk hne]
  · rw [World.cell?_setCell_other _ _ _ _ (by intro e; injection e with _ e; exact hj e.symm), World.cell?_of_block (kb ob hob), h.oc j hj]
  · rw [World.frozen?_setCell, World.frozen?_of_block (kb ob hob)]; exact h.fz
theorem BeastsKnown_any (b : BT) (v : Value) (c : Int) (w : World) (hf : FarAt w) (hv : BTrapAt w v b) : Calls Tryd.prog 6 #[v, .int .i64 c] w fun e w' => e = .returned (.bool true) ∧ Bel w w' := by
  have HWK := Lib.hid (fun wx (hx : Bel w wx) => works_any wx (hf.bel hx))
  have HFA := Lib.hid (fun wx (hx : Bel w wx) => hf.bel hx)
  have HV := Lib.hid (fun wx (hx : Bel w wx) => hv.bel hx)
  have HB := Lib.hid (Bel.refl w)
  have HRD := Lib.hid (fun wx (hx : Bel w wx) => bready_any b v wx (hv.bel hx))
  have HBO := Lib.hid (fun h wx (hx : Bel w wx) => both_any b h v wx (hf.bel hx) (hv.bel hx))
  have HWY := Lib.hid (fun wx (hx : Bel w wx) => Way_any b v c wx (hf.bel hx) (hv.bel hx))
  have HAT := Lib.hid (fun h1 h2 h3 wx (hx : Bel w wx) => At_any b c v wx (hv.bel hx) h1 h2 h3)
  have HCP := Lib.hid (fun h1 h2 h3 wx (hx : Bel w wx) => bCopy_any b v wx (hv.bel hx) h1 h2 h3)
  obtain ⟨da, dc, sa, sc, pa, pc, rfl, hd, hs, hp⟩ := hv.open
  have HBX := Lib.hid (fun wx hx => (BoxB.new (w := w) (b := b) (dv := .slice da b.doors.length dc) (sv := .slice sa b.seen.length sc) (pv := .slice pa b.places.length pc) (T := 25)).bel (w' := wx) hx)
  obtain ⟨pb, poff, hpa, hpl, _, hpc⟩ := hp.open
  have hixp := idxInts (c := pc) hpa
  have HPC := Lib.hid hpc
  have HIN := Lib.hid (fun wx (hx : Bel w wx) => In_any (.slice pa b.places.length pc) b.places c wx (hp.bel hx))
  clear hf hv hd hs hp hpa hpc
  cases hr : readyT b
  · rw [hr] at HRD
    clear hr
    go_enter Tryd.func6, Tryd.ntmps6
    go_wp2_with fail
    refine (HRD.out _ (HB.out.trans (by repeat (first | assumption | exact Bel.refl _ | refine Bel.drew ?_ | refine Bel.drewN ?_ _ | refine Bel.alloc ?_ _ | refine Bel.setCell ?_ (by simp <;> omega) _ | refine Bel.trans ?_ (by assumption))))).mono ?_
    rintro e w1 ⟨rfl, hb⟩
    have HY := Lib.hid (HBX.out _ hb)
    have HK := Lib.hid (show Bel w w1 from Bel.trans (by repeat (first | assumption | exact Bel.refl _ | refine Bel.drew ?_ | refine Bel.drewN ?_ _ | refine Bel.alloc ?_ _ | refine Bel.setCell ?_ (by simp <;> omega) _ | refine Bel.trans ?_ (by assumption))) hb)
    replace HB := Lib.hid (HB.out.trans HK.out)
    obtain ⟨y0, y1, y2, y3, y4, y5⟩ := HY.out
    have ly := cell_lt y0
    clear hb HK
    go_wp2_with fail
    refine (HWK.out _ (HB.out.trans (by repeat (first | assumption | exact Bel.refl _ | refine Bel.drew ?_ | refine Bel.drewN ?_ _ | refine Bel.alloc ?_ _ | refine Bel.setCell ?_ (by simp <;> omega) _ | refine Bel.trans ?_ (by assumption))))).mono ?_
    rintro e w2 ⟨rfl, hb⟩
    have HK := Lib.hid (show Bel w1 w2 from Bel.trans (by repeat (first | assumption | exact Bel.refl _ | refine Bel.drew ?_ | refine Bel.drewN ?_ _ | refine Bel.alloc ?_ _ | refine Bel.setCell ?_ (by simp <;> omega) _ | refine Bel.trans ?_ (by assumption))) hb)
    replace HY := Lib.hid (HY.out.bel HK.out)
    replace HB := Lib.hid (HB.out.trans HK.out)
    clear y0 y1 y2 y3 y4 y5 ly
    obtain ⟨y0, y1, y2, y3, y4, y5⟩ := HY.out
    have ly := cell_lt y0
    clear hb HK
    go_wp2
    go_ret
    exact ⟨rfl, HB.out⟩
  rw [hr] at HRD
  cases hi : inB b.places c
  · rw [hi] at HIN
    clear hr hi
    go_enter Tryd.func6, Tryd.ntmps6
    go_wp2_with fail
    refine (HRD.out _ (HB.out.trans (by repeat (first | assumption | exact Bel.refl _ | refine Bel.drew ?_ | refine Bel.drewN ?_ _ | refine Bel.alloc ?_ _ | refine Bel.setCell ?_ (by simp <;> omega) _ | refine Bel.trans ?_ (by assumption))))).mono ?_
    rintro e w1 ⟨rfl, hb⟩
    have HY := Lib.hid (HBX.out _ hb)
    have HK := Lib.hid (show Bel w w1 from Bel.trans (by repeat (first | assumption | exact Bel.refl _ | refine Bel.drew ?_ | refine Bel.drewN ?_ _ | refine Bel.alloc ?_ _ | refine Bel.setCell ?_ (by simp <;> omega) _ | refine Bel.trans ?_ (by assumption))) hb)
    replace HB := Lib.hid (HB.out.trans HK.out)
    obtain ⟨y0, y1, y2, y3, y4, y5⟩ := HY.out
    have ly := cell_lt y0
    clear hb HK
    go_wp2_with fail
    refine (HIN.out _ (HB.out.trans (by repeat (first | assumption | exact Bel.refl _ | refine Bel.drew ?_ | refine Bel.drewN ?_ _ | refine Bel.alloc ?_ _ | refine Bel.setCell ?_ (by simp <;> omega) _ | refine Bel.trans ?_ (by assumption))))).mono ?_
    rintro e wq ⟨rfl, rfl⟩
    go_wp2_with fail
    refine (HWK.out _ (HB.out.trans (by repeat (first | assumption | exact Bel.refl _ | refine Bel.drew ?_ | refine Bel.drewN ?_ _ | refine Bel.alloc ?_ _ | refine Bel.setCell ?_ (by simp <;> omega) _ | refine Bel.trans ?_ (by assumption))))).mono ?_
    rintro e w2 ⟨rfl, hb⟩
    have HK := Lib.hid (show Bel w1 w2 from Bel.trans (by repeat (first | assumption | exact Bel.refl _ | refine Bel.drew ?_ | refine Bel.drewN ?_ _ | refine Bel.alloc ?_ _ | refine Bel.setCell ?_ (by simp <;> omega) _ | refine Bel.trans ?_ (by assumption))) hb)
    replace HY := Lib.hid (HY.out.bel HK.out)
    replace HB := Lib.hid (HB.out.trans HK.out)
    clear y0 y1 y2 y3 y4 y5 ly
    obtain ⟨y0, y1, y2, y3, y4, y5⟩ := HY.out
    have ly := cell_lt y0
    clear hb HK
    go_wp2
    go_ret
    exact ⟨rfl, HB.out⟩
  rw [hi] at HIN
  have hc := inB_mem hi
  obtain ⟨hfar, hval⟩ := readyT_iff.1 hr
  have hfr := farB_false hfar
  have HBO1 := Lib.hid (HBO.out hval)
  obtain ⟨k1, k2, k3, k4, k5⟩ := known_one hval hc
  have HBO2 := Lib.hid (fun V wx (hx : Bel w wx) h => both_any (plB b [c]) k1 V wx (HFA.out wx hx) h)
  obtain ⟨_, _, _, a4, _, _, _⟩ := both_law k1
  rw [k3, a4] at HWY
  rw [k4] at HBO2
  rw [← k2] at HBO2
  have HAT1 := Lib.hid (HAT.out (by omega) (by omega) (by omega))
  have HCP1 := Lib.hid (HCP.out (by omega) (by omega) (by omega))
  have HLS := Lib.hid (fun k (hk : k < b.places.length) => lessTo_succ (c := c) hk)
  have HLE := Lib.hid (show lessTo b.places c b.places.length = lessL b.places c by unfold lessTo; rw [List.take_length])
  have HL0 := Lib.hid (show lessTo b.places c 0 = [] from rfl)
  have hlen := hfr.2.2
  have HRD2 := Lib.hid (fun V wx h => bready_any (plB b (lessL b.places c)) V wx h)
  have HBO3 := Lib.hid (fun hv V wx (hx : Bel w wx) h => both_any (plB b (lessL b.places c)) hv V wx (HFA.out wx hx) h)
  have HLAW := Lib.hid (fun (h : readyT (plB b (lessL b.places c)) = true) => known_less hval (readyT_iff.1 h).2)
  have HVAL2 := Lib.hid (fun (h : readyT (plB b (lessL b.places c)) = true) => (readyT_iff.1 h).2)
  have HLL := Lib.hid (fun k => lessTo_len (l := b.places) (c := c) (k := k))
  obtain ⟨i1, hi1, hz1, hs1, hb1⟩ := info_parts mkInt
  have HI1 := Lib.hid hi1
  have HZ1 := Lib.hid hz1
  have hle := fun h => (k5 h).2
  have hso := fun h => (k5 h).1
  clear hr hi hfar hval k1 k2 k3 k4 k5 a4 HBO HAT HCP hi1 hz1
  have hcase : (planB b = true ∧ planB (plB b [c]) = true ∧ wayV b c ≤ leastV b true) ∨ (planB b = false ∧ (planB (plB b [c]) = true ∨ planB (plB b [c]) = false)) := by
    cases hp : planB b
    · exact .inr ⟨rfl, by cases planB (plB b [c]) <;> simp⟩
    · exact .inl ⟨rfl, hso hp, hle hp⟩
  clear hle hso
  generalize hm : leastV b true = m at *
  generalize hn : leastV b false = n at *
  generalize wayV b c = wv at *
  have HM := Lib.hid hm
  have HN := Lib.hid hn
  clear hm hn
  rcases hcase with ⟨p1, p2, p3⟩ | ⟨p1, p2 | p2⟩
  all_goals
    rw [p1] at HBO1
    rw [p2] at HBO2 HWY
    first
      | rw [if_pos rfl] at HWY
      | rw [if_neg (by simp)] at HWY
    have HP1 := Lib.hid p1
    clear p1 p2
    go_enter Tryd.func6, Tryd.ntmps6
    go_wp2_with fail
    refine (HRD.out _ (HB.out.trans (by repeat (first | assumption | exact Bel.refl _ | refine Bel.drew ?_ | refine Bel.drewN ?_ _ | refine Bel.alloc ?_ _ | refine Bel.setCell ?_ (by simp <;> omega) _ | refine Bel.trans ?_ (by assumption))))).mono ?_
    rintro e w1 ⟨rfl, hb⟩
    have HY := Lib.hid (HBX.out _ hb)
    have HK := Lib.hid (show Bel w w1 from Bel.trans (by repeat (first | assumption | exact Bel.refl _ | refine Bel.drew ?_ | refine Bel.drewN ?_ _ | refine Bel.alloc ?_ _ | refine Bel.setCell ?_ (by simp <;> omega) _ | refine Bel.trans ?_ (by assumption))) hb)
    replace HB := Lib.hid (HB.out.trans HK.out)
    obtain ⟨y0, y1, y2, y3, y4, y5⟩ := HY.out
    have ly := cell_lt y0
    clear hb HK
    go_wp2_with fail
    refine (HIN.out _ (HB.out.trans (by repeat (first | assumption | exact Bel.refl _ | refine Bel.drew ?_ | refine Bel.drewN ?_ _ | refine Bel.alloc ?_ _ | refine Bel.setCell ?_ (by simp <;> omega) _ | refine Bel.trans ?_ (by assumption))))).mono ?_
    rintro e wq ⟨rfl, rfl⟩
    go_wp2_with fail
    refine (HBO1.out _ (HB.out.trans (by repeat (first | assumption | exact Bel.refl _ | refine Bel.drew ?_ | refine Bel.drewN ?_ _ | refine Bel.alloc ?_ _ | refine Bel.setCell ?_ (by simp <;> omega) _ | refine Bel.trans ?_ (by assumption))))).mono ?_
    rintro e w2 ⟨rfl, hb⟩
    have HK := Lib.hid (show Bel w1 w2 from Bel.trans (by repeat (first | assumption | exact Bel.refl _ | refine Bel.drew ?_ | refine Bel.drewN ?_ _ | refine Bel.alloc ?_ _ | refine Bel.setCell ?_ (by simp <;> omega) _ | refine Bel.trans ?_ (by assumption))) hb)
    replace HY := Lib.hid (HY.out.bel HK.out)
    replace HB := Lib.hid (HB.out.trans HK.out)
    clear y0 y1 y2 y3 y4 y5 ly
    obtain ⟨y0, y1, y2, y3, y4, y5⟩ := HY.out
    have ly := cell_lt y0
    clear hb HK
    go_wp2_with fail
    refine (HWY.out _ (HB.out.trans (by repeat (first | assumption | exact Bel.refl _ | refine Bel.drew ?_ | refine Bel.drewN ?_ _ | refine Bel.alloc ?_ _ | refine Bel.setCell ?_ (by simp <;> omega) _ | refine Bel.trans ?_ (by assumption))))).mono ?_
    rintro e w3 ⟨rfl, hb⟩
    have HK := Lib.hid (show Bel w2 w3 from Bel.trans (by repeat (first | assumption | exact Bel.refl _ | refine Bel.drew ?_ | refine Bel.drewN ?_ _ | refine Bel.alloc ?_ _ | refine Bel.setCell ?_ (by simp <;> omega) _ | refine Bel.trans ?_ (by assumption))) hb)
    replace HY := Lib.hid (HY.out.bel HK.out)
    replace HB := Lib.hid (HB.out.trans HK.out)
    clear y0 y1 y2 y3 y4 y5 ly
    obtain ⟨y0, y1, y2, y3, y4, y5⟩ := HY.out
    have ly := cell_lt y0
    clear hb HK
    go_wp2_with fail
    refine (HAT1.out _ (HB.out.trans (by repeat (first | assumption | exact Bel.refl _ | refine Bel.drew ?_ | refine Bel.drewN ?_ _ | refine Bel.alloc ?_ _ | refine Bel.setCell ?_ (by simp <;> omega) _ | refine Bel.trans ?_ (by assumption))))).mono ?_
    rintro e w4 ⟨V4, rfl, hV4, hb⟩
    have HK := Lib.hid (show Bel w3 w4 from Bel.trans (by repeat (first | assumption | exact Bel.refl _ | refine Bel.drew ?_ | refine Bel.drewN ?_ _ | refine Bel.alloc ?_ _ | refine Bel.setCell ?_ (by simp <;> omega) _ | refine Bel.trans ?_ (by assumption))) hb)
    replace HY := Lib.hid (HY.out.bel HK.out)
    replace HB := Lib.hid (HB.out.trans HK.out)
    clear y0 y1 y2 y3 y4 y5 ly
    obtain ⟨y0, y1, y2, y3, y4, y5⟩ := HY.out
    have ly := cell_lt y0
    have HT5 := Lib.hid hV4
    clear hV4
    clear hb HK
    go_wp2_with fail
    refine (HBO2.out _ _ (HB.out.trans (by repeat (first | assumption | exact Bel.refl _ | refine Bel.drew ?_ | refine Bel.drewN ?_ _ | refine Bel.alloc ?_ _ | refine Bel.setCell ?_ (by simp <;> omega) _ | refine Bel.trans ?_ (by assumption)))) HT5.out).mono ?_
    rintro e w5 ⟨rfl, hb⟩
    have HK := Lib.hid (show Bel w4 w5 from Bel.trans (by repeat (first | assumption | exact Bel.refl _ | refine Bel.drew ?_ | refine Bel.drewN ?_ _ | refine Bel.alloc ?_ _ | refine Bel.setCell ?_ (by simp <;> omega) _ | refine Bel.trans ?_ (by assumption))) hb)
    replace HY := Lib.hid (HY.out.bel HK.out)
    replace HB := Lib.hid (HB.out.trans HK.out)
    clear y0 y1 y2 y3 y4 y5 ly
    obtain ⟨y0, y1, y2, y3, y4, y5⟩ := HY.out
    have ly := cell_lt y0
    clear hb HK
    clear HT5
    go_wp2_with fail
    refine (HCP1.out _ (HB.out.trans (by repeat (first | assumption | exact Bel.refl _ | refine Bel.drew ?_ | refine Bel.drewN ?_ _ | refine Bel.alloc ?_ _ | refine Bel.setCell ?_ (by simp <;> omega) _ | refine Bel.trans ?_ (by assumption))))).mono ?_
    rintro e w6 ⟨gd, cd, gs, cs, gp, cp, rfl, hown⟩
    have HK := Lib.hid (show Bel w5 w6 from Bel.trans (by repeat (first | assumption | exact Bel.refl _ | refine Bel.drew ?_ | refine Bel.drewN ?_ _ | refine Bel.alloc ?_ _ | refine Bel.setCell ?_ (by simp <;> omega) _ | refine Bel.trans ?_ (by assumption))) hown.bel)
    replace HY := Lib.hid (HY.out.bel HK.out)
    replace HB := Lib.hid (HB.out.trans HK.out)
    clear y0 y1 y2 y3 y4 y5 ly
    obtain ⟨y0, y1, y2, y3, y4, y5⟩ := HY.out
    have ly := cell_lt y0
    clear HK
    have hgd := hown.hgd
    have hgs := hown.hgs
    have hgp := hown.hgp
    have lgp : gp < w6.heap.size := own_lt hown.op rfl
    have HOWN := Lib.hid hown
    unfold trapAgg
    clear hown
    go_wp2
    generalize hWb : World.alloc w6 _ = Wb
    have HS := Lib.hid (show Wb.heap.size = w6.heap.size + 1 by rw [← hWb]; simp)
    have HKb := Lib.hid (show Bel w6 Wb by rw [← hWb]; exact (Bel.refl w6).alloc _)
    have o0 : Wb.cell? ⟨w6.heap.size, 0, none⟩ = some (.int .i64 b.n) := by rw [← hWb]; exact (row_facts (new_row rfl)).1 0
    have o1 : Wb.cell? ⟨w6.heap.size, 1, none⟩ = some (.slice (some ⟨gd, 0, none⟩) b.doors.length cd) := by rw [← hWb]; exact (row_facts (new_row rfl)).1 1
    have o2 : Wb.cell? ⟨w6.heap.size, 2, none⟩ = some (.slice (some ⟨gs, 0, none⟩) b.seen.length cs) := by rw [← hWb]; exact (row_facts (new_row rfl)).1 2
    have o3 : Wb.cell? ⟨w6.heap.size, 3, none⟩ = some (.int .i64 b.look) := by rw [← hWb]; exact (row_facts (new_row rfl)).1 3
    have o4 : Wb.cell? ⟨w6.heap.size, 4, none⟩ = some (.int .i64 b.eats) := by rw [← hWb]; exact (row_facts (new_row rfl)).1 4
    have o5 : Wb.cell? ⟨w6.heap.size, 5, none⟩ = some (.slice none 0 0) := by rw [← hWb]; exact (row_facts (new_row rfl)).1 5
    have ofz : Wb.frozen? ⟨w6.heap.size, 5, none⟩ = false := by rw [← hWb]; exact (row_facts (new_row rfl)).2 5
    have HOX := Lib.hid (show _ ∧ _ ∧ _ ∧ _ ∧ _ from ⟨o0, o1, o2, o3, o4⟩)
    have HST0 : Hid (LessSt w Wb w6.heap.size [] (.slice none 0 0) Wb) := Lib.hid ⟨World.ownsRow_nil Wb 0 _ 1, fun g h => by simp [Value.ownBlock] at h, HB.out.trans HKb.out, fun _ _ _ => rfl, Nat.le_refl _, o5, fun _ _ => rfl, ofz⟩
    have HYb := Lib.hid (HY.out.bel HKb.out)
    have HBb := Lib.hid (HB.out.trans HKb.out)
    have HW6 := Lib.hid (show w.heap.size < w6.heap.size by have := ly; simpa using this)
    clear y0 y1 y2 y3 y4 y5 ly hWb o0 o1 o2 o3 o4 o5 ofz
    go_loopw [16] (fun i wr => ∃ k V, k ≤ b.places.length ∧ i = .int .i64 k ∧ Hid (LessSt w Wb w6.heap.size (lessTo b.places c k) V wr)) (fun i _ => b.places.length - (intOf i).toNat)
    case atStart => exact ⟨0, .slice none 0 0, by omega, rfl, by rw [HL0.out]; exact HST0⟩
    case round =>
      obtain ⟨k, V, hk, rfl, hst⟩ := hrel
      have hw6 := HW6.out
      obtain ⟨_, _, _, _, _, yy5⟩ := HYb.out
      have lw : w.heap.size < Wb.heap.size := cell_lt yy5
      have y5 := hst.out.cell yy5 (by show w.heap.size ≠ w6.heap.size; omega)
      clear yy5
      by_cases hlt : k < b.places.length
      · have hlti : (k : Int) < (b.places.length : Int) := by omega
        have hpbw : pb < w.heap.size := cell_lt (HPC.out k hlt)
        have qq := HBb.out.cell (HPC.out k hlt)
        have lq : pb < Wb.heap.size := cell_lt qq
        have q0 := hst.out.cell qq (by show pb ≠ w6.heap.size; omega)
        have HNS := Lib.hid (HLS.out k hlt)
        clear qq
        by_cases hpc : at0 b.places k = c
        · have hcb1 : (at0 b.places k != c) = false := by simpa using hpc
          have HN := Lib.hid (HNS.out.trans (if_pos hpc))
          clear hpc HNS
          generalize at0 b.places k = p at *
          go_wp2
          go_roundw
          case rel => exact ⟨k + 1, V, by omega, by go_num, by rw [HN.out]; exact hst⟩
          case measure => simp [intOf]; omega
        · have hcb1 : (at0 b.places k != c) = true := by simpa using hpc
          have HN := Lib.hid (HNS.out.trans (if_neg hpc))
          have o5 := hst.out.o5
          have lob : w6.heap.size < Wb.heap.size := by have := HS.out; omega
          have hll := HLL.out k
          clear hpc HNS
          generalize at0 b.places k = p at *
          generalize lessTo b.places c k = ll at *
          go_wp2
          refine wp_region_mixTC (Plan.seq [0, 1, 2, 3, 4, 5, 6, 1007, 1008, 9] .nil) (Below Wb.heap.size wr) (by kernel_rfl) (by kernel_rfl) ((Below.refl _ _).drew) (fun hcur => ?_)
          simp only [Plan.seq, Plan.fill, List.getD_cons_zero, List.getD_cons_succ, Nat.reduceLT, ↓reduceIte, Nat.reduceSub]
          apply mix_pure _ rfl
          · intro w' hw'
            have hcr := fun (p : Addr) (hp : p.block < Wb.heap.size) => Below.cell hw' hp
            go_simp
            rfl
          intro K hK
          go_simp
          refine hK _ ?_
          clear hK K
          apply mix_pure _ rfl
          · intro w' hw'
            have hcr := fun (p : Addr) (hp : p.block < Wb.heap.size) => Below.cell hw' hp
            go_simp
            rfl
          intro K hK
          go_simp
          refine hK _ ?_
          clear hK K
          apply mix_pure _ rfl
          · intro w' hw'
            have hcr := fun (p : Addr) (hp : p.block < Wb.heap.size) => Below.cell hw' hp
            go_simp
            rfl
          intro K hK
          go_simp
          refine hK _ ?_
          clear hK K
          apply mix_pure _ rfl
          · intro w' hw'
            have hcr := fun (p : Addr) (hp : p.block < Wb.heap.size) => Below.cell hw' hp
            go_simp
            rfl
          intro K hK
          go_simp
          refine hK _ ?_
          clear hK K
          apply mix_pure _ rfl
          · intro w' hw'
            have hcr := fun (p : Addr) (hp : p.block < Wb.heap.size) => Below.cell hw' hp
            go_simp
            rfl
          intro K hK
          go_simp
          refine hK _ ?_
          clear hK K
          apply mix_pure _ rfl
          · intro w' hw'
            have hcr := fun (p : Addr) (hp : p.block < Wb.heap.size) => Below.cell hw' hp
            go_simp
            rfl
          intro K hK
          go_simp
          refine hK _ ?_
          clear hK K
          apply mix_pure _ rfl
          · intro w' hw'
            have hcr := fun (p : Addr) (hp : p.block < Wb.heap.size) => Below.cell hw' hp
            go_simp
            rfl
          intro K hK
          go_simp
          refine hK _ ?_
          clear hK K
          refine mix_act rfl (fun K hK => ?_)
          go_simp
          have HSZ := Lib.hid (show Wb.heap.size ≤ (World.drew wr).heap.size from Nat.le_trans hst.out.size hcur.size)
          have HBA := Lib.hid (show Bel wr ((World.drew wr).alloc (.cells #[.int .i64 p] 3)) from ((Bel.refl wr).drew).alloc _)
          refine hK _ _ (Below.alloc hcur HSZ.out _) (fun hcur => ?_)
          clear hK K
          refine mix_act rfl (fun K hK => ?_)
          refine wp_append_where _ _ 23 (by rfl) 3 i1 (.int .i64 0) 1 8 Tryd.underlying23 HI1.out HZ1.out hs1 hb1 rfl (by decide) _ ll.length (ll.map (Value.int .i64)) (by rfl) (ownsRow_bel hst.out.own HBA.out) ⟨(World.drew wr).heap.size, 0, none⟩ 1 1 [.int .i64 p] (by rfl) (by rfl) (cell_one_new _ _ _) (fun y hy => by simp at hy; subst hy; rfl) (by unfold maxLen; omega) (by omega) ?_
          intro V' w7 hown hgrow hwhere
          obtain ⟨g7, cap7, rfl⟩ : ∃ g cap, V' = .slice (some ⟨g, 0, none⟩) (ll.length + 1) cap := by
            rcases hown.2 with ⟨_, h0⟩ | ⟨g, cap, cur, h1, _⟩
            · omega
            · exact ⟨g, cap, h1⟩
          have HNX := Lib.hid (LessSt.next hst.out lob (by omega) hcur hcur.size HBA.out hown hgrow hwhere)
          refine hK _ _ (Below.grown hcur hgrow (Nat.le_trans hst.out.size hcur.size) (fun q hq => hst.out.far q hq)) (fun hcur => ?_)
          clear hK K hown hgrow hwhere
          apply mix_pure _ rfl
          · intro w' hw'
            have hcr := fun (p : Addr) (hp : p.block < Wb.heap.size) => Below.cell hw' hp
            go_simp
            rfl
          intro K hK
          go_simp
          refine hK _ ?_
          clear hK K
          refine mix_tailK rfl (fun K hK => ?_)
          have o5' : w7.cell? ⟨w6.heap.size, 5, none⟩ = some V := (Below.cell hcur lob).trans o5
          have of' : w7.frozen? ⟨w6.heap.size, 5, none⟩ = false := (Below.frozen hcur lob).trans hst.out.fz
          go_simp
          refine hK _ _ ?_
          clear hK K o5' of'
          clear hcur o5 y5 q0
          go_wp2
          go_roundw
          case rel => exact ⟨k + 1, _, by omega, by go_num, by rw [HN.out]; exact HNX⟩
          case measure => simp [intOf]; omega
      · have hlti : ¬ (k : Int) < (b.places.length : Int) := by omega
        obtain rfl : k = b.places.length := by omega
        rw [HLE.out] at hst
        have hS := HS.out
        have hll := HLL.out b.places.length
        rw [HLE.out] at hll
        obtain ⟨o0, o1, o2, o3, o4⟩ := HOX.out
        replace o0 := (hst.out.oc 0 (by omega)).trans o0
        replace o1 := (hst.out.oc 1 (by omega)).trans o1
        replace o2 := (hst.out.oc 2 (by omega)).trans o2
        replace o3 := (hst.out.oc 3 (by omega)).trans o3
        replace o4 := (hst.out.oc 4 (by omega)).trans o4
        have o5 := hst.out.o5
        have HVF : Hid (∃ a cc, V = .slice a (lessL b.places c).length cc) := Lib.hid (by
          rcases hst.out.own.2 with ⟨h1, e⟩ | ⟨g, cap, cur, h1, _⟩
          · exact ⟨none, 0, by rw [h1, ← e]⟩
          · exact ⟨_, _, h1⟩)
        have HTRAP : Hid (BTrapAt wr (.agg #[.int .i64 b.n, .slice (some ⟨gd, 0, none⟩) b.doors.length cd, .slice (some ⟨gs, 0, none⟩) b.seen.length cs, .int .i64 b.look, .int .i64 b.eats, V]) (plB b (lessL b.places c))) := Lib.hid ⟨_, _, _, rfl,
          DoorsAt.own (l := b.doors) (by omega) (own_keep (ownsRow_bel HOWN.out.od HKb.out) fun g hg => by injection hg with hg; subst hg; exact hst.out.keep gd (by omega) (by omega)),
          ownInts (l := b.seen) (by omega) (own_keep (ownsRow_bel HOWN.out.os HKb.out) fun g hg => by injection hg with hg; subst hg; exact hst.out.keep gs (by omega) (by omega)),
          ownInts (l := lessL b.places c) (by omega) hst.out.own⟩
        have HBR := Lib.hid hst.out.bel
        obtain ⟨va, vc, rfl⟩ := HVF.out
        have lo := cell_lt o0
        clear hst hS
        cases hr2 : readyT (plB b (lessL b.places c))
        · rw [hr2] at HRD2
          clear hr2 HLAW HVAL2 HBO3
          go_wp2_with fail
          refine (HRD2.out _ _ HTRAP.out).mono ?_
          rintro e w8 ⟨rfl, hb⟩
          have HB8 := Lib.hid (HBR.out.trans hb)
          clear hb
          go_wp2_with fail
          refine (HWK.out _ HB8.out).mono ?_
          rintro e w9 ⟨rfl, hb⟩
          have HB9 := Lib.hid (HB8.out.trans hb)
          clear hb
          go_wp2
          go_ret
          exact ⟨rfl, HB9.out⟩
        · have HB3 := Lib.hid (HBO3.out (HVAL2.out hr2))
          have HLW := Lib.hid (HLAW.out hr2)
          rw [hr2] at HRD2
          clear hr2 HLAW HVAL2 HBO3
          go_wp2_with fail
          refine (HRD2.out _ _ HTRAP.out).mono ?_
          rintro e w8 ⟨rfl, hb⟩
          have HB8 := Lib.hid (HBR.out.trans hb)
          have HT8 := Lib.hid (HTRAP.out.bel hb)
          replace o0 := hb.cell o0
          replace o1 := hb.cell o1
          replace o2 := hb.cell o2
          replace o3 := hb.cell o3
          replace o4 := hb.cell o4
          replace o5 := hb.cell o5
          have lo8 := cell_lt o0
          clear hb
          go_wp2_with fail
          refine (HB3.out _ _ HB8.out HT8.out).mono ?_
          rintro e w9 ⟨rfl, hb⟩
          have HB9 := Lib.hid (HB8.out.trans hb)
          clear hb o0 o1 o2 o3 o4 o5 lo lo8
          rcases Bool.eq_false_or_eq_true (planB b) with hpt | hpt
          · first
              | (exact absurd (HP1.out.symm.trans hpt) (by decide))
              | (obtain ⟨u1, u2, u3⟩ := HLW.out hpt
                 rw [u1]
                 clear u1 hpt
                 generalize leastV (plB b (lessL b.places c)) true = x1 at *
                 generalize leastV (plB b (lessL b.places c)) false = x2 at *
                 generalize planB (plB b (lessL b.places c)) = x3 at *
                 go_wp2_with fail
                 refine (HWK.out _ HB9.out).mono ?_
                 rintro e w10 ⟨rfl, hb⟩
                 have HB10 := Lib.hid (HB9.out.trans hb)
                 clear hb
                 go_wp2
                 go_ret
                 exact ⟨rfl, HB10.out⟩)
          · first
              | (exact absurd (HP1.out.symm.trans hpt) (by decide))
              | (clear HLW hpt
                 generalize leastV (plB b (lessL b.places c)) true = x1 at *
                 generalize leastV (plB b (lessL b.places c)) false = x2 at *
                 generalize planB (plB b (lessL b.places c)) = x3 at *
                 go_wp2_with fail
                 refine (HWK.out _ HB9.out).mono ?_
                 rintro e w10 ⟨rfl, hb⟩
                 have HB10 := Lib.hid (HB9.out.trans hb)
                 clear hb
                 go_wp2
                 go_ret
                 exact ⟨rfl, HB10.out⟩)
end Go.Proofs.YtogiidkofddhaaaDoor
