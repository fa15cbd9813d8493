/-
  mesh: whether a net has an order.
-/
import Derived.Test.YtkdcdhkhadhcfaaDoorHoOrd
import Derived.Test.YtkdcdhkhadhcfaaDoorRound
namespace Go.Proofs.YtkdcdhkhadhcfaaDoor
open Go Go.RowKit Go.Shelf
attribute [local go_sem] Oper.semAt_some
set_option maxHeartbeats 8000000
set_option maxRecDepth 100000
theorem noD_new {D : Nat → Prop} {w : World} {v : Value} {l : List Hole} (h : HolesAt w v l) (hd : ∀ g, D g → w.heap.size ≤ g) : NoD D v := fun a n c e hn hD => by
  obtain ⟨a', c', b, off, rfl, ha, _, hc⟩ := h
  injection e with e1 e2 e3
  subst e2
  have := ha hn
  rw [e1] at this
  injection this with this
  subst this
  have h1 := cell_lt (hc 0 hn).1
  have h2 := hd _ hD
  simp only [] at h1 h2
  omega
theorem noD_prs {D : Nat → Prop} {w : World} {v : Value} {l : List HPr} (h : PrsAt w v l) (hd : ∀ g, D g → w.heap.size ≤ g) : NoD D v := fun a n c e hn hD => by
  obtain ⟨a', c', b, off, rfl, ha, _, hc⟩ := h
  injection e with e1 e2 e3
  subst e2
  have := ha hn
  rw [e1] at this
  injection this with this
  subst this
  have h1 := cell_lt (hc 0 hn).1
  have h2 := hd _ hD
  simp only [] at h1 h2
  omega
theorem orders_any (m : Int) (hv pv : Value) (w : World) (hh : ∃ n a l c, hv = .slice a l c ∧ n = l) (hp : ∃ n a l c, pv = .slice a l c ∧ n = l) :
    Calls Tryd.prog 92 #[.agg #[.int .i64 m, hv, pv]] w fun e w' => e = .returned (.func (.func 109) #[] #[.pointer (some ⟨w.heap.size, 0, none⟩)]) ∧ w' = w.alloc (.cells #[.int .i64 m, hv, pv] 121) := by
  obtain ⟨_, a, l, c, rfl, _⟩ := hh
  obtain ⟨_, a', l', c', rfl, _⟩ := hp
  go_enter Tryd.func92, Tryd.ntmps92
  go_wp2
  go_ret
  exact ⟨rfl, rfl⟩
def hasV (n : MNet) : Bool := !(ords n n.holes.length []).isEmpty
theorem has_any (n : MNet) (v : Value) (w : World) (hm : n.holes.length ≤ 1000000) (hv : MNetAt w v n) :
    Calls Tryd.prog 91 #[v] w fun e w' => e = .returned (.bool (hasV n)) ∧ Bel w w' := by
  obtain ⟨ha, hc, pa, pc, rfl, hh, hp, hG, hQ⟩ := hv.open
  have HH := Lib.hid hh
  have HP := Lib.hid hp
  have HM := Lib.hid hm
  have HX := Lib.hid (show hasV n = !(ords n n.holes.length []).isEmpty from rfl)
  have HO := Lib.hid (fun wx => orders_any n.men (.slice ha n.holes.length hc) (.slice pa n.prs.length pc) wx ⟨_, _, _, _, rfl, rfl⟩ ⟨_, _, _, _, rfl, rfl⟩)
  clear hh hp hv hm
  refine (callsIn_wide (n := 4)).1 ?_
  refine callsIn_of_wp_marks Tryd.func91 rfl trivial ?_ rfl
  simp only [Tryd.ntmps91, List.size_toArray, List.length_cons, List.length_nil, Nat.reduceAdd, Nat.reduceSub, Array.replicate_succ, Array.replicate_zero, List.push_toArray, List.append_toArray, List.nil_append, List.cons_append]
  gi_wp2_with (refine ⟨trivial, ?_⟩; gi_at_call 92; refine (callsIn_wide.2 (HO.out _)).mono ?_; rintro e w2 ⟨rfl, rfl⟩)
  generalize hWr : World.alloc _ _ = Wr
  have hbr : Bel w Wr := by rw [← hWr]; exact ((((Bel.refl w).alloc _).alloc _).alloc _)
  have zr : Wr.heap.size = w.heap.size + 1 + 1 + 1 := by rw [← hWr]; simp only [World.size_alloc]
  have r1 : Wr.heap[w.heap.size + 1]? = some (.cells #[.bool false] 4 (0, 0)) := by rw [← hWr]; exact (old_row (by first | (simp; done) | (simp; omega) | omega)).trans (new_row (by first | rfl | (simp; done) | (simp; omega) | omega))
  have r2 : Wr.heap[w.heap.size + 1 + 1]? = some (.cells #[.int .i64 n.men, .slice ha n.holes.length hc, .slice pa n.prs.length pc] 121 (0, 0)) := by rw [← hWr]; exact new_row (by first | rfl | (simp; done) | (simp; omega) | omega)
  clear hWr
  have hgv : GivesTo2 Fence.wide (4 - 1) Tryd.prog 109 #[.pointer (some ⟨w.heap.size + 1 + 1, 0, none⟩)] (OrdAt (fun g => g = w.heap.size + 1)) (fun g => g = w.heap.size + 1) (ords n n.holes.length []) Wr :=
    orders1_gives n _ _ _ _ Wr (4 - 1) HM.out ((row_facts r2).1 0) ((row_facts r2).1 1) ((row_facts r2).1 2) (HH.out.bel hbr) (HP.out.bel hbr) (by show ¬ (_ = _); omega) (noD_new HH.out (fun g h => by omega)) (noD_prs HP.out (fun g h => by omega)) (fun g h => by omega)
  have H1 := Lib.hid ((row_facts r1).1 0)
  have H1F := Lib.hid ((row_facts r1).2 0)
  have HBR := Lib.hid hbr
  have hle : w.heap.size + 1 + 1 < Wr.heap.size := by omega
  clear r1 r2 zr HO HH HP HM hbr
  refine range_clo2 rfl (by omega) (gf := 109) (lb := #[.pointer (some ⟨w.heap.size + 1 + 1, 0, none⟩)]) rfl trivial (enters_of Tryd.func109 (by kernel_rfl) rfl) hgv
    (fun x vs W h => by obtain ⟨nv, rfl, _, _⟩ := h; rfl)
    (fun pre W => pre = [] ∧ Bel Wr W) (fun pre W => pre ≠ [] ∧ ords n n.holes.length [] ≠ [] ∧ Bel w W ∧ Wr.heap.size ≤ W.heap.size ∧ W.cell? ⟨w.heap.size + 1, 0, none⟩ = some (.bool true))
    (fun pre A B h q => ⟨h.1, Below.trans h.2 q.below⟩)
    (fun pre A B h q => ⟨h.1, h.2.1, Below.trans h.2.2.1 (q.below.mono (by omega)), Nat.le_trans h.2.2.2.1 q.below.size, q.keep.cell (fun h => h) h.2.2.2.2⟩) ⟨rfl, Bel.refl _⟩
    (fun x a' W => ∃ y : Value, a' = { tmps := #[.agg #[.int .i64 n.men, .slice ha n.holes.length hc, .slice pa n.prs.length pc], .pointer (some ⟨w.heap.size, 0, none⟩), .pointer (some ⟨w.heap.size + 1, 0, none⟩), .agg #[.int .i64 n.men, .slice ha n.holes.length hc, .slice pa n.prs.length pc], .func (.func 109) #[] #[.pointer (some ⟨w.heap.size + 1 + 1, 0, none⟩)], y], defers := [] })
    (fun x a' A B h q => h) ?assign ?body ?done ?stop
  case assign =>
    intro l pre x vs W3 K hat hI hK
    obtain ⟨nv, rfl, hbl, hfr⟩ := hat
    have HK := Lib.hid hK
    have HI := Lib.hid hI
    clear hK hI
    gi_wp2
    exact HK.out _ _ ((Bel.refl W3).keeps.from _) (KeepC.r _ _) HI.out ⟨nv, by simp⟩
  case body =>
    rintro l pre x a' W3 ⟨post, hpost⟩ ⟨rfl, hI⟩ ⟨y, rfl⟩
    have k1 := hI.cell H1.out
    have f1 := (hI.frozens ⟨w.heap.size + 1, 0, none⟩ (cell_lt H1.out)).trans H1F.out
    have hne : ords n n.holes.length [] ≠ [] := by rw [hpost]; simp
    have HN := Lib.hid hne
    have HI := Lib.hid hI
    clear hne hpost hI hgv
    gi_wp2
    exact ⟨(KeepsOthers.setCell _ _ _).from _, KeepC.set _ ⟨w.heap.size + 1, 0, none⟩ _ rfl, HN.out, (HBR.out.trans HI.out).setCell (p := ⟨w.heap.size + 1, 0, none⟩) (by show _ ≤ w.heap.size + 1; omega) _, HI.out.szle⟩
  case done =>
    rintro B W4 hB ⟨he, hI⟩ hBd
    have hBl := (Array.getElem?_eq_some_iff.1 hBd).1
    have hr : hasV n = false := by rw [HX.out, he]; rfl
    have HR := Lib.hid hr
    have k1 := hI.cell H1.out
    have f1 := (hI.frozens ⟨w.heap.size + 1, 0, none⟩ (cell_lt H1.out)).trans H1F.out
    have HI := Lib.hid hI
    have hmk : Marks w.heap.size W4 [{ target := .collected B, args := #[] }] W4.heap.size := ⟨B, rfl, by omega, hBl, hBd, trivial⟩
    have HMK := Lib.hid hmk
    have l1 := cell_lt k1
    clear hI hBd hgv he hr hmk
    gi_wp2
    have hb4 : Bel w (W4.setCell ⟨w.heap.size + 1, 0, none⟩ (.bool false)) := (HBR.out.trans HI.out).setCell (p := ⟨w.heap.size + 1, 0, none⟩) (by show _ ≤ w.heap.size + 1; omega) _
    have y4 : (W4.setCell ⟨w.heap.size + 1, 0, none⟩ (.bool false)).cell? ⟨w.heap.size + 1, 0, none⟩ = some (.bool false) := World.cell?_setCell_same _ _ _ (by rw [k1])
    refine leaves_marks (Marks.keep HMK.out (fun k _ _ hk => (KeepsOthers.setCell W4 ⟨w.heap.size + 1, 0, none⟩ (.bool false)).same k _ hk rfl)) (fun w' hk hbl hm => ?_)
    have y0 := hk.cell (fun h => h) y4
    refine ⟨.bool false, ?_, by rw [HR.out], Below.trans hb4 hbl⟩
    simp [results, Tryd.f91, go_sem, y0]
  case stop =>
    rintro B pre W4 hB ⟨_, hne, h1, h2, h3⟩ hBd
    have hBl := (Array.getElem?_eq_some_iff.1 hBd).1
    have hmk : Marks w.heap.size W4 [{ target := .collected B, args := #[] }] W4.heap.size := ⟨B, rfl, by omega, hBl, hBd, trivial⟩
    have hr : hasV n = true := by
      rw [HX.out]
      cases hh : ords n n.holes.length [] with
      | nil => exact absurd hh hne
      | cons a l => rfl
    have HMK := Lib.hid hmk
    have HA := Lib.hid (And.intro h1 h3)
    have HR := Lib.hid hr
    clear h1 h2 h3 hmk hBd hr hne
    gi_wp2
    refine leaves_marks HMK.out (fun w' hk hbl hm => ?_)
    obtain ⟨h1, h3⟩ := HA.out
    have y0 := hk.cell (fun h => h) h3
    refine ⟨.bool true, ?_, by rw [HR.out], Below.trans h1 hbl⟩
    simp [results, Tryd.f91, go_sem, y0]
end Go.Proofs.YtkdcdhkhadhcfaaDoor
