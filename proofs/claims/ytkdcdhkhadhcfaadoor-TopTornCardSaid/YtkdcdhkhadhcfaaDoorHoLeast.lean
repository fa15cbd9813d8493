/-
  mesh: the first order of which a number is the least, and the number.
-/
import Derived.Test.YtkdcdhkhadhcfaaDoorHoLook
namespace Go.Proofs.YtkdcdhkhadhcfaaDoor
set_option linter.unusedVariables false
open Go Go.RowKit Go.Shelf
attribute [local go_sem] Oper.semAt_some
set_option maxHeartbeats 8000000
set_option maxRecDepth 100000
theorem bestTo_app (f : List Int → Int) (l r : List (List Int)) : ∀ k, k ≤ l.length → bestTo f (l ++ r) k = bestTo f l k
  | 0, _ => rfl
  | k + 1, hk => by
    have ih := bestTo_app f l r k (by omega)
    have e : atL (l ++ r) k = atL l k := by unfold atL; simp [List.getD, List.getElem?_append_left (show k < l.length by omega)]
    unfold bestTo
    rw [ih, e]
theorem bestV_snoc (f : List Int → Int) (l : List (List Int)) (x : List Int) : bestV f (l ++ [x]) = match bestV f l with
    | none => some (x,  f x)
    | some (o, k) => if f x < k then some (x,  f x) else some (o, k) := by
  have e : atL (l ++ [x]) l.length = x := by unfold atL; simp [List.getD]
  unfold bestV
  rw [List.length_append, List.length_singleton]
  show (match bestTo f (l ++ [x]) l.length with | none => _ | some (o, x) => _) = _
  rw [bestTo_app f l [x] l.length (Nat.le_refl _), e]
theorem keep_frozen {D : Nat → Prop} {A B : World} (k : KeepC D A B) {b : Nat} {v : Value} (hd : ¬ D b) (hc : A.cell? ⟨b, 0, none⟩ = some v) (o : Nat) : B.frozen? ⟨b, o, none⟩ = A.frozen? ⟨b, o, none⟩ := by
  obtain ⟨ob, ho, hk⟩ := cells_of_cell hc
  unfold World.frozen?
  rw [k.block _ ob hd ho hk, ho]
/-- The choice, as far as it looked. -/
structure ChAt (D : Nat → Prop) (f : List Int → Int) (w Wr : World) (cb tb : Nat) (fv : Value) (pre : List (List Int)) (a : Option Addr) (l c : Nat) (kk : Int) (s : Bool) (W : World) : Prop where
  bel : Bel w W
  sz : Wr.heap.size ≤ W.heap.size
  c0 : W.cell? ⟨cb, 0, none⟩ = some (.slice a l c)
  c1 : W.cell? ⟨cb, 1, none⟩ = some (.int .i64 kk)
  c2 : W.cell? ⟨cb, 2, none⟩ = some (.bool s)
  f0 : ∀ o, W.frozen? ⟨cb, o, none⟩ = false
  t : W.cell? ⟨tb, 0, none⟩ = some fv
  nt : ¬ D tb
  no : s = false → bestV f pre = none
  yes : s = true → ∃ o, bestV f pre = some (o, kk) ∧ IntsAt W (.slice a l c) o ∧ NoD D (.slice a l c)
theorem ChAt.go {D : Nat → Prop} {f : List Int → Int} {w Wr : World} {cb tb : Nat} {fv : Value} {pre : List (List Int)} {a : Option Addr} {l c : Nat} {kk : Int} {s : Bool} {W W' : World} (h : ChAt D f w Wr cb tb fv pre a l c kk s W) (k : Bel W W') : ChAt D f w Wr cb tb fv pre a l c kk s W' :=
  ⟨h.bel.trans k, Nat.le_trans h.sz k.szle, k.cell h.c0, k.cell h.c1, k.cell h.c2, fun o => (k.frozens ⟨cb, o, none⟩ (show cb < W.heap.size from cell_lt h.c0)).trans (h.f0 o), k.cell h.t, h.nt, h.no, fun e => by obtain ⟨o, x1, x2, x3⟩ := h.yes e; exact ⟨o, x1, x2.bel k, x3⟩⟩
theorem ChAt.quiet {D : Nat → Prop} {f : List Int → Int} {w Wr : World} {cb tb : Nat} {fv : Value} {pre : List (List Int)} {a : Option Addr} {l c : Nat} {kk : Int} {s : Bool} {W W' : World} (h : ChAt D f w Wr cb tb fv pre a l c kk s W) (q : Quiet Wr.heap.size W W') (hw : w.heap.size ≤ Wr.heap.size) : ChAt D f w Wr cb tb fv pre a l c kk s W' :=
  ⟨Below.trans h.bel (q.below.mono hw), Nat.le_trans h.sz q.below.size, q.keep.cell (fun h => h) h.c0, q.keep.cell (fun h => h) h.c1, q.keep.cell (fun h => h) h.c2, fun o => (keep_frozen q.keep (fun h => h) h.c0 o).trans (h.f0 o), q.keep.cell (fun h => h) h.t, h.nt, h.no, fun e => by obtain ⟨o, x1, x2, x3⟩ := h.yes e; exact ⟨o, x1, ints_keep x2 (fun _ _ _ _ _ h => h) q.keep, x3⟩⟩
theorem ChAt.take {D : Nat → Prop} {f : List Int → Int} {w Wr : World} {cb tb : Nat} {fv : Value} {pre : List (List Int)} {a na : Option Addr} {l c nc : Nat} {kk : Int} {s : Bool} {W : World} {x : List Int} (h : ChAt D f w Wr cb tb fv pre a l c kk s W)
    (hD : D cb) (hw : w.heap.size ≤ cb) (ht : tb ≠ cb) (htk : s = false ∨ f x < kk) (hx : IntsAt W (.slice na x.length nc) x) (hn : NoD D (.slice na x.length nc)) :
    ChAt D f w Wr cb tb fv (pre ++ [x]) na x.length nc ( f x) true (((W.setCell ⟨cb, 0, none⟩ (.slice na x.length nc)).setCell ⟨cb, 1, none⟩ (.int .i64 ( f x))).setCell ⟨cb, 2, none⟩ (.bool true)) := by
  have hk : KeepC D W (((W.setCell ⟨cb, 0, none⟩ (.slice na x.length nc)).setCell ⟨cb, 1, none⟩ (.int .i64 ( f x))).setCell ⟨cb, 2, none⟩ (.bool true)) := ((KeepC.set _ ⟨cb, 0, none⟩ _ hD).t (KeepC.set _ ⟨cb, 1, none⟩ _ hD)).t (KeepC.set _ ⟨cb, 2, none⟩ _ hD)
  refine ⟨((h.bel.setCell (p := ⟨cb, 0, none⟩) hw _).setCell (p := ⟨cb, 1, none⟩) hw _).setCell (p := ⟨cb, 2, none⟩) hw _, Nat.le_trans h.sz hk.size, ?_, ?_, ?_, fun o => by rw [World.frozen?_setCell, World.frozen?_setCell, World.frozen?_setCell]; exact h.f0 o, hk.cell h.nt h.t, h.nt, fun e => absurd e (by simp), fun _ => ⟨x, ?_, ints_keep hx hn hk, hn⟩⟩
  · rw [World.cell?_setCell_other _ _ _ _ (by intro q; injection q with q1 q2; omega), World.cell?_setCell_other _ _ _ _ (by intro q; injection q with q1 q2; omega)]; exact World.cell?_setCell_same _ _ _ (by rw [h.c0])
  · rw [World.cell?_setCell_other _ _ _ _ (by intro q; injection q with q1 q2; omega)]; exact World.cell?_setCell_same _ _ _ (by rw [World.cell?_setCell_other _ _ _ _ (by intro q; injection q with q1 q2; omega), h.c1])
  · exact World.cell?_setCell_same _ _ _ (by rw [World.cell?_setCell_other _ _ _ _ (by intro q; injection q with q1 q2; omega), World.cell?_setCell_other _ _ _ _ (by intro q; injection q with q1 q2; omega), h.c2])
  · rw [bestV_snoc]
    cases s with
    | false => rw [h.no rfl]
    | true =>
      obtain ⟨o, h1, _⟩ := h.yes rfl
      rw [h1]
      rcases htk with e | e
      · cases e
      · exact if_pos e
theorem ChAt.skip {D : Nat → Prop} {f : List Int → Int} {w Wr : World} {cb tb : Nat} {fv : Value} {pre : List (List Int)} {a : Option Addr} {l c : Nat} {kk : Int} {W : World} {x : List Int} (h : ChAt D f w Wr cb tb fv pre a l c kk true W) (hx : kk ≤  f x) :
    ChAt D f w Wr cb tb fv (pre ++ [x]) a l c kk true W :=
  ⟨h.bel, h.sz, h.c0, h.c1, h.c2, h.f0, h.t, h.nt, fun e => absurd e (by simp), fun _ => by
    obtain ⟨o, h1, h2, h3⟩ := h.yes rfl
    refine ⟨o, ?_, h2, h3⟩
    rw [bestV_snoc, h1]
    exact if_neg (by omega)⟩
theorem least_any (n : MNet) (v : Value) (g : FuncId) (f : List Int → Int) (w : World) (hm : n.holes.length ≤ 1000000) (hv : MNetAt w v n) (hne : ords n n.holes.length [] ≠ []) (heg : ∀ args w, (callFunc g args).run Tryd.prog w = .ok (.enter g args) w)
    (hof : ∀ x ov wx, x ∈ ords n n.holes.length [] → Bel w wx → IntsAt wx ov x → Calls Tryd.prog g #[v, ov] wx fun e w' => e = .returned (.int .i64 ( f x)) ∧ Bel wx w') :
    Calls Tryd.prog 64 #[v, .func (.func g) #[v] #[]] w fun e w' => ∃ o k ov, bestV f (ords n n.holes.length []) = some (o, k) ∧ e = .returned (.tuple #[ov, .int .i64 k]) ∧ IntsAt w' ov o ∧ Bel w w' := by
  obtain ⟨ha, hc, pa, pc, rfl, hh, hp, hG, hQ⟩ := hv.open
  have HH := Lib.hid hh
  have HP := Lib.hid hp
  have HM := Lib.hid hm
  have HOF := Lib.hid hof
  have HNE := Lib.hid hne
  have HO := Lib.hid (fun wx => orders_any n.men (.slice ha n.holes.length hc) (.slice pa n.prs.length pc) wx ⟨_, _, _, _, rfl, rfl⟩ ⟨_, _, _, _, rfl, rfl⟩)
  clear hh hp hv hm hof hne
  refine (callsIn_wide (n := 4)).1 ?_
  refine callsIn_of_wp_marks Tryd.func64 rfl trivial ?_ rfl
  simp only [Tryd.ntmps64, List.size_toArray, List.length_cons, List.length_nil, Nat.reduceAdd, Nat.reduceSub, Array.replicate_succ, Array.replicate_zero, List.push_toArray, List.append_toArray, List.nil_append, List.cons_append]
  gi_wp2_with (refine ⟨trivial, ?_⟩; gi_at_call 92; refine (callsIn_wide.2 (HO.out _)).mono ?_; rintro e w2 ⟨rfl, rfl⟩)
  generalize hWr : World.alloc _ _ = Wr
  have hbr : Bel w Wr := by rw [← hWr]; exact (((((Bel.refl w).alloc _).alloc _).alloc _).alloc _)
  have zr : Wr.heap.size = w.heap.size + 1 + 1 + 1 + 1 := by rw [← hWr]; simp only [World.size_alloc]
  have r1 : ∃ T, Wr.heap[w.heap.size + 1]? = some (.cells #[.func (.func g) #[.agg #[.int .i64 n.men, .slice ha n.holes.length hc, .slice pa n.prs.length pc]] #[]] T (0, 0)) := ⟨_, by rw [← hWr]; exact (old_row (by first | (simp; done) | (simp; omega) | omega)).trans ((old_row (by first | (simp; done) | (simp; omega) | omega)).trans (new_row (by first | rfl | (simp; done) | (simp; omega) | omega)))⟩
  have r2 : ∃ T, Wr.heap[w.heap.size + 1 + 1]? = some (.cells #[.slice none 0 0, .int .i64 0, .bool false] T (0, 0)) := ⟨_, by rw [← hWr]; exact (old_row (by first | (simp; done) | (simp; omega) | omega)).trans (new_row (by first | rfl | (simp; done) | (simp; omega) | omega))⟩
  have r3 : ∃ T, Wr.heap[w.heap.size + 1 + 1 + 1]? = some (.cells #[.int .i64 n.men, .slice ha n.holes.length hc, .slice pa n.prs.length pc] T (0, 0)) := ⟨_, by rw [← hWr]; exact new_row (by first | rfl | (simp; done) | (simp; omega) | omega)⟩
  clear hWr
  obtain ⟨_, r1⟩ := r1
  obtain ⟨_, r2⟩ := r2
  obtain ⟨_, r3⟩ := r3
  have hgv : GivesTo2 Fence.wide (4 - 1) Tryd.prog 109 #[.pointer (some ⟨w.heap.size + 1 + 1 + 1, 0, none⟩)] (OrdAt (fun g => g = w.heap.size + 1 + 1)) (fun g => g = w.heap.size + 1 + 1) (ords n n.holes.length []) Wr :=
    orders1_gives n _ _ _ _ Wr (4 - 1) HM.out ((row_facts r3).1 0) ((row_facts r3).1 1) ((row_facts r3).1 2) (HH.out.bel hbr) (HP.out.bel hbr) (by show ¬ (_ = _); omega) (noD_new HH.out (fun g h => by omega)) (noD_prs HP.out (fun g h => by omega)) (fun g h => by omega)
  have hch : ChAt (fun g => g = w.heap.size + 1 + 1) f w Wr (w.heap.size + 1 + 1) (w.heap.size + 1) (.func (.func g) #[.agg #[.int .i64 n.men, .slice ha n.holes.length hc, .slice pa n.prs.length pc]] #[]) [] none 0 0 0 false Wr :=
    ⟨hbr, Nat.le_refl _, (row_facts r2).1 0, (row_facts r2).1 1, (row_facts r2).1 2, (row_facts r2).2, (row_facts r1).1 0, by show ¬ (_ = _); omega, fun _ => rfl, fun e => by cases e⟩
  have hwr : w.heap.size ≤ Wr.heap.size := by omega
  have hcr : w.heap.size + 1 + 1 < Wr.heap.size := by omega
  clear r1 r2 r3 zr HO HH HP HM hbr
  refine range_clo2 rfl (by omega) (gf := 109) (lb := #[.pointer (some ⟨w.heap.size + 1 + 1 + 1, 0, none⟩)]) rfl trivial (enters_of Tryd.func109 (by kernel_rfl) rfl) hgv
    (fun x vs W h => by obtain ⟨nv, rfl, _, _⟩ := h; rfl)
    (fun pre W => ∃ a l c kk s, ChAt (fun g => g = w.heap.size + 1 + 1) f w Wr (w.heap.size + 1 + 1) (w.heap.size + 1) (.func (.func g) #[.agg #[.int .i64 n.men, .slice ha n.holes.length hc, .slice pa n.prs.length pc]] #[]) pre a l c kk s W) (fun _ _ => False)
    (fun pre A B h q => by obtain ⟨a, l, c, kk, s, h⟩ := h; exact ⟨a, l, c, kk, s, h.quiet q hwr⟩)
    (fun pre A B h q => h) ⟨_, _, _, _, _, hch⟩
    (fun x a' W => ∃ na nc, a' = { tmps := #[.agg #[.int .i64 n.men, .slice ha n.holes.length hc, .slice pa n.prs.length pc], .func (.func g) #[.agg #[.int .i64 n.men, .slice ha n.holes.length hc, .slice pa n.prs.length pc]] #[], .pointer (some ⟨w.heap.size, 0, none⟩), .pointer (some ⟨w.heap.size + 1, 0, none⟩), .slice none 0 0, .int .i64 0, .pointer (some ⟨w.heap.size + 1 + 1, 0, none⟩), .slice na x.length nc, .agg #[.int .i64 n.men, .slice ha n.holes.length hc, .slice pa n.prs.length pc], .func (.func 109) #[] #[.pointer (some ⟨w.heap.size + 1 + 1 + 1, 0, none⟩)], .slice na x.length nc, undef, undef, undef, undef, undef, undef, undef, undef, undef], defers := [] } ∧ IntsAt W (.slice na x.length nc) x ∧ NoD (fun g => g = w.heap.size + 1 + 1) (.slice na x.length nc))
    (fun x a' A B h q => by obtain ⟨na, nc, h1, h2, h3⟩ := h; exact ⟨na, nc, h1, ints_keep h2 (fun _ _ _ _ _ h => h) q.keep, h3⟩) ?assign ?body ?done ?stop
  case assign =>
    intro l pre x vs W3 K hat hI hK
    obtain ⟨nv, rfl, hbl, hfr⟩ := hat
    obtain ⟨na, nc, _, _, rfl, _⟩ := id hbl
    have HK := Lib.hid hK
    have HI := Lib.hid hI
    clear hK hI
    gi_wp2
    exact HK.out _ _ ((Bel.refl W3).keeps.from _) (KeepC.r _ _) HI.out ⟨na, nc, by simp, hbl, hfr⟩
  case body =>
    rintro l pre x a' W3 ⟨post, hpost⟩ ⟨ca, cl, cc, kk, s, hI⟩ ⟨na, nc, rfl, hbl, hnd⟩
    have hmem : x ∈ ords n n.holes.length [] := by rw [hpost]; simp
    have HC := Lib.hid (HOF.out x _ W3 hmem hI.bel hbl)
    have HI := Lib.hid hI
    have HBL := Lib.hid hbl
    have HND := Lib.hid hnd
    have HS := Lib.hid (bestV_snoc f pre x)
    have t0 := hI.t
    have lt0 := cell_lt t0
    clear hpost hmem hI hbl hnd hgv hch
    by_cases htk : s = false ∨ f x < kk
    · have HLK := Lib.hid (fun wx (hx : Bel W3 wx) => look_take (w.heap.size + 1 + 1) na ca x.length nc cl cc (f x) kk s wx (HI.out.go hx).c0 (HI.out.go hx).c1 (HI.out.go hx).c2 (HI.out.go hx).f0 htk)
      have HTK := Lib.hid htk
      clear htk
      gi_wp2_with fail
      refine ⟨trivial, ?_⟩
      refine (CallsIn.inRound l (callsIn_wide.2 HC.out)).mono ?_
      rintro e w2 ⟨rfl, hb2⟩
      have HB2 := Lib.hid hb2
      clear hb2
      gi_wp2_with (refine ⟨trivial, ?_⟩; gi_at_call 93; refine (CallsIn.inRound l (callsIn_wide.2 (HLK.out _ HB2.out))).mono ?_; rintro e w3 ⟨⟨_, rfl⟩, rfl⟩)
      have hch := (HI.out.go HB2.out).take (x := x) (by rfl) (by omega) (by omega) HTK.out (HBL.out.bel HB2.out) HND.out
      have hk1 : KeepC (fun g => g = w.heap.size + 1 + 1) W3 (((w2.setCell ⟨w.heap.size + 1 + 1, 0, none⟩ (.slice na x.length nc)).setCell ⟨w.heap.size + 1 + 1, 1, none⟩ (.int .i64 (f x))).setCell ⟨w.heap.size + 1 + 1, 2, none⟩ (.bool true)) :=
        (KeepC.of_bel HB2.out).t (((KeepC.set (D := fun g => g = w.heap.size + 1 + 1) _ ⟨w.heap.size + 1 + 1, 0, none⟩ _ rfl).t (KeepC.set (D := fun g => g = w.heap.size + 1 + 1) _ ⟨w.heap.size + 1 + 1, 1, none⟩ _ rfl)).t (KeepC.set (D := fun g => g = w.heap.size + 1 + 1) _ ⟨w.heap.size + 1 + 1, 2, none⟩ _ rfl))
      exact ⟨(HB2.out.keeps.trans (((KeepsOthers.setCell _ _ _).trans (KeepsOthers.setCell _ _ _)).trans (KeepsOthers.setCell _ _ _))).from _, hk1, _, _, _, _, .inr hch⟩
    · have hs : s = true := by cases s; exact absurd (.inl rfl) htk; rfl
      subst hs
      have hkx : kk ≤ f x := by
        rcases Int.lt_or_le (f x) kk with q | q
        · exact absurd (.inr q) htk
        · exact q
      have HLK := Lib.hid (fun wx (hx : Bel W3 wx) => look_skip (w.heap.size + 1 + 1) na ca x.length nc cl cc (f x) kk wx (HI.out.go hx).c0 (HI.out.go hx).c1 (HI.out.go hx).c2 hkx)
      have HKX := Lib.hid hkx
      clear htk hkx
      gi_wp2_with fail
      refine ⟨trivial, ?_⟩
      refine (CallsIn.inRound l (callsIn_wide.2 HC.out)).mono ?_
      rintro e w2 ⟨rfl, hb2⟩
      have HB2 := Lib.hid hb2
      clear hb2
      gi_wp2_with (refine ⟨trivial, ?_⟩; gi_at_call 93; refine (CallsIn.inRound l (callsIn_wide.2 (HLK.out _ HB2.out))).mono ?_; rintro e w3 ⟨⟨_, rfl⟩, rfl⟩)
      exact ⟨HB2.out.keeps.from _, KeepC.of_bel HB2.out, _, _, _, _, .inr ((HI.out.go HB2.out).skip HKX.out)⟩
  case done =>
    rintro B W4 hB ⟨ca, cl, cc, kk, s, hI⟩ hBd
    have hs : s = true := by
      cases s with
      | true => rfl
      | false =>
        obtain ⟨o, k, h1, _⟩ := bestV_spec (f := f) HNE.out
        rw [hI.no rfl] at h1
        cases h1
    subst hs
    have hBl := (Array.getElem?_eq_some_iff.1 hBd).1
    have HMK := Lib.hid (show Marks w.heap.size W4 [{ target := .collected B, args := #[] }] W4.heap.size from ⟨B, rfl, by omega, hBl, hBd, trivial⟩)
    have HI := Lib.hid hI
    have c0 := hI.c0
    have c1 := hI.c1
    have l0 := cell_lt c0
    clear hI hBd hgv hch
    gi_wp2
    refine wpIn_wide.2 ?_
    refine wp_region_mixB (Plan.seq [0, 1, 2, 3, 4, 5] .nil) (by kernel_rfl) (by kernel_rfl) (fun hcur => ?_)
    simp only [Plan.seq, Plan.fill, List.getD_cons_zero, List.getD_cons_succ, Nat.reduceLT, ↓reduceIte]
    apply mix_pure _ rfl
    · intro w' hw'
      have hcr := hw'.cells
      go_simp
      rfl
    intro K hK
    go_simp
    refine hK _ ?_
    clear hK K
    apply mix_pure _ rfl
    · intro w' hw'
      have hcr := hw'.cells
      go_simp
      rfl
    intro K hK
    go_simp
    refine hK _ ?_
    clear hK K
    apply mix_pure _ rfl
    · intro w' hw'
      have hcr := hw'.cells
      go_simp
      rfl
    intro K hK
    go_simp
    refine hK _ ?_
    clear hK K
    apply mix_pure _ rfl
    · intro w' hw'
      have hcr := hw'.cells
      go_simp
      rfl
    intro K hK
    go_simp
    refine hK _ ?_
    clear hK K
    apply mix_pure _ rfl
    · intro w' hw'
      have hcr := hw'.cells
      go_simp
      rfl
    intro K hK
    go_simp
    refine hK _ ?_
    clear hK K
    apply mix_pure _ rfl
    · intro w' hw'
      have hcr := hw'.cells
      go_simp
      rfl
    intro K hK
    go_simp
    refine hK _ ?_
    clear hK K
    refine mix_nil ?_
    have HB5 := Lib.hid hcur
    clear hcur
    gi_wp2
    refine leaves_marks (Marks.keep HMK.out (fun k _ _ hk => hk)) (fun w' hk hbl hm => ?_)
    obtain ⟨o, h1, h2, h3⟩ := HI.out.yes rfl
    refine ⟨.tuple #[.slice ca cl cc, .int .i64 kk], ?_, o, kk, .slice ca cl cc, h1, rfl, ints_keep (h2.bel HB5.out) (fun _ _ _ _ _ h => h) hk, Below.trans (HI.out.bel.trans HB5.out) hbl⟩
    simp [results, Tryd.f64, go_sem]
  case stop => exact fun B pre W _ h _ => h.elim
end Go.Proofs.YtkdcdhkhadhcfaaDoor
