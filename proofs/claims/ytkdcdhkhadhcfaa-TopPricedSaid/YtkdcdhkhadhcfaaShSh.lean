/-
  shares: the program: share.
-/
import Derived.Test.YtkdcdhkhadhcfaaShSp
import Derived.Test.YtkdcdhkhadhcfaaCtRf2
namespace Go.Proofs.Ytkdcdhkhadhcfaa
open Go Go.RowKit
set_option maxHeartbeats 8000000
set_option maxRecDepth 100000
theorem nw_at {w W : World} {cs : List Value} {T : TypeId} (h : (w.alloc (.cells cs.toArray T)).drew = W) : Bel w W ∧ Bx W w.heap.size cs := by
  subst h
  exact ⟨((Bel.refl w).alloc _).drew, (Bx.new rfl).bel (Bel.refl _).drew⟩
theorem nw_at2 {w W : World} {cs : List Value} {T : TypeId} (h : w.alloc (.cells cs.toArray T) = W) : Bel w W ∧ Bx W w.heap.size cs := by
  subst h
  exact ⟨(Bel.refl w).alloc _, Bx.new rfl⟩
/-- While the two lists are made. -/
structure Sh0 (w : World) (gc gb : Nat) (cv : Value) (q : World) : Prop where
  bel : Bel w q
  c : Bx q gc [cv]
  b : ∃ u, Bx q gb [u]
theorem Sh0.go {w : World} {gc gb : Nat} {cv : Value} {q q' : World} (h : Sh0 w gc gb cv q) (k : Bel q q') : Sh0 w gc gb cv q' := ⟨h.bel.trans k, h.c.bel k, by obtain ⟨u, hu⟩ := h.b; exact ⟨u, hu.bel k⟩⟩
theorem Sh0.put {w : World} {gc gb : Nat} {cv : Value} {q : World} (h : Sh0 w gc gb cv q) (hg : w.heap.size ≤ gb ∧ gb ≠ gc) (v : Value) : Sh0 w gc gb cv (q.setCell ⟨gb, 0, none⟩ v) ∧ Bx (q.setCell ⟨gb, 0, none⟩ v) gb [v] := by
  obtain ⟨u, hu⟩ := h.b
  have hs := hu.set (i := 0) (by simp) v
  exact ⟨⟨h.bel.setCell (p := ⟨gb, 0, none⟩) hg.1 _, h.c.other hg.2 _, ⟨_, hs⟩⟩, hs⟩
/-- The two lists. -/
structure ShSt (w : World) (gc gb gg gk L : Nat) (cv : Value) (G K : List Int) (W : World) : Prop where
  bel : Bel w W
  c : Bx W gc [cv]
  b : Bx W gb [.slice (some ⟨gg, 0, none⟩) L L]
  g : Bx W gg (icells G)
  k : Bx W gk (icells K)
  gl : G.length = L
  kl : K.length = L
theorem ShSt.go {w : World} {gc gb gg gk L : Nat} {cv : Value} {G K : List Int} {W W' : World} (h : ShSt w gc gb gg gk L cv G K W) (q : Bel W W') : ShSt w gc gb gg gk L cv G K W' := ⟨h.bel.trans q, h.c.bel q, h.b.bel q, h.g.bel q, h.k.bel q, h.gl, h.kl⟩
theorem ShSt.turn {w : World} {gc gb gg gk L : Nat} {cv : Value} {G G' K : List Int} {W W' : World} (h : ShSt w gc gb gg gk L cv G K W) (t : Turn gg 0 L W W') (hg : Bx W' gg (icells G')) (hl : G'.length = L) (hn : w.heap.size ≤ gg ∧ gc ≠ gg ∧ gb ≠ gg ∧ gk ≠ gg) : ShSt w gc gb gg gk L cv G' K W' :=
  ⟨t.bel h.bel hn.1, h.c.turn t hn.2.1, h.b.turn t hn.2.2.1, hg, h.k.turn t hn.2.2.2, hl, h.kl⟩
theorem ShSt.setK {w : World} {gc gb gg gk L : Nat} {cv : Value} {G K : List Int} {W : World} (h : ShSt w gc gb gg gk L cv G K W) (hn : w.heap.size ≤ gk ∧ gk ≠ gc ∧ gk ≠ gb ∧ gk ≠ gg) {i : Nat} (hi : i < L) (y : Int) : ShSt w gc gb gg gk L cv G (K.set i y) (W.setCell ⟨gk, i, none⟩ (.int .i64 y)) :=
  ⟨h.bel.setCell (p := ⟨gk, i, none⟩) hn.1 _, h.c.other hn.2.1 _, h.b.other hn.2.2.1 _, h.g.other hn.2.2.2 _, by
    have := h.k.set (i := i) (by rw [icells_len, h.kl]; exact hi) (.int .i64 y)
    unfold icells at this ⊢
    rw [List.map_set]
    exact this, h.gl, by rw [List.length_set]; exact h.kl⟩
theorem ShSt.setG {w : World} {gc gb gg gk L : Nat} {cv : Value} {G K : List Int} {W : World} (h : ShSt w gc gb gg gk L cv G K W) (hn : w.heap.size ≤ gg ∧ gg ≠ gc ∧ gg ≠ gb ∧ gg ≠ gk) {i : Nat} (hi : i < L) (y : Int) : ShSt w gc gb gg gk L cv (G.set i y) K (W.setCell ⟨gg, i, none⟩ (.int .i64 y)) :=
  ⟨h.bel.setCell (p := ⟨gg, i, none⟩) hn.1 _, h.c.other hn.2.1 _, h.b.other hn.2.2.1 _, by
    have := h.g.set (i := i) (by rw [icells_len, h.gl]; exact hi) (.int .i64 y)
    unfold icells at this ⊢
    rw [List.map_set]
    exact this, h.k.other hn.2.2.2 _, by rw [List.length_set]; exact h.gl, h.kl⟩
theorem icells_at {c : List Int} {i : Nat} (h : i < c.length) : (icells c)[i]? = some (.int .i64 (at0 c i)) := by
  unfold icells
  rw [List.getElem?_map, List.getElem?_eq_getElem h]
  unfold at0
  rw [getD_lt c i 0 h]; rfl
theorem share_any (l : List SNd) (p : Int) (v : Value) (w : World) (ht : CusOk l) (hp : 0 ≤ p ∧ p ≤ 400) (hv : CusAt w v l) :
    Calls Try.prog 66 #[v, .int .i64 p] w fun e w' => ∃ gg gk : Nat, e = .returned (.tuple #[.slice (some ⟨gg, 0, none⟩) l.length l.length, .slice (some ⟨gk, 0, none⟩) l.length l.length]) ∧ Bx w' gg (icells (getsV l p)) ∧ Bx w' gk (icells (kpTo l p l.length)) ∧ Bel w w' := by
  have HT := Lib.hid ht
  have h1 := ht.l1
  have h8 := ht.l8
  obtain ⟨s, rfl, hs⟩ := hv
  have HS := Lib.hid hs
  obtain ⟨a, c, b, off, rfl, ha, _, hc⟩ := hs
  have HAB : Hid (∀ bb, a = some bb → 0 < l.length → bb.block < w.heap.size) := Lib.hid (by
    intro bb hb h0
    have := ha h0
    rw [hb] at this
    injection this with this
    subst this
    exact cell_lt (hc 0 h0).1)
  have hmk := run_make_ints l.length (by omega)
  clear ha hc ht
  obtain ⟨hp0, hp1⟩ := hp
  go_enter Try.func66, Try.ntmps66
  go_upto_region 1 with fail
  generalize hW : World.alloc _ _ = W0
  obtain ⟨gc, hgc⟩ : ∃ k, k = w.heap.size := ⟨_, rfl⟩
  obtain ⟨gb, hgb⟩ : ∃ k, k = w.heap.size + 1 := ⟨_, rfl⟩
  rw [← hgb, ← hgc]
  have HS0 : Hid (Sh0 w gc gb (.slice a l.length c) W0) := Lib.hid (by
    rw [← hW]
    exact ⟨((Bel.refl w).alloc _).alloc _, (Bx.new hgc).bel ((Bel.refl _).alloc _), ⟨_, Bx.new (by rw [hgb]; simp)⟩⟩)
  have HGN := Lib.hid (show w.heap.size ≤ gb ∧ gb ≠ gc by omega)
  have HGW := Lib.hid (show w.heap.size ≤ gc ∧ gc < W0.heap.size ∧ gb < W0.heap.size by rw [← hW]; simp only [World.size_alloc]; omega)
  have hd0 : Sh0 w gc gb (.slice a l.length c) W0.drew := HS0.out.go (Bel.refl _).drew
  obtain ⟨_, hgcw, hgbw⟩ := HGW.out
  clear hW hgc hgb
  go_cut [5] (fun s5 wx => ∃ gg gk : Nat, s5 = .slice (some ⟨gk, 0, none⟩) l.length l.length ∧ Hid (ShSt w gc gb gg gk l.length (.slice a l.length c) (List.replicate l.length 0) (List.replicate l.length 0) wx) ∧ Hid (W0.heap.size ≤ gg ∧ W0.heap.size ≤ gk ∧ gg ≠ gk))
  case first =>
    refine wp_region_mixC (Plan.seq [0, 1, 2, 3, 5, 6, 7, 8] (.both 4 (.both 9 (Plan.seq [1010, 11] .nil) 10 (Plan.seq [1009, 11] .nil)) 9 (Plan.seq [1004, 1010, 11] .nil))) (fun q => Sh0 w gc gb (.slice a l.length c) q) (by kernel_rfl) (by kernel_rfl) (hd0) (fun hcur => ?_)
    simp only [Plan.seq, Plan.fill, List.getD_cons_zero, List.getD_cons_succ, Nat.reduceLT, ↓reduceIte, Nat.reduceSub]
    apply mix_pure _ rfl
    · intro w' hw'
      have x0 := hw'.c.c 0 _ rfl
      go_simp
      rfl
    intro K hK
    go_simp
    refine hK _ ?_
    clear hK K
    apply mix_pure _ rfl
    · intro w' hw'
      have x0 := hw'.c.c 0 _ rfl
      go_simp
      rfl
    intro K hK
    go_simp
    refine hK _ ?_
    clear hK K
    apply mix_pure _ rfl
    · intro w' hw'
      have x0 := hw'.c.c 0 _ rfl
      go_simp
      rfl
    intro K hK
    go_simp
    refine hK _ ?_
    clear hK K
    apply mix_pure _ rfl
    · intro w' hw'
      have x0 := hw'.c.c 0 _ rfl
      go_simp
      rfl
    intro K hK
    go_simp
    refine hK _ ?_
    clear hK K
    apply mix_pure _ rfl
    · intro w' hw'
      have x0 := hw'.c.c 0 _ rfl
      go_simp
      rfl
    intro K hK
    go_simp
    refine hK _ ?_
    clear hK K
    apply mix_pure _ rfl
    · intro w' hw'
      have x0 := hw'.c.c 0 _ rfl
      go_simp
      rfl
    intro K hK
    go_simp
    refine hK _ ?_
    clear hK K
    apply mix_pure _ rfl
    · intro w' hw'
      have x0 := hw'.c.c 0 _ rfl
      go_simp
      rfl
    intro K hK
    go_simp
    refine hK _ ?_
    clear hK K
    apply mix_pure _ rfl
    · intro w' hw'
      have x0 := hw'.c.c 0 _ rfl
      go_simp
      rfl
    intro K hK
    go_simp
    refine hK _ ?_
    clear hK K
    refine mix_both ?_ ?_
    · refine mix_act rfl (fun K hK => ?_)
      go_simp
      first
        | (generalize hWA : World.drew (World.alloc _ _) = WA; have hna := nw_at hWA; have HGA := Lib.hid hna.2; refine hK _ _ (HS0.out.go hna.1) (fun hcur => ?_); have hzA : W0.heap.size < WA.heap.size := HGA.out.lt; clear hK K hna hWA)
        | (generalize hWA : World.alloc _ _ = WB; have hna := nw_at2 hWA; have HGA := Lib.hid hna.2; refine hK _ _ (hcur.go hna.1) (fun hcur => ?_); replace HKA := Lib.hid (HKA.out.bel hna.1); clear hK K hna hWA)
      refine mix_both ?_ ?_
      · refine mix_act rfl (fun K hK => ?_)
        go_simp
        first
          | (generalize hWA : World.drew (World.alloc _ _) = WA; have hna := nw_at hWA; have HKA := Lib.hid hna.2; refine hK _ _ (HS0.out.go hna.1) (fun hcur => ?_); have hzA : W0.heap.size < WA.heap.size := HKA.out.lt; clear hK K hna hWA)
          | (generalize hWA : World.alloc _ _ = WB; have hna := nw_at2 hWA; have HKA := Lib.hid hna.2; refine hK _ _ (hcur.go hna.1) (fun hcur => ?_); replace HGA := Lib.hid (HGA.out.bel hna.1); try replace HBS := Lib.hid (HBS.out.bel hna.1); clear hK K hna hWA)
        refine mix_act rfl (fun K hK => ?_)
        obtain ⟨u0, hu0⟩ := hcur.b
        have x0 := hu0.c 0 _ rfl
        have xf := hu0.f
        have xl := hu0.lt
        go_simp
        generalize hWS : World.setCell _ _ _ = WS
        first
          | (have hcs := hcur.put HGN.out (.slice (some ⟨W0.heap.size, 0, none⟩) l.length l.length); rw [hWS] at hcs; have HBS := Lib.hid hcs.2; refine hK _ _ hcs.1 (fun hcur => ?_))
          | (have hcs := hcur.put HGN.out (.slice (some ⟨WA.heap.size, 0, none⟩) l.length l.length); rw [hWS] at hcs; have HBS := Lib.hid hcs.2; refine hK _ _ hcs.1 (fun hcur => ?_))
        first
          | (replace HGA := Lib.hid (HGA.out.other (q := gb) (i := 0) (by omega) (.slice (some ⟨W0.heap.size, 0, none⟩) l.length l.length)); rw [hWS] at HGA)
          | (replace HGA := Lib.hid (HGA.out.other (q := gb) (i := 0) (by omega) (.slice (some ⟨WA.heap.size, 0, none⟩) l.length l.length)); rw [hWS] at HGA)
        try first
          | (replace HKA := Lib.hid (HKA.out.other (q := gb) (i := 0) (by omega) (.slice (some ⟨W0.heap.size, 0, none⟩) l.length l.length)); rw [hWS] at HKA)
          | (replace HKA := Lib.hid (HKA.out.other (q := gb) (i := 0) (by omega) (.slice (some ⟨WA.heap.size, 0, none⟩) l.length l.length)); rw [hWS] at HKA)
        have hzS : W0.heap.size < WS.heap.size := by first | exact HGA.out.lt | exact HKA.out.lt
        clear hK K u0 hu0 x0 xf xl hcs
        clear hWS
        apply mix_pure _ rfl
        · intro w' hw'
          have x0 := hw'.c.c 0 _ rfl
          go_simp
          rfl
        intro K hK
        go_simp
        refine hK _ ?_
        clear hK K
        refine mix_nil ?_
        go_wp2_with fail
        go_meet
        first
          | exact ⟨W0.heap.size, WA.heap.size, rfl, Lib.hid ⟨hcur.bel, hcur.c, HBS.out, by simpa [icells] using HGA.out, by simpa [icells] using HKA.out, by simp, by simp⟩, Lib.hid ⟨by omega, by omega, by omega⟩⟩
          | exact ⟨W0.heap.size, WS.heap.size, rfl, Lib.hid ⟨hcur.bel, hcur.c, HBS.out, by simpa [icells] using HGA.out, by simpa [icells] using HKA.out, by simp, by simp⟩, Lib.hid ⟨by omega, by omega, by omega⟩⟩
          | exact ⟨WA.heap.size, W0.heap.size, rfl, Lib.hid ⟨hcur.bel, hcur.c, HBS.out, by simpa [icells] using HGA.out, by simpa [icells] using HKA.out, by simp, by simp⟩, Lib.hid ⟨by omega, by omega, by omega⟩⟩
      · refine mix_act rfl (fun K hK => ?_)
        obtain ⟨u0, hu0⟩ := hcur.b
        have x0 := hu0.c 0 _ rfl
        have xf := hu0.f
        have xl := hu0.lt
        go_simp
        generalize hWS : World.setCell _ _ _ = WS
        first
          | (have hcs := hcur.put HGN.out (.slice (some ⟨W0.heap.size, 0, none⟩) l.length l.length); rw [hWS] at hcs; have HBS := Lib.hid hcs.2; refine hK _ _ hcs.1 (fun hcur => ?_))
          | (have hcs := hcur.put HGN.out (.slice (some ⟨WA.heap.size, 0, none⟩) l.length l.length); rw [hWS] at hcs; have HBS := Lib.hid hcs.2; refine hK _ _ hcs.1 (fun hcur => ?_))
        first
          | (replace HGA := Lib.hid (HGA.out.other (q := gb) (i := 0) (by omega) (.slice (some ⟨W0.heap.size, 0, none⟩) l.length l.length)); rw [hWS] at HGA)
          | (replace HGA := Lib.hid (HGA.out.other (q := gb) (i := 0) (by omega) (.slice (some ⟨WA.heap.size, 0, none⟩) l.length l.length)); rw [hWS] at HGA)
        try first
          | (replace HKA := Lib.hid (HKA.out.other (q := gb) (i := 0) (by omega) (.slice (some ⟨W0.heap.size, 0, none⟩) l.length l.length)); rw [hWS] at HKA)
          | (replace HKA := Lib.hid (HKA.out.other (q := gb) (i := 0) (by omega) (.slice (some ⟨WA.heap.size, 0, none⟩) l.length l.length)); rw [hWS] at HKA)
        have hzS : W0.heap.size < WS.heap.size := by first | exact HGA.out.lt | exact HKA.out.lt
        clear hK K u0 hu0 x0 xf xl hcs
        clear hWS
        refine mix_act rfl (fun K hK => ?_)
        go_simp
        first
          | (generalize hWA : World.drew (World.alloc _ _) = WA; have hna := nw_at hWA; have HKA := Lib.hid hna.2; refine hK _ _ (HS0.out.go hna.1) (fun hcur => ?_); have hzA : W0.heap.size < WA.heap.size := HKA.out.lt; clear hK K hna hWA)
          | (generalize hWA : World.alloc _ _ = WB; have hna := nw_at2 hWA; have HKA := Lib.hid hna.2; refine hK _ _ (hcur.go hna.1) (fun hcur => ?_); replace HGA := Lib.hid (HGA.out.bel hna.1); try replace HBS := Lib.hid (HBS.out.bel hna.1); clear hK K hna hWA)
        apply mix_pure _ rfl
        · intro w' hw'
          have x0 := hw'.c.c 0 _ rfl
          go_simp
          rfl
        intro K hK
        go_simp
        refine hK _ ?_
        clear hK K
        refine mix_nil ?_
        go_wp2_with fail
        go_meet
        first
          | exact ⟨W0.heap.size, WA.heap.size, rfl, Lib.hid ⟨hcur.bel, hcur.c, HBS.out, by simpa [icells] using HGA.out, by simpa [icells] using HKA.out, by simp, by simp⟩, Lib.hid ⟨by omega, by omega, by omega⟩⟩
          | exact ⟨W0.heap.size, WS.heap.size, rfl, Lib.hid ⟨hcur.bel, hcur.c, HBS.out, by simpa [icells] using HGA.out, by simpa [icells] using HKA.out, by simp, by simp⟩, Lib.hid ⟨by omega, by omega, by omega⟩⟩
          | exact ⟨WA.heap.size, W0.heap.size, rfl, Lib.hid ⟨hcur.bel, hcur.c, HBS.out, by simpa [icells] using HGA.out, by simpa [icells] using HKA.out, by simp, by simp⟩, Lib.hid ⟨by omega, by omega, by omega⟩⟩
    · refine mix_act rfl (fun K hK => ?_)
      go_simp
      first
        | (generalize hWA : World.drew (World.alloc _ _) = WA; have hna := nw_at hWA; have HKA := Lib.hid hna.2; refine hK _ _ (HS0.out.go hna.1) (fun hcur => ?_); have hzA : W0.heap.size < WA.heap.size := HKA.out.lt; clear hK K hna hWA)
        | (generalize hWA : World.alloc _ _ = WB; have hna := nw_at2 hWA; have HKA := Lib.hid hna.2; refine hK _ _ (hcur.go hna.1) (fun hcur => ?_); replace HGA := Lib.hid (HGA.out.bel hna.1); try replace HBS := Lib.hid (HBS.out.bel hna.1); clear hK K hna hWA)
      refine mix_act rfl (fun K hK => ?_)
      go_simp
      first
        | (generalize hWA : World.drew (World.alloc _ _) = WA; have hna := nw_at hWA; have HGA := Lib.hid hna.2; refine hK _ _ (HS0.out.go hna.1) (fun hcur => ?_); have hzA : W0.heap.size < WA.heap.size := HGA.out.lt; clear hK K hna hWA)
        | (generalize hWA : World.alloc _ _ = WB; have hna := nw_at2 hWA; have HGA := Lib.hid hna.2; refine hK _ _ (hcur.go hna.1) (fun hcur => ?_); replace HKA := Lib.hid (HKA.out.bel hna.1); clear hK K hna hWA)
      refine mix_act rfl (fun K hK => ?_)
      obtain ⟨u0, hu0⟩ := hcur.b
      have x0 := hu0.c 0 _ rfl
      have xf := hu0.f
      have xl := hu0.lt
      go_simp
      generalize hWS : World.setCell _ _ _ = WS
      first
        | (have hcs := hcur.put HGN.out (.slice (some ⟨W0.heap.size, 0, none⟩) l.length l.length); rw [hWS] at hcs; have HBS := Lib.hid hcs.2; refine hK _ _ hcs.1 (fun hcur => ?_))
        | (have hcs := hcur.put HGN.out (.slice (some ⟨WA.heap.size, 0, none⟩) l.length l.length); rw [hWS] at hcs; have HBS := Lib.hid hcs.2; refine hK _ _ hcs.1 (fun hcur => ?_))
      first
        | (replace HGA := Lib.hid (HGA.out.other (q := gb) (i := 0) (by omega) (.slice (some ⟨W0.heap.size, 0, none⟩) l.length l.length)); rw [hWS] at HGA)
        | (replace HGA := Lib.hid (HGA.out.other (q := gb) (i := 0) (by omega) (.slice (some ⟨WA.heap.size, 0, none⟩) l.length l.length)); rw [hWS] at HGA)
      try first
        | (replace HKA := Lib.hid (HKA.out.other (q := gb) (i := 0) (by omega) (.slice (some ⟨W0.heap.size, 0, none⟩) l.length l.length)); rw [hWS] at HKA)
        | (replace HKA := Lib.hid (HKA.out.other (q := gb) (i := 0) (by omega) (.slice (some ⟨WA.heap.size, 0, none⟩) l.length l.length)); rw [hWS] at HKA)
      have hzS : W0.heap.size < WS.heap.size := by first | exact HGA.out.lt | exact HKA.out.lt
      clear hK K u0 hu0 x0 xf xl hcs
      clear hWS
      apply mix_pure _ rfl
      · intro w' hw'
        have x0 := hw'.c.c 0 _ rfl
        go_simp
        rfl
      intro K hK
      go_simp
      refine hK _ ?_
      clear hK K
      refine mix_nil ?_
      go_wp2_with fail
      go_meet
      first
        | exact ⟨W0.heap.size, WA.heap.size, rfl, Lib.hid ⟨hcur.bel, hcur.c, HBS.out, by simpa [icells] using HGA.out, by simpa [icells] using HKA.out, by simp, by simp⟩, Lib.hid ⟨by omega, by omega, by omega⟩⟩
        | exact ⟨W0.heap.size, WS.heap.size, rfl, Lib.hid ⟨hcur.bel, hcur.c, HBS.out, by simpa [icells] using HGA.out, by simpa [icells] using HKA.out, by simp, by simp⟩, Lib.hid ⟨by omega, by omega, by omega⟩⟩
        | exact ⟨WA.heap.size, W0.heap.size, rfl, Lib.hid ⟨hcur.bel, hcur.c, HBS.out, by simpa [icells] using HGA.out, by simpa [icells] using HKA.out, by simp, by simp⟩, Lib.hid ⟨by omega, by omega, by omega⟩⟩
  case rest =>
    obtain ⟨gg, gk, rfl, HST, HDI⟩ := hcut
    obtain ⟨d1, d2, d3⟩ := HDI.out
    have hwW : w.heap.size ≤ W0.heap.size := by omega
    have HN1 := Lib.hid (show w.heap.size ≤ gg ∧ gc ≠ gg ∧ gb ≠ gg ∧ gk ≠ gg by omega)
    have HN2 := Lib.hid (show w.heap.size ≤ gg ∧ gg ≠ gc ∧ gg ≠ gb ∧ gg ≠ gk by omega)
    have HN3 := Lib.hid (show w.heap.size ≤ gk ∧ gk ≠ gc ∧ gk ≠ gb ∧ gk ≠ gg by omega)
    have HND := Lib.hid (fun bb (hb : a = some bb) (h0 : 0 < l.length) => show bb.block ≠ gg from by have := HAB.out bb hb h0; omega)
    have hix := idxInts (n := l.length) (c := l.length) (b := gg) (off := 0) (a := some ⟨gg, 0, none⟩) (fun _ => rfl)
    have hixk := idxInts (n := l.length) (c := l.length) (b := gk) (off := 0) (a := some ⟨gk, 0, none⟩) (fun _ => rfl)
    simp only [Nat.zero_add] at hix hixk
    have hpos : (0 : Int) < (l.length : Int) := by omega
    have hpos2 : 0 < l.length := by omega
    have hix0 : ∀ wx : World, (Instr.indexAt 26 (.slice (some ⟨gg, 0, none⟩) l.length l.length) (.int .i64 0)).run Try.prog wx = .ok (.pointer (some ⟨gg, 0, none⟩)) wx := fun wx => hix wx 0 hpos2
    have b0 := HST.out.b.c 0 _ rfl
    have lb := cell_lt b0
    have c0 := HST.out.c.c 0 _ rfl
    have lc := cell_lt c0
    have g0 := HST.out.g.c 0 _ (icells_at (by rw [HST.out.gl]; exact hpos2))
    have gf := HST.out.g.f 0
    have lg := cell_lt g0
    have HC2 := Lib.hid (HST.out.setG HN2.out hpos2 p)
    have c2 := HC2.out.c.c 0 _ rfl
    have lc2 := cell_lt c2
    have hmf : ∀ (fn : Fn) (first cap : Array Value) (w : World), (Instr.makeFunc fn first cap).run Try.prog w = .ok (.func fn first cap) w := fun _ _ _ _ => rfl
    clear hmk HS0 hd0
    go_wp2_with fail
    generalize hW2 : World.setCell _ _ _ = W2
    rw [hW2] at HC2
    clear hW2 b0 lb c0 lc g0 gf lg c2 lc2 HST
    go_loopw [24] (fun i wr => ∃ k : Nat, k ≤ l.length ∧ i = .int .i64 k ∧ Hid (ShSt w gc gb gg gk l.length (.slice a l.length c) (shTo l p k) (kpTo l p k) wr)) (fun i _ => l.length - (intOf i).toNat)
    case atStart => exact ⟨0, by omega, rfl, HC2⟩
    case round =>
      clear HC2
      obtain ⟨k, hk, rfl, HST⟩ := hrel
      by_cases hlt : k < l.length
      · have hlti : (k : Int) < (l.length : Int) := by omega
        have hq := sh_q HT.out hp0 hlt
        have HSN := Lib.hid (show shTo l p (k + 1) = giveTo l (k : Int) (at0 (shTo l p k) k) (shTo l p k) from rfl)
        have HKN := Lib.hid (show kpTo l p (k + 1) = (kpTo l p k).set k (keepV l (k : Int) (at0 (shTo l p k) k)) from rfl)
        have HSP := Lib.hid (fun wx (hb : Bel wr wx) => split_any l k (at0 (shTo l p k) k) (shTo l p k) a c gb gg wx HT.out hlt (by rw [hq.1]; omega) (HS.out.bel (HST.out.bel.trans hb)) (hb.cell (HST.out.b.c 0 _ rfl)) (HST.out.g.bel hb) HST.out.gl HN1.out.2.2.1 HND.out)
        have HLN := Lib.hid (show ∀ q, (giveTo l (k : Int) q (shTo l p k)).length = l.length from fun q => by unfold giveTo; rw [gv_len, HST.out.gl])
        have g7 := (Bel.refl wr).drew.cell (HST.out.g.c k _ (icells_at (by rw [HST.out.gl]; exact hlt)))
        have lg7 := cell_lt g7
        clear hq
        generalize at0 (shTo l p k) k = q at *
        go_wp2_with fail
        refine wp_region_mixC (Plan.seq [0, 1, 2, 3, 4, 5, 6, 8, 1007, 1009, 10, 1011] .nil) (fun q => ∃ G K, ShSt w gc gb gg gk l.length (.slice a l.length c) G K q) (by kernel_rfl) (by kernel_rfl) (⟨_, _, HST.out.go (Bel.refl _).drew⟩) (fun hcur => ?_)
        simp only [Plan.seq, Plan.fill, List.getD_cons_zero, List.getD_cons_succ, Nat.reduceLT, ↓reduceIte, Nat.reduceSub]
        apply mix_pure _ rfl
        · rintro w' ⟨_, _, hw'⟩
          have x0 := hw'.c.c 0 _ rfl
          have b0 := hw'.b.c 0 _ rfl
          go_simp
          rfl
        intro K hK
        go_simp
        refine hK _ ?_
        clear hK K
        apply mix_pure _ rfl
        · rintro w' ⟨_, _, hw'⟩
          have x0 := hw'.c.c 0 _ rfl
          have b0 := hw'.b.c 0 _ rfl
          go_simp
          rfl
        intro K hK
        go_simp
        refine hK _ ?_
        clear hK K
        apply mix_pure _ rfl
        · rintro w' ⟨_, _, hw'⟩
          have x0 := hw'.c.c 0 _ rfl
          have b0 := hw'.b.c 0 _ rfl
          go_simp
          rfl
        intro K hK
        go_simp
        refine hK _ ?_
        clear hK K
        apply mix_pure _ rfl
        · rintro w' ⟨_, _, hw'⟩
          have x0 := hw'.c.c 0 _ rfl
          have b0 := hw'.b.c 0 _ rfl
          go_simp
          rfl
        intro K hK
        go_simp
        refine hK _ ?_
        clear hK K
        apply mix_pure _ rfl
        · rintro w' ⟨_, _, hw'⟩
          have x0 := hw'.c.c 0 _ rfl
          have b0 := hw'.b.c 0 _ rfl
          go_simp
          rfl
        intro K hK
        go_simp
        refine hK _ ?_
        clear hK K
        apply mix_pure _ rfl
        · rintro w' ⟨_, _, hw'⟩
          have x0 := hw'.c.c 0 _ rfl
          have b0 := hw'.b.c 0 _ rfl
          go_simp
          rfl
        intro K hK
        go_simp
        refine hK _ ?_
        clear hK K
        apply mix_pure _ rfl
        · rintro w' ⟨_, _, hw'⟩
          have x0 := hw'.c.c 0 _ rfl
          have b0 := hw'.b.c 0 _ rfl
          go_simp
          rfl
        intro K hK
        go_simp
        refine hK _ ?_
        clear hK K
        apply mix_pure _ rfl
        · rintro w' ⟨_, _, hw'⟩
          have x0 := hw'.c.c 0 _ rfl
          have b0 := hw'.b.c 0 _ rfl
          go_simp
          rfl
        intro K hK
        go_simp
        refine hK _ ?_
        clear hK K
        refine mix_act rfl (fun K hK => ?_)
        go_simp
        refine hK _ _ hcur (fun hcur => ?_)
        clear hK K g7 lg7
        refine mix_act rfl (fun K hK => ?_)
        go_simp
        refine (HSP.out wr.drew (Bel.refl _).drew).mono ?_
        rintro e w9 ⟨rfl, htn, hg9⟩
        have HS9 := Lib.hid ((HST.out.go (Bel.refl wr).drew).turn htn hg9 (HLN.out _) HN1.out)
        simp only []
        refine hK _ _ ⟨_, _, HS9.out⟩ (fun hcur => ?_)
        clear hK K htn hg9
        apply mix_pure _ rfl
        · rintro w' ⟨_, _, hw'⟩
          have x0 := hw'.c.c 0 _ rfl
          have b0 := hw'.b.c 0 _ rfl
          go_simp
          rfl
        intro K hK
        go_simp
        refine hK _ ?_
        clear hK K
        refine mix_act rfl (fun K hK => ?_)
        have kk := HS9.out.k.c k _ (icells_at (by rw [HS9.out.kl]; exact hlt))
        have kf := HS9.out.k.f k
        have kl := cell_lt kk
        go_simp
        have HS10 := Lib.hid (HS9.out.setK HN3.out hlt (keepV l (k : Int) q))
        refine hK _ _ ⟨_, _, HS10.out⟩ (fun hcur => ?_)
        clear hK K kk kf kl
        refine mix_nil ?_
        clear hcur
        generalize hW11 : World.setCell _ _ _ = W11
        rw [hW11] at HS10
        rw [← HSN.out, ← HKN.out] at HS10
        clear hW11
        go_wp2
        go_roundw
        case rel => exact ⟨k + 1, by omega, by go_num, HS10⟩
        case measure => simp [intOf]; omega
      · obtain rfl : k = l.length := by omega
        have hlti : ¬ (l.length : Int) < (l.length : Int) := by omega
        have b0 := HST.out.b.c 0 _ rfl
        have bf := HST.out.b.f
        have lb := cell_lt b0
        have HGE := Lib.hid (sh_gets HT.out p)
        go_wp2
        generalize hW9 : World.setCell _ _ _ = W9
        have hb9 : Bx W9 gb [.slice (some ⟨gg, 0, none⟩) l.length l.length] := by rw [← hW9]; exact HST.out.b.set (i := 0) (by simp) _
        have hg9 : Bx W9 gg (icells (getsV l p)) := by rw [← hW9, ← HGE.out]; exact HST.out.g.other (by have := HN2.out; omega) _
        have hk9 : Bx W9 gk (icells (kpTo l p l.length)) := by rw [← hW9]; exact HST.out.k.other (by have := HN3.out; omega) _
        have hB9 : Bel w W9 := by rw [← hW9]; exact HST.out.bel.setCell (p := ⟨gb, 0, none⟩) HGN.out.1 _
        clear hW9 b0 bf lb
        have b0 := hb9.c 0 _ rfl
        have lb := cell_lt b0
        exact bodyPost_ret (v := .tuple #[.slice (some ⟨gg, 0, none⟩) l.length l.length, .slice (some ⟨gk, 0, none⟩) l.length l.length]) (by simp [results, Try.results66, go_sem, *]) rfl ⟨gg, gk, rfl, hg9, hk9, hB9⟩
end Go.Proofs.Ytkdcdhkhadhcfaa
