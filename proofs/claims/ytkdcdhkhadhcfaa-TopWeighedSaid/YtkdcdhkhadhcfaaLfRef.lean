/-
  lifts: Cheap; the reference's IsBoat, IsCrew, Copy; the law's Far.
-/
import Derived.Test.YtkdcdhkhadhcfaaLfChp
import Derived.Test.YtkdcdhkhadhcfaaLfSaf2
namespace Go.Proofs.Ytkdcdhkhadhcfaa
open Go Go.RowKit
set_option maxHeartbeats 4000000
set_option maxRecDepth 100000
theorem new_at {w W : World} {o : Obj} (h : (w.alloc o).drew = W) : Bel w W ∧ W.heap[w.heap.size]? = some o ∧ W.heap.size = w.heap.size + 1 := by
  subst h
  exact ⟨((Bel.refl w).alloc _).drew, heap_alloc_new .., World.size_alloc ..⟩
/-- What Cheap returns. -/
def CheapP (s : LSea) (e : Ending) : Prop := (cheapV s < 0 ∧ e = .returned (.tuple #[.int .i64 0, .int .i64 3])) ∨ (0 ≤ cheapV s ∧ e = .returned (.tuple #[.int .i64 (cheapV s), .int .i64 0]))
theorem lfCheap_any (s : LSea) (v : Value) (w : World) (hs : LOk s) (hv : SeaAt w v s) :
    Calls Try.prog 54 #[v] w fun e w' => CheapP s e ∧ Bel w w' := by
  obtain ⟨pa, pc, ba, bc, rfl, hp, hb, hpl, hbl⟩ := hv.open
  have HO := Lib.hid (fun wx (hx : Bel w wx) => lfOpen_any s pa ba pc bc wx hs (hp.bel hx) (hb.bel hx))
  have HCH := Lib.hid (fun g wx (hx : Bel w wx) (hsb : SeaBx wx g s (.slice pa s.pl.length pc) (.slice ba s.bo.length bc) s.pl.length) => cheapest_any s g (.slice pa s.pl.length pc) ba bc wx hs ⟨_, _, rfl⟩ hsb (hb.bel hx))
  have HP := Lib.hid (fun e => show ((cheapV s < 0 ∧ e = .returned (.tuple #[.int .i64 0, .int .i64 3])) ∨ (0 ≤ cheapV s ∧ e = .returned (.tuple #[.int .i64 (cheapV s), .int .i64 0]))) → CheapP s e from id)
  clear hs hv hp hb
  generalize cheapV s = V at *
  generalize s.bo.length = B at *
  generalize s.pl.length = G at *
  go_enter Try.func54, Try.ntmps54
  go_wp2_with fail
  refine (HO.out _ (by repeat (first | assumption | exact Bel.refl _ | refine Bel.drew ?_ | refine Bel.drewN ?_ _ | refine Bel.alloc ?_ _ | refine Bel.setCell ?_ (by simp <;> omega) _ | refine Bel.trans ?_ (by assumption)))).mono ?_
  rintro e w1 ⟨g1, rfl, _, hsb, hb⟩
  have HSB := Lib.hid hsb
  have HB := Lib.hid (show Bel w w1 from Bel.trans (by repeat (first | assumption | exact Bel.refl _ | refine Bel.drew ?_ | refine Bel.drewN ?_ _ | refine Bel.alloc ?_ _ | refine Bel.setCell ?_ (by simp <;> omega) _ | refine Bel.trans ?_ (by assumption))) hb)
  clear hb hsb
  go_wp2_with fail
  refine (HCH.out g1 _ HB.out HSB.out).mono ?_
  rintro e w2 ⟨bv, rfl, hb⟩
  replace HB := Lib.hid (HB.out.trans hb)
  clear hb HCH HSB HO
  by_cases hV : V < 0
  · have dV : decide (V < 0) = true := decide_eq_true hV
    go_wp2
    go_ret2
    exact ⟨HP.out _ (.inl ⟨hV, rfl⟩), HB.out⟩
  · have dV : decide (V < 0) = false := decide_eq_false hV
    go_wp2
    go_ret2
    exact ⟨HP.out _ (.inr ⟨by omega, rfl⟩), HB.out⟩
def lfarB (s : LSea) : Bool := decide (40 < s.pl.length) || decide (40 < s.bo.length)
theorem lfFar_any (s : LSea) (v : Value) (w : World) (hv : SeaAt w v s) : Calls Try.prog 18 #[v] w fun e w' => e = .returned (.bool (lfarB s)) ∧ Bel w w' := by
  obtain ⟨pa, pc, ba, bc, rfl, _, _, hpl, hbl⟩ := hv.open
  have HX := Lib.hid (show lfarB s = (decide (40 < s.pl.length) || decide (40 < s.bo.length)) from rfl)
  clear hv
  generalize s.bo.length = B at *
  generalize s.pl.length = G at *
  by_cases h1 : 40 < G
  · have f1 : (40 : Int) < (G : Int) := by omega
    have g1 : decide ((40 : Int) < (G : Int)) = true := decide_eq_true f1
    rw [decide_eq_true h1] at HX
    go_enter Try.func18, Try.ntmps18
    go_wp2
    go_ret
    exact ⟨rb (by rw [HX.out]; rfl), (by repeat (first | assumption | exact Bel.refl _ | refine Bel.drew ?_ | refine Bel.drewN ?_ _ | refine Bel.alloc ?_ _ | refine Bel.setCell ?_ (by simp <;> omega) _ | refine Bel.trans ?_ (by assumption)))⟩
  · have f1 : ¬ (40 : Int) < (G : Int) := by omega
    have g1 : decide ((40 : Int) < (G : Int)) = false := decide_eq_false f1
    rw [decide_eq_false h1] at HX
    by_cases h2 : 40 < B
    · have f2 : (40 : Int) < (B : Int) := by omega
      have g2 : decide ((40 : Int) < (B : Int)) = true := decide_eq_true f2
      rw [decide_eq_true h2] at HX
      go_enter Try.func18, Try.ntmps18
      go_wp2
      go_ret
      exact ⟨rb (by rw [HX.out]; rfl), (by repeat (first | assumption | exact Bel.refl _ | refine Bel.drew ?_ | refine Bel.drewN ?_ _ | refine Bel.alloc ?_ _ | refine Bel.setCell ?_ (by simp <;> omega) _ | refine Bel.trans ?_ (by assumption)))⟩
    · have f2 : ¬ (40 : Int) < (B : Int) := by omega
      have g2 : decide ((40 : Int) < (B : Int)) = false := decide_eq_false f2
      rw [decide_eq_false h2] at HX
      go_enter Try.func18, Try.ntmps18
      go_wp2
      go_ret
      exact ⟨rb (by rw [HX.out]; rfl), (by repeat (first | assumption | exact Bel.refl _ | refine Bel.drew ?_ | refine Bel.drewN ?_ _ | refine Bel.alloc ?_ _ | refine Bel.setCell ?_ (by simp <;> omega) _ | refine Bel.trans ?_ (by assumption)))⟩
theorem R5IsBoat_any (s : LSea) (i : Int) (v : Value) (w : World) (hv : SeaAt w v s) : Calls Try.prog 81 #[v, .int .i64 i] w fun e w' => e = .returned (.bool (withinB i 0 ((s.bo.length : Int) - 1))) ∧ Bel w w' := by
  obtain ⟨pa, pc, ba, bc, rfl, _, _, hpl, hbl⟩ := hv.open
  clear hv
  generalize s.bo.length = B at *
  generalize s.pl.length = G at *
  go_enter Try.func81, Try.ntmps81
  go_wp2_with (first | (go_at_call 49; refine (R5within_any _ _ _ _).mono ?_; rintro e w' ⟨rfl, rfl⟩))
  go_ret
  exact ⟨rfl, (by repeat (first | assumption | exact Bel.refl _ | refine Bel.drew ?_ | refine Bel.drewN ?_ _ | refine Bel.alloc ?_ _ | refine Bel.setCell ?_ (by simp <;> omega) _ | refine Bel.trans ?_ (by assumption)))⟩
/-! copies -/
theorem mkLSp : (Try.prog.info? 37).map (fun i => (i.zero, i.size, i.bytes)) = some (some (.agg #[.int .i64 0, .int .i64 0]), 2, 16) := by kernel_rfl
theorem mkLBo : (Try.prog.info? 95).map (fun i => (i.zero, i.size, i.bytes)) = some (some (.agg #[.int .i64 0, .int .i64 0]), 2, 16) := by kernel_rfl
def lspC (s : LSp) : List Value := [.int .i64 s.lo, .int .i64 s.hi]
def lboC (s : LBo) : List Value := [.int .i64 s.ca, .int .i64 s.pe]
theorem lspC_one (a : LSp) (u : Value) (h : u ∈ lspC a) : u.oneCell' = true := by simp [lspC] at h; rcases h with rfl | rfl <;> rfl
theorem lboC_one (a : LBo) (u : Value) (h : u ∈ lboC a) : u.oneCell' = true := by simp [lboC] at h; rcases h with rfl | rfl <;> rfl
theorem lget2 {a b u : Value} {k : Nat} (h : [a, b][k]? = some u) : (k = 0 ∧ u = a) ∨ (k = 1 ∧ u = b) := by
  match k, h with
  | 0, h => exact .inl ⟨rfl, by simpa using h.symm⟩
  | 1, h => exact .inr ⟨rfl, by simpa using h.symm⟩
  | k + 2, h => simp at h
theorem PlAt.src {w : World} {a : Option Addr} {c : Nat} {l : List LSp} (h : PlAt w (.slice a l.length c) l) : 0 < l.length → ∃ ad, a = some ad ∧ ∀ j u, (flat lspC l)[j]? = some u → w.cell? (ad.add j) = some u := by
  obtain ⟨a', c', b, off, e, ha, _, hc⟩ := h
  injection e with e1 _ e3
  subst e1 e3
  exact flat_src (z := 2) default (fun _ => rfl) (by omega) ha fun i hi k u hu => by
    rcases lget2 hu with ⟨rfl, rfl⟩ | ⟨rfl, rfl⟩
    · exact (hc i hi).1
    · exact (hc i hi).2
theorem BoAt.src {w : World} {a : Option Addr} {c : Nat} {l : List LBo} (h : BoAt w (.slice a l.length c) l) : 0 < l.length → ∃ ad, a = some ad ∧ ∀ j u, (flat lboC l)[j]? = some u → w.cell? (ad.add j) = some u := by
  obtain ⟨a', c', b, off, e, ha, _, hc⟩ := h
  injection e with e1 _ e3
  subst e1 e3
  exact flat_src (z := 2) default (fun _ => rfl) (by omega) ha fun i hi k u hu => by
    rcases lget2 hu with ⟨rfl, rfl⟩ | ⟨rfl, rfl⟩
    · exact (hc i hi).1
    · exact (hc i hi).2
theorem lrow_cap {w : World} {T : TypeId} {z n g c : Nat} {xs : List Value} (h : w.ownsRow 0 T z (.slice (some ⟨g, 0, none⟩) n c) n xs) : n ≤ c := by
  rcases h.2 with ⟨e, _⟩ | ⟨g', cap, cur, e, _, hh, hnc, _⟩
  · cases e
  · injection e with e1 e2 e3; omega
theorem PlAt.own {w : World} {l : List LSp} {g c : Nat} (hl : l.length ≤ 140737488355328) (h : w.ownsRow 0 37 2 (.slice (some ⟨g, 0, none⟩) l.length c) l.length (flat lspC l)) : PlAt w (.slice (some ⟨g, 0, none⟩) l.length c) l :=
  ⟨_, c, g, 0, rfl, fun _ => rfl, ⟨hl, lrow_cap h⟩, fun i hi => ⟨flat_read (z := 2) default (fun _ => rfl) (by omega) h i hi 0 _ rfl, flat_read (z := 2) default (fun _ => rfl) (by omega) h i hi 1 _ rfl⟩⟩
theorem BoAt.own {w : World} {l : List LBo} {g c : Nat} (hl : l.length ≤ 140737488355328) (h : w.ownsRow 0 95 2 (.slice (some ⟨g, 0, none⟩) l.length c) l.length (flat lboC l)) : BoAt w (.slice (some ⟨g, 0, none⟩) l.length c) l :=
  ⟨_, c, g, 0, rfl, fun _ => rfl, ⟨hl, lrow_cap h⟩, fun i hi => ⟨flat_read (z := 2) default (fun _ => rfl) (by omega) h i hi 0 _ rfl, flat_read (z := 2) default (fun _ => rfl) (by omega) h i hi 1 _ rfl⟩⟩
theorem app_two {W0 w w' : World} {T1 s1 g1 n : Nat} {V : Value} {xs : List Value} (hb : Bel W0 w) (h1 : W0.heap.size ≤ g1) (_hE : w.ownsRow 0 T1 s1 (.slice (some ⟨g1, 0, none⟩) 0 0) 0 []) (ho : w'.ownsRow 0 T1 s1 V (0 + n) ([] ++ xs))
    (hg : w.grownBy w' (Value.slice (some ⟨g1, 0, none⟩) 0 0).ownBlock) (hw : V.ownBlock = (Value.slice (some ⟨g1, 0, none⟩) 0 0).ownBlock ∨ V.ownBlock = some w.heap.size) :
    ∃ g c, V = .slice (some ⟨g, 0, none⟩) n c ∧ W0.heap.size ≤ g ∧ w'.ownsRow 0 T1 s1 (.slice (some ⟨g, 0, none⟩) n c) n xs ∧ Bel W0 w' ∧
      ∀ {T2 s2 g2 n2 c2 : Nat} {ys : List Value}, w.ownsRow 0 T2 s2 (.slice (some ⟨g2, 0, none⟩) n2 c2) n2 ys → g1 ≠ g2 → w'.ownsRow 0 T2 s2 (.slice (some ⟨g2, 0, none⟩) n2 c2) n2 ys ∧ g ≠ g2 := by
  rw [Nat.zero_add, List.nil_append] at ho
  have hv : ∃ g c, V = .slice (some ⟨g, 0, none⟩) n c ∧ (g = g1 ∨ g = w.heap.size) := by
    rcases ho.2 with ⟨rfl, _⟩ | ⟨g, cap, cur, rfl, _⟩
    · rcases hw with q | q <;> simp [Value.ownBlock] at q
    · refine ⟨g, cap, rfl, ?_⟩
      rcases hw with q | q
      · left
        have q2 : some g = some g1 := q
        injection q2
      · right
        have q2 : some g = some w.heap.size := q
        injection q2
  obtain ⟨g, c, rfl, hgg⟩ := hv
  refine ⟨g, c, rfl, ?_, ho, ?_, fun {T2 s2 g2 n2 c2 ys} h2 hne => ⟨row_keep h2 fun k hk => ?_, ?_⟩⟩
  · have := hb.szle; omega
  · exact hb.grown hg fun k e => by
      have e2 : some g1 = some k := e
      injection e2 with e2
      omega
  · have e2 : some g2 = some k := hk
    injection e2 with e2
    exact hg.block k (ownsRow_lt h2 hk) fun e => by
      have e3 : some k = some g1 := e
      injection e3 with e3
      omega
  · have h5 : g2 < w.heap.size := ownsRow_lt h2 rfl
    omega
theorem R5Copy_any (s : LSea) (v : Value) (w : World) (hv : SeaAt w v s) (h1 : s.pl.length ≤ 1000) (h2 : s.bo.length ≤ 1000) :
    Calls Try.prog 55 #[v] w fun e w' => ∃ pa pc ba bc, e = .returned (.agg #[.int .i64 s.w.lo, .int .i64 s.w.hi, .slice pa s.pl.length pc, .slice ba s.bo.length bc]) ∧ PlAt w' (.slice pa s.pl.length pc) s.pl ∧ BoAt w' (.slice ba s.bo.length bc) s.bo ∧ (∀ g, (Value.slice pa s.pl.length pc).ownBlock = some g → w.heap.size ≤ g) ∧ (∀ g, (Value.slice ba s.bo.length bc).ownBlock = some g → w.heap.size ≤ g) ∧ (∀ g, (Value.slice pa s.pl.length pc).ownBlock = some g → g < w'.heap.size) ∧ (∀ g, (Value.slice ba s.bo.length bc).ownBlock = some g → g < w'.heap.size) ∧ Bel w w' := by
  obtain ⟨pa, pc, ba, bc, rfl, hp, hb, hpl, hbl⟩ := hv.open
  have HSP := Lib.hid (fun wx (hx : Bel w wx) => (hp.bel hx).src)
  have HSB := Lib.hid (fun wx (hx : Bel w wx) => (hb.bel hx).src)
  obtain ⟨i1, hi1, hz1, hs1, hb1⟩ := info_parts mkLSp
  obtain ⟨i2, hi2, hz2, hs2, hb2⟩ := info_parts mkLBo
  have HI1 := Lib.hid hi1
  have HZ1 := Lib.hid hz1
  have HI2 := Lib.hid hi2
  have HZ2 := Lib.hid hz2
  clear hv hp hb hi1 hz1 hi2 hz2
  go_enter Try.func55, Try.ntmps55
  go_upto_region 1 with fail
  generalize hW0 : World.alloc _ _ = W0
  have HB0 : Hid (Bel w W0) := Lib.hid (by rw [← hW0]; exact ((Bel.refl w).alloc _).alloc _)
  have HP0 : Hid (Bx W0 w.heap.size [.int .i64 s.w.lo, .int .i64 s.w.hi, .slice pa s.pl.length pc, .slice ba s.bo.length bc]) := Lib.hid (by rw [← hW0]; exact (Bx.new rfl).bel ((Bel.refl _).alloc _))
  have HQ0 : Hid (Bx W0 (w.heap.size + 1) [.int .i64 0, .int .i64 0, .slice none 0 0, .slice none 0 0]) := Lib.hid (by rw [← hW0]; exact Bx.new (by simp))
  clear hW0
  have x0 := HP0.out.c 0 _ rfl
  have x1 := HP0.out.c 1 _ rfl
  have x2 := HP0.out.c 2 _ rfl
  have x3 := HP0.out.c 3 _ rfl
  have lp := HP0.out.lt
  have lq := HQ0.out.lt
  have HC0 := Lib.hid (Bel.refl W0)
  refine wp_region_mixTB (Plan.seq [0, 1, 3, 4, 7, 8] (.both 2 (.both 5 (Plan.seq [1006, 1009, 10] .nil) 6 (Plan.seq [1005, 1009, 10] .nil)) 6 (Plan.seq [1002, 1005, 1009, 10] .nil))) (by kernel_rfl) (by kernel_rfl) (fun hcur => ?_)
  simp only [Plan.seq, Plan.fill, List.getD_cons_zero, List.getD_cons_succ, Nat.reduceLT, ↓reduceIte, Nat.reduceSub]
  apply mix_pure _ rfl
  · intro w' hw'
    have hcr := hw'.cells
    go_simp
    rfl
  intro K hK
  go_simp
  refine hK _ ?_
  clear hK K
  apply mix_pure _ rfl
  · intro w' hw'
    have hcr := hw'.cells
    go_simp
    rfl
  intro K hK
  go_simp
  refine hK _ ?_
  clear hK K
  apply mix_pure _ rfl
  · intro w' hw'
    have hcr := hw'.cells
    go_simp
    rfl
  intro K hK
  go_simp
  refine hK _ ?_
  clear hK K
  apply mix_pure _ rfl
  · intro w' hw'
    have hcr := hw'.cells
    go_simp
    rfl
  intro K hK
  go_simp
  refine hK _ ?_
  clear hK K
  apply mix_pure _ rfl
  · intro w' hw'
    have hcr := hw'.cells
    go_simp
    rfl
  intro K hK
  go_simp
  refine hK _ ?_
  clear hK K
  apply mix_pure _ rfl
  · intro w' hw'
    have hcr := hw'.cells
    go_simp
    rfl
  intro K hK
  go_simp
  refine hK _ ?_
  clear hK K
  refine mix_both ?_ ?_
  · refine mix_act rfl (fun K hK => ?_)
    go_simp
    first | (have hh := HM0.out; clear hh; generalize hWA : World.alloc _ _ = WA; have hna := new_at2 hWA) | (generalize hWA : World.drew (World.alloc _ _) = WA; have hna := new_at hWA)
    have HM0 := Lib.hid True.intro
    have HE1 := Lib.hid (fresh_at (T := 37) (sz := 2) hna.2.1)
    have HG1 := Lib.hid HC0.out.szle
    first | have HNE := Lib.hid (Nat.ne_of_gt (ownsRow_lt HE2.out rfl)) | have HNE := Lib.hid (Nat.ne_of_gt (ownsRow_lt HF2.out rfl)) | skip
    try replace HE2 := Lib.hid (ownsRow_bel HE2.out hna.1)
    try replace HF2 := Lib.hid (ownsRow_bel HF2.out hna.1)
    replace HC0 := Lib.hid (HC0.out.trans hna.1)
    refine hK _ _ HC0.out (fun hcur => ?_)
    clear hK K hWA hna
    refine mix_both ?_ ?_
    · refine mix_act rfl (fun K hK => ?_)
      refine wp_append_opt _ _ 48 rfl 37 i1 (.agg #[.int .i64 0, .int .i64 0]) 2 16 Try.underlying48 HI1.out HZ1.out hs1 hb1 rfl (by decide) _ 0 [] rfl HE1.out pa s.pl.length pc (flat lspC s.pl) rfl (flat_len (f := lspC) (z := 2) (fun _ => rfl) _) (HSP.out _ (HB0.out.trans HC0.out)) (flat_one lspC_one _) (by unfold maxLen; omega) (by omega) ?_
      intro V wA hown hgrow hwhere
      obtain ⟨ga, ka, rfl, hga, hra, hba, hkeep⟩ := app_two HC0.out HG1.out HE1.out hown hgrow hwhere
      have HF1 := Lib.hid hra
      first | (have hkk := hkeep HE2.out HNE.out; replace HE2 := Lib.hid hkk.1; replace HNE := Lib.hid hkk.2; clear hkk) | (have hkk := hkeep HF2.out HNE.out; replace HF2 := Lib.hid hkk.1; replace HNE := Lib.hid hkk.2; clear hkk) | skip
      have HGA := Lib.hid hga
      replace HC0 := Lib.hid hba
      refine hK _ _ hba (fun hcur => ?_)
      clear hK K hown hgrow hwhere hkeep hra hba hga HE1
      refine mix_act rfl (fun K hK => ?_)
      go_simp
      first | (have hh := HM0.out; clear hh; generalize hWA : World.alloc _ _ = WB; have hna := new_at2 hWA) | (generalize hWA : World.drew (World.alloc _ _) = WB; have hna := new_at hWA)
      have HM0 := Lib.hid True.intro
      have HE2 := Lib.hid (fresh_at (T := 95) (sz := 2) hna.2.1)
      have HG2 := Lib.hid HC0.out.szle
      first | have HNE := Lib.hid (Nat.ne_of_lt (ownsRow_lt HE1.out rfl)) | have HNE := Lib.hid (Nat.ne_of_lt (ownsRow_lt HF1.out rfl)) | skip
      try replace HE1 := Lib.hid (ownsRow_bel HE1.out hna.1)
      try replace HF1 := Lib.hid (ownsRow_bel HF1.out hna.1)
      replace HC0 := Lib.hid (HC0.out.trans hna.1)
      refine hK _ _ HC0.out (fun hcur => ?_)
      clear hK K hWA hna
      refine mix_act rfl (fun K hK => ?_)
      refine wp_append_opt _ _ 49 rfl 95 i2 (.agg #[.int .i64 0, .int .i64 0]) 2 16 Try.underlying49 HI2.out HZ2.out hs2 hb2 rfl (by decide) _ 0 [] rfl HE2.out ba s.bo.length bc (flat lboC s.bo) rfl (flat_len (f := lboC) (z := 2) (fun _ => rfl) _) (HSB.out _ (HB0.out.trans HC0.out)) (flat_one lboC_one _) (by unfold maxLen; omega) (by omega) ?_
      intro V wB hown hgrow hwhere
      obtain ⟨gb, kb, rfl, hgb, hrb, hbb, hkeep⟩ := app_two HC0.out HG2.out HE2.out hown hgrow hwhere
      have HF2 := Lib.hid hrb
      first | (have hkk := hkeep HE1.out HNE.out.symm; replace HE1 := Lib.hid hkk.1; replace HNE := Lib.hid hkk.2.symm; clear hkk) | (have hkk := hkeep HF1.out HNE.out.symm; replace HF1 := Lib.hid hkk.1; replace HNE := Lib.hid hkk.2.symm; clear hkk) | skip
      have HGB := Lib.hid hgb
      replace HC0 := Lib.hid hbb
      refine hK _ _ hbb (fun hcur => ?_)
      clear hK K hown hgrow hwhere hkeep hrb hbb hgb HE2
      apply mix_pure _ rfl
      · intro w' hw'
        have hcr := hw'.cells
        go_simp
        rfl
      intro K hK
      go_simp
      refine hK _ ?_
      clear hK K
      refine mix_tailK rfl (fun K hK => ?_)
      have HQ1 := Lib.hid (HQ0.out.bel HC0.out)
      have q0 := HQ1.out.c 0 _ rfl
      have q1 := HQ1.out.c 1 _ rfl
      have q2 := HQ1.out.c 2 _ rfl
      have q3 := HQ1.out.c 3 _ rfl
      have qf := HQ1.out.f
      have ql := HQ1.out.lt
      go_simp
      refine hK _ _ ?_
      clear hK K hcur
      have hne1 : ∀ g, (Value.slice (some ⟨ga, 0, none⟩) s.pl.length ka).ownBlock = some g → g ≠ w.heap.size + 1 := fun g e => by
        have e2 : some ga = some g := e
        injection e2 with e2
        have := HGA.out
        omega
      have hne2 : ∀ g, (Value.slice (some ⟨gb, 0, none⟩) s.bo.length kb).ownBlock = some g → g ≠ w.heap.size + 1 := fun g e => by
        have e2 : some gb = some g := e
        injection e2 with e2
        have := HGB.out
        omega
      have HM1 := Lib.hid (show ∀ g, (Value.slice (some ⟨ga, 0, none⟩) s.pl.length ka).ownBlock = some g → w.heap.size ≤ g from fun g e => by
        have e2 : some ga = some g := e
        injection e2 with e2
        have := HGA.out
        have := HB0.out.szle
        omega)
      have HM2 := Lib.hid (show ∀ g, (Value.slice (some ⟨gb, 0, none⟩) s.bo.length kb).ownBlock = some g → w.heap.size ≤ g from fun g e => by
        have e2 : some gb = some g := e
        injection e2 with e2
        have := HGB.out
        have := HB0.out.szle
        omega)
      have HN1 := Lib.hid hne1
      have HN2 := Lib.hid hne2
      clear hne1 hne2
      go_wp2
      refine bodyPost_ret (v := .agg #[.int .i64 s.w.lo, .int .i64 s.w.hi, .slice (some ⟨ga, 0, none⟩) s.pl.length ka, .slice (some ⟨gb, 0, none⟩) s.bo.length kb]) (by simp [results, Try.results55, go_sem, *]) rfl ⟨_, _, _, _, rfl, ?_, ?_, HM1.out, HM2.out, fun g hg => ?_, fun g hg => ?_, ?_⟩
      · refine PlAt.own (by omega) ?_
        repeat (refine row_set ?_ (fun g hg => HN1.out g hg))
        exact HF1.out
      · refine BoAt.own (by omega) ?_
        repeat (refine row_set ?_ (fun g hg => HN2.out g hg))
        exact HF2.out
      · simp only [World.size_setCell]
        exact ownsRow_lt HF1.out hg
      · simp only [World.size_setCell]
        exact ownsRow_lt HF2.out hg
      · repeat (refine Bel.setCell ?_ (by show w.heap.size ≤ w.heap.size + 1; omega) _)
        exact HB0.out.trans HC0.out
    · refine mix_act rfl (fun K hK => ?_)
      go_simp
      first | (have hh := HM0.out; clear hh; generalize hWA : World.alloc _ _ = WB; have hna := new_at2 hWA) | (generalize hWA : World.drew (World.alloc _ _) = WB; have hna := new_at hWA)
      have HM0 := Lib.hid True.intro
      have HE2 := Lib.hid (fresh_at (T := 95) (sz := 2) hna.2.1)
      have HG2 := Lib.hid HC0.out.szle
      first | have HNE := Lib.hid (Nat.ne_of_lt (ownsRow_lt HE1.out rfl)) | have HNE := Lib.hid (Nat.ne_of_lt (ownsRow_lt HF1.out rfl)) | skip
      try replace HE1 := Lib.hid (ownsRow_bel HE1.out hna.1)
      try replace HF1 := Lib.hid (ownsRow_bel HF1.out hna.1)
      replace HC0 := Lib.hid (HC0.out.trans hna.1)
      refine hK _ _ HC0.out (fun hcur => ?_)
      clear hK K hWA hna
      refine mix_act rfl (fun K hK => ?_)
      refine wp_append_opt _ _ 48 rfl 37 i1 (.agg #[.int .i64 0, .int .i64 0]) 2 16 Try.underlying48 HI1.out HZ1.out hs1 hb1 rfl (by decide) _ 0 [] rfl HE1.out pa s.pl.length pc (flat lspC s.pl) rfl (flat_len (f := lspC) (z := 2) (fun _ => rfl) _) (HSP.out _ (HB0.out.trans HC0.out)) (flat_one lspC_one _) (by unfold maxLen; omega) (by omega) ?_
      intro V wA hown hgrow hwhere
      obtain ⟨ga, ka, rfl, hga, hra, hba, hkeep⟩ := app_two HC0.out HG1.out HE1.out hown hgrow hwhere
      have HF1 := Lib.hid hra
      first | (have hkk := hkeep HE2.out HNE.out; replace HE2 := Lib.hid hkk.1; replace HNE := Lib.hid hkk.2; clear hkk) | (have hkk := hkeep HF2.out HNE.out; replace HF2 := Lib.hid hkk.1; replace HNE := Lib.hid hkk.2; clear hkk) | skip
      have HGA := Lib.hid hga
      replace HC0 := Lib.hid hba
      refine hK _ _ hba (fun hcur => ?_)
      clear hK K hown hgrow hwhere hkeep hra hba hga HE1
      refine mix_act rfl (fun K hK => ?_)
      refine wp_append_opt _ _ 49 rfl 95 i2 (.agg #[.int .i64 0, .int .i64 0]) 2 16 Try.underlying49 HI2.out HZ2.out hs2 hb2 rfl (by decide) _ 0 [] rfl HE2.out ba s.bo.length bc (flat lboC s.bo) rfl (flat_len (f := lboC) (z := 2) (fun _ => rfl) _) (HSB.out _ (HB0.out.trans HC0.out)) (flat_one lboC_one _) (by unfold maxLen; omega) (by omega) ?_
      intro V wB hown hgrow hwhere
      obtain ⟨gb, kb, rfl, hgb, hrb, hbb, hkeep⟩ := app_two HC0.out HG2.out HE2.out hown hgrow hwhere
      have HF2 := Lib.hid hrb
      first | (have hkk := hkeep HE1.out HNE.out.symm; replace HE1 := Lib.hid hkk.1; replace HNE := Lib.hid hkk.2.symm; clear hkk) | (have hkk := hkeep HF1.out HNE.out.symm; replace HF1 := Lib.hid hkk.1; replace HNE := Lib.hid hkk.2.symm; clear hkk) | skip
      have HGB := Lib.hid hgb
      replace HC0 := Lib.hid hbb
      refine hK _ _ hbb (fun hcur => ?_)
      clear hK K hown hgrow hwhere hkeep hrb hbb hgb HE2
      apply mix_pure _ rfl
      · intro w' hw'
        have hcr := hw'.cells
        go_simp
        rfl
      intro K hK
      go_simp
      refine hK _ ?_
      clear hK K
      refine mix_tailK rfl (fun K hK => ?_)
      have HQ1 := Lib.hid (HQ0.out.bel HC0.out)
      have q0 := HQ1.out.c 0 _ rfl
      have q1 := HQ1.out.c 1 _ rfl
      have q2 := HQ1.out.c 2 _ rfl
      have q3 := HQ1.out.c 3 _ rfl
      have qf := HQ1.out.f
      have ql := HQ1.out.lt
      go_simp
      refine hK _ _ ?_
      clear hK K hcur
      have hne1 : ∀ g, (Value.slice (some ⟨ga, 0, none⟩) s.pl.length ka).ownBlock = some g → g ≠ w.heap.size + 1 := fun g e => by
        have e2 : some ga = some g := e
        injection e2 with e2
        have := HGA.out
        omega
      have hne2 : ∀ g, (Value.slice (some ⟨gb, 0, none⟩) s.bo.length kb).ownBlock = some g → g ≠ w.heap.size + 1 := fun g e => by
        have e2 : some gb = some g := e
        injection e2 with e2
        have := HGB.out
        omega
      have HM1 := Lib.hid (show ∀ g, (Value.slice (some ⟨ga, 0, none⟩) s.pl.length ka).ownBlock = some g → w.heap.size ≤ g from fun g e => by
        have e2 : some ga = some g := e
        injection e2 with e2
        have := HGA.out
        have := HB0.out.szle
        omega)
      have HM2 := Lib.hid (show ∀ g, (Value.slice (some ⟨gb, 0, none⟩) s.bo.length kb).ownBlock = some g → w.heap.size ≤ g from fun g e => by
        have e2 : some gb = some g := e
        injection e2 with e2
        have := HGB.out
        have := HB0.out.szle
        omega)
      have HN1 := Lib.hid hne1
      have HN2 := Lib.hid hne2
      clear hne1 hne2
      go_wp2
      refine bodyPost_ret (v := .agg #[.int .i64 s.w.lo, .int .i64 s.w.hi, .slice (some ⟨ga, 0, none⟩) s.pl.length ka, .slice (some ⟨gb, 0, none⟩) s.bo.length kb]) (by simp [results, Try.results55, go_sem, *]) rfl ⟨_, _, _, _, rfl, ?_, ?_, HM1.out, HM2.out, fun g hg => ?_, fun g hg => ?_, ?_⟩
      · refine PlAt.own (by omega) ?_
        repeat (refine row_set ?_ (fun g hg => HN1.out g hg))
        exact HF1.out
      · refine BoAt.own (by omega) ?_
        repeat (refine row_set ?_ (fun g hg => HN2.out g hg))
        exact HF2.out
      · simp only [World.size_setCell]
        exact ownsRow_lt HF1.out hg
      · simp only [World.size_setCell]
        exact ownsRow_lt HF2.out hg
      · repeat (refine Bel.setCell ?_ (by show w.heap.size ≤ w.heap.size + 1; omega) _)
        exact HB0.out.trans HC0.out
  · refine mix_act rfl (fun K hK => ?_)
    go_simp
    first | (have hh := HM0.out; clear hh; generalize hWA : World.alloc _ _ = WB; have hna := new_at2 hWA) | (generalize hWA : World.drew (World.alloc _ _) = WB; have hna := new_at hWA)
    have HM0 := Lib.hid True.intro
    have HE2 := Lib.hid (fresh_at (T := 95) (sz := 2) hna.2.1)
    have HG2 := Lib.hid HC0.out.szle
    first | have HNE := Lib.hid (Nat.ne_of_lt (ownsRow_lt HE1.out rfl)) | have HNE := Lib.hid (Nat.ne_of_lt (ownsRow_lt HF1.out rfl)) | skip
    try replace HE1 := Lib.hid (ownsRow_bel HE1.out hna.1)
    try replace HF1 := Lib.hid (ownsRow_bel HF1.out hna.1)
    replace HC0 := Lib.hid (HC0.out.trans hna.1)
    refine hK _ _ HC0.out (fun hcur => ?_)
    clear hK K hWA hna
    refine mix_act rfl (fun K hK => ?_)
    go_simp
    first | (have hh := HM0.out; clear hh; generalize hWA : World.alloc _ _ = WA; have hna := new_at2 hWA) | (generalize hWA : World.drew (World.alloc _ _) = WA; have hna := new_at hWA)
    have HM0 := Lib.hid True.intro
    have HE1 := Lib.hid (fresh_at (T := 37) (sz := 2) hna.2.1)
    have HG1 := Lib.hid HC0.out.szle
    first | have HNE := Lib.hid (Nat.ne_of_gt (ownsRow_lt HE2.out rfl)) | have HNE := Lib.hid (Nat.ne_of_gt (ownsRow_lt HF2.out rfl)) | skip
    try replace HE2 := Lib.hid (ownsRow_bel HE2.out hna.1)
    try replace HF2 := Lib.hid (ownsRow_bel HF2.out hna.1)
    replace HC0 := Lib.hid (HC0.out.trans hna.1)
    refine hK _ _ HC0.out (fun hcur => ?_)
    clear hK K hWA hna
    refine mix_act rfl (fun K hK => ?_)
    refine wp_append_opt _ _ 48 rfl 37 i1 (.agg #[.int .i64 0, .int .i64 0]) 2 16 Try.underlying48 HI1.out HZ1.out hs1 hb1 rfl (by decide) _ 0 [] rfl HE1.out pa s.pl.length pc (flat lspC s.pl) rfl (flat_len (f := lspC) (z := 2) (fun _ => rfl) _) (HSP.out _ (HB0.out.trans HC0.out)) (flat_one lspC_one _) (by unfold maxLen; omega) (by omega) ?_
    intro V wA hown hgrow hwhere
    obtain ⟨ga, ka, rfl, hga, hra, hba, hkeep⟩ := app_two HC0.out HG1.out HE1.out hown hgrow hwhere
    have HF1 := Lib.hid hra
    first | (have hkk := hkeep HE2.out HNE.out; replace HE2 := Lib.hid hkk.1; replace HNE := Lib.hid hkk.2; clear hkk) | (have hkk := hkeep HF2.out HNE.out; replace HF2 := Lib.hid hkk.1; replace HNE := Lib.hid hkk.2; clear hkk) | skip
    have HGA := Lib.hid hga
    replace HC0 := Lib.hid hba
    refine hK _ _ hba (fun hcur => ?_)
    clear hK K hown hgrow hwhere hkeep hra hba hga HE1
    refine mix_act rfl (fun K hK => ?_)
    refine wp_append_opt _ _ 49 rfl 95 i2 (.agg #[.int .i64 0, .int .i64 0]) 2 16 Try.underlying49 HI2.out HZ2.out hs2 hb2 rfl (by decide) _ 0 [] rfl HE2.out ba s.bo.length bc (flat lboC s.bo) rfl (flat_len (f := lboC) (z := 2) (fun _ => rfl) _) (HSB.out _ (HB0.out.trans HC0.out)) (flat_one lboC_one _) (by unfold maxLen; omega) (by omega) ?_
    intro V wB hown hgrow hwhere
    obtain ⟨gb, kb, rfl, hgb, hrb, hbb, hkeep⟩ := app_two HC0.out HG2.out HE2.out hown hgrow hwhere
    have HF2 := Lib.hid hrb
    first | (have hkk := hkeep HE1.out HNE.out.symm; replace HE1 := Lib.hid hkk.1; replace HNE := Lib.hid hkk.2.symm; clear hkk) | (have hkk := hkeep HF1.out HNE.out.symm; replace HF1 := Lib.hid hkk.1; replace HNE := Lib.hid hkk.2.symm; clear hkk) | skip
    have HGB := Lib.hid hgb
    replace HC0 := Lib.hid hbb
    refine hK _ _ hbb (fun hcur => ?_)
    clear hK K hown hgrow hwhere hkeep hrb hbb hgb HE2
    apply mix_pure _ rfl
    · intro w' hw'
      have hcr := hw'.cells
      go_simp
      rfl
    intro K hK
    go_simp
    refine hK _ ?_
    clear hK K
    refine mix_tailK rfl (fun K hK => ?_)
    have HQ1 := Lib.hid (HQ0.out.bel HC0.out)
    have q0 := HQ1.out.c 0 _ rfl
    have q1 := HQ1.out.c 1 _ rfl
    have q2 := HQ1.out.c 2 _ rfl
    have q3 := HQ1.out.c 3 _ rfl
    have qf := HQ1.out.f
    have ql := HQ1.out.lt
    go_simp
    refine hK _ _ ?_
    clear hK K hcur
    have hne1 : ∀ g, (Value.slice (some ⟨ga, 0, none⟩) s.pl.length ka).ownBlock = some g → g ≠ w.heap.size + 1 := fun g e => by
      have e2 : some ga = some g := e
      injection e2 with e2
      have := HGA.out
      omega
    have hne2 : ∀ g, (Value.slice (some ⟨gb, 0, none⟩) s.bo.length kb).ownBlock = some g → g ≠ w.heap.size + 1 := fun g e => by
      have e2 : some gb = some g := e
      injection e2 with e2
      have := HGB.out
      omega
    have HM1 := Lib.hid (show ∀ g, (Value.slice (some ⟨ga, 0, none⟩) s.pl.length ka).ownBlock = some g → w.heap.size ≤ g from fun g e => by
      have e2 : some ga = some g := e
      injection e2 with e2
      have := HGA.out
      have := HB0.out.szle
      omega)
    have HM2 := Lib.hid (show ∀ g, (Value.slice (some ⟨gb, 0, none⟩) s.bo.length kb).ownBlock = some g → w.heap.size ≤ g from fun g e => by
      have e2 : some gb = some g := e
      injection e2 with e2
      have := HGB.out
      have := HB0.out.szle
      omega)
    have HN1 := Lib.hid hne1
    have HN2 := Lib.hid hne2
    clear hne1 hne2
    go_wp2
    refine bodyPost_ret (v := .agg #[.int .i64 s.w.lo, .int .i64 s.w.hi, .slice (some ⟨ga, 0, none⟩) s.pl.length ka, .slice (some ⟨gb, 0, none⟩) s.bo.length kb]) (by simp [results, Try.results55, go_sem, *]) rfl ⟨_, _, _, _, rfl, ?_, ?_, HM1.out, HM2.out, fun g hg => ?_, fun g hg => ?_, ?_⟩
    · refine PlAt.own (by omega) ?_
      repeat (refine row_set ?_ (fun g hg => HN1.out g hg))
      exact HF1.out
    · refine BoAt.own (by omega) ?_
      repeat (refine row_set ?_ (fun g hg => HN2.out g hg))
      exact HF2.out
    · simp only [World.size_setCell]
      exact ownsRow_lt HF1.out hg
    · simp only [World.size_setCell]
      exact ownsRow_lt HF2.out hg
    · repeat (refine Bel.setCell ?_ (by show w.heap.size ≤ w.heap.size + 1; omega) _)
      exact HB0.out.trans HC0.out
/-! whether a list is a crew -/
theorem crewB_step {s : LSea} {c : List Int} (hl : c.length = s.pl.length) : crewB s c = allB c.length fun i => withinB (at0 c i) 0 ((s.bo.length : Int) - 1) && !inB (c.take i) (at0 c i) := by
  unfold crewB
  rw [decide_eq_true hl, Bool.true_and]
  rw [Bool.eq_iff_iff, allB_iff, allB_iff]
  have key : ∀ i, i < c.length → (allB i (fun j => !decide (at0 c j = at0 c i)) = !inB (c.take i) (at0 c i)) := fun i hi => by
    rw [Bool.eq_iff_iff, allB_iff, Bool.not_eq_true', inB_false]
    constructor
    · intro h hm
      obtain ⟨j, hj, e⟩ := mem_getD _ _ 0 hm
      rw [List.length_take] at hj
      have := h j (by omega)
      rw [Bool.not_eq_true', decide_eq_false_iff_not] at this
      refine this ?_
      unfold at0 at e ⊢
      rw [← e]
      simp [List.getD, show j < i by omega]
    · intro h j hj
      rw [Bool.not_eq_true', decide_eq_false_iff_not]
      intro e
      refine h ?_
      rw [← e]
      have hjl : j < (c.take i).length := by rw [List.length_take]; omega
      have h2 := getD_mem (c.take i) j 0 hjl
      have e2 : (c.take i).getD j 0 = at0 c j := by unfold at0; simp [List.getD, hj]
      rw [e2] at h2
      exact h2
  constructor
  · intro h i hi
    have := h i hi
    rw [key i hi] at this
    exact this
  · intro h i hi
    rw [key i hi]
    exact h i hi
theorem crewB_len {s : LSea} {c : List Int} (hl : c.length ≠ s.pl.length) : crewB s c = false := by
  unfold crewB
  rw [decide_eq_false hl, Bool.false_and]
theorem ints_take {w : World} {a : Option Addr} {cc : Nat} {c : List Int} {k : Nat} (h : IntsAt w (.slice a c.length cc) c) (hk : k ≤ c.length) : 0 < k → ∃ b, a = some b ∧ ∀ j u, ((c.take k).map (Value.int .i64))[j]? = some u → w.cell? (b.add j) = some u := fun h0 => by
  obtain ⟨a', c', b, off, e, ha, _, hc⟩ := h
  injection e with e1 _ e3
  subst e1 e3
  refine ⟨_, ha (by omega), fun j u hu => ?_⟩
  obtain ⟨q, hq⟩ := List.getElem?_eq_some_iff.1 hu
  have hj : j < k := by simp at q; omega
  have e : u = .int .i64 (at0 c j) := by rw [← hq]; unfold at0; simp [List.getD, show j < c.length by omega]
  rw [e, add_at]
  exact hc j (by omega)
theorem R5IsCrew_any (s : LSea) (c : List Int) (v cv : Value) (w : World) (hv : SeaAt w v s) (hc : IntsAt w cv c) (h40 : c.length ≤ 1000) :
    Calls Try.prog 56 #[v, cv] w fun e w' => e = .returned (.bool (crewB s c)) ∧ Bel w w' := by
  have HBO := Lib.hid (fun i vx wx (hx : SeaAt wx vx s) => R5IsBoat_any s i vx wx hx)
  obtain ⟨pa, pc, ba, bc, rfl, hp, hb, hpl, hbl⟩ := hv.open
  have HV := Lib.hid (fun wx (hx : Bel w wx) => show SeaAt wx (.agg #[.int .i64 s.w.lo, .int .i64 s.w.hi, .slice pa s.pl.length pc, .slice ba s.bo.length bc]) s from ⟨_, _, rfl, hp.bel hx, hb.bel hx⟩)
  have HCI := Lib.hid hc
  obtain ⟨ca, cc, cb, co, rfl, hca, ⟨hcl, hccap⟩, hcc⟩ := hc
  have hixc := idxInts (c := cc) hca
  have HCC := Lib.hid hcc
  have HTK := Lib.hid (fun k (hk : k ≤ c.length) wx (hx : Bel w wx) => ints_take (HCI.out.bel hx) hk)
  obtain ⟨i1, hi1, hz1, hs1, hb1⟩ := info_parts mkInt
  have HI1 := Lib.hid hi1
  have HZ1 := Lib.hid hz1
  clear hv hp hb hca hcc hi1 hz1
  by_cases hl : c.length = s.pl.length
  · have HX := Lib.hid (crewB_step hl)
    have hlq : ((c.length : Int) != (s.pl.length : Int)) = false := by rw [bne_eq_false_iff_eq]; omega
    have HL := Lib.hid hl
    clear hl
    generalize s.bo.length = B at *
    generalize s.pl.length = G at *
    go_enter Try.func56, Try.ntmps56
    go_wp2
    generalize hW : World.alloc _ _ = W0
    have HXB : Hid (Bx W0 w.heap.size [.int .i64 s.w.lo, .int .i64 s.w.hi, .slice pa G pc, .slice ba B bc]) := Lib.hid (by rw [← hW]; exact Bx.new rfl)
    have HB : Hid (Bel w W0) := Lib.hid (by rw [← hW]; exact (Bel.refl w).alloc _)
    clear hW hlq
    go_loopw [5] (fun i wr => ∃ k : Nat, k ≤ c.length ∧ i = .int .i64 k ∧ Hid (allB k (fun i => withinB (at0 c i) 0 ((B : Int) - 1) && !inB (c.take i) (at0 c i)) = true) ∧ Hid (Bel W0 wr)) (fun i _ => c.length - (intOf i).toNat)
    case atStart => exact ⟨0, by omega, rfl, Lib.hid rfl, Lib.hid (Bel.refl _)⟩
    case round =>
      obtain ⟨k, hk, rfl, hno, hbr⟩ := hrel
      have HBW := Lib.hid (HB.out.trans hbr.out)
      by_cases hlt : k < c.length
      · have hlti : (k : Int) < (c.length : Int) := by omega
        replace HXB := Lib.hid (HXB.out.bel hbr.out)
        have x0 := HXB.out.c 0 _ rfl
        have x1 := HXB.out.c 1 _ rfl
        have x2 := HXB.out.c 2 _ rfl
        have x3 := HXB.out.c 3 _ rfl
        have lx := HXB.out.lt
        have k0 := HBW.out.cell (HCC.out k hlt)
        have lk := cell_lt k0
        have hkc : (k : Int) ≤ (cc : Int) := by omega
        have HNX := Lib.hid (fun (h : (withinB (at0 c k) 0 ((B : Int) - 1) && !inB (c.take k) (at0 c k)) = true) => allB_succ hno.out (f := fun i => withinB (at0 c i) 0 ((B : Int) - 1) && !inB (c.take i) (at0 c i)) h)
        have HNF := Lib.hid (fun (h : (withinB (at0 c k) 0 ((B : Int) - 1) && !inB (c.take k) (at0 c k)) = false) => show crewB s c = false by rw [HX.out]; exact allB_false k hlt h)
        have HBK := Lib.hid (fun wx (hx : Bel wr wx) => HBO.out (at0 c k) _ wx (HV.out wx (HBW.out.trans hx)))
        have HTR := Lib.hid (fun wx (hx : Bel wr wx) => HTK.out k hk wx (HBW.out.trans hx))
        have HTL := Lib.hid (show ((c.take k).map (Value.int .i64)).length = k by simp; omega)
        have HTN := Lib.hid (show (c.take k).length = k by simp; omega)
        clear hno HX HBO HCC HV HTK
        generalize hxk : at0 c k = X at *
        generalize hT : c.take k = T at *
        clear hxk hT
        cases h1 : withinB X 0 ((B : Int) - 1)
        · rw [h1] at HBK HNF
          have HR := Lib.hid (HNF.out rfl)
          clear HNX HNF h1
          go_wp2_with fail
          refine wp_region_mixB (Plan.seq [0, 1, 2, 3, 4, 1005, 6, 7, 9, 10, 11, 13, 14, 15, 16, 1008, 1012, 1017, 18] .nil) (by kernel_rfl) (by kernel_rfl) (fun hcur => ?_)
          simp only [Plan.seq, Plan.fill, List.getD_cons_zero, List.getD_cons_succ, Nat.reduceLT, ↓reduceIte, Nat.reduceSub]
          apply mix_pure _ rfl
          · intro w' hw'
            have hcr := hw'.cells
            go_simp
            rfl
          intro K hK
          go_simp
          refine hK _ ?_
          clear hK K
          apply mix_pure _ rfl
          · intro w' hw'
            have hcr := hw'.cells
            go_simp
            rfl
          intro K hK
          go_simp
          refine hK _ ?_
          clear hK K
          apply mix_pure _ rfl
          · intro w' hw'
            have hcr := hw'.cells
            go_simp
            rfl
          intro K hK
          go_simp
          refine hK _ ?_
          clear hK K
          apply mix_pure _ rfl
          · intro w' hw'
            have hcr := hw'.cells
            go_simp
            rfl
          intro K hK
          go_simp
          refine hK _ ?_
          clear hK K
          apply mix_pure _ rfl
          · intro w' hw'
            have hcr := hw'.cells
            go_simp
            rfl
          intro K hK
          go_simp
          refine hK _ ?_
          clear hK K
          refine mix_act rfl (fun K hK => ?_)
          go_simp
          refine (HBK.out _ hcur).mono ?_
          rintro e w5 ⟨rfl, hb⟩
          simp only []
          refine hK _ _ (hcur.trans hb) (fun hcur => ?_)
          clear hK K hb
          apply mix_pure _ rfl
          · intro w' hw'
            have hcr := hw'.cells
            go_simp
            rfl
          intro K hK
          go_simp
          refine hK _ ?_
          clear hK K
          apply mix_pure _ rfl
          · intro w' hw'
            have hcr := hw'.cells
            go_simp
            rfl
          intro K hK
          go_simp
          refine hK _ ?_
          clear hK K
          refine mix_skip (by go_simp) ?_
          intro K hK
          go_simp
          refine hK _ ?_
          clear hK K
          refine mix_skip (by go_simp) ?_
          intro K hK
          go_simp
          refine hK _ ?_
          clear hK K
          refine mix_skip (by go_simp) ?_
          intro K hK
          go_simp
          refine hK _ ?_
          clear hK K
          refine mix_skip (by go_simp) ?_
          intro K hK
          go_simp
          refine hK _ ?_
          clear hK K
          refine mix_skip (by go_simp) ?_
          intro K hK
          go_simp
          refine hK _ ?_
          clear hK K
          refine mix_skip (by go_simp) ?_
          intro K hK
          go_simp
          refine hK _ ?_
          clear hK K
          refine mix_skip (by go_simp) ?_
          intro K hK
          go_simp
          refine hK _ ?_
          clear hK K
          refine mix_askip (by go_simp) ?_
          intro K hK
          go_simp
          refine hK _ ?_
          clear hK K
          refine mix_askip (by go_simp) ?_
          intro K hK
          go_simp
          refine hK _ ?_
          clear hK K
          refine mix_askip (by go_simp) ?_
          intro K hK
          go_simp
          refine hK _ ?_
          clear hK K
          apply mix_pure _ rfl
          · intro w' hw'
            have hcr := hw'.cells
            go_simp
            rfl
          intro K hK
          go_simp
          refine hK _ ?_
          clear hK K
          refine mix_nil ?_
          have HC := Lib.hid (HBW.out.trans hcur)
          clear hcur
          go_wp2
          go_ret
          exact ⟨rb (by rw [HR.out]), HC.out⟩
        · rw [h1] at HBK HNF HNX
          clear h1
          cases h2 : inB T X
          · rw [h2] at HNF HNX
            have HI2 := Lib.hid h2
            have HR := Lib.hid (HNX.out rfl)
            clear h2 HNF HNX
            go_wp2_with fail
            refine wp_region_mixB (Plan.seq [0, 1, 2, 3, 4, 1005, 6, 7, 9, 10, 11, 13, 14, 15, 16, 1008, 1012, 1017, 18] .nil) (by kernel_rfl) (by kernel_rfl) (fun hcur => ?_)
            simp only [Plan.seq, Plan.fill, List.getD_cons_zero, List.getD_cons_succ, Nat.reduceLT, ↓reduceIte, Nat.reduceSub]
            apply mix_pure _ rfl
            · intro w' hw'
              have hcr := hw'.cells
              go_simp
              rfl
            intro K hK
            go_simp
            refine hK _ ?_
            clear hK K
            apply mix_pure _ rfl
            · intro w' hw'
              have hcr := hw'.cells
              go_simp
              rfl
            intro K hK
            go_simp
            refine hK _ ?_
            clear hK K
            apply mix_pure _ rfl
            · intro w' hw'
              have hcr := hw'.cells
              go_simp
              rfl
            intro K hK
            go_simp
            refine hK _ ?_
            clear hK K
            apply mix_pure _ rfl
            · intro w' hw'
              have hcr := hw'.cells
              go_simp
              rfl
            intro K hK
            go_simp
            refine hK _ ?_
            clear hK K
            apply mix_pure _ rfl
            · intro w' hw'
              have hcr := hw'.cells
              go_simp
              rfl
            intro K hK
            go_simp
            refine hK _ ?_
            clear hK K
            refine mix_act rfl (fun K hK => ?_)
            go_simp
            refine (HBK.out _ hcur).mono ?_
            rintro e w5 ⟨rfl, hb⟩
            simp only []
            refine hK _ _ (hcur.trans hb) (fun hcur => ?_)
            clear hK K hb
            apply mix_pure _ rfl
            · intro w' hw'
              have hcr := hw'.cells
              go_simp
              rfl
            intro K hK
            go_simp
            refine hK _ ?_
            clear hK K
            apply mix_pure _ rfl
            · intro w' hw'
              have hcr := hw'.cells
              go_simp
              rfl
            intro K hK
            go_simp
            refine hK _ ?_
            clear hK K
            apply mix_pureG _ (by go_simp)
            · intro w' hw'
              have hcr := hw'.cells
              go_simp
              rfl
            intro K hK
            go_simp
            refine hK _ ?_
            clear hK K
            apply mix_pureG _ (by go_simp)
            · intro w' hw'
              have hcr := hw'.cells
              go_simp
              rfl
            intro K hK
            go_simp
            refine hK _ ?_
            clear hK K
            apply mix_pureG _ (by go_simp)
            · intro w' hw'
              have hcr := hw'.cells
              go_simp
              rfl
            intro K hK
            go_simp
            refine hK _ ?_
            clear hK K
            apply mix_pureG _ (by go_simp)
            · intro w' hw'
              have hcr := hw'.cells
              go_simp
              rfl
            intro K hK
            go_simp
            refine hK _ ?_
            clear hK K
            apply mix_pureG _ (by go_simp)
            · intro w' hw'
              have hcr := hw'.cells
              go_simp
              rfl
            intro K hK
            go_simp
            refine hK _ ?_
            clear hK K
            apply mix_pureG _ (by go_simp)
            · intro w' hw'
              have hcr := hw'.cells
              go_simp
              rfl
            intro K hK
            go_simp
            refine hK _ ?_
            clear hK K
            apply mix_pureG _ (by go_simp)
            · intro w' hw'
              have hcr := hw'.cells
              go_simp
              rfl
            intro K hK
            go_simp
            refine hK _ ?_
            clear hK K
            refine mix_actG (by go_simp) (fun K hK => ?_)
            go_simp
            generalize hWA : World.alloc _ _ = WA
            have hna := new_at2 hWA
            have HE := Lib.hid (fresh_at (T := 3) (sz := 1) hna.2.1)
            have HGE := Lib.hid hcur.szle
            refine hK _ _ (hcur.trans hna.1) (fun hcur => ?_)
            clear hK K hWA hna
            refine mix_actG (by go_simp) (fun K hK => ?_)
            refine wp_append_opt _ _ 26 rfl 3 i1 (.int .i64 0) 1 8 Try.underlying26 HI1.out HZ1.out hs1 hb1 rfl (by decide) _ 0 [] rfl HE.out ca k cc (T.map (Value.int .i64)) rfl (by rw [HTL.out, Nat.mul_one]) (HTR.out _ hcur) (ints_one T) (by unfold maxLen; omega) (by omega) ?_
            intro V w7 hown hgrow hwhere
            have hi7 : Hid (IntsAt w7 V T) := Lib.hid (ownInts (by rw [HTN.out]; omega) (by simpa [HTN.out, Nat.zero_add] using hown))
            have hb7 : Bel wr w7 := hcur.grown hgrow (fun j e => by
              have e2 : some w5.heap.size = some j := e
              injection e2 with e2
              have := HGE.out
              omega)
            refine hK _ _ hb7 (fun hcur => ?_)
            clear hK K hown hgrow hwhere HE hb7
            refine mix_actG (by go_simp) (fun K hK => ?_)
            go_simp
            refine (In_any V T X _ hi7.out).mono ?_
            rintro e w8 ⟨rfl, rfl⟩
            rw [HI2.out]
            simp only []
            refine hK _ _ hcur (fun hcur => ?_)
            clear hK K
            apply mix_pure _ rfl
            · intro w' hw'
              have hcr := hw'.cells
              go_simp
              rfl
            intro K hK
            go_simp
            refine hK _ ?_
            clear hK K
            refine mix_nil ?_
            have HC := Lib.hid (HBW.out.trans hcur)
            have HCR := Lib.hid (hbr.out.trans hcur)
            clear hcur
            go_wp2
            go_roundw
            case rel => exact ⟨k + 1, by omega, by go_num, HR, HCR⟩
            case measure => simp [intOf]; omega
          · rw [h2] at HNF HNX
            have HI2 := Lib.hid h2
            have HR := Lib.hid (HNF.out rfl)
            clear h2 HNF HNX
            go_wp2_with fail
            refine wp_region_mixB (Plan.seq [0, 1, 2, 3, 4, 1005, 6, 7, 9, 10, 11, 13, 14, 15, 16, 1008, 1012, 1017, 18] .nil) (by kernel_rfl) (by kernel_rfl) (fun hcur => ?_)
            simp only [Plan.seq, Plan.fill, List.getD_cons_zero, List.getD_cons_succ, Nat.reduceLT, ↓reduceIte, Nat.reduceSub]
            apply mix_pure _ rfl
            · intro w' hw'
              have hcr := hw'.cells
              go_simp
              rfl
            intro K hK
            go_simp
            refine hK _ ?_
            clear hK K
            apply mix_pure _ rfl
            · intro w' hw'
              have hcr := hw'.cells
              go_simp
              rfl
            intro K hK
            go_simp
            refine hK _ ?_
            clear hK K
            apply mix_pure _ rfl
            · intro w' hw'
              have hcr := hw'.cells
              go_simp
              rfl
            intro K hK
            go_simp
            refine hK _ ?_
            clear hK K
            apply mix_pure _ rfl
            · intro w' hw'
              have hcr := hw'.cells
              go_simp
              rfl
            intro K hK
            go_simp
            refine hK _ ?_
            clear hK K
            apply mix_pure _ rfl
            · intro w' hw'
              have hcr := hw'.cells
              go_simp
              rfl
            intro K hK
            go_simp
            refine hK _ ?_
            clear hK K
            refine mix_act rfl (fun K hK => ?_)
            go_simp
            refine (HBK.out _ hcur).mono ?_
            rintro e w5 ⟨rfl, hb⟩
            simp only []
            refine hK _ _ (hcur.trans hb) (fun hcur => ?_)
            clear hK K hb
            apply mix_pure _ rfl
            · intro w' hw'
              have hcr := hw'.cells
              go_simp
              rfl
            intro K hK
            go_simp
            refine hK _ ?_
            clear hK K
            apply mix_pure _ rfl
            · intro w' hw'
              have hcr := hw'.cells
              go_simp
              rfl
            intro K hK
            go_simp
            refine hK _ ?_
            clear hK K
            apply mix_pureG _ (by go_simp)
            · intro w' hw'
              have hcr := hw'.cells
              go_simp
              rfl
            intro K hK
            go_simp
            refine hK _ ?_
            clear hK K
            apply mix_pureG _ (by go_simp)
            · intro w' hw'
              have hcr := hw'.cells
              go_simp
              rfl
            intro K hK
            go_simp
            refine hK _ ?_
            clear hK K
            apply mix_pureG _ (by go_simp)
            · intro w' hw'
              have hcr := hw'.cells
              go_simp
              rfl
            intro K hK
            go_simp
            refine hK _ ?_
            clear hK K
            apply mix_pureG _ (by go_simp)
            · intro w' hw'
              have hcr := hw'.cells
              go_simp
              rfl
            intro K hK
            go_simp
            refine hK _ ?_
            clear hK K
            apply mix_pureG _ (by go_simp)
            · intro w' hw'
              have hcr := hw'.cells
              go_simp
              rfl
            intro K hK
            go_simp
            refine hK _ ?_
            clear hK K
            apply mix_pureG _ (by go_simp)
            · intro w' hw'
              have hcr := hw'.cells
              go_simp
              rfl
            intro K hK
            go_simp
            refine hK _ ?_
            clear hK K
            apply mix_pureG _ (by go_simp)
            · intro w' hw'
              have hcr := hw'.cells
              go_simp
              rfl
            intro K hK
            go_simp
            refine hK _ ?_
            clear hK K
            refine mix_actG (by go_simp) (fun K hK => ?_)
            go_simp
            generalize hWA : World.alloc _ _ = WA
            have hna := new_at2 hWA
            have HE := Lib.hid (fresh_at (T := 3) (sz := 1) hna.2.1)
            have HGE := Lib.hid hcur.szle
            refine hK _ _ (hcur.trans hna.1) (fun hcur => ?_)
            clear hK K hWA hna
            refine mix_actG (by go_simp) (fun K hK => ?_)
            refine wp_append_opt _ _ 26 rfl 3 i1 (.int .i64 0) 1 8 Try.underlying26 HI1.out HZ1.out hs1 hb1 rfl (by decide) _ 0 [] rfl HE.out ca k cc (T.map (Value.int .i64)) rfl (by rw [HTL.out, Nat.mul_one]) (HTR.out _ hcur) (ints_one T) (by unfold maxLen; omega) (by omega) ?_
            intro V w7 hown hgrow hwhere
            have hi7 : Hid (IntsAt w7 V T) := Lib.hid (ownInts (by rw [HTN.out]; omega) (by simpa [HTN.out, Nat.zero_add] using hown))
            have hb7 : Bel wr w7 := hcur.grown hgrow (fun j e => by
              have e2 : some w5.heap.size = some j := e
              injection e2 with e2
              have := HGE.out
              omega)
            refine hK _ _ hb7 (fun hcur => ?_)
            clear hK K hown hgrow hwhere HE hb7
            refine mix_actG (by go_simp) (fun K hK => ?_)
            go_simp
            refine (In_any V T X _ hi7.out).mono ?_
            rintro e w8 ⟨rfl, rfl⟩
            rw [HI2.out]
            simp only []
            refine hK _ _ hcur (fun hcur => ?_)
            clear hK K
            apply mix_pure _ rfl
            · intro w' hw'
              have hcr := hw'.cells
              go_simp
              rfl
            intro K hK
            go_simp
            refine hK _ ?_
            clear hK K
            refine mix_nil ?_
            have HC := Lib.hid (HBW.out.trans hcur)
            clear hcur
            go_wp2
            go_ret
            exact ⟨rb (by rw [HR.out]), HC.out⟩
      · have hlti : ¬ (k : Int) < (c.length : Int) := by omega
        obtain rfl : k = c.length := by omega
        have HR := Lib.hid (show crewB s c = true by rw [HX.out]; exact hno.out)
        clear HX
        go_wp2
        go_ret
        exact ⟨rb (by rw [HR.out]), HBW.out⟩
  · have HR := Lib.hid (crewB_len hl)
    have hlq : ((c.length : Int) != (s.pl.length : Int)) = true := by rw [bne_iff_ne]; omega
    clear hl
    generalize s.bo.length = B at *
    generalize s.pl.length = G at *
    go_enter Try.func56, Try.ntmps56
    go_wp2
    go_ret
    exact ⟨rb (by rw [HR.out]), (by repeat (first | assumption | exact Bel.refl _ | refine Bel.drew ?_ | refine Bel.drewN ?_ _ | refine Bel.alloc ?_ _ | refine Bel.setCell ?_ (by simp <;> omega) _ | refine Bel.trans ?_ (by assumption)))⟩
end Go.Proofs.Ytkdcdhkhadhcfaa
