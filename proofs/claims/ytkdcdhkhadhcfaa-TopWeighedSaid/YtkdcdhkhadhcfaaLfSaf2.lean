/-
  lifts: sailing, Safe, of a valid sea and a crew.
-/
import Derived.Test.YtkdcdhkhadhcfaaLfOpen
import Derived.Laws.Bits64b
namespace Go.Proofs.Ytkdcdhkhadhcfaa
open Go Go.RowKit
set_option maxHeartbeats 4000000
set_option maxRecDepth 100000
def popN (x : Nat) : Nat := (List.range 6).countP fun i => x.testBit i
theorem ones64_any (x : Nat) (hx : x < 64) (w : World) : Calls Try.prog 133 #[.int .u64 x] w fun e w' => e = .returned (.int .i64 (popN x : Nat)) ∧ w = w' := by
  go_enter Try.func133, Try.ntmps133
  go_wp2
  go_ret
  refine ⟨ri ?_, rfl⟩
  revert hx
  revert x
  decide +kernel
theorem ones_any (x : Nat) (hx : x < 64) (w : World) : Calls Try.prog 125 #[.int .u64 x] w fun e w' => e = .returned (.int .i64 (popN x : Nat)) ∧ w = w' := by
  have HC := Lib.hid (fun wx => ones64_any x hx wx)
  generalize popN x = p at *
  clear hx
  go_enter Try.func125, Try.ntmps125
  go_wp2_with (go_at_call 133; refine (HC.out _).mono ?_; rintro e w' ⟨rfl, rfl⟩)
  go_ret
  exact ⟨rfl, rfl⟩
def maskTo (c : List Int) : Nat → Nat
  | 0 => 0
  | k + 1 => maskTo c k ||| 2 ^ (at0 c k).toNat
theorem mask_bit {c : List Int} {i : Nat} : ∀ k, (maskTo c k).testBit i = true ↔ ∃ j, j < k ∧ (at0 c j).toNat = i
  | 0 => by
    show (0 : Nat).testBit i = true ↔ _
    simp
  | k + 1 => by
    have ih := mask_bit (c := c) (i := i) k
    show (maskTo c k ||| 2 ^ (at0 c k).toNat).testBit i = true ↔ _
    rw [Nat.testBit_or, Bool.or_eq_true, ih, Nat.testBit_two_pow, decide_eq_true_eq]
    constructor
    · rintro (⟨j, h1, h2⟩ | h)
      · exact ⟨j, by omega, h2⟩
      · exact ⟨k, by omega, h⟩
    · rintro ⟨j, h1, h2⟩
      by_cases e : j = k
      · exact .inr (by rw [← e]; exact h2)
      · exact .inl ⟨j, by omega, h2⟩
theorem pop_or : ∀ D, D < 64 → ∀ i, i < 6 → D.testBit i = false → popN (D ||| 2 ^ i) = popN D + 1 ∧ D ||| 2 ^ i < 64 := by decide +kernel
theorem or_i64 : ∀ D, D < 64 → ∀ i, i < 6 → bits BinOp.or IntKind.i64 ((D : Nat) : Int) (wrap64 (2 ^ i)) = ((D ||| 2 ^ i : Nat) : Int) := by decide +kernel
theorem crew_dist {s : LSea} {c : List Int} (h : crewB s c = true) : ∀ i j, i < c.length → j < i → at0 c j ≠ at0 c i := by
  unfold crewB at h
  rw [Bool.and_eq_true, allB_iff] at h
  intro i j hi hj
  have := h.2 i hi
  rw [Bool.and_eq_true, allB_iff] at this
  have := this.2 j hj
  rw [Bool.not_eq_true', decide_eq_false_iff_not] at this
  exact this
theorem mask_pop {s : LSea} {c : List Int} (hs : LOk s) (h : crewB s c = true) : ∀ k, k ≤ c.length → popN (maskTo c k) = k ∧ maskTo c k < 64
  | 0, _ => ⟨by show popN 0 = 0; decide, by show (0 : Nat) < 64; omega⟩
  | k + 1, hk => by
    obtain ⟨ih1, ih2⟩ := mask_pop hs h k (by omega)
    have hin := (crew_in h).2 k (by omega)
    have hb := hs.b6
    have hf : (maskTo c k).testBit (at0 c k).toNat = false := by
      cases q : (maskTo c k).testBit (at0 c k).toNat with
      | false => rfl
      | true =>
        obtain ⟨j, h1, h2⟩ := (mask_bit k).1 q
        have hj := (crew_in h).2 j (by omega)
        exact absurd (show at0 c j = at0 c k by omega) (crew_dist h k j (by omega) h1)
    obtain ⟨h1, h2⟩ := pop_or _ ih2 (at0 c k).toNat (by omega) hf
    exact ⟨by show popN (maskTo c k ||| _) = _; rw [h1, ih1], h2⟩
theorem lfIsCrew_any (s : LSea) (c : List Int) (v cv : Value) (w : World) (hs : LOk s) (h : crewB s c = true) (hv : SeaAt w v s) (hc : IntsAt w cv c) :
    Calls Try.prog 108 #[v, cv] w fun e w' => e = .returned (.bool true) ∧ Bel w w' := by
  obtain ⟨hl, hin⟩ := crew_in h
  have HIN := Lib.hid hin
  have HMP := Lib.hid (fun k hk => mask_pop hs h k hk)
  have hl4 : c.length ≤ 4 := by rw [hl]; exact hs.p4
  have hb6 := hs.b6
  obtain ⟨pa, pc, ba, bc, rfl, _, _, _, _⟩ := hv.open
  obtain ⟨ca, cc, cb, co, rfl, hca, ⟨hcl, _⟩, hcc⟩ := hc
  have hixc := idxInts (c := cc) hca
  have HCC := Lib.hid hcc
  have HL := Lib.hid hl
  have hlq : ((c.length : Int) == (s.pl.length : Int)) = true := by rw [beq_iff_eq]; omega
  have HON := Lib.hid (fun wx => ones_any (maskTo c c.length) (HMP.out c.length (Nat.le_refl _)).2 wx)
  rw [(HMP.out c.length (Nat.le_refl _)).1] at HON
  have HOR := Lib.hid (fun k (hk : k < c.length) => or_i64 (maskTo c k) (HMP.out k (by omega)).2 (at0 c k).toNat (by have := HIN.out k hk; omega))
  have HMS := Lib.hid (fun k => show maskTo c (k + 1) = maskTo c k ||| 2 ^ (at0 c k).toNat from rfl)
  clear hs h hv hca hcc hin hl
  generalize s.bo.length = B at *
  generalize s.pl.length = G at *
  go_enter Try.func108, Try.ntmps108
  go_wp2
  generalize hW : World.alloc _ _ = W0
  have HX : Hid (Bx W0 w.heap.size [.int .i64 s.w.lo, .int .i64 s.w.hi, .slice pa G pc, .slice ba B bc]) := Lib.hid (by rw [← hW]; exact Bx.new rfl)
  have HB : Hid (Bel w W0) := Lib.hid (by rw [← hW]; exact (Bel.refl w).alloc _)
  clear hW
  go_loopw [5, 10] (fun u i wr => ∃ k : Nat, k ≤ c.length ∧ i = .int .i64 k ∧ u = .int .i64 (maskTo c k : Nat) ∧ wr = W0) (fun _ i _ => c.length - (intOf i).toNat)
  case atStart => exact ⟨0, by omega, rfl, rfl, rfl⟩
  case round =>
    obtain ⟨k, hk, rfl, rfl, rfl⟩ := hrel
    have x2 := HX.out.c 2 _ rfl
    have x3 := HX.out.c 3 _ rfl
    have lx := HX.out.lt
    by_cases hlt : k < c.length
    · have hlti : (k : Int) < (c.length : Int) := by omega
      obtain ⟨g1, g2⟩ := HIN.out k hlt
      have k0 := HB.out.cell (HCC.out k hlt)
      have lk := cell_lt k0
      have hw : withinB (at0 c k) 0 ((B : Int) - 1) = true := withinB_true.2 ⟨g1, by omega⟩
      have HR := Lib.hid (HOR.out k hlt)
      have HS := Lib.hid (HMS.out k)
      obtain ⟨j, hj⟩ : ∃ j : Nat, at0 c k = (j : Int) := ⟨(at0 c k).toNat, by omega⟩
      rw [hj] at k0 hw HR HS
      rw [Int.toNat_natCast] at HR HS
      have hj6 : j < 6 := by omega
      clear HOR HMS HON HCC HIN HMP hj g1 g2
      generalize maskTo c k = M at *
      go_wp2_with (first | (go_at_call 123; refine (Lwithin_any _ _ _ _).mono ?_; rintro e w' ⟨rfl, rfl⟩) | fail)
      go_roundw
      case rel => exact ⟨k + 1, by omega, by go_num, by first | (rw [HS.out, ← HR.out]; done) | (rw [HS.out, ← HR.out]; rfl), by trivial⟩
      case measure => simp [intOf]; omega
    · have hlti : ¬ (k : Int) < (c.length : Int) := by omega
      obtain rfl : k = c.length := by omega
      have hm := (HMP.out c.length (Nat.le_refl _)).2
      have hcv : IntKind.u64.wrap ((maskTo c c.length : Nat) : Int) = ((maskTo c c.length : Nat) : Int) := by rw [IntKind.wrap_u64]; omega
      clear HOR HMS HMP
      generalize maskTo c c.length = M at *
      go_wp2_with (go_at_call 125; refine (HON.out _).mono ?_; rintro e w' ⟨rfl, rfl⟩)
      go_ret
      exact ⟨rfl, HB.out⟩
end Go.Proofs.Ytkdcdhkhadhcfaa
namespace Go.Proofs.Ytkdcdhkhadhcfaa
open Go Go.RowKit
set_option maxHeartbeats 4000000
set_option maxRecDepth 100000
theorem lfSail_any (s : LSea) (c : List Int) (cv : Value) (pa ba : Option Addr) (pc bc : Nat) (w : World) (hs : LOk s) (h : crewB s c = true) (hp : PlAt w (.slice pa s.pl.length pc) s.pl) (hb : BoAt w (.slice ba s.bo.length bc) s.bo) (hc : IntsAt w cv c) :
    Calls Try.prog 82 #[.agg #[.int .i64 s.w.lo, .int .i64 s.w.hi, .slice pa s.pl.length pc, .slice ba s.bo.length bc], cv] w fun e w' => ∃ g, e = .returned (.tuple #[.pointer (some ⟨g, 0, none⟩), .int .i64 0]) ∧ w.heap.size ≤ g ∧ SeaBx w' g s (.slice pa s.pl.length pc) (.slice ba s.bo.length bc) s.pl.length ∧ Bel w w' := by
  have HO := Lib.hid (fun wx (hx : Bel w wx) => lfOpen_any s pa ba pc bc wx hs (hp.bel hx) (hb.bel hx))
  have HI := Lib.hid (fun wx (hx : Bel w wx) => lfIsCrew_any s c _ cv wx hs h ⟨_, _, rfl, hp.bel hx, hb.bel hx⟩ (hc.bel hx))
  obtain ⟨ca, cc, cb, co, rfl, _, ⟨hcl, _⟩, _⟩ := hc
  clear hs h hp hb
  generalize s.bo.length = B at *
  generalize s.pl.length = G at *
  go_enter Try.func82, Try.ntmps82
  go_wp2_with fail
  generalize hW : World.alloc _ _ = W0
  have HX : Hid (Bx W0 w.heap.size [.int .i64 s.w.lo, .int .i64 s.w.hi, .slice pa G pc, .slice ba B bc]) := Lib.hid (by rw [← hW]; exact Bx.new rfl)
  have HB : Hid (Bel w W0) := Lib.hid (by rw [← hW]; exact (Bel.refl w).alloc _)
  clear hW
  refine (HO.out _ HB.out).mono ?_
  rintro e w1 ⟨g1, rfl, _, _, hb⟩
  replace HX := Lib.hid (HX.out.bel hb)
  replace HB := Lib.hid (HB.out.trans hb)
  clear hb
  have x0 := HX.out.c 0 _ rfl
  have x1 := HX.out.c 1 _ rfl
  have x2 := HX.out.c 2 _ rfl
  have x3 := HX.out.c 3 _ rfl
  have lx := HX.out.lt
  go_wp2_with fail
  refine wp_region_mixB (Plan.seq [0, 1, 2, 1003, 1004, 5, 6, 7, 8] .nil) (by kernel_rfl) (by kernel_rfl) (fun hcur => ?_)
  simp only [Plan.seq, Plan.fill, List.getD_cons_zero, List.getD_cons_succ, Nat.reduceLT, ↓reduceIte, Nat.reduceSub]
  apply mix_pure _ rfl
  · intro w' hw'
    have hcr := hw'.cells
    go_simp
    rfl
  intro K hK
  go_simp
  refine hK _ ?_
  clear hK K
  apply mix_pure _ rfl
  · intro w' hw'
    have hcr := hw'.cells
    go_simp
    rfl
  intro K hK
  go_simp
  refine hK _ ?_
  clear hK K
  apply mix_pure _ rfl
  · intro w' hw'
    have hcr := hw'.cells
    go_simp
    rfl
  intro K hK
  go_simp
  refine hK _ ?_
  clear hK K
  refine mix_act rfl (fun K hK => ?_)
  go_simp
  refine (HI.out _ (HB.out.trans hcur)).mono ?_
  rintro e w5 ⟨rfl, hb⟩
  simp only []
  refine hK _ _ (hcur.trans hb) (fun hcur => ?_)
  clear hK K hb
  refine mix_act rfl (fun K hK => ?_)
  go_simp
  refine (HO.out _ (HB.out.trans hcur)).mono ?_
  rintro e w6 ⟨g, rfl, hg, hsb, hb⟩
  simp only []
  have HG := Lib.hid (Nat.le_trans (HB.out.trans hcur).szle hg)
  have HSB := Lib.hid hsb
  refine hK _ _ (hcur.trans hb) (fun hcur => ?_)
  clear hK K hb hg hsb
  apply mix_pure _ rfl
  · intro w' hw'
    have hcr := hw'.cells
    go_simp
    rfl
  intro K hK
  go_simp
  refine hK _ ?_
  clear hK K
  apply mix_pure _ rfl
  · intro w' hw'
    have hcr := hw'.cells
    go_simp
    rfl
  intro K hK
  go_simp
  refine hK _ ?_
  clear hK K
  apply mix_pure _ rfl
  · intro w' hw'
    have hcr := hw'.cells
    go_simp
    rfl
  intro K hK
  go_simp
  refine hK _ ?_
  clear hK K
  apply mix_pure _ rfl
  · intro w' hw'
    have hcr := hw'.cells
    go_simp
    rfl
  intro K hK
  go_simp
  refine hK _ ?_
  clear hK K
  refine mix_nil ?_
  have HC := Lib.hid (HB.out.trans hcur)
  clear hcur
  go_wp2
  go_ret2
  exact ⟨g, rfl, HG.out, HSB.out, HC.out⟩
theorem caps_none {s : LSea} {c : List Int} {k : Nat} (h : capsTo s c k = none) : ∀ j, capsTo s c (k + j) = none
  | 0 => h
  | j + 1 => by
    have ih := caps_none h j
    show (match capsTo s c (k + j) with | none => none | some m => if capV s c (k + j) < (atS s.pl (k + j)).lo then none else some (m + capV s c (k + j))) = none
    rw [ih]
theorem caps_stop {s : LSea} {c : List Int} {k : Nat} {m : Int} (h : capsTo s c k = some m) (hk : k < c.length) (hlt : capV s c k < (atS s.pl k).lo) : neverB s c = true := by
  have h1 : capsTo s c (k + 1) = none := by
    show (match capsTo s c k with | none => none | some m => if capV s c k < (atS s.pl k).lo then none else some (m + capV s c k)) = none
    rw [h]; exact if_pos hlt
  have h2 := caps_none h1 (c.length - (k + 1))
  rw [show k + 1 + (c.length - (k + 1)) = c.length by omega] at h2
  unfold neverB
  rw [h2]
theorem caps_step {s : LSea} {c : List Int} {k : Nat} {m : Int} (h : capsTo s c k = some m) (hlt : ¬ capV s c k < (atS s.pl k).lo) : capsTo s c (k + 1) = some (m + capV s c k) := by
  show (match capsTo s c k with | none => none | some m => if capV s c k < (atS s.pl k).lo then none else some (m + capV s c k)) = _
  rw [h]; exact if_neg hlt
theorem lfSafe_any (s : LSea) (c : List Int) (cv : Value) (v : Value) (w : World) (hs : LOk s) (h : crewB s c = true) (hv : SeaAt w v s) (hc : IntsAt w cv c) :
    Calls Try.prog 57 #[v, cv] w fun e w' => e = .returned (.tuple #[.int .i64 (safeV s c), .int .i64 0]) ∧ Bel w w' := by
  obtain ⟨pa, pc, ba, bc, rfl, hp, hb, hpl, hbl⟩ := hv.open
  obtain ⟨hl, hin⟩ := crew_in h
  have HSA := Lib.hid (fun wx (hx : Bel w wx) => lfSail_any s c cv pa ba pc bc wx hs h (hp.bel hx) (hb.bel hx) (hc.bel hx))
  have HHO := Lib.hid (fun g wx (hx : Bel w wx) (hsb : SeaBx wx g s (.slice pa s.pl.length pc) (.slice ba s.bo.length bc) s.pl.length) => lfHolds_any s (.slice pa s.pl.length pc) c cv g ba bc wx hs hsb (hb.bel hx) (hc.bel hx) hl hin)
  have HIN := Lib.hid hin
  obtain ⟨_, _, pb, po, pe, hpa, _, hpc⟩ := hp
  injection pe with pe1 _ pe3
  subst pe1 pe3
  obtain ⟨_, _, bb, bo, be, hba, _, hbc⟩ := hb
  injection be with be1 _ be3
  subst be1 be3
  have hixp := idxPl (c := pc) hpa
  have hixb := idxBo (c := bc) hba
  have HPC := Lib.hid hpc
  have HBC := Lib.hid hbc
  obtain ⟨ca, cc, cb, co, rfl, hca, ⟨hcl, _⟩, hcc⟩ := hc
  have hixc := idxInts (c := cc) hca
  have HCC := Lib.hid hcc
  have HPK := Lib.hid (fun k (hk : k < s.pl.length) => hs.p hk)
  have HBK := Lib.hid (fun k (hk : k < s.bo.length) => hs.b hk)
  have HSF := Lib.hid (show safeV s c = if holdsV s c then 1 else if neverB s c then 2 else 3 from rfl)
  have HCV := Lib.hid (fun k => show capV s c k = if 0 < s.w.lo then min (atS s.pl k).hi (12 * carryV s c k / s.w.lo) else (atS s.pl k).hi from rfl)
  have HST := Lib.hid (fun k m h1 h2 h3 => caps_stop (s := s) (c := c) (k := k) (m := m) h1 h2 h3)
  have HNX := Lib.hid (fun k m h1 h3 => caps_step (s := s) (c := c) (k := k) (m := m) h1 h3)
  have HEND := Lib.hid (show neverB s c = match capsTo s c c.length with | none => true | some m => decide (m < 12) from rfl)
  have HC0 := Lib.hid (show capsTo s c 0 = some 0 from rfl)
  have hw := hs.w
  have hl4 : c.length ≤ 4 := by rw [hl]; exact hs.p4
  have HL := Lib.hid hl
  clear hs h hv hpa hpc hba hbc hca hcc hin hl
  generalize hBB : s.bo.length = B at *
  clear hBB
  generalize hGG : s.pl.length = G at *
  clear hGG
  go_enter Try.func57, Try.ntmps57
  go_wp2_with fail
  generalize hW : World.alloc _ _ = W0
  have HX : Hid (Bx W0 w.heap.size [.int .i64 s.w.lo, .int .i64 s.w.hi, .slice pa G pc, .slice ba B bc]) := Lib.hid (by rw [← hW]; exact Bx.new rfl)
  have HB : Hid (Bel w W0) := Lib.hid (by rw [← hW]; exact (Bel.refl w).alloc _)
  clear hW
  refine (HSA.out _ HB.out).mono ?_
  rintro e w1 ⟨g1, rfl, _, hsb, hb⟩
  have HSB := Lib.hid hsb
  replace HX := Lib.hid (HX.out.bel hb)
  replace HB := Lib.hid (HB.out.trans hb)
  clear hb hsb HSA
  go_wp2_with fail
  refine (HHO.out g1 _ HB.out HSB.out).mono ?_
  rintro e w2 ⟨rfl, hb⟩
  replace HX := Lib.hid (HX.out.bel hb)
  replace HB := Lib.hid (HB.out.trans hb)
  clear hb HHO HSB
  cases hh : holdsV s c
  · have HSN := Lib.hid (show safeV s c = if neverB s c then 2 else 3 by rw [HSF.out, hh]; rfl)
    clear hh HSF
    go_wp2_with fail
    go_loopw [8, 27] (fun mv i wr => ∃ (k : Nat) (m : Int), k ≤ c.length ∧ i = .int .i64 k ∧ mv = .int .i64 m ∧ Hid (capsTo s c k = some m) ∧ (0 ≤ m ∧ m ≤ 12 * k) ∧ Hid (Bel w2 wr)) (fun _ i _ => c.length - (intOf i).toNat)
    case atStart => exact ⟨0, 0, by omega, rfl, rfl, HC0, by omega, Lib.hid (Bel.refl _)⟩
    case round =>
      obtain ⟨k, m, hk, rfl, rfl, hcap, ⟨hm1, hm2⟩, hbr⟩ := hrel
      replace HX := Lib.hid (HX.out.bel hbr.out)
      have HBW := Lib.hid (HB.out.trans hbr.out)
      have x0 := HX.out.c 0 _ rfl
      have x1 := HX.out.c 1 _ rfl
      have x2 := HX.out.c 2 _ rfl
      have x3 := HX.out.c 3 _ rfl
      have lx := HX.out.lt
      by_cases hlt : k < c.length
      · have hlti : (k : Int) < (c.length : Int) := by omega
        have hkG : k < G := by have := HL.out; omega
        obtain ⟨g1', g2⟩ := HIN.out k hlt
        obtain ⟨j, hj⟩ : ∃ j : Nat, at0 c k = (j : Int) := ⟨(at0 c k).toNat, by omega⟩
        have hjB : j < B := by omega
        have k0 := HBW.out.cell (HCC.out k hlt)
        rw [hj] at k0
        have b0 := HBW.out.cell (HBC.out j hjB).1
        have HCA := Lib.hid (show carryV s c k = (atBo s.bo j).ca by unfold carryV; rw [hj]; rfl)
        obtain ⟨r1, r2, _, _⟩ := HBK.out j hjB
        rw [← HCA.out] at b0 r1 r2
        have p0 := HBW.out.cell (HPC.out k hkG).1
        have p1 := HBW.out.cell (HPC.out k hkG).2
        obtain ⟨t1, t2, t3⟩ := HPK.out k hkG
        have lk := cell_lt k0
        have lb := cell_lt b0
        have lp := cell_lt p0
        have HCV1 := Lib.hid (HCV.out k)
        have HST1 := Lib.hid (HST.out k m hcap.out hlt)
        have HNX1 := Lib.hid (HNX.out k m hcap.out)
        clear hj g1' g2 HCA HBK HPK HCV HST HNX HPC HBC HCC HIN hcap HEND HC0
        generalize capV s c k = CV at *
        generalize carryV s c k = C at *
        generalize atS s.pl k = p at *
        obtain ⟨plo, phi⟩ := p
        simp only at p0 p1 t1 t2 t3 HCV1 HST1 HNX1
        by_cases hwl : 0 < s.w.lo
        · have dwl : decide (0 < s.w.lo) = true := decide_eq_true hwl
          have hne : s.w.lo ≠ 0 := by omega
          have HQ0 := Lib.hid (HCV1.out.trans (if_pos hwl))
          have hq0 : 0 ≤ 12 * C / s.w.lo ∧ 12 * C / s.w.lo ≤ 12 * C := ⟨Int.ediv_nonneg (by omega) (by omega), Int.ediv_le_self _ (by omega)⟩
          have hqt : (12 * C).tdiv s.w.lo = 12 * C / s.w.lo := Int.tdiv_eq_ediv_of_nonneg (by omega)
          generalize 12 * C / s.w.lo = Q at *
          have HQ1 := Lib.hid HQ0.out
          clear HQ0 HCV1
          go_wp2_with fail
          generalize hW : World.alloc _ _ = W1
          have HN : Hid (Bx W1 wr.heap.size [.int .i64 plo, .int .i64 phi]) := Lib.hid (by rw [← hW]; exact Bx.new rfl)
          have hb1 : Bel wr W1 := by rw [← hW]; exact (Bel.refl wr).alloc _
          have HBR1 := Lib.hid (hbr.out.trans hb1)
          have HX1 := Lib.hid (HX.out.bel hb1)
          replace b0 := hb1.cell b0
          have lb := cell_lt b0
          have z0 := HN.out.c 0 _ rfl
          have z1 := HN.out.c 1 _ rfl
          have zl := HN.out.lt
          have zf := HN.out.f
          have y2 := HX1.out.c 3 _ rfl
          have yl := HX1.out.lt
          have hws : w2.heap.size ≤ wr.heap.size := hbr.out.szle
          clear hW hb1 x0 x1 x2 x3 lx k0 p0 p1 lk lp
          have hmq : min phi Q = CV := HQ1.out.symm
          have HMQ := Lib.hid hmq
          refine wp_region_mixTB (Plan.seq [0, 1, 2, 3, 4, 5, 6, 7, 8, 9, 10, 11, 12] .nil) (by kernel_rfl) (by kernel_rfl) (fun hcur => ?_)
          simp only [Plan.seq, Plan.fill, List.getD_cons_zero, List.getD_cons_succ, Nat.reduceLT, ↓reduceIte]
          apply mix_pure _ rfl
          · intro w' hw'
            have hcr := hw'.cells
            go_simp
            rfl
          intro K hK
          go_simp
          refine hK _ ?_
          clear hK K
          apply mix_pure _ rfl
          · intro w' hw'
            have hcr := hw'.cells
            go_simp
            rfl
          intro K hK
          go_simp
          refine hK _ ?_
          clear hK K
          apply mix_pure _ rfl
          · intro w' hw'
            have hcr := hw'.cells
            go_simp
            rfl
          intro K hK
          go_simp
          refine hK _ ?_
          clear hK K
          apply mix_pure _ rfl
          · intro w' hw'
            have hcr := hw'.cells
            go_simp
            rfl
          intro K hK
          go_simp
          refine hK _ ?_
          clear hK K
          apply mix_pure _ rfl
          · intro w' hw'
            have hcr := hw'.cells
            go_simp
            rfl
          intro K hK
          go_simp
          refine hK _ ?_
          clear hK K
          apply mix_pure _ rfl
          · intro w' hw'
            have hcr := hw'.cells
            go_simp
            rfl
          intro K hK
          go_simp
          refine hK _ ?_
          clear hK K
          apply mix_pure _ rfl
          · intro w' hw'
            have hcr := hw'.cells
            go_simp
            rfl
          intro K hK
          go_simp
          refine hK _ ?_
          clear hK K
          apply mix_pure _ rfl
          · intro w' hw'
            have hcr := hw'.cells
            go_simp
            rfl
          intro K hK
          go_simp
          refine hK _ ?_
          clear hK K
          apply mix_pure _ rfl
          · intro w' hw'
            have hcr := hw'.cells
            go_simp
            first | (rw [IntWalk.i64_in]; all_goals first | omega | rfl) | rfl
          intro K hK
          go_simp
          refine hK _ ?_
          clear hK K
          apply mix_pure _ rfl
          · intro w' hw'
            have hcr := hw'.cells
            go_simp
            rfl
          intro K hK
          go_simp
          refine hK _ ?_
          clear hK K
          apply mix_pure _ rfl
          · intro w' hw'
            have hcr := hw'.cells
            go_simp
            rw [IntWalk.i64_in]
            all_goals first | omega | rfl
          intro K hK
          go_simp
          refine hK _ ?_
          clear hK K
          apply mix_pure _ rfl
          · intro w' hw'
            have hcr := hw'.cells
            go_simp
            rfl
          intro K hK
          go_simp
          refine hK _ ?_
          clear hK K
          apply mix_pure _ rfl
          · intro w' hw'
            have hcr := hw'.cells
            go_simp
            rfl
          intro K hK
          go_simp
          refine hK _ ?_
          clear hK K
          refine mix_tailK rfl (fun K hK => ?_)
          go_simp
          generalize hW7 : World.drew _ = W7
          have HF : Hid (Bx W7 wr.heap.size [.int .i64 plo, .int .i64 CV]) := Lib.hid (by rw [← hW7]; exact (HN.out.set (i := 1) (by simp) (.int .i64 CV)).bel (Bel.refl _).drew)
          have HBF : Hid (Bel w2 W7) := Lib.hid (by rw [← hW7]; exact (HBR1.out.setCell (p := ⟨wr.heap.size, 1, none⟩) hws (.int .i64 CV)).drew)
          refine hK _ _ ?_
          clear hK K hcur hW7
          clear z0 z1 zl zf y2 yl b0 lb HX1 HBR1 HN
          have z0 := HF.out.c 0 _ rfl
          have z1 := HF.out.c 1 _ rfl
          have zl := HF.out.lt
          have hcle : CV ≤ phi := by omega
          clear hmq
          by_cases hq : CV < plo
          · have dq : decide (CV < plo) = true := decide_eq_true hq
            have HR := Lib.hid (show safeV s c = 2 by rw [HSN.out, HST1.out hq]; rfl)
            clear HNX1 HST1 HSN
            go_wp2
            go_ret2
            exact ⟨by rw [HR.out]; rfl, HB.out.trans HBF.out⟩
          · have dq : decide (CV < plo) = false := decide_eq_false hq
            have HR := Lib.hid (HNX1.out (by omega))
            have hcb : 0 ≤ CV ∧ CV ≤ 12 := by omega
            clear HNX1 HST1 HSN
            go_wp2
            go_roundw
            case rel => exact ⟨k + 1, m + CV, by omega, by go_num, by go_num, HR, by omega, HBF⟩
            case measure => simp [intOf]; omega
        · skip
          have dwl : decide (0 < s.w.lo) = false := decide_eq_false hwl
          have HQ0 := Lib.hid (HCV1.out.trans (if_neg hwl))
          obtain rfl : CV = phi := HQ0.out
          clear HQ0 HCV1
          by_cases hq : CV < plo
          · exact absurd hq (by omega)
          · have dq : decide (CV < plo) = false := decide_eq_false hq
            have HR := Lib.hid (HNX1.out (by omega))
            have hcb : 0 ≤ CV ∧ CV ≤ 12 := by omega
            clear HNX1 HST1 HSN
            go_wp2
            go_roundw
            case rel => exact ⟨k + 1, m + CV, by omega, by go_num, by go_num, HR, by omega, Lib.hid (hbr.out.alloc _)⟩
            case measure => simp [intOf]; omega
      · have hlti : ¬ (k : Int) < (c.length : Int) := by omega
        obtain rfl : k = c.length := by omega
        have HE := Lib.hid (show neverB s c = decide (m < 12) by rw [HEND.out, hcap.out])
        by_cases hz : m < 12
        · have dz : decide (m < 12) = true := decide_eq_true hz
          have HR := Lib.hid (show safeV s c = 2 by rw [HSN.out, HE.out, dz]; rfl)
          clear HE HSN HEND
          go_wp2
          go_ret2
          exact ⟨by rw [HR.out]; rfl, HBW.out⟩
        · have dz : decide (m < 12) = false := decide_eq_false hz
          have HR := Lib.hid (show safeV s c = 3 by rw [HSN.out, HE.out, dz]; rfl)
          clear HE HSN HEND
          go_wp2
          go_ret2
          exact ⟨by rw [HR.out]; rfl, HBW.out⟩
  · have HR := Lib.hid (show safeV s c = 1 by rw [HSF.out, hh]; rfl)
    clear hh HSF HEND
    go_wp2
    go_ret2
    exact ⟨by rw [HR.out]; rfl, HB.out⟩
end Go.Proofs.Ytkdcdhkhadhcfaa
