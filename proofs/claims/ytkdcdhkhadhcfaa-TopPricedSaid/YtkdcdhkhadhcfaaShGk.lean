/-
  shares: the program: ask, Gets, Keeps; the top law's part.
-/
import Derived.Test.YtkdcdhkhadhcfaaShSh
namespace Go.Proofs.Ytkdcdhkhadhcfaa
open Go Go.RowKit
set_option maxHeartbeats 4000000
set_option maxRecDepth 100000
theorem payIdx_any (fv : Value) (w : World) : Calls Try.prog 110 #[.slice none 0 0, fv] w fun e w' => e = .returned (.int .i64 (-1)) ∧ w = w' := by
  go_enter Try.func110, Try.ntmps110
  go_wp2
  go_loopw [8] (fun i wr => i = .int .i64 0 ∧ wr = w) (fun _ _ => 0)
  case atStart => exact ⟨rfl, rfl⟩
  case round =>
    obtain ⟨rfl, rfl⟩ := hrel
    go_wp2
    go_ret
    exact ⟨rfl, rfl⟩
theorem payCon_any (fv : Value) (w : World) : Calls Try.prog 85 #[.slice none 0 0, fv] w fun e w' => e = .returned (.bool false) ∧ w = w' := by
  go_enter Try.func85, Try.ntmps85
  go_wp2_with (go_at_call 110; refine (payIdx_any _ _).mono ?_; rintro e w' ⟨rfl, rfl⟩)
  go_ret
  exact ⟨rfl, rfl⟩
theorem Sask_any (l : List SNd) (v : Value) (w : World) (ht : CusOk l) (hv : CusAt w v l) : Calls Try.prog 64 #[v, .bool true, .slice none 0 0] w fun e w' => e = .returned (.int .i64 0) ∧ Bel w w' := by
  have HC := Lib.hid (fun wx (hb : Bel w wx) => SCheck_any l v wx ht (hv.bel hb))
  have hmf : ∀ (fn : Fn) (first cap : Array Value) (w : World), (Instr.makeFunc fn first cap).run Try.prog w = .ok (.func fn first cap) w := fun _ _ _ _ => rfl
  obtain ⟨s, rfl, a, c, b, off, rfl, _, _, _⟩ := hv
  go_enter Try.func64, Try.ntmps64
  go_wp2_with fail
  generalize hW : World.alloc _ _ = W0
  have HB : Hid (Bel w W0) := Lib.hid (by rw [← hW]; exact (Bel.refl w).alloc _)
  clear hW
  refine (HC.out _ HB.out).mono ?_
  rintro e w1 ⟨rfl, hb⟩
  replace HB := Lib.hid (HB.out.trans hb)
  clear hb HC
  go_wp2_with (go_at_call 85; refine (payCon_any _ _).mono ?_; rintro e w' ⟨rfl, rfl⟩)
  go_ret
  exact ⟨rfl, HB.out⟩
theorem SGets_any (l : List SNd) (p : Int) (v : Value) (w : World) (ht : CusOk l) (hp : 0 ≤ p ∧ p ≤ 400) (hv : CusAt w v l) :
    Calls Try.prog 45 #[v, .int .i64 p] w fun e w' => ∃ g : Nat, e = .returned (.tuple #[.slice (some ⟨g, 0, none⟩) l.length l.length, .int .i64 0]) ∧ Bx w' g (icells (getsV l p)) ∧ Bel w w' := by
  have HA := Lib.hid (fun wx (hb : Bel w wx) => Sask_any l v wx ht (hv.bel hb))
  have HSH := Lib.hid (fun wx (hb : Bel w wx) => share_any l p v wx ht hp (hv.bel hb))
  have hw : withinB p 0 400 = true := withinB_true.2 hp
  obtain ⟨s, rfl, a, c, b, off, rfl, _, _, _⟩ := hv
  go_enter Try.func45, Try.ntmps45
  go_wp2_with fail
  generalize hW : World.alloc _ _ = W0
  have HB : Hid (Bel w W0) := Lib.hid (by rw [← hW]; exact (Bel.refl w).alloc _)
  have HX : Hid (Bx W0 w.heap.size [.slice a l.length c]) := Lib.hid (by rw [← hW]; exact Bx.new rfl)
  clear hW
  have x0 := HX.out.c 0 _ rfl
  have lx := cell_lt x0
  refine wp_region_mixB (Plan.seq [0, 1, 1002, 1003, 4] .nil) (by kernel_rfl) (by kernel_rfl) (fun hcur => ?_)
  simp only [Plan.seq, Plan.fill, List.getD_cons_zero, List.getD_cons_succ, Nat.reduceLT, ↓reduceIte, Nat.reduceSub]
  apply mix_pure _ rfl
  · intro w' hw'
    have hcr := hw'.cells
    go_simp
    rfl
  intro K hK
  go_simp
  refine hK _ ?_
  clear hK K
  apply mix_pure _ rfl
  · intro w' hw'
    have hcr := hw'.cells
    go_simp
    rfl
  intro K hK
  go_simp
  refine hK _ ?_
  clear hK K
  refine mix_act rfl (fun K hK => ?_)
  go_simp
  refine (isPence_any _ _).mono ?_
  rintro e w' ⟨rfl, rfl⟩
  simp only []
  refine hK _ _ hcur (fun hcur => ?_)
  clear hK K
  refine mix_act rfl (fun K hK => ?_)
  rw [hw]
  go_simp
  refine (HA.out _ (HB.out.trans hcur)).mono ?_
  rintro e w3 ⟨rfl, hb⟩
  simp only []
  refine hK _ _ (hcur.trans hb) (fun hcur => ?_)
  clear hK K hb
  apply mix_pure _ rfl
  · intro w' hw'
    have hcr := hw'.cells
    go_simp
    rfl
  intro K hK
  go_simp
  refine hK _ ?_
  clear hK K
  refine mix_nil ?_
  replace HB := Lib.hid (HB.out.trans hcur)
  replace x0 := hcur.cell x0
  replace lx := cell_lt x0
  clear hcur HA HX
  go_wp2_with fail
  refine (HSH.out _ HB.out).mono ?_
  rintro e w4 ⟨gg, gk, rfl, hg, hk, hb⟩
  have HR := Lib.hid hg
  replace HB := Lib.hid (HB.out.trans hb)
  clear hb hg hk HSH x0 lx
  go_wp2
  exact bodyPost_ret (v := .tuple #[.slice (some ⟨gg, 0, none⟩) l.length l.length, .int .i64 0]) (by simp [results, Try.results45, go_sem, *]) rfl ⟨_, rfl, HR.out, HB.out⟩
theorem SKeeps_any (l : List SNd) (p : Int) (v : Value) (w : World) (ht : CusOk l) (hp : 0 ≤ p ∧ p ≤ 400) (hv : CusAt w v l) :
    Calls Try.prog 38 #[v, .int .i64 p] w fun e w' => ∃ g : Nat, e = .returned (.tuple #[.slice (some ⟨g, 0, none⟩) l.length l.length, .int .i64 0]) ∧ Bx w' g (icells (kpTo l p l.length)) ∧ Bel w w' := by
  have HA := Lib.hid (fun wx (hb : Bel w wx) => Sask_any l v wx ht (hv.bel hb))
  have HSH := Lib.hid (fun wx (hb : Bel w wx) => share_any l p v wx ht hp (hv.bel hb))
  have hw : withinB p 0 400 = true := withinB_true.2 hp
  obtain ⟨s, rfl, a, c, b, off, rfl, _, _, _⟩ := hv
  go_enter Try.func38, Try.ntmps38
  go_wp2_with fail
  generalize hW : World.alloc _ _ = W0
  have HB : Hid (Bel w W0) := Lib.hid (by rw [← hW]; exact (Bel.refl w).alloc _)
  have HX : Hid (Bx W0 w.heap.size [.slice a l.length c]) := Lib.hid (by rw [← hW]; exact Bx.new rfl)
  clear hW
  have x0 := HX.out.c 0 _ rfl
  have lx := cell_lt x0
  refine wp_region_mixB (Plan.seq [0, 1, 1002, 1003, 4] .nil) (by kernel_rfl) (by kernel_rfl) (fun hcur => ?_)
  simp only [Plan.seq, Plan.fill, List.getD_cons_zero, List.getD_cons_succ, Nat.reduceLT, ↓reduceIte, Nat.reduceSub]
  apply mix_pure _ rfl
  · intro w' hw'
    have hcr := hw'.cells
    go_simp
    rfl
  intro K hK
  go_simp
  refine hK _ ?_
  clear hK K
  apply mix_pure _ rfl
  · intro w' hw'
    have hcr := hw'.cells
    go_simp
    rfl
  intro K hK
  go_simp
  refine hK _ ?_
  clear hK K
  refine mix_act rfl (fun K hK => ?_)
  go_simp
  refine (isPence_any _ _).mono ?_
  rintro e w' ⟨rfl, rfl⟩
  simp only []
  refine hK _ _ hcur (fun hcur => ?_)
  clear hK K
  refine mix_act rfl (fun K hK => ?_)
  rw [hw]
  go_simp
  refine (HA.out _ (HB.out.trans hcur)).mono ?_
  rintro e w3 ⟨rfl, hb⟩
  simp only []
  refine hK _ _ (hcur.trans hb) (fun hcur => ?_)
  clear hK K hb
  apply mix_pure _ rfl
  · intro w' hw'
    have hcr := hw'.cells
    go_simp
    rfl
  intro K hK
  go_simp
  refine hK _ ?_
  clear hK K
  refine mix_nil ?_
  replace HB := Lib.hid (HB.out.trans hcur)
  replace x0 := hcur.cell x0
  replace lx := cell_lt x0
  clear hcur HA HX
  go_wp2_with fail
  refine (HSH.out _ HB.out).mono ?_
  rintro e w4 ⟨gg, gk, rfl, hg, hk, hb⟩
  have HR := Lib.hid hk
  replace HB := Lib.hid (HB.out.trans hb)
  clear hb hg hk HSH x0 lx
  go_wp2
  exact bodyPost_ret (v := .tuple #[.slice (some ⟨gk, 0, none⟩) l.length l.length, .int .i64 0]) (by simp [results, Try.results38, go_sem, *]) rfl ⟨_, rfl, HR.out, HB.out⟩
theorem part10_any (l : List SNd) (n : Nat) (p : Int) (v : Value) (w : World) (ht : CusOk l) (hn : n < l.length) (hp : 0 ≤ p ∧ p ≤ 400) (hv : CusAt w v l) :
    Calls Try.prog 14 #[v, .int .i64 n, .int .i64 p] w fun e w' => e = .returned (.tuple #[.int .i64 (gV l p n), .bool true]) ∧ Bel w w' := by
  have HG := Lib.hid (fun wx (hb : Bel w wx) => SGets_any l p v wx ht hp (hv.bel hb))
  have hnl : (n : Int) < (l.length : Int) := by omega
  have HGV := Lib.hid (show at0 (getsV l p) n = gV l p n from rfl)
  have HGL := Lib.hid (show (getsV l p).length = l.length by unfold getsV; rw [getsTo_len])
  obtain ⟨s, rfl, a, c, b, off, rfl, _, _, _⟩ := hv
  go_enter Try.func14, Try.ntmps14
  go_wp2_with fail
  generalize hW : World.alloc _ _ = W0
  have HB : Hid (Bel w W0) := Lib.hid (by rw [← hW]; exact (Bel.refl w).alloc _)
  have HX : Hid (Bx W0 w.heap.size [.slice a l.length c]) := Lib.hid (by rw [← hW]; exact Bx.new rfl)
  clear hW
  refine (HG.out _ HB.out).mono ?_
  rintro e w1 ⟨g, rfl, hg, hb⟩
  replace HB := Lib.hid (HB.out.trans hb)
  have x0 := hb.cell (HX.out.c 0 _ rfl)
  have lx := cell_lt x0
  have g0 := hg.c n _ (icells_at (by rw [HGL.out]; exact hn))
  rw [HGV.out] at g0
  have lg := cell_lt g0
  have hix := idxInts (n := l.length) (c := l.length) (b := g) (off := 0) (a := some ⟨g, 0, none⟩) (fun _ => rfl)
  simp only [Nat.zero_add] at hix
  clear hb HG HX hg HGV HGL
  generalize hgy : gV l p n = y at *
  have HY := Lib.hid hgy
  clear hgy
  go_wp2
  exact bodyPost_ret (v := .tuple #[.int .i64 y, .bool true]) (by simp [results, Try.results14, go_sem, *]) rfl ⟨by rw [HY.out], HB.out⟩
end Go.Proofs.Ytkdcdhkhadhcfaa
