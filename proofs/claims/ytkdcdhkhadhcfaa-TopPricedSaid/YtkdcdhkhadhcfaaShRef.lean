/-
  shares: the reference's Below; the law's IsFirst.
-/
import Derived.Test.YtkdcdhkhadhcfaaShMem
import Derived.Test.YtkdcdhkhadhcfaaShF
import Derived.Test.YtkdcdhkhadhcfaaOwnI
import Derived.BigQuiet
import Derived.Deep.QuietTactic
namespace Go.Proofs.Ytkdcdhkhadhcfaa
open Go Go.RowKit
set_option maxHeartbeats 4000000
set_option maxRecDepth 100000
theorem kidsI_len (l : List SNd) (m : Int) (k : Nat) : (kidsI l m k).length ≤ k := by unfold kidsI; rw [List.length_map]; exact kids_len l m k
theorem beq_dec (a b : Int) : (a == b) = decide (a = b) := by rw [Bool.eq_iff_iff]; simp
theorem R10Below_any (l : List SNd) (m : Int) (v : Value) (w : World) (h40 : l.length ≤ 40) (hv : CusAt w v l) : Calls Try.prog 46 #[v, .int .i64 m] w fun e w' => ∃ V, e = .returned V ∧ IntsAt w' V (kidsI l m l.length) ∧ Bel w w' := by
  obtain ⟨i1, hi1, hz1, hs1, hb1⟩ := info_parts mkInt
  have HI1 := Lib.hid hi1
  have HZ1 := Lib.hid hz1
  clear hi1 hz1
  obtain ⟨s, rfl, a, c, b, off, rfl, ha, ⟨hl, _⟩, hc⟩ := hv
  have hix := idxNd (c := c) ha
  have HC := Lib.hid hc
  have HLN := Lib.hid (kidsI_len l m)
  have HSU := Lib.hid (fun k => show kidsI l m (k + 1) = if kidB l m k then kidsI l m k ++ [(k : Int)] else kidsI l m k by unfold kidsI; rw [show kidsTo l m (k + 1) = if kidB l m k then kidsTo l m k ++ [k] else kidsTo l m k from rfl]; by_cases h : kidB l m k = true <;> simp [h])
  have HK1 := Lib.hid (show kidsI l m 1 = [] from rfl)
  have HL0 := Lib.hid (show l.length = 0 → kidsI l m l.length = [] from fun h => by rw [h]; rfl)
  have HKB := Lib.hid (fun k (h : 0 < k) => show kidB l m k = decide ((atS l k).up = m) by unfold kidB; rw [decide_eq_true h, Bool.true_and])
  clear ha hc
  generalize hG : l.length = G at *
  clear hG
  go_enter Try.func46, Try.ntmps46
  go_wp2_with fail
  generalize hW : World.alloc _ _ = W0
  have HX0 : Hid (Bx W0 w.heap.size [.slice a G c]) := Lib.hid (by rw [← hW]; exact Bx.new rfl)
  have HB0 : Hid (Bel w W0) := Lib.hid (by rw [← hW]; exact (Bel.refl w).alloc _)
  have HSZ := Lib.hid (show W0.heap.size = w.heap.size + 1 by rw [← hW]; simp only [World.size_alloc])
  clear hW
  go_loopw [5, 6] (fun V i wr => ∃ k : Nat, 1 ≤ k ∧ (k ≤ G ∨ k = 1) ∧ i = .int .i64 k ∧ Hid (IntSt (kidsI l m k) W0 V wr)) (fun _ i _ => G - (intOf i).toNat)
  case atStart => exact ⟨1, by omega, .inr rfl, rfl, by rw [HK1.out]; exact Lib.hid (IntSt.start W0)⟩
  case round =>
    obtain ⟨k, hk1, hk, rfl, HR⟩ := hrel
    have c0 := HR.out.bel.cell (HX0.out.c 0 _ rfl)
    have lc0 := cell_lt c0
    by_cases hlt : k < G
    · have hlti : (k : Int) < (G : Int) := by omega
      obtain ⟨q0, _, _⟩ := HC.out k hlt
      have k0 := HR.out.bel.cell (HB0.out.cell q0)
      have lk := cell_lt k0
      have hll := HLN.out k
      have HN := Lib.hid (HSU.out k)
      have HK := Lib.hid (HKB.out k hk1)
      clear q0 HSU HKB HC HLN HX0 HB0 HL0 HK1
      generalize (atS l k).up = up at *
      cases hq : decide (up = m)
      · rw [hq] at HK
        rw [HK.out, if_neg (by decide)] at HN
        have hq2 : (up == m) = false := (beq_dec up m).trans hq
        clear hq HK
        go_wp2
        go_roundw
        case rel => exact ⟨k + 1, by omega, .inl (by omega), by go_num, by rw [HN.out]; exact HR⟩
        case measure => simp [intOf]; omega
      · rw [hq] at HK
        rw [HK.out, if_pos rfl] at HN
        have hq2 : (up == m) = true := (beq_dec up m).trans hq
        clear hq HK
        generalize kidsI l m k = L at *
        go_wp2_with (at_builtin; refine wpList_append_where rfl _ _ 26 rfl 3 i1 (.int .i64 0) 1 8 Try.underlying26 HI1.out HZ1.out hs1 hb1 rfl (by decide) _ L.length (L.map (Value.int .i64)) rfl (ownsRow_bel HR.out.own ((Bel.refl wr).alloc _)) ⟨wr.heap.size, 0, none⟩ 1 1 [.int .i64 (k : Int)] rfl rfl (cell_one_new _ _ _) (fun y hy => by simp at hy; subst hy; rfl) (by unfold maxLen; omega) (by omega) ?_)
        intro V' w7 hown7 hgrow7 hwhere7
        have HNX := Lib.hid (IntSt.next (HR.out.keep ((Bel.refl wr).alloc _)) hown7 hgrow7 (by rw [World.size_alloc]; exact hwhere7))
        rw [← HN.out] at HNX
        clear hown7 hgrow7 hwhere7 c0 lc0 k0 lk
        go_wp2
        go_roundw
        case rel => exact ⟨k + 1, by omega, .inl (by omega), by go_num, HNX⟩
        case measure => simp [intOf]; omega
    · have hlti : ¬ (k : Int) < (G : Int) := by omega
      have HE : Hid (kidsI l m k = kidsI l m G) := Lib.hid (by
        rcases hk with h | h
        · rw [show k = G by omega]
        · by_cases g : G = 0
          · rw [h, HK1.out, HL0.out g]
          · rw [show k = G by omega])
      have hll := HLN.out G
      have HI := Lib.hid (ownInts (by have := HLN.out k; omega) HR.out.own)
      rw [HE.out] at HI
      have HB9 := Lib.hid (HB0.out.trans HR.out.bel)
      clear HE
      go_wp2
      go_ret
      exact ⟨_, rfl, HI.out, HB9.out⟩
theorem IsFirst_any (l : List SNd) (n : Nat) (v : Value) (w : World) (ht : CusOk l) (hn : n < l.length) (hv : CusAt w v l) : Calls Try.prog 15 #[v, .int .i64 n] w fun e w' => e = .returned (.bool (firstV l n)) ∧ Bel w w' := by
  have HT := Lib.hid ht
  have h1 := ht.l1
  have h8 := ht.l8
  have HBE := Lib.hid (fun m wx (hb : Bel w wx) => R10Below_any l m v wx (by omega) (hv.bel hb))
  obtain ⟨s, rfl, a, c, b, off, rfl, ha, ⟨hl, _⟩, hc⟩ := hv
  have hix := idxNd (c := c) ha
  have HC := Lib.hid hc
  clear ha hc ht
  go_enter Try.func15, Try.ntmps15
  go_wp2_with fail
  generalize hW : World.alloc _ _ = W0
  have HX0 : Hid (Bx W0 w.heap.size [.slice a l.length c]) := Lib.hid (by rw [← hW]; exact Bx.new rfl)
  have HB0 : Hid (Bel w W0) := Lib.hid (by rw [← hW]; exact (Bel.refl w).alloc _)
  clear hW
  go_loopw [1] (fun i wr => ∃ k : Nat, k < l.length ∧ i = .int .i64 k ∧ Hid (firstV l k = firstV l n) ∧ Hid (Bel W0 wr)) (fun i _ => (intOf i).toNat)
  case atStart => exact ⟨n, hn, rfl, Lib.hid rfl, Lib.hid (Bel.refl _)⟩
  case round =>
    obtain ⟨k, hk, rfl, HF, HBR⟩ := hrel
    have c0 := HBR.out.cell (HX0.out.c 0 _ rfl)
    have lc0 := cell_lt c0
    by_cases hlt : 0 < k
    · have hlti : (0 : Int) < (k : Int) := by omega
      have hki : (k : Int) < (l.length : Int) := by omega
      obtain ⟨q0, _, _⟩ := HC.out k hk
      have k0 := HBR.out.cell (HB0.out.cell q0)
      have lk := cell_lt k0
      have hup := HT.out.up k hk hlt
      have HS := Lib.hid (first_step HT.out hlt hk)
      have HFI := Lib.hid (fr_inv (l := l) (m := (atS l k).up) l.length)
      have HFO := Lib.hid (fun j => fold_kids (l := l) (m := (atS l k).up) (frS l) (frTo l (atS l k).up) (fun _ => rfl) j)
      have HKM := Lib.hid (fun i (h : i < (kidsI l (atS l k).up l.length).length) => show ∃ x : Nat, at0 (kidsI l (atS l k).up l.length) i = (x : Int) ∧ x < l.length ∧ (kidsTo l (atS l k).up l.length)[i]? = some x by
        unfold kidsI at h ⊢
        rw [List.length_map] at h
        refine ⟨(kidsTo l (atS l k).up l.length)[i], ?_, ((kids_mem l.length).1 (List.getElem_mem h)).1, List.getElem?_eq_getElem h⟩
        unfold at0
        simp [List.getD, h])
      have hkl := kidsI_len l (atS l k).up l.length
      have HKL := Lib.hid (show (kidsI l (atS l k).up l.length).length = (kidsTo l (atS l k).up l.length).length by unfold kidsI; rw [List.length_map])
      have HBK := Lib.hid (fun wx (hb : Bel wr wx) => HBE.out (atS l k).up wx (HB0.out.trans (HBR.out.trans hb)))
      have HX00 := Lib.hid HX0.out
      have hupk : (atS l k).up = (atS l k).up := rfl
      clear q0 HX0 hupk
      generalize hupe : (atS l k).up = up at *
      generalize hKI : kidsI l up l.length = KI at *
      generalize hKT : kidsTo l up l.length = KT at *
      clear hKI
      go_wp2_with fail
      refine wp_region_mixB (Plan.seq [0, 1, 2, 3, 4, 5, 6, 1007, 8] .nil) (by kernel_rfl) (by kernel_rfl) (fun hcur => ?_)
      simp only [Plan.seq, Plan.fill, List.getD_cons_zero, List.getD_cons_succ, Nat.reduceLT, ↓reduceIte, Nat.reduceSub]
      apply mix_pure _ rfl
      · intro w' hw'
        have hcr := hw'.cells
        go_simp
        rfl
      intro K hK
      go_simp
      refine hK _ ?_
      clear hK K
      apply mix_pure _ rfl
      · intro w' hw'
        have hcr := hw'.cells
        go_simp
        rfl
      intro K hK
      go_simp
      refine hK _ ?_
      clear hK K
      apply mix_pure _ rfl
      · intro w' hw'
        have hcr := hw'.cells
        go_simp
        rfl
      intro K hK
      go_simp
      refine hK _ ?_
      clear hK K
      apply mix_pure _ rfl
      · intro w' hw'
        have hcr := hw'.cells
        go_simp
        rfl
      intro K hK
      go_simp
      refine hK _ ?_
      clear hK K
      apply mix_pure _ rfl
      · intro w' hw'
        have hcr := hw'.cells
        go_simp
        rfl
      intro K hK
      go_simp
      refine hK _ ?_
      clear hK K
      apply mix_pure _ rfl
      · intro w' hw'
        have hcr := hw'.cells
        go_simp
        rfl
      intro K hK
      go_simp
      refine hK _ ?_
      clear hK K
      apply mix_pure _ rfl
      · intro w' hw'
        have hcr := hw'.cells
        go_simp
        rfl
      intro K hK
      go_simp
      refine hK _ ?_
      clear hK K
      refine mix_act rfl (fun K hK => ?_)
      go_simp
      refine (HBK.out _ hcur).mono ?_
      rintro e w8 ⟨V, rfl, hi8, hb⟩
      have HV := Lib.hid hi8
      simp only []
      refine hK _ _ (hcur.trans hb) (fun hcur => ?_)
      clear hK K hb hi8
      apply mix_pure _ rfl
      · intro w' hw'
        have hcr := hw'.cells
        go_simp
        rfl
      intro K hK
      go_simp
      refine hK _ ?_
      clear hK K
      refine mix_nil ?_
      have HB8 := Lib.hid (HBR.out.trans hcur)
      have hz8 := hcur.szle
      clear k0 lk c0 lc0 HBK HBE HBR hcur
      obtain ⟨va, vc, vb, vo, rfl, hva, ⟨hvl, _⟩, hvc⟩ := HV.out
      have hixv := idxInts (c := vc) hva
      have HVC := Lib.hid hvc
      have HX8 := Lib.hid (HX00.out.bel HB8.out)
      have HC8 := Lib.hid (fun i (hi : i < l.length) => show w8.cell? ⟨b, off + i * 3, none⟩ = some (.int .i64 (atS l i).up) ∧ w8.cell? ⟨b, off + i * 3 + 1, none⟩ = some (.int .i64 (atS l i).wt) from ⟨HB8.out.cell (HB0.out.cell (HC.out i hi).1), HB8.out.cell (HB0.out.cell (HC.out i hi).2.1)⟩)
      have HTK := Lib.hid (show KT.take KI.length = KT by rw [HKL.out]; exact List.take_length)
      clear hva hvc HV
      go_wp2_with fail
      go_loopw [6, 7] (fun f i wq => ∃ j : Nat, j ≤ KI.length ∧ i = .int .i64 j ∧ f = .int .i64 ((KT.take j).foldl (frS l) (-1)) ∧ Hid (Bel w8 wq)) (fun _ i _ => KI.length - (intOf i).toNat)
      case atStart => exact ⟨0, by omega, rfl, rfl, Lib.hid (Bel.refl _)⟩
      case round =>
        obtain ⟨j, hj, rfl, rfl, HBQ⟩ := hrel
        by_cases hjl : j < KI.length
        · have hjli : (j : Int) < (KI.length : Int) := by omega
          obtain ⟨x, hx0, hxl, hxk⟩ := HKM.out j hjl
          have hxli : (x : Int) < (l.length : Int) := by omega
          have HFS := Lib.hid (show (KT.take (j + 1)).foldl (frS l) (-1) = frS l ((KT.take j).foldl (frS l) (-1)) x by rw [List.take_add_one, hxk, List.foldl_append]; rfl)
          have v0 := HBQ.out.cell (HVC.out j hjl)
          rw [hx0] at v0
          have lv := cell_lt v0
          have n1 := HBQ.out.cell (HC8.out x hxl).2
          have ln := cell_lt n1
          have c0 := HBQ.out.cell (HX8.out.c 0 _ rfl)
          have lc0 := cell_lt c0
          have HFR := Lib.hid (show ∀ F : Int, frS l F x = if decide (F < 0) && decide (0 < (atS l x).wt) then (x : Int) else F from fun _ => rfl)
          clear hx0 hxk HKM HVC HC8 HX8 HTK HFO HFI HS
          generalize (KT.take j).foldl (frS l) (-1) = F at *
          generalize (atS l x).wt = wt at *
          cases g1 : decide (F < 0)
          · have HR := Lib.hid (HFR.out F)
            rw [g1] at HR
            rw [HR.out, Bool.false_and, if_neg (by decide)] at HFS
            clear HFR HR
            go_wp2
            go_quiet (fail)
            go_wp2
            go_roundw
            case rel => exact ⟨j + 1, by omega, by go_num, by rw [HFS.out], Lib.hid (HBQ.out.drewN _)⟩
            case measure => simp [intOf]; omega
          · cases g2 : decide (0 < wt)
            · have HR := Lib.hid (HFR.out F)
              rw [g1, g2] at HR
              rw [HR.out, Bool.and_false, if_neg (by decide)] at HFS
              clear HFR HR
              go_wp2
              go_quiet (fail)
              go_wp2
              go_roundw
              case rel => exact ⟨j + 1, by omega, by go_num, by rw [HFS.out], Lib.hid (HBQ.out.drewN _)⟩
              case measure => simp [intOf]; omega
            · have HR := Lib.hid (HFR.out F)
              rw [g1, g2] at HR
              rw [HR.out, Bool.and_self, if_pos rfl] at HFS
              clear HFR HR
              go_wp2
              go_quiet (fail)
              go_wp2
              go_roundw
              case rel => exact ⟨j + 1, by omega, by go_num, by rw [HFS.out], Lib.hid (HBQ.out.drewN _)⟩
              case measure => simp [intOf]; omega
        · obtain rfl : j = KI.length := by omega
          have hjli : ¬ (KI.length : Int) < (KI.length : Int) := by omega
          have HFE := Lib.hid (HFO.out l.length)
          rw [hKT] at HFE
          rw [HTK.out]
          have hm1 : frTo l up 0 = -1 := rfl
          rw [hm1] at HFE
          rw [HFE.out]
          have c0 := HBQ.out.cell (HX8.out.c 0 _ rfl)
          have lc0 := cell_lt c0
          have n0 := HBQ.out.cell (HC8.out k hk).1
          rw [hupe] at n0
          have ln := cell_lt n0
          clear HFE hm1 HFO HTK HKM HVC HC8 HX8 HFI
          have HB9 := Lib.hid (HB0.out.trans (HB8.out.trans HBQ.out))
          have HBR9 := Lib.hid (HB8.out.trans HBQ.out)
          generalize hfr : frTo l up l.length = F at *
          clear hfr
          cases hq : decide (F = (k : Int))
          · rw [hq, Bool.false_and] at HS
            have hne : (F != (k : Int)) = true := by simpa using hq
            clear hq
            go_wp2
            go_ret
            exact ⟨rb (by rw [← HF.out, HS.out]), HB9.out⟩
          · rw [hq, Bool.true_and] at HS
            have hne : (F != (k : Int)) = false := by simpa using hq
            clear hq
            obtain ⟨q, hqq⟩ : ∃ q : Nat, up = (q : Int) := ⟨up.toNat, by omega⟩
            rw [hqq] at n0 HS hup
            rw [Int.toNat_natCast] at HS
            have HH := Lib.hid (HS.out.symm.trans HF.out)
            have hqk : q < k := by omega
            clear hqq hupe hKT hup
            go_wp2
            go_roundw
            case rel => exact ⟨q, by omega, rfl, HH, HBR9⟩
            case measure => simp [intOf]; omega
    · have hk0 : k = 0 := by omega
      have HFZ := Lib.hid (first_zero h1)
      rw [hk0, HFZ.out] at HF
      have hlti : ¬ (0 : Int) < (k : Int) := by omega
      have hlti2 : decide ((0 : Int) < (k : Int)) = false := decide_eq_false hlti
      have hlt2 : decide (0 < k) = false := decide_eq_false hlt
      clear hk0 hlt hlti
      have HB9 := Lib.hid (HB0.out.trans HBR.out)
      go_wp2
      go_ret
      exact ⟨rb (by rw [← HF.out]), HB9.out⟩
end Go.Proofs.Ytkdcdhkhadhcfaa
