/-
  shares: the program: isPence, below and what it gives, weights.
-/
import Derived.Test.YtkdcdhkhadhcfaaShMem
import Derived.Test.YtkdcdhkhadhcfaaShF
import Derived.Test.YtkdcdhkhadhcfaaRound
import Derived.Test.YtkdcdhkhadhcfaaClo
namespace Go.Proofs.Ytkdcdhkhadhcfaa
open Go Go.RowKit Go.Shelf
attribute [local go_sem] Oper.semAt_some
set_option maxHeartbeats 8000000
set_option maxRecDepth 100000
theorem beq_dec2 (a b : Int) : (a == b) = decide (a = b) := by rw [Bool.eq_iff_iff]; simp
theorem isPence_any (n : Int) (w : World) : Calls Try.prog 65 #[.int .i64 n] w fun e w' => e = .returned (.bool (withinB n 0 400)) ∧ w = w' := by
  go_enter Try.func65, Try.ntmps65
  go_wp2_with (first | (go_at_call 88; refine (Swithin_any _ _ _ _).mono ?_; rintro e w' ⟨rfl, rfl⟩))
  go_ret
  exact ⟨rfl, rfl⟩
theorem below_any (s : Value) (m : Int) (w : World) (hs : ∃ a n c, s = .slice a n c) :
    Calls Try.prog 112 #[.agg #[s], .int .i64 m] w fun e w' => e = .returned (.func (.func 126) #[] #[.pointer (some ⟨w.heap.size, 0, none⟩), .pointer (some ⟨w.heap.size + 1, 0, none⟩)]) ∧ Bx w' w.heap.size [s] ∧ Bx w' (w.heap.size + 1) [.int .i64 m] ∧ Bel w w' ∧ w'.heap.size = w.heap.size + 2 := by
  have hmf : ∀ (fn : Fn) (first cap : Array Value) (w : World), (Instr.makeFunc fn first cap).run Try.prog w = .ok (.func fn first cap) w := fun _ _ _ _ => rfl
  obtain ⟨a, n, c, rfl⟩ := hs
  go_enter Try.func112, Try.ntmps112
  go_wp2
  generalize hW : World.alloc _ _ = W1
  have h1 : Bx W1 w.heap.size [.slice a n c] := by rw [← hW]; exact (Bx.new rfl).bel ((Bel.refl _).alloc _)
  have h2 : Bx W1 (w.heap.size + 1) [.int .i64 m] := by rw [← hW]; exact Bx.new (by simp)
  have h3 : Bel w W1 := by rw [← hW]; exact ((Bel.refl w).alloc _).alloc _
  have h4 : W1.heap.size = w.heap.size + 2 := by rw [← hW]; simp only [World.size_alloc]
  clear hW
  go_ret
  exact ⟨rfl, h1, h2, h3, h4⟩
/-- A node as the values that below hands over. -/
def NdV (l : List SNd) (x : Nat) (vs : Array Value) (_ : World) : Prop := x < l.length ∧ vs = #[.int .i64 x, .agg #[.int .i64 (atS l x).up, .int .i64 (atS l x).wt, .int .i64 (atS l x).fx]]
theorem below1_gives (n : Nat) (hn : 1 ≤ n) (l : List SNd) (m : Int) (a : Option Addr) (c gc gn : Nat) (D : Nat → Prop) (w : World) (hx : w.cell? ⟨gc, 0, none⟩ = some (.slice a l.length c)) (hm : w.cell? ⟨gn, 0, none⟩ = some (.int .i64 m)) (hv : NdsAt w (.slice a l.length c) l)
    (ng : ¬ D gc) (nm : ¬ D gn) (nt : ∀ b, a = some b → 0 < l.length → ¬ D b.block) :
    GivesTo Fence.wide n Try.prog 126 #[.pointer (some ⟨gc, 0, none⟩), .pointer (some ⟨gn, 0, none⟩)] (NdV l) D (kidsL l m) w := by
  intro lp J Jx W hW hJ hJx hY h0
  obtain ⟨a', c', b, off, he, ha, ⟨hl, _⟩, hc⟩ := hv
  injection he with he1 _ he3
  subst he1 he3
  have hix := idxNd (c := c) ha
  have HC := Lib.hid (fun i (hi : i < l.length) => show ¬ D b ∧ W.cell? ⟨b, off + i * 3, none⟩ = some (.int .i64 (atS l i).up) ∧ W.cell? ⟨b, off + i * 3 + 1, none⟩ = some (.int .i64 (atS l i).wt) ∧ W.cell? ⟨b, off + i * 3 + 2, none⟩ = some (.int .i64 (atS l i).fx) from by
    obtain ⟨q0, q1, q2⟩ := hc i hi
    exact ⟨nt _ (ha (by omega)) (by omega), hW.cell (fun h => h) q0, hW.cell (fun h => h) q1, hW.cell (fun h => h) q2⟩)
  have HX := Lib.hid (hW.cell (fun h => h) hx)
  have HM := Lib.hid (hW.cell (fun h => h) hm)
  have NG := Lib.hid ng
  have NM := Lib.hid nm
  have HY := Lib.hid hY
  have HJ := Lib.hid hJ
  have H0 := Lib.hid h0
  have HS := Lib.hid (fun k => show kidsTo l m (k + 1) = if kidB l m k then kidsTo l m k ++ [k] else kidsTo l m k from rfl)
  have HK := Lib.hid (fun k (hk : k < l.length) (h : kidB l m k = true) => kids_at hk h)
  have HKE := Lib.hid (show kidsL l m = kidsTo l m l.length from rfl)
  have HKB := Lib.hid (fun k => show kidB l m k = (decide (0 < k) && decide ((atS l k).up = m)) from rfl)
  clear hx hm hc ha ng nm nt hY hJ hJx h0 hW
  refine callsIn_of_wp Try.func126 rfl trivial ?_ rfl
  simp only [Try.ntmps126, List.size_toArray, List.length_cons, List.length_nil, Nat.reduceAdd, Nat.reduceSub, Array.replicate_succ, Array.replicate_zero, List.push_toArray, List.append_toArray, List.nil_append, List.cons_append]
  have c1 := HX.out
  have lc1 := cell_lt c1
  gi_wp2
  clear c1 lc1
  gi_loopw [10] (fun i wr => ∃ k : Nat, k ≤ l.length ∧ i = .int .i64 k ∧ Hid (J (kidsTo l m k) wr) ∧ Hid (KeepC D W wr)) (fun i _ => l.length - (intOf i).toNat)
  case atStart => exact ⟨0, Nat.zero_le _, rfl, H0, Lib.hid (KeepC.r _ _)⟩
  case round =>
    clear H0
    obtain ⟨k, hk, rfl, HJr, HKC⟩ := hrel
    by_cases hlt : k < l.length
    · have hlti : (k : Int) < (l.length : Int) := by omega
      obtain ⟨nd, q0, q1, q2⟩ := HC.out k hlt
      have k0 := HKC.out.cell nd q0
      have k1 := HKC.out.cell nd q1
      have k2 := HKC.out.cell nd q2
      have lk := cell_lt k0
      have HSK := Lib.hid (HS.out k)
      have HKK := Lib.hid (HK.out k hlt)
      have HBK := Lib.hid (HKB.out k)
      have HYK := Lib.hid (fun post (hp : kidsL l m = kidsTo l m k ++ k :: post) W1 (hj : J (kidsTo l m k) W1) => HY.out (kidsTo l m k) k #[.int .i64 k, .agg #[.int .i64 (atS l k).up, .int .i64 (atS l k).wt, .int .i64 (atS l k).fx]] W1 ⟨post, hp⟩ ⟨hlt, rfl⟩ hj)
      have cn := HKC.out.cell NM.out HM.out
      have lcn := cell_lt cn
      clear q0 q1 q2 HC HS HK HKB HY HX
      generalize atS l k = p at *
      obtain ⟨up, wt, fx⟩ := p
      simp only at k0 k1 k2 HYK HBK
      obtain ⟨W1, hW1⟩ : ∃ W1, W1 = wr.alloc (.cells #[.int .i64 up, .int .i64 wt, .int .i64 fx] 77) := ⟨_, rfl⟩
      have HB1 := Lib.hid (show Bel wr W1 by rw [hW1]; exact (Bel.refl wr).alloc _)
      have HJ1 := Lib.hid (HJ.out _ _ _ HJr.out HB1.out)
      have HK1 := Lib.hid (HKC.out.t (KeepC.of_bel HB1.out))
      have cn1 := HB1.out.cell cn
      have HEQ := Lib.hid hW1
      have hbq := (beq_dec2 up m)
      cases g1 : decide (0 < k)
      · rw [g1, Bool.false_and] at HBK
        rw [HBK.out, if_neg (by decide)] at HSK
        have g2 : decide ((0 : Int) < (k : Int)) = false := by have := of_decide_eq_false g1; exact decide_eq_false (by omega)
        clear HBK HKK HYK hbq hW1
        gi_wp2
        refine ⟨(fun f hf => by cases hf), ?_⟩
        gi_wp2
        exact ⟨⟨k + 1, by omega, by go_num, by rw [HSK.out, ← HEQ.out]; exact HJ1, by rw [← HEQ.out]; exact HK1⟩, by simp [intOf]; omega⟩
      · have g2 : decide ((0 : Int) < (k : Int)) = true := by have := of_decide_eq_true g1; exact decide_eq_true (by omega)
        have g3 : 0 < k := of_decide_eq_true g1
        cases g4 : decide (up = m)
        · rw [g1, g4, Bool.and_false] at HBK
          rw [HBK.out, if_neg (by decide)] at HSK
          rw [g4] at hbq
          clear HBK HKK HYK hW1 g4
          gi_wp2
          refine ⟨(fun f hf => by cases hf), ?_⟩
          gi_wp2
          exact ⟨⟨k + 1, by omega, by go_num, by rw [HSK.out, ← HEQ.out]; exact HJ1, by rw [← HEQ.out]; exact HK1⟩, by simp [intOf]; omega⟩
        · rw [g1, g4, Bool.and_self] at HBK
          rw [HBK.out, if_pos rfl] at HSK
          rw [g4] at hbq
          obtain ⟨post, hpost⟩ := HKK.out HBK.out
          obtain ⟨fn, tmps, assign, body, hy, hRd⟩ := HYK.out post hpost W1 HJ1.out
          have HRd := Lib.hid hRd
          clear HBK HKK HYK g4 hpost hRd HJ1
          rw [hW1] at HRd hy
          clear hW1 cn1
          gi_wp2
          refine HRd.out.mono ?_
          rintro e W3 (⟨rfl, hJ3, hk3⟩ | ⟨rfl, hJx3⟩)
          · have HJ3 := Lib.hid hJ3
            rw [← HEQ.out] at hk3
            have HK3 := Lib.hid (HK1.out.t hk3)
            clear hJ3 hk3 k0 k1 k2 lk cn lcn hy
            gi_wp2
            exact ⟨⟨k + 1, by omega, by go_num, by rw [HSK.out]; exact HJ3, HK3⟩, by simp [intOf]; omega⟩
          · have HJX3 := Lib.hid hJx3
            clear hJx3 k0 k1 k2 lk cn lcn hy
            gi_wp2
            refine bodyPost_ret (results_none rfl _ _ _) rfl ?_
            exact ⟨⟨_, rfl⟩, .inr ⟨_, HJX3.out⟩⟩
    · obtain rfl : k = l.length := by omega
      have hlti : ¬ (l.length : Int) < (l.length : Int) := by omega
      rw [← HKE.out] at HJr
      gi_wp2
      go_end0
      exact ⟨⟨_, rfl⟩, .inl HJr.out⟩
end Go.Proofs.Ytkdcdhkhadhcfaa
