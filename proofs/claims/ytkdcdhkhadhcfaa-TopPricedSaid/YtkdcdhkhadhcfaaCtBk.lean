/-
  cuts: a range over slices.Backward of a table.
-/
import Derived.Test.YtkdcdhkhadhcfaaCtPl
import Derived.Test.YtkdcdhkhadhcfaaClo
namespace Go.Proofs.Ytkdcdhkhadhcfaa
open Go Go.RowKit Go.Shelf
attribute [local go_sem] Oper.semAt_some
set_option maxHeartbeats 4000000
set_option maxRecDepth 100000
/-- From the last to the first: the first k of them. -/
def dn (n : Nat) : Nat → List Nat
  | 0 => []
  | k + 1 => dn n k ++ [n - 1 - k]
theorem dn_len (n : Nat) : ∀ k, (dn n k).length = k
  | 0 => rfl
  | k + 1 => by unfold dn; rw [List.length_append, dn_len n k]; rfl
theorem dn_pre {n k : Nat} : ∀ m, k ≤ m → ∃ post, dn n m = dn n k ++ post
  | 0, h => by obtain rfl : k = 0 := by omega
               exact ⟨[], rfl⟩
  | m + 1, h => by
    by_cases e : k = m + 1
    · subst e; exact ⟨[], by simp⟩
    · obtain ⟨p, hp⟩ := dn_pre (n := n) (k := k) m (by omega)
      exact ⟨p ++ [n - 1 - m], by show dn n m ++ _ = _; rw [hp, List.append_assoc]⟩
theorem dn_at {n k : Nat} (h : k < n) : ∃ post, dn n n = dn n k ++ (n - 1 - k) :: post := by
  obtain ⟨p, hp⟩ := dn_pre (n := n) (k := k + 1) n (by omega)
  exact ⟨p, by rw [hp]; show (dn n k ++ [n - 1 - k]) ++ p = _; simp⟩
theorem dn_of {n : Nat} {pre post : List Nat} {x : Nat} (h : dn n n = pre ++ x :: post) : pre.length < n ∧ pre = dn n pre.length ∧ x = n - 1 - pre.length := by
  have hl := congrArg List.length h
  rw [dn_len, List.length_append, List.length_cons] at hl
  have hk : pre.length < n := by omega
  obtain ⟨p, hp⟩ := dn_at hk
  rw [h] at hp
  have h1 := List.append_inj hp (by rw [dn_len])
  refine ⟨hk, h1.1, ?_⟩
  injection h1.2
/-- A part as the values that Backward hands over. -/
def PtAt (t : List CP) (x : Nat) (vs : Array Value) (_ : World) : Prop := x < t.length ∧ vs = #[.int .i64 x, .agg #[.int .i64 (atC t x).of, .int .i64 (atC t x).wlo, .int .i64 (atC t x).whi, .int .i64 (atC t x).slo, .int .i64 (atC t x).shi, .int .i64 (atC t x).pe]]
theorem ctBack_gives (n : Nat) (hn : 1 ≤ n) (t : List CP) (h8 : t.length ≤ 8) (a : Option Addr) (c g : Nat) (D : Nat → Prop) (w : World) (hx : w.cell? ⟨g, 0, none⟩ = some (.slice a t.length c)) (hv : CtAt w (.slice a t.length c) t) (ng : ¬ D g) (nt : ∀ b, a = some b → 0 < t.length → ¬ D b.block) :
    GivesTo Fence.wide n Try.prog 127 #[.pointer (some ⟨g, 0, none⟩)] (PtAt t) D (dn t.length t.length) w := by
  intro l J Jx W hW hJ hJx hY h0
  obtain ⟨a', c', b, off, he, ha, ⟨hl, _⟩, hc⟩ := hv
  injection he with he1 _ he3
  subst he1 he3
  have hix := idxTab (c := c) ha
  have HC := Lib.hid (fun i (hi : i < t.length) => show ¬ D b ∧ W.cell? ⟨b, off + i * 6, none⟩ = some (.int .i64 (atC t i).of) ∧ W.cell? ⟨b, off + i * 6 + 1, none⟩ = some (.int .i64 (atC t i).wlo) ∧ W.cell? ⟨b, off + i * 6 + 2, none⟩ = some (.int .i64 (atC t i).whi) ∧
      W.cell? ⟨b, off + i * 6 + 3, none⟩ = some (.int .i64 (atC t i).slo) ∧ W.cell? ⟨b, off + i * 6 + 4, none⟩ = some (.int .i64 (atC t i).shi) ∧ W.cell? ⟨b, off + i * 6 + 5, none⟩ = some (.int .i64 (atC t i).pe) from by
    obtain ⟨q0, q1, q2, q3, q4, q5⟩ := hc i hi
    exact ⟨nt _ (ha (by omega)) (by omega), hW.cell (fun h => h) q0, hW.cell (fun h => h) q1, hW.cell (fun h => h) q2, hW.cell (fun h => h) q3, hW.cell (fun h => h) q4, hW.cell (fun h => h) q5⟩)
  have hx' := hW.cell (fun h => h) hx
  have HX := Lib.hid hx'
  have NG := Lib.hid ng
  have HY := Lib.hid hY
  have HJ := Lib.hid hJ
  have H0 := Lib.hid h0
  clear hx hx' hc ha ng nt hY hJ hJx h0 hW
  have HD := Lib.hid (fun k => show dn t.length (k + 1) = dn t.length k ++ [t.length - 1 - k] from rfl)
  have HA := Lib.hid (fun k (hk : k < t.length) => dn_at hk)
  have hlb := cell_lt HX.out
  refine callsIn_of_wp Try.func127 rfl trivial ?_ rfl
  simp only [Try.ntmps127, List.size_toArray, List.length_cons, List.length_nil, Nat.reduceAdd, Nat.reduceSub, Array.replicate_succ, Array.replicate_zero, List.push_toArray, List.append_toArray, List.nil_append, List.cons_append]
  have c1 := HX.out
  gi_wp2
  clear c1
  gi_loopw [3] (fun i wr => ∃ k : Nat, k ≤ t.length ∧ i = .int .i64 ((t.length : Int) - 1 - k) ∧ J (dn t.length k) wr ∧ KeepC D W wr) (fun i _ => (intOf i + 1).toNat)
  case atStart => exact ⟨0, Nat.zero_le _, by simp, H0.out, KeepC.r _ _⟩
  case round =>
    clear H0
    obtain ⟨k, hk, rfl, hj, hkc⟩ := hrel
    have HJr := Lib.hid hj
    have HK := Lib.hid hkc
    have c1 := hkc.cell NG.out HX.out
    have lc1 := cell_lt c1
    clear hj hkc
    by_cases hlt : k < t.length
    · obtain ⟨m, hm⟩ : ∃ m, m = t.length - 1 - k := ⟨_, rfl⟩
      have hmi : (t.length : Int) - 1 - k = (m : Int) := by omega
      have hm2 : m < t.length := by omega
      have hm3 : (m : Int) < (t.length : Int) := by omega
      have HDK := Lib.hid (HD.out k)
      rw [← hm] at HDK
      obtain ⟨post, hpost⟩ := HA.out k hlt
      rw [← hm] at hpost
      obtain ⟨nd, q0, q1, q2, q3, q4, q5⟩ := HC.out m hm2
      have k0 := HK.out.cell nd q0
      have k1 := HK.out.cell nd q1
      have k2 := HK.out.cell nd q2
      have k3 := HK.out.cell nd q3
      have k4 := HK.out.cell nd q4
      have k5 := HK.out.cell nd q5
      have lk := cell_lt k0
      obtain ⟨fn, tmps, assign, body, hy, hRd⟩ := HY.out (dn t.length k) m #[.int .i64 m, .agg #[.int .i64 (atC t m).of, .int .i64 (atC t m).wlo, .int .i64 (atC t m).whi, .int .i64 (atC t m).slo, .int .i64 (atC t m).shi, .int .i64 (atC t m).pe]] wr ⟨post, hpost⟩ ⟨hm2, rfl⟩ HJr.out
      have HRd := Lib.hid hRd
      have HMI := Lib.hid hmi
      rw [hmi]
      clear hRd q0 q1 q2 q3 q4 q5 HC HD HA hpost hmi hm HJr
      generalize atC t m = p at *
      obtain ⟨of, wlo, whi, slo, shi, pe⟩ := p
      simp only at k0 k1 k2 k3 k4 k5 hy
      gi_wp2
      refine HRd.out.mono ?_
      rintro e W3 (⟨rfl, hJ3, hk3⟩ | ⟨rfl, hJx3⟩)
      · have HJ3 := Lib.hid hJ3
        have HK3 := Lib.hid (HK.out.t hk3)
        clear hJ3 hk3 c1 k0 k1 k2 k3 k4 k5 lk lc1
        gi_wp2
        exact ⟨⟨k + 1, by omega, by have := HMI.out; congr 1; omega, by rw [HDK.out]; exact HJ3.out, HK3.out⟩, by have := HMI.out; simp [intOf]⟩
      · have HJX3 := Lib.hid hJx3
        clear hJx3 c1 k0 k1 k2 k3 k4 k5 lk lc1
        gi_wp2
        refine bodyPost_ret (results_none rfl _ _ _) rfl ?_
        exact ⟨⟨_, rfl⟩, .inr ⟨_, HJX3.out⟩⟩
    · obtain rfl : k = t.length := by omega
      have hmi : (t.length : Int) - 1 - (t.length : Int) = -1 := by omega
      rw [hmi]
      clear c1 lc1
      gi_wp2
      go_end0
      exact ⟨⟨_, rfl⟩, .inl HJr.out⟩
theorem ctBack_any (a : Option Addr) (len cap : Nat) (w : World) :
    Calls Try.prog 115 #[.slice a len cap] w fun e w' => e = .returned (.func (.func 127) #[] #[.pointer (some ⟨w.heap.size, 0, none⟩)]) ∧ w' = w.alloc (.cells #[.slice a len cap] 85) := by
  have hmf : ∀ (fn : Fn) (first cap : Array Value) (w : World), (Instr.makeFunc fn first cap).run Try.prog w = .ok (.func fn first cap) w := fun _ _ _ _ => rfl
  go_enter Try.func115, Try.ntmps115
  go_wp2
  go_ret
  exact ⟨rfl, rfl⟩
end Go.Proofs.Ytkdcdhkhadhcfaa
