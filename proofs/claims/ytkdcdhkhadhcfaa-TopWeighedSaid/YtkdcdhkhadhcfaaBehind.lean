/-
  reference: Behind.
-/
import Derived.Test.YtkdcdhkhadhcfaaTold
namespace Go.Proofs.Ytkdcdhkhadhcfaa
open Go Go.RowKit
set_option maxHeartbeats 1000000
set_option maxRecDepth 100000
theorem Behind_any (v : Value) (l : List Int) (c : Nat) (w : World) (hv : IntsAt w v l) (hc : c ≤ l.length) (hb : ∀ x, x ∈ l → 0 ≤ x ∧ x ≤ 40) (hl : l.length ≤ 40) :
    Calls Try.prog 50 #[v, .int .i64 c] w fun e w' => e = .returned (.int .i64 (sumTo (l.drop c) (l.length - c))) ∧ w = w' := by
  obtain ⟨a, cap, b, off, rfl, ha, ⟨hlen, hcp⟩, hcell⟩ := hv
  have hd : (l.drop c).length = l.length - c := by simp
  have hat : ∀ k, k < l.length - c → at0 (l.drop c) k = at0 l (c + k) := fun k hk => by unfold at0; simp [List.getD]
  have hbd : ∀ k, k ≤ (l.drop c).length → 0 ≤ sumTo (l.drop c) k ∧ sumTo (l.drop c) k ≤ 40 * k := by
    intro k
    induction k with
    | zero => intro _; simp [sumTo]
    | succ k ih =>
      intro hk
      have a1 := ih (by omega)
      have a2 := hb (at0 (l.drop c) k) (List.mem_of_mem_drop (getD_mem (l.drop c) k 0 (by omega)))
      show 0 ≤ sumTo (l.drop c) k + at0 (l.drop c) k ∧ sumTo (l.drop c) k + at0 (l.drop c) k ≤ 40 * ((k + 1 : Nat) : Int)
      omega
  have HS := Lib.hid (fun (x : Value) (hx : IntsAt w x (l.drop c)) => (Sum_any x (l.drop c) w hx (fun k hk => by have := hbd k hk; omega)).mono (R' := fun e w' => e = .returned (.int .i64 (sumTo (l.drop c) (l.length - c))) ∧ w = w') fun e w' h => by rw [hd] at h; exact h)
  have HI := Lib.hid (fun (x : Option Addr) (n : Nat) (o : Nat) (hn : l.length - c ≤ n) (hx : 0 < l.length - c → x = some ⟨b, o, none⟩ ∧ o = off + c) => (show IntsAt w (.slice x (l.length - c) n) (l.drop c) from
    ⟨x, n, b, o, by rw [hd], fun q => (hx (by omega)).1, ⟨by omega, by omega⟩, fun k hk => by
      have hk2 : k < l.length - c := by omega
      rw [(hx (by omega)).2, Nat.add_assoc, hcell (c + k) (by omega), hat k hk2]⟩))
  have hci : (c : Int) ≤ (l.length : Int) := by omega
  have hcp2 : c ≤ cap := by omega
  by_cases h0 : 0 < l.length
  · obtain rfl := ha h0
    clear ha hcell hd hat hbd hb
    by_cases hcc : c < cap
    · have HG := Lib.hid (HS.out _ (HI.out (some ⟨b, off + c, none⟩) (cap - c) (off + c) (by omega) (fun _ => ⟨rfl, rfl⟩)))
      have hnc : ¬ c = cap := by omega
      clear HS HI
      go_enter Try.func50, Try.ntmps50
      go_wp2_with fail
      refine HG.out.mono ?_
      rintro e w' ⟨rfl, rfl⟩
      go_wp2
      go_ret
      exact ⟨rfl, rfl⟩
    · obtain rfl : c = cap := by omega
      have hz : l.length - c = 0 := by omega
      have HG := Lib.hid (HS.out (.slice (some ⟨b, off, none⟩) 0 0) (by have h := HI.out (some ⟨b, off, none⟩) 0 off (by omega) (fun q => by omega); rw [hz] at h; exact h))
      have HZ := Lib.hid hz
      clear HS HI hcc hz
      go_enter Try.func50, Try.ntmps50
      go_wp2_with fail
      refine HG.out.mono ?_
      rintro e w' ⟨rfl, rfl⟩
      go_wp2
      go_ret
      exact ⟨ri (by rw [HZ.out]), rfl⟩
  · have hl0 : l.length = 0 := by omega
    have hc0 : c = 0 := by omega
    clear ha hcell hd hat hbd hb
    subst hc0
    have hz : l.length - 0 = 0 := by omega
    have HG := Lib.hid (fun (x : Option Addr) => HS.out (.slice x 0 cap) (by have h := HI.out x cap off (by omega) (fun q => by omega); rw [hz] at h; exact h))
    have HZ := Lib.hid hz
    clear HS HI hz
    cases a
    all_goals
      go_enter Try.func50, Try.ntmps50
      go_wp2_with fail
      refine (HG.out _).mono ?_
      rintro e w' ⟨rfl, rfl⟩
      go_wp2
      go_ret
      exact ⟨ri (by rw [HZ.out]; rfl), rfl⟩
end Go.Proofs.Ytkdcdhkhadhcfaa
