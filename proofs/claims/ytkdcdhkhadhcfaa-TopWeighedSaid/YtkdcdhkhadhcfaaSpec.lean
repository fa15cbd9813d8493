/-
  What set's matrix says: it is the table of all greatest differences, or it shows that there is no truth.
-/
import Derived.Test.YtkdcdhkhadhcfaaSat
import Derived.Test.YtkdcdhkhadhcfaaSet
namespace Go.Proofs.Ytkdcdhkhadhcfaa
/-- m is the greatest value of f in a truth. -/
def IsMax (t : CT) (skip : Int) (f : (Nat → Nat → Int) → Int) (m : Int) : Prop := (∀ y, Sat t skip y → f y ≤ m) ∧ ∃ y, Sat t skip y ∧ f y = m
def Use (t : CT) (n : Nat) : Prop := n = 0 ∨ (n - 1) / t.C.toNat < t.T.toNat
theorem use_nd {t : CT} (hf : Fit t) (i c : Nat) (hi : i < t.T.toNat) (hc : c ≤ t.C.toNat) : Use t (nd t.C i c) := by
  by_cases e : c = t.C.toNat
  · left; rw [nd_nat hf.c1, if_pos e]
  · right; rw [(nd_dec hf.c1 i c (by omega)).2.1]; exact hi
def noWords (t : CT) : CT := { t with ws := [] }
theorem fit_noWords {t : CT} (hf : Fit t) : Fit (noWords t) := ⟨hf.c1, hf.c2, hf.t1, hf.t2, hf.opl, rfl⟩
theorem use_bound {t : CT} (hf : Fit t) {x : Nat → Int} (h : Sol (tToG t.C t.op t.T.toNat) x) (i k : Nat) (hi : Use t i) (hk : Use t k) : x k - x i ≤ 40 := by
  have hs : Sat (noWords t) (-1) (yof (noWords t) x) := sat_of_sol (fit_noWords hf) h
  have key : ∀ n, Use t n → 0 ≤ x n - x 0 ∧ x n - x 0 ≤ 40 := by
    intro n hn
    by_cases e : n = 0
    · rw [e]; omega
    · rcases hn with hn | hn
      · exact absurd hn e
      · have hc1 := hf.c1
        have hm := Nat.mod_lt (n - 1) (show 0 < t.C.toNat by omega)
        have b := hs.bounds ((n - 1) / t.C.toNat) hn ((n - 1) % t.C.toNat) (Nat.le_of_lt hm)
        have e2 : nd t.C ((n - 1) / t.C.toNat : Nat) ((n - 1) % t.C.toNat : Nat) = n := by
          rw [nd_nat hf.c1, if_neg (by omega)]
          have := Nat.div_add_mod (n - 1) t.C.toNat
          rw [Nat.mul_comm] at this
          omega
        have b2 : 0 ≤ x (nd t.C ((n - 1) / t.C.toNat : Nat) ((n - 1) % t.C.toNat : Nat)) - x 0 ∧ x (nd t.C ((n - 1) / t.C.toNat : Nat) ((n - 1) % t.C.toNat : Nat)) - x 0 ≤ 40 := b
        rw [e2] at b2
        exact b2
  have := key i hi
  have := key k hk
  omega
theorem use_tToG {t : CT} (hf : Fit t) (q : Nat × Nat × Int) (hq : q ∈ tToG t.C t.op t.T.toNat) : Use t q.1 ∧ Use t q.2.1 := by
  rw [mem_tToG] at hq
  have hc1 := hf.c1
  obtain ⟨i, hi, hq⟩ := hq
  rcases hq with e | ⟨c, hc, e | ⟨_, e⟩ | ⟨_, _, e⟩⟩ <;> rw [e] <;> simp only []
  · exact ⟨.inl rfl, use_nd hf i 0 hi (by omega)⟩
  · exact ⟨use_nd hf i c hi (by omega), by rw [nd_succ]; exact use_nd hf i (c + 1) hi (by omega)⟩
  · exact ⟨use_nd hf i c hi (by omega), use_nd hf (i - 1) c (by omega) (by omega)⟩
  · exact ⟨use_nd hf (i - 1) c (by omega) (by omega), use_nd hf i c hi (by omega)⟩
/-- exact, or a clash -/
def State (n : Nat) (M : Nat → Nat → Int) (G : Cons) : Prop := (Feas M G ∧ Top M) ∨ (Bad n M ∧ ∀ x, ¬ Sol G x)
theorem Bad.mono {n k : Nat} {M : Nat → Nat → Int} (h : Bad n M) (hk : n ≤ k) : Bad k M := by
  refine ⟨h.1, h.2.1, fun a b => ?_⟩
  have := h.2.2 a b
  have p : (7 : Int) ^ n ≤ 7 ^ k := by
    rw [show k = n + (k - n) by omega, Int.pow_add]
    have a := pow7 n
    have b := pow7 (k - n)
    calc (7 : Int) ^ n = 7 ^ n * 1 := by omega
      _ ≤ 7 ^ n * 7 ^ (k - n) := Int.mul_le_mul_of_nonneg_left b (by omega)
  omega
theorem State.safe {n : Nat} {M : Nat → Nat → Int} {G : Cons} (h : State n M G) (hn : n ≤ 16) : Safe M := by
  rcases h with ⟨h, ht⟩ | ⟨h, _⟩
  · exact h.safe ht
  · exact h.safe hn
theorem State.lim {n : Nat} {M : Nat → Nat → Int} {G : Cons} {t : CT} (hf : Fit t) (h : State n M G) (hsub : ∀ q, q ∈ tToG t.C t.op t.T.toNat → q ∈ G) (hu : ∀ q ∈ G, Use t q.1 ∧ Use t q.2.1)
    {f k : Nat} {m : Int} (hm1 : -1000 ≤ m) (hf2 : f < 21) (hk : k < 21) : State (n + 1) (Go.Proofs.Ytkdcdhkhadhcfaa.lim f k m M) ((f, k, m) :: G) := by
  rcases h with ⟨h, ht⟩ | ⟨h, hno⟩
  · by_cases h0 : 0 ≤ m + M k f
    · exact .inl ⟨h.lim hf2 hk h0, ht.lim f k m⟩
    · refine .inr ⟨(h.bad ht (Use t) hu (fun x hx i j ui uj _ _ => ?_) hm1 hf2 hk (by omega)).mono (by omega), (lim_clash h hf2 hk (by omega)).2⟩
      exact use_bound hf ⟨hx.1, fun q hq => hx.2 q (hsub q hq)⟩ i j ui uj
  · exact .inr ⟨h.lim hm1 hk hf2, fun x hx => hno x ⟨hx.1, fun q hq => hx.2 q (List.mem_cons_of_mem _ hq)⟩⟩
theorem word_nodes {t : CT} (hf : Fit t) {x : CW} (hx : isWordB t.C t.T x = true) :
    nd t.C x.time x.chamber < 21 ∧ nd t.C x.time (x.chamber + 1) < 21 ∧ Use t (nd t.C x.time x.chamber) ∧ Use t (nd t.C x.time (x.chamber + 1)) := by
  obtain ⟨⟨w1, w2⟩, ⟨w3, w4⟩, _⟩ := isWordB_bounds hf.c1 hf.c2 hf.t1 hf.t2 hx
  have t2 := hf.t2
  have c1 := hf.c1
  have et : x.time = ((x.time.toNat : Nat) : Int) := by omega
  have ec : x.chamber = ((x.chamber.toNat : Nat) : Int) := by omega
  rw [et, ec, nd_succ]
  exact ⟨nd_lt hf.c1 hf.c2 _ _ (by omega) (by omega), nd_lt hf.c1 hf.c2 _ _ (by omega) (by omega), use_nd hf _ _ (by omega) (by omega), use_nd hf _ _ (by omega) (by omega)⟩
/-- one more word -/
theorem State.word {n : Nat} {M : Nat → Nat → Int} {G : Cons} {t : CT} (hf : Fit t) (h : State n M G) (hsub : ∀ q, q ∈ tToG t.C t.op t.T.toNat → q ∈ G) (hu : ∀ q ∈ G, Use t q.1 ∧ Use t q.2.1)
    {x : CW} (hx : isWordB t.C t.T x = true) :
    State (n + 1) (Go.Proofs.Ytkdcdhkhadhcfaa.lim (nd t.C x.time (x.chamber + 1)) (nd t.C x.time x.chamber) x.high M) ((nd t.C x.time (x.chamber + 1), nd t.C x.time x.chamber, x.high) :: G) ∧
    State (n + 2) (wordM t.C x M) (wG t.C x G) ∧ (∀ q, q ∈ tToG t.C t.op t.T.toNat → q ∈ wG t.C x G) ∧ ∀ q ∈ wG t.C x G, Use t q.1 ∧ Use t q.2.1 := by
  obtain ⟨n1, n2, u1, u2⟩ := word_nodes hf hx
  obtain ⟨_, _, b1, b2, b3⟩ := isWordB_bounds hf.c1 hf.c2 hf.t1 hf.t2 hx
  have s1 := h.lim hf hsub hu (m := x.high) (by omega) n2 n1
  have hsub1 : ∀ q, q ∈ tToG t.C t.op t.T.toNat → q ∈ ((nd t.C x.time (x.chamber + 1), nd t.C x.time x.chamber, x.high) :: G) := fun q hq => List.mem_cons_of_mem _ (hsub q hq)
  have hu1 : ∀ q ∈ ((nd t.C x.time (x.chamber + 1), nd t.C x.time x.chamber, x.high) :: G), Use t q.1 ∧ Use t q.2.1 := fun q hq => by
    rcases List.mem_cons.1 hq with e | e
    · rw [e]; exact ⟨u2, u1⟩
    · exact hu q e
  have s2 := s1.lim hf hsub1 hu1 (m := -x.low) (by omega) n1 n2
  refine ⟨s1, s2, fun q hq => List.mem_cons_of_mem _ (hsub1 q hq), fun q hq => ?_⟩
  rcases List.mem_cons.1 hq with e | e
  · rw [e]; exact ⟨u1, u2⟩
  · exact hu1 q e
theorem wTo_state {t : CT} (hf : Fit t) (skip : Int) : ∀ k, k ≤ t.ws.length →
    State (2 * k) (wTo t.C t.ws skip (tTo t.C t.op t.T.toNat) k) (wToG t.C t.ws skip (tToG t.C t.op t.T.toNat) k) ∧
    (∀ q, q ∈ tToG t.C t.op t.T.toNat → q ∈ wToG t.C t.ws skip (tToG t.C t.op t.T.toNat) k) ∧ ∀ q ∈ wToG t.C t.ws skip (tToG t.C t.op t.T.toNat) k, Use t q.1 ∧ Use t q.2.1
  | 0, _ => by
    have := hf.t2
    exact ⟨.inl (tTo_feas hf.c1 hf.c2 _ (by omega)), fun q hq => hq, fun q hq => use_tToG hf q hq⟩
  | k + 1, hk => by
    obtain ⟨h1, h2, h3⟩ := wTo_state hf skip k (by omega)
    show State _ (if (k : Int) = skip then _ else _) (if (k : Int) = skip then _ else _) ∧ (∀ q, _ → q ∈ (if (k : Int) = skip then _ else _)) ∧ ∀ q ∈ (if (k : Int) = skip then _ else _), _
    by_cases e : (k : Int) = skip
    · rw [if_pos e, if_pos e]
      refine ⟨?_, h2, h3⟩
      rcases h1 with h1 | h1
      · exact .inl h1
      · exact .inr ⟨h1.1.mono (by omega), h1.2⟩
    · rw [if_neg e, if_neg e]
      have := State.word hf h1 h2 h3 (allB_iff.1 hf.wb k (by omega))
      exact ⟨this.2.1, this.2.2.1, this.2.2.2⟩
theorem safeWords {t : CT} (hf : Fit t) (hl : t.ws.length ≤ 8) (skip : Int) : SafeWords t skip := by
  intro k hk
  obtain ⟨h1, h2, h3⟩ := wTo_state hf skip k (by omega)
  exact ⟨h1.safe (by omega), fun _ => (State.word hf h1 h2 h3 (allB_iff.1 hf.wb k hk)).1.safe (by omega)⟩
/-- What a matrix says of a trap. -/
structure Exact (t : CT) (skip : Int) (M : Nat → Nat → Int) : Prop where
  feas : Feas M (setG t skip)
  top : Top M
theorem set_state {t : CT} (hf : Fit t) (skip : Int) : Exact t skip (setMat t skip) ∨ (Bad (2 * t.ws.length) (setMat t skip) ∧ ∀ x, ¬ Sol (setG t skip) x) := by
  rcases (wTo_state hf skip t.ws.length (Nat.le_refl _)).1 with h | h
  · exact .inl ⟨h.1, h.2⟩
  · exact .inr h
theorem Exact.safe {t : CT} {skip : Int} {M : Nat → Nat → Int} (h : Exact t skip M) : Safe M := h.feas.safe h.top
theorem Exact.max {t : CT} {skip : Int} {M : Nat → Nat → Int} (hf : Fit t) (h : Exact t skip M) (i c j d : Nat) (hi : i < t.T.toNat) (hc : c ≤ t.C.toNat) (hj : j < t.T.toNat) (hd : d ≤ t.C.toNat) :
    IsMax t skip (fun y => y j d - y i c) (M (nd t.C i c) (nd t.C j d)) := by
  have t2 := hf.t2
  have a := nd_lt hf.c1 hf.c2 i c (by omega) hc
  have b := nd_lt hf.c1 hf.c2 j d (by omega) hd
  refine ⟨fun y hy => ?_, yof t (fun k => M (nd t.C i c) k), sat_of_sol hf (h.feas.row _ a), ?_⟩
  · have := (h.feas.2 _).1 (sol_of_sat hf hy) _ _ a b
    rw [xof_nd hf hy i c hi hc, xof_nd hf hy j d hj hd] at this
    exact this
  · unfold yof
    have := h.feas.1.1 _ a
    simp only []
    omega
theorem Exact.one {t : CT} {skip : Int} {M : Nat → Nat → Int} (hf : Fit t) (h : Exact t skip M) : ∃ y, Sat t skip y :=
  ⟨_, sat_of_sol hf (h.feas.row 0 (by omega))⟩
theorem Exact.noClash {t : CT} {skip : Int} {M : Nat → Nat → Int} (h : Exact t skip M) : clashB M = false := by
  unfold clashB
  rw [allB_iff.2 fun i hi => by rw [h.feas.1.1 i hi]; rfl]
  rfl
theorem bad_clash {n : Nat} {M : Nat → Nat → Int} (h : Bad n M) : clashB M = true := by
  obtain ⟨⟨i, hi, hd⟩, _⟩ := h
  unfold clashB
  rw [allB_false i hi (by simp [hd])]
  rfl
/-- Set's matrix: no clash just if there is a truth. -/
theorem set_clash {t : CT} (hf : Fit t) (skip : Int) : clashB (setMat t skip) = true ↔ ¬ ∃ y, Sat t skip y := by
  rcases set_state hf skip with h | h
  · rw [h.noClash]
    simp [h.one hf]
  · rw [bad_clash h.1]
    simp only [true_iff]
    rintro ⟨y, hy⟩
    exact h.2 _ (sol_of_sat hf hy)
theorem set_exact {t : CT} (hf : Fit t) {skip : Int} (h : clashB (setMat t skip) = false) : Exact t skip (setMat t skip) := by
  rcases set_state hf skip with q | q
  · exact q
  · rw [bad_clash q.1] at h; cases h
end Go.Proofs.Ytkdcdhkhadhcfaa
