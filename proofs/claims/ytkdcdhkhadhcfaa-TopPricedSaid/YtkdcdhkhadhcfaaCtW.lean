/-
  cuts: the least cost of a parting: a truth costs no less; none costs less than 0 if no weight does. Plain laws.
-/
import Derived.Test.YtkdcdhkhadhcfaaCtV
namespace Go.Proofs.Ytkdcdhkhadhcfaa
set_option maxHeartbeats 1000000
/-- The least of the first costs. -/
def minTo (c : List Int) : Nat → Int
  | 0 => at0 c 0
  | k + 1 => min (minTo c k) (at0 c (k + 1))
def minC (c : List Int) : Int := minTo c 30
theorem minTo_le {c : List Int} {u : Nat} : ∀ k, u ≤ k → minTo c k ≤ at0 c u
  | 0, h => by obtain rfl : u = 0 := by omega
               exact Int.le_refl _
  | k + 1, h => by
    unfold minTo
    by_cases e : u = k + 1
    · subst e; omega
    · have := minTo_le (c := c) (u := u) k (by omega); omega
theorem minTo_sm {c : List Int} {l L : Int} (h : Sm l L c) : ∀ k, k ≤ 30 → -l ≤ minTo c k ∧ (minTo c k ≤ L ∨ minTo c k = (1099511627776 : Int))
  | 0, _ => h.at_ 0 (by omega)
  | k + 1, hk => by
    have := minTo_sm h k (by omega)
    have := h.at_ (k + 1) (by omega)
    unfold minTo
    omega
def updL (P : Nat → List Int) (o : Nat) (c : List Int) (j : Nat) : List Int := if j = o then c else P j
def baseV (t : List CP) (i : Nat) (P : Nat → List Int) : List Int := if cutB t (i : Int) then plusC (P i) (lostC (atC t i) 31) else zeroC
def ownV (t : List CP) (cost : Nat → Nat → Int) (i : Nat) (P : Nat → List Int) : List Int := addC (cost i) (baseV t i P) 31
def lsStep (t : List CP) (cost : Nat → Nat → Int) (i : Nat) (s : (Nat → List Int) × Int) : (Nat → List Int) × Int :=
  if (atC t i).of = -1 then (s.1, s.2 + minC (ownV t cost i s.1)) else (updL s.1 (atC t i).of.toNat (plusC (s.1 (atC t i).of.toNat) (ownV t cost i s.1)), s.2)
/-- Behind k parts, the last one first. -/
def lsTo (t : List CP) (cost : Nat → Nat → Int) : Nat → (Nat → List Int) × Int
  | 0 => (fun _ => noC, 0)
  | k + 1 => lsStep t cost (t.length - 1 - k) (lsTo t cost k)
def leastV (t : List CP) (cost : Nat → Nat → Int) : Int := (lsTo t cost t.length).2
/-- Some parting costs less than far. -/
def LsOk (t : List CP) (cost : Nat → Nat → Int) : Prop := ∀ k, k < t.length → (atC t (t.length - 1 - k)).of = -1 → minC (ownV t cost (t.length - 1 - k) (lsTo t cost k).1) < (1099511627776 : Int)
/-- How far from 0 costs can be. -/
def Lk (M : Int) : Nat → Int
  | 0 => 0
  | k + 1 => 2 * Lk M k + M
theorem Lk_nn {M : Int} (h : 0 ≤ M) : ∀ k, 0 ≤ Lk M k
  | 0 => Int.le_refl _
  | k + 1 => by have := Lk_nn h k; unfold Lk; omega
theorem Lk_top : ∀ k, k ≤ 8 → Lk 2970 k ≤ 1000000 := by decide
theorem Lk_zero : ∀ k, Lk 0 k = 0
  | 0 => rfl
  | k + 1 => by unfold Lk; rw [Lk_zero k]; rfl
theorem Lk_le {m : Int} (h : m ≤ 2970) : ∀ k, Lk m k ≤ Lk 2970 k
  | 0 => Int.le_refl _
  | k + 1 => by have := Lk_le h k; unfold Lk; omega
/-- What the costs of weights keep within. -/
structure CoOk (m : Int) (cost : Nat → Nat → Int) : Prop where
  nn : 0 ≤ m ∧ m ≤ 2970
  at_ : ∀ i u, u < 31 → -m ≤ cost i u ∧ (cost i u ≤ 2970 ∨ cost i u = (1099511627776 : Int))
theorem base_sm {t : List CP} {i : Nat} {P : Nat → List Int} {l L : Int} (h : Sm l L (P i)) (hl : 0 ≤ l) (hL : 0 ≤ L) : Sm l L (baseV t i P) := by
  unfold baseV
  by_cases g : cutB t (i : Int) = true
  · rw [if_pos g]
    exact (plus_sm h (lost_sm _) hl (Int.le_refl _)).more (by omega) (by omega)
  · rw [if_neg g]
    exact zero_sm.more hl hL
theorem own_sm {t : List CP} {cost : Nat → Nat → Int} {m : Int} (hc : CoOk m cost) {i : Nat} {P : Nat → List Int} {l L : Int} (h : Sm l L (P i)) (hl : 0 ≤ l) (hL : 0 ≤ L) : Sm (l + m) (L + 2970) (ownV t cost i P) := by
  have hb := base_sm (t := t) h hl hL
  have hM0 := hc.nn
  refine ⟨by unfold ownV; rw [addC_len]; exact hb.len, fun u hu => ?_⟩
  have h1 := hb.at_ u hu
  have h2 := hc.at_ i u hu
  unfold ownV
  rw [addC_at hb.len 31 (Nat.le_refl _), if_pos hu]
  generalize at0 (baseV t i P) u = x at *
  by_cases q : cost i u < (1099511627776 : Int) ∧ x < (1099511627776 : Int)
  · rw [if_pos q]
    omega
  · rw [if_neg q]; omega
theorem ls_sm {t : List CP} {cost : Nat → Nat → Int} {m : Int} (hc : CoOk m cost) (h8 : t.length ≤ 8) : ∀ k, k ≤ t.length → (∀ i, Sm (Lk m k) (Lk 2970 k) ((lsTo t cost k).1 i)) ∧ -(Lk m k) ≤ (lsTo t cost k).2 ∧ (lsTo t cost k).2 ≤ (1099511627776 : Int) * k
  | 0, _ => ⟨fun i => no_sm, by show -0 ≤ (0 : Int); omega, by show (0 : Int) ≤ _; omega⟩
  | k + 1, hk => by
    obtain ⟨h1, h2, h3⟩ := ls_sm hc h8 k (by omega)
    have n1 := Lk_nn hc.nn.1 k
    have n2 := Lk_nn (show (0 : Int) ≤ 2970 by omega) k
    have hm := hc.nn
    have ho := own_sm (t := t) (i := t.length - 1 - k) hc (h1 _) n1 n2
    have ht := Lk_top k (by omega)
    have hmn := minTo_sm ho 30 (Nat.le_refl _)
    show (∀ i, Sm (2 * Lk m k + m) (2 * Lk 2970 k + 2970) ((lsStep t cost (t.length - 1 - k) (lsTo t cost k)).1 i)) ∧ -(2 * Lk m k + m) ≤ (lsStep t cost (t.length - 1 - k) (lsTo t cost k)).2 ∧ (lsStep t cost (t.length - 1 - k) (lsTo t cost k)).2 ≤ _
    unfold lsStep
    by_cases e : (atC t (t.length - 1 - k)).of = -1
    · rw [if_pos e]
      refine ⟨fun i => (h1 i).more (by omega) (by omega), ?_, ?_⟩
      · show _ ≤ _ + minTo _ 30; omega
      · show _ + minTo _ 30 ≤ _; omega
    · rw [if_neg e]
      refine ⟨fun i => ?_, by show _ ≤ (lsTo t cost k).2; omega, by show (lsTo t cost k).2 ≤ _; omega⟩
      show Sm _ _ (updL _ _ _ i)
      unfold updL
      by_cases q : i = (atC t (t.length - 1 - k)).of.toNat
      · rw [if_pos q]
        exact (plus_sm (h1 _) ho n1 (by omega)).more (by omega) (by omega)
      · rw [if_neg q]; exact (h1 i).more (by omega) (by omega)
theorem least_nn {t : List CP} {cost : Nat → Nat → Int} (hc : CoOk 0 cost) (h8 : t.length ≤ 8) : 0 ≤ leastV t cost := by
  have := (ls_sm hc h8 t.length (Nat.le_refl _)).2.1
  rw [Lk_zero] at this
  unfold leastV
  omega
theorem no_kept {t : List CP} {cost : Nat → Nat → Int} {i : Nat} (h : cutB t (i : Int) = false) (h0 : ∀ j, j < t.length → -1 ≤ (atC t j).of) : ∀ k, k ≤ t.length → (lsTo t cost k).1 i = noC
  | 0, _ => rfl
  | k + 1, hk => by
    have ih := no_kept (cost := cost) h h0 k (by omega)
    show (lsStep t cost (t.length - 1 - k) (lsTo t cost k)).1 i = noC
    unfold lsStep
    by_cases e : (atC t (t.length - 1 - k)).of = -1
    · rw [if_pos e]; exact ih
    · rw [if_neg e]
      show updL _ _ _ i = noC
      unfold updL
      rw [if_neg]
      · exact ih
      · intro q
        have := h0 (t.length - 1 - k) (by omega)
        exact cutB_false h (i := t.length - 1 - k) (by omega) (by omega)
/-! a truth -/
def wSum (t : List CP) (y : Nat → Nat) (i : Nat) : Nat → Nat
  | 0 => 0
  | k + 1 => wSum t y i k + if (atC t (t.length - 1 - k)).of = (i : Int) then y (t.length - 1 - k) else 0
theorem wSum_s (t : List CP) (y : Nat → Nat) (i k : Nat) : wSum t y i (k + 1) = wSum t y i k + if (atC t (t.length - 1 - k)).of = (i : Int) then y (t.length - 1 - k) else 0 := rfl
def cSum (t : List CP) (cost : Nat → Nat → Int) (y : Nat → Nat) : Nat → Int
  | 0 => 0
  | k + 1 => cSum t cost y k + cost (t.length - 1 - k) (y (t.length - 1 - k))
def sumF (f : Nat → Int) : Nat → Int
  | 0 => 0
  | k + 1 => sumF f k + f k
theorem sumF_congr {f g : Nat → Int} : ∀ k, (∀ i, i < k → f i = g i) → sumF f k = sumF g k
  | 0, _ => rfl
  | k + 1, h => by unfold sumF; rw [sumF_congr k (fun i hi => h i (by omega)), h k (by omega)]
theorem sumF_one {f g : Nat → Int} {o : Nat} {d : Int} (hd : g o ≤ f o + d) : ∀ k, o < k → (∀ i, i < k → i ≠ o → g i = f i) → sumF g k ≤ sumF f k + d
  | 0, h, _ => by omega
  | k + 1, h, he => by
    unfold sumF
    by_cases e : o = k
    · subst e
      rw [sumF_congr (f := g) (g := f) o (fun i hi => he i (by omega) (by omega))]
      omega
    · have := sumF_one hd k (by omega) (fun i hi => he i (by omega))
      rw [he k (by omega) (by omega)]
      omega
theorem wSum_mono (t : List CP) (y : Nat → Nat) (i : Nat) {j : Nat} : ∀ k, j ≤ k → wSum t y i j ≤ wSum t y i k
  | 0, h => by obtain rfl : j = 0 := by omega
               exact Nat.le_refl _
  | k + 1, h => by
    by_cases e : j = k + 1
    · subst e; exact Nat.le_refl _
    · have := wSum_mono t y i (j := j) k (by omega)
      rw [wSum_s]; omega
theorem wSum_none {t : List CP} {y : Nat → Nat} {i : Nat} (h : cutB t (i : Int) = false) : ∀ k, k ≤ t.length → wSum t y i k = 0
  | 0, _ => rfl
  | k + 1, hk => by
    rw [wSum_s, wSum_none h k (by omega), if_neg (cutB_false h (by omega))]
/-- All pieces of i are processed when i is. -/
theorem wSum_all {t : List CP} {y : Nat → Nat} (ht : CtOk t) {i : Nat} (hi : i < t.length) : ∀ k, t.length - 1 - i ≤ k → k ≤ t.length → wSum t y i k = wSum t y i (t.length - 1 - i)
  | 0, h, _ => by rw [show t.length - 1 - i = 0 by omega]
  | k + 1, h, hk => by
    by_cases e : t.length - 1 - i = k + 1
    · rw [e]
    · have ih := wSum_all (y := y) ht hi k (by omega) (by omega)
      have := (ht.of (t.length - 1 - k) (by omega)).2
      rw [wSum_s, if_neg (by omega), ih]; rfl
structure Tr (t : List CP) (y : Nat → Nat) : Prop where
  y30 : ∀ i, i < t.length → y i ≤ 30
  lost : ∀ i, i < t.length → cutB t (i : Int) = true → (wSum t y i t.length : Int) + (atC t i).slo ≤ y i ∧ (y i : Int) ≤ wSum t y i t.length + (atC t i).shi
theorem truth_inv {t : List CP} {cost : Nat → Nat → Int} {m : Int} {y : Nat → Nat} (ht : CtOk t) (hc : CoOk m cost) (hy : Tr t y) (hcy : ∀ i, i < t.length → cost i (y i) ≤ 2970) :
    ∀ k, k ≤ t.length → (∀ i, i < t.length - k → at0 ((lsTo t cost k).1 i) (wSum t y i k) ≤ Lk 2970 k) ∧ (lsTo t cost k).2 + sumF (fun i => at0 ((lsTo t cost k).1 i) (wSum t y i k)) (t.length - k) ≤ cSum t cost y k ∧
      ∀ j, j < k → (atC t (t.length - 1 - j)).of = -1 → minC (ownV t cost (t.length - 1 - j) (lsTo t cost j).1) < (1099511627776 : Int)
  | 0, _ => by
    have h0 : at0 noC 0 = 0 := by rw [noC_at (by omega)]; rfl
    refine ⟨fun i _ => by show at0 noC 0 ≤ 0; omega, ?_, fun j hj => by omega⟩
    have : ∀ k, sumF (fun i => at0 ((lsTo t cost 0).1 i) (wSum t y i 0)) k = 0 := by
      intro k
      induction k with
      | zero => rfl
      | succ k ih => unfold sumF; rw [ih]; show 0 + at0 noC 0 = 0; omega
    rw [this]; exact Int.le_refl _
  | k + 1, hk => by
    obtain ⟨h1, h2, h3⟩ := truth_inv ht hc hy hcy k (by omega)
    have hm := hc.nn
    have n1 := Lk_nn hc.nn.1 k
    have n2 := Lk_nn (show (0 : Int) ≤ 2970 by omega) k
    have htop := Lk_top k (by have := ht.l8; omega)
    obtain ⟨hs, _, _⟩ := ls_sm hc ht.l8 k (by omega)
    obtain ⟨i, hi⟩ : ∃ i, i = t.length - 1 - k := ⟨_, rfl⟩
    have hin : i < t.length := by omega
    have e1 : t.length - k = i + 1 := by omega
    have e2 : t.length - (k + 1) = i := by omega
    rw [e1] at h1 h2
    rw [e2]
    have hPi := h1 i (by omega)
    have h0s : ∀ j, j < t.length → -1 ≤ (atC t j).of := fun j hj => (ht.of j hj).1
    -- the costs of i's own weight
    have hbase : at0 (baseV t i (lsTo t cost k).1) (y i) ≤ at0 ((lsTo t cost k).1 i) (wSum t y i k) := by
      unfold baseV
      have hy30 := hy.y30 i hin
      cases hcut : cutB t (i : Int)
      · rw [if_neg (by decide), zeroC_at, no_kept hcut h0s k (by omega), wSum_none hcut k (by omega), noC_at (by omega)]; exact Int.le_refl _
      · rw [if_pos rfl]
        obtain ⟨l1, l2⟩ := hy.lost i hin hcut
        have hw : wSum t y i t.length = wSum t y i k := by
          rw [wSum_all ht hin t.length (by omega) (Nat.le_refl _), wSum_all ht hin k (by omega) (by omega)]
        rw [hw] at l1 l2
        have hsl := ht.s i hin
        have hl : at0 (lostC (atC t i) 31) (y i - wSum t y i k) = 0 := by
          rw [lostC_at _ 31 (Nat.le_refl _), if_pos (by omega), if_pos (by rw [withinB_true]; omega)]
        have := plus_le (c := (lsTo t cost k).1 i) (d := lostC (atC t i) 31) (v := wSum t y i k) (w := y i - wSum t y i k) (by omega) (by omega) (by rw [hl]; omega)
        rw [hl, show wSum t y i k + (y i - wSum t y i k) = y i by omega] at this
        omega
    have hown : at0 (ownV t cost i (lsTo t cost k).1) (y i) = at0 (baseV t i (lsTo t cost k).1) (y i) + cost i (y i) := by
      have := hcy i hin
      have hy30 := hy.y30 i hin
      unfold ownV
      rw [addC_at (base_sm (t := t) (hs i) n1 n2).len 31 (Nat.le_refl _), if_pos (by omega), if_pos ⟨by omega, by omega⟩]
    have hci := hcy i hin
    have hcl := (hc.at_ i (y i) (by have := hy.y30 i hin; omega)).1
    have hS : sumF (fun i => at0 ((lsTo t cost k).1 i) (wSum t y i k)) (i + 1) = sumF (fun i => at0 ((lsTo t cost k).1 i) (wSum t y i k)) i + at0 ((lsTo t cost k).1 i) (wSum t y i k) := rfl
    rw [hS] at h2
    have hC : cSum t cost y (k + 1) = cSum t cost y k + cost i (y i) := by rw [hi]; rfl
    have hLS : lsTo t cost (k + 1) = lsStep t cost i (lsTo t cost k) := by rw [hi]; rfl
    have hWS : ∀ j, wSum t y j (k + 1) = wSum t y j k + if (atC t i).of = (j : Int) then y i else 0 := fun j => by rw [hi]; rfl
    rw [hC, hLS]
    have hLk : Lk 2970 (k + 1) = 2 * Lk 2970 k + 2970 := rfl
    have hof := ht.of i hin
    unfold lsStep
    by_cases e : (atC t i).of = -1
    · rw [if_pos e]
      have hmin := minTo_le (c := ownV t cost i (lsTo t cost k).1) (u := y i) 30 (hy.y30 i hin)
      have hW : ∀ j, wSum t y j (k + 1) = wSum t y j k := fun j => by rw [hWS, if_neg (by omega)]; rfl
      refine ⟨fun j hj => ?_, ?_, fun j hj he => ?_⟩
      · rw [hW]; have := h1 j (by omega); show at0 ((lsTo t cost k).1 j) _ ≤ _; omega
      · show (lsTo t cost k).2 + minC _ + _ ≤ _
        rw [sumF_congr (g := fun i => at0 ((lsTo t cost k).1 i) (wSum t y i k)) i (fun j hj => by show at0 _ (wSum t y j (k + 1)) = _; rw [hW])]
        unfold minC
        omega
      · by_cases q : j = k
        · subst q
          rw [← hi]
          unfold minC
          omega
        · exact h3 j (by omega) he
    · rw [if_neg e]
      obtain ⟨o, ho⟩ : ∃ o : Nat, (atC t i).of = (o : Int) := ⟨(atC t i).of.toNat, by omega⟩
      have hoi : o < i := by omega
      rw [ho]
      simp only [Int.toNat_natCast]
      have hWo : wSum t y o (k + 1) = wSum t y o k + y i := by rw [hWS, if_pos ho]
      have hWj : ∀ j, j ≠ o → wSum t y j (k + 1) = wSum t y j k := fun j hj => by rw [hWS, if_neg (by omega)]; rfl
      have hPo := h1 o (by omega)
      have hcutO : cutB t (o : Int) = true := cutB_true.2 ⟨i, hin, ho⟩
      obtain ⟨l1, _⟩ := hy.lost o (by omega) hcutO
      have hsl := ht.s o (by omega)
      have hw1 := wSum_mono t y o (j := k + 1) t.length (by omega)
      have hy30 := hy.y30 o (by omega)
      have hpl := plus_le (c := (lsTo t cost k).1 o) (d := ownV t cost i (lsTo t cost k).1) (v := wSum t y o k) (w := y i) (by omega) (by omega) (by omega)
      refine ⟨fun j hj => ?_, ?_, fun j hj he => ?_⟩
      · show at0 (updL _ _ _ j) _ ≤ _
        unfold updL
        by_cases q : j = o
        · subst q
          rw [if_pos rfl, hWo]
          omega
        · rw [if_neg q, hWj j q]; have := h1 j (by omega); omega
      · show (lsTo t cost k).2 + _ ≤ _
        have := sumF_one (f := fun i => at0 ((lsTo t cost k).1 i) (wSum t y i k)) (g := fun j => at0 (updL (lsTo t cost k).1 o (plusC ((lsTo t cost k).1 o) (ownV t cost i (lsTo t cost k).1)) j) (wSum t y j (k + 1))) (o := o) (d := at0 (ownV t cost i (lsTo t cost k).1) (y i))
          (by show at0 (updL _ _ _ o) _ ≤ at0 _ _ + _; unfold updL; rw [if_pos rfl, hWo]; exact hpl) i hoi (fun j hj hne => by show at0 (updL _ _ _ j) _ = at0 _ _; unfold updL; rw [if_neg hne, hWj j hne])
        omega
      · by_cases q : j = k
        · subst q; rw [← hi] at he; omega
        · exact h3 j (by omega) he
theorem truth_ok {t : List CP} {cost : Nat → Nat → Int} {m : Int} {y : Nat → Nat} (ht : CtOk t) (hc : CoOk m cost) (hy : Tr t y) (hcy : ∀ i, i < t.length → cost i (y i) ≤ 2970) : LsOk t cost ∧ leastV t cost ≤ cSum t cost y t.length := by
  obtain ⟨_, h2, h3⟩ := truth_inv ht hc hy hcy t.length (Nat.le_refl _)
  rw [Nat.sub_self] at h2
  exact ⟨h3, by unfold leastV; have : ∀ f, sumF f 0 = 0 := fun _ => rfl; rw [this] at h2; omega⟩
theorem cSum_sumF (t : List CP) (cost : Nat → Nat → Int) (y : Nat → Nat) : ∀ k, k ≤ t.length → cSum t cost y k + sumF (fun i => cost i (y i)) (t.length - k) = sumF (fun i => cost i (y i)) t.length
  | 0, _ => by show 0 + _ = _; rw [Nat.sub_zero]; omega
  | k + 1, hk => by
    have ih := cSum_sumF t cost y k (by omega)
    obtain ⟨i, hi⟩ : ∃ i, i = t.length - 1 - k := ⟨_, rfl⟩
    rw [show t.length - k = i + 1 by omega] at ih
    rw [show t.length - (k + 1) = i by omega]
    unfold cSum
    rw [← hi]
    have : sumF (fun i => cost i (y i)) (i + 1) = sumF (fun i => cost i (y i)) i + cost i (y i) := rfl
    omega
end Go.Proofs.Ytkdcdhkhadhcfaa
