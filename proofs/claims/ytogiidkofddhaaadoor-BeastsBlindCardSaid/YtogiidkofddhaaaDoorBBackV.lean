/-
  beasts: there and back: a door that is opened twice. Plain laws.
-/
import Derived.Test.YtogiidkofddhaaaDoorBR
namespace Go.Proofs.YtogiidkofddhaaaDoor
theorem nodup_le : ∀ {l m : List Int}, l.Nodup → (∀ x, x ∈ l → x ∈ m) → l.length ≤ m.length
  | [], _, _, _ => Nat.zero_le _
  | a :: l, m, h, hs => by
    have h1 := List.nodup_cons.1 h
    have ha := hs a (List.mem_cons_self ..)
    have := nodup_le (l := l) (m := m.erase a) h1.2 fun x hx => by
      have hne : x ≠ a := fun e => h1.1 (e ▸ hx)
      exact (List.mem_erase_of_ne hne).2 (hs x (List.mem_cons_of_mem _ hx))
    rw [List.length_erase_of_mem ha] at this
    have hp : 0 < m.length := List.length_pos_of_mem ha
    rw [List.length_cons]
    omega
theorem Asc.nodup {l : List Int} (h : Asc l) : l.Nodup := List.Pairwise.imp (fun {a b} (g : a < b) => by show a ≠ b; omega) h
theorem mem_mv {b : BT} (hb : Okb b) {i : Nat} (hi : i < b.doors.length) {ps : List Int} (hin : ∀ p, p ∈ ps → -1 ≤ p ∧ p ≤ b.n - 1) {q : Int} :
    q ∈ plOf (mvB (atD b.doors i) (ofL ps)) ↔ ∃ p, p ∈ ps ∧ q = thr (atD b.doors i) p := by
  have hn := hb.n2
  have hn1 := hb.n1
  have hni : ((b.n.toNat : Nat) : Int) = b.n := by omega
  have hd := hb.dk i hi
  have ho : ofL ps < 2 ^ (b.n.toNat + 1) := ofL_lt (n := b.n.toNat) fun p hp => by have := hin p hp; omega
  have hpw := hb.pow
  have h256 : ofL ps < 256 := by omega
  have hmv := mvB_lt (by rw [← hni] at hd; exact hd) ho
  rw [mem_plOf (by omega), mvB_bit' h256]
  constructor
  · rintro ⟨⟨j, j1, j2⟩, hq⟩
    obtain ⟨p, hp, e⟩ := (ofL_bit _ _).1 j1
    have h1 := hin p hp
    have h2 := thr_in hd (p := p) h1.1 (by omega)
    refine ⟨p, hp, ?_⟩
    rw [show (j : Int) - 1 = p by omega] at j2
    omega
  · rintro ⟨p, hp, rfl⟩
    have h1 := hin p hp
    have h2 := thr_in hd (p := p) h1.1 (by omega)
    exact ⟨⟨(p + 1).toNat, (ofL_bit _ _).2 ⟨p, hp, rfl⟩, by rw [show (((p + 1).toNat : Nat) : Int) - 1 = p by omega]⟩, h2.1⟩
/-- Where the beast can be when a door was opened: no more places, strictly ascending; and back again. -/
theorem back_law {b : BT} (hb : Okb b) {i : Nat} (hi : i < b.doors.length) {ps : List Int} (ha : Asc ps) (hin : ∀ p, p ∈ ps → -1 ≤ p ∧ p ≤ b.n - 1) :
    let l := plOf (mvB (atD b.doors i) (ofL ps))
    l.length ≤ ps.length ∧ (0 < l.length ↔ 0 < ps.length) ∧ Asc l ∧ (∀ p, p ∈ l → -1 ≤ p ∧ p ≤ b.n - 1) ∧ ((atD b.doors i).b ≠ -1 → plOf (mvB (atD b.doors i) (ofL l)) = ps) := by
  intro l
  have hd := hb.dk i hi
  have hm : ∀ q, q ∈ l ↔ ∃ p, p ∈ ps ∧ q = thr (atD b.doors i) p := fun q => mem_mv hb hi hin
  have hl : Asc l := plTo_asc _ _
  have hli : ∀ p, p ∈ l → -1 ≤ p ∧ p ≤ b.n - 1 := fun p hp => by
    obtain ⟨q, hq, rfl⟩ := (hm p).1 hp
    have h1 := hin q hq
    have h2 := thr_in hd (p := q) h1.1 (by omega)
    omega
  refine ⟨?_, ?_, hl, hli, fun hb2 => ?_⟩
  · have := nodup_le (l := l) (m := ps.map (thr (atD b.doors i))) hl.nodup fun x hx => by
      obtain ⟨q, hq, rfl⟩ := (hm x).1 hx
      exact List.mem_map_of_mem hq
    simpa using this
  · constructor
    · intro h
      obtain ⟨q, hq⟩ := List.exists_mem_of_length_pos h
      obtain ⟨p, hp, _⟩ := (hm q).1 hq
      exact List.length_pos_of_mem hp
    · intro h
      obtain ⟨p, hp⟩ := List.exists_mem_of_length_pos h
      exact List.length_pos_of_mem ((hm _).2 ⟨p, hp, rfl⟩)
  · refine asc_ext (plTo_asc _ _) ha fun p => ?_
    have e := mem_mv hb hi hli (q := p)
    refine e.trans ?_
    have key : ∀ r, -1 ≤ r → r ≤ b.n - 1 → thr (atD b.doors i) (thr (atD b.doors i) r) = r := fun r h1 h2 => by
      by_cases e1 : thr (atD b.doors i) r = -1
      · have : r = -1 := by
          obtain ⟨⟨a1, a2⟩, _, a4, _⟩ := hd
          unfold thr at e1
          by_cases q0 : r = -1
          · exact q0
          · rw [if_neg q0] at e1
            by_cases q1 : r = (atD b.doors i).a
            · rw [if_pos q1] at e1; exact absurd e1 hb2
            · rw [if_neg q1] at e1
              by_cases q2 : r = (atD b.doors i).b
              · rw [if_pos q2] at e1; omega
              · rw [if_neg q2] at e1; exact absurd e1 q0
        subst this
        unfold thr
        simp
      · exact thr_twice hd e1
    constructor
    · rintro ⟨q, hq, rfl⟩
      obtain ⟨r, hr, rfl⟩ := (hm q).1 hq
      have := hin r hr
      rw [key r this.1 this.2]
      exact hr
    · intro hp
      have := hin p hp
      exact ⟨thr (atD b.doors i) p, (hm _).2 ⟨p, hp, rfl⟩, (key p this.1 this.2).symm⟩
end Go.Proofs.YtogiidkofddhaaaDoor
