/-
  beasts: Paid.
-/
import Derived.Test.YtogiidkofddhaaaDoorBPath
namespace Go.Proofs.YtogiidkofddhaaaDoor
open Go Go.RowKit Go.Shelf
set_option maxHeartbeats 4000000
set_option maxRecDepth 100000
theorem opt_1856 {b : BT} (hok : Okb b) {looks : Bool} {s : Nat} (hs : Dom b s) {v : Int} (h : opt b looks 1 0 s = some v) : 0 ≤ v ∧ v ≤ 1856 := by
  refine ⟨opt_nonneg hok way_1 hs h, ?_⟩
  obtain ⟨u, hu⟩ := opt_K_some hok hs h
  obtain ⟨c, n, r0, r1, r2, r3, r4⟩ := opt_shp hok hs hu
  rw [turns_1.optE hok way_1 hs, hu] at h
  injection h with h
  have h' : u / 1048576 = v := h
  omega
theorem path_facts {b : BT} {c : Int} : (∀ x, x ∈ pathA b c → validT b = true ∧ IsStp b x) ∧ (pathA b c).length ≤ 64 := by
  have nil : (∀ x, x ∈ ([] : List BS) → validT b = true ∧ IsStp b x) ∧ ([] : List BS).length ≤ 64 := ⟨fun x hx => absurd hx (by simp), by simp⟩
  unfold pathA
  cases hval : validT b
  · rw [hval] at nil; exact nil
  · rw [hval] at nil
    have hok := okb_iff.1 hval
    cases hin : inB b.places c
    · exact nil
    · cases ho : opt b true 1 0 (ofL b.places) with
      | none => exact nil
      | some v =>
        have hcm := inB_mem hin
        have hcp := hok.pi c hcm
        have hd := dom_places hok
        obtain ⟨v0, v1⟩ := opt_1856 hok hd ho
        have hcb : hasP (ofL b.places) c = true := (ofL_bit b.places (c + 1).toNat).2 ⟨c, hcm, rfl⟩
        obtain ⟨_, _, _, h4, h5⟩ := path_all hok 2000 (ofL b.places) v c hd ho (by omega) (by omega) hcb (by omega)
        exact ⟨fun x hx => ⟨rfl, h5 x hx⟩, Nat.le_trans h4 (cntV_le _ _)⟩
theorem costs_step {b : BT} {x : BS} (hok : Okb b) (hx : IsStp b x) : 1 ≤ costS b x ∧ costS b x ≤ 29 := by
  have := hok.l1; have := hok.l2; have := hok.e1; have := hok.e2
  unfold costS
  split
  · omega
  · rcases hx with ⟨_, g1, g2⟩ | ⟨g, _⟩
    · obtain ⟨_, _, _, _, _⟩ := hok.dk x.x.toNat (by omega); omega
    · omega
def costTo (b : BT) (l : List BS) (k : Nat) : Int := costsL b (l.take k)
theorem costTo_succ {b : BT} {l : List BS} {k : Nat} (h : k < l.length) : costTo b l (k + 1) = costTo b l k + costS b (atS l k) := by
  unfold costTo
  rw [List.take_succ_eq_append_getElem h, costsL_app]
  unfold atS
  rw [getD_lt l k default h]
  show _ + (costS b l[k] + 0) = _
  omega
theorem costTo_all {b : BT} {l : List BS} : costTo b l l.length = costsL b l := by unfold costTo; rw [List.take_length]
theorem costTo_in {b : BT} {l : List BS} (h : ∀ x, x ∈ l → validT b = true ∧ IsStp b x) : ∀ k, k ≤ l.length → 0 ≤ costTo b l k ∧ costTo b l k ≤ 29 * (k : Int)
  | 0, _ => by show (0 : Int) ≤ 0 ∧ (0 : Int) ≤ 29 * 0; omega
  | k + 1, hk => by
    have ih := costTo_in h k (by omega)
    obtain ⟨h1, h2⟩ := h _ (getD_mem l k default (by omega))
    have := costs_step (okb_iff.1 h1) h2
    rw [costTo_succ (by omega)]
    unfold atS
    omega
noncomputable def paidA (b : BT) (c : Int) : Int := costsL b (pathA b c)
theorem Paid_any (b : BT) (v : Value) (c : Int) (w : World) (hf : FarAt w) (hv : BTrapAt w v b) :
    Calls Tryd.prog 20 #[v, .int .i64 c] w fun e w' => e = .returned (.tuple #[.int .i64 (paidA b c), .int .i64 (pathE b c)]) ∧ Bel w w' := by
  have HV := Lib.hid hv
  have HP := Lib.hid (fun wx (hx : Bel w wx) => Path_any b v c wx (hf.bel hx) (hv.bel hx))
  have HCO := Lib.hid (fun (k : Nat) (hk : k < (pathA b c).length) wx (hx : Bel w wx) => by
    obtain ⟨h1, h2⟩ := path_facts.1 _ (getD_mem (pathA b c) k default hk)
    exact cost_any b h1 (atS (pathA b c) k) h2 v wx (hv.bel hx))
  have HLE := Lib.hid (path_facts (b := b) (c := c)).2
  have HIN := Lib.hid (fun k hk => costTo_in (path_facts (b := b) (c := c)).1 k hk)
  have HE := Lib.hid (show paidA b c = costTo b (pathA b c) (pathA b c).length from costTo_all.symm)
  obtain ⟨dv, sv, pv, rfl, hd, hs, hp⟩ := hv
  obtain ⟨pa, pc, pb, poff, rfl, _, ⟨hpl, _⟩, _⟩ := hp
  have hdv : ∃ da dn dc, dv = .slice da dn dc := by obtain ⟨da, dc, db, doff, rfl, _⟩ := hd; exact ⟨_, _, _, rfl⟩
  have hsv : ∃ sa sn sc, sv = .slice sa sn sc := by obtain ⟨sa, sc, sb, soff, rfl, _⟩ := hs; exact ⟨_, _, _, rfl⟩
  obtain ⟨da, dn, dc, rfl⟩ := hdv
  obtain ⟨sa, sn, sc, rfl⟩ := hsv
  have HBX := Lib.hid (fun wx hx => (BoxB.new (w := w) (b := b) (dv := .slice da dn dc) (sv := .slice sa sn sc) (pv := .slice pa b.places.length pc) (T := 25)).bel (w' := wx) hx)
  clear hd hs hf
  generalize pathA b c = l at *
  generalize paidA b c = rv at *
  generalize pathE b c = er at *
  go_enter Tryd.func20, Tryd.ntmps20
  go_wp2_with (go_at_call 18; refine (HP.out _ ((Bel.refl _).alloc _)).mono ?_; rintro e w1 ⟨V, rfl, ⟨a, lc, bg, bo, rfl, k2, k3, k4⟩, hb⟩; have hixs := idxSteps (c := lc) k2; have K4 := Lib.hid k4; have HB1 := Lib.hid hb; have HBW := Lib.hid (show Bel w w1 from Bel.trans ((Bel.refl _).alloc _) hb); clear k2 k4 hb)
  go_loopw [8, 19] (fun vn vi wr => ∃ k : Nat, k ≤ l.length ∧ vi = .int .i64 k ∧ vn = .int .i64 (costTo b l k) ∧ Bel w1 wr) (fun _ vi _ => l.length - (intOf vi).toNat)
  case atStart => exact ⟨0, by omega, rfl, rfl, Bel.refl _⟩
  case round =>
    obtain ⟨k, hk, rfl, rfl, hB⟩ := hrel
    have HB := Lib.hid hB
    by_cases hlt : k < l.length
    · have hlti : (k : Int) < (l.length : Int) := by omega
      obtain ⟨y0, y1⟩ := K4.out k hlt
      replace y0 := hB.cell y0
      replace y1 := hB.cell y1
      have ly := cell_lt y0
      obtain ⟨x0, x1, x2, x3, x4, x5⟩ := HBX.out _ (HB1.out.trans hB)
      have l0 := cell_lt x0
      have HC := Lib.hid (fun wx (hx : Bel wr wx) => HCO.out k hlt wx (HBW.out.trans (HB.out.trans hx)))
      have HS := Lib.hid (costTo_succ (b := b) hlt)
      obtain ⟨g1, g2⟩ := HIN.out k hk
      obtain ⟨g3, g4⟩ := HIN.out (k + 1) hlt
      have hl64 := HLE.out
      rw [HS.out] at g3 g4
      generalize atS l k = x at *
      have hw1 : IntKind.i64.wrap (costTo b l k + costS b x) = costTo b l k + costS b x := IntWalk.i64_in _ (by omega)
      generalize costS b x = cx at *
      clear hB
      go_wp2_with (go_at_call 73; refine (HC.out _ ((Bel.refl _).alloc _)).mono ?_; rintro e w3 ⟨rfl, hb3⟩; have HB3 := Lib.hid (HB.out.trans (Bel.trans ((Bel.refl _).alloc _) hb3)); clear hb3)
      go_roundw
      case rel => exact ⟨k + 1, by omega, by go_num, by rw [HS.out], HB3.out⟩
      case measure => simp [intOf]; omega
    · have hkk : k = l.length := by omega
      subst hkk
      go_wp2
      exact bodyPost_ret (v := .tuple #[.int .i64 (costTo b l l.length), .int .i64 er]) (by simp [results, Tryd.results20, go_sem]) rfl ⟨by rw [HE.out], HBW.out.trans HB.out⟩
end Go.Proofs.YtogiidkofddhaaaDoor
