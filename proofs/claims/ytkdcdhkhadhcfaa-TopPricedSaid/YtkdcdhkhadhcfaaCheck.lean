/-
  counts: Check, and what it calls of the library: Contains, ContainsFunc; ask.
-/
import Derived.Test.YtkdcdhkhadhcfaaRef2
namespace Go.Proofs.Ytkdcdhkhadhcfaa
open Go Go.RowKit
set_option maxHeartbeats 400000
set_option maxRecDepth 100000
/-- what an index says of a test -/
def SomeIdx (b : Bool) (w : World) (e : Ending) (w' : World) : Prop := ∃ r : Int, e = .returned (.int .i64 r) ∧ decide (0 ≤ r) = b ∧ Bel w w'
theorem Index_any (v : Value) (l : List Int) (n : Int) (w : World) (hv : IntsAt w v l) :
    Calls Try.prog 99 #[v, .int .i64 n] w (SomeIdx (inB l n) w) := by
  obtain ⟨a, c, b, off, rfl, ha, hlen, hc⟩ := hv
  have hix := idxInts (c := c) ha
  clear ha
  go_enter Try.func99, Try.ntmps99
  go_wp2
  go_loop [8] (fun i => ∃ k : Nat, k ≤ l.length ∧ i = .int .i64 k ∧ Hid (∀ j, j < k → at0 l j ≠ n)) (fun i => l.length - (intOf i).toNat)
  case atStart => exact ⟨0, by omega, rfl, fun j hj => absurd hj (by omega)⟩
  case round =>
    obtain ⟨k, hk, rfl, hno⟩ := hrel
    by_cases hlt : k < l.length
    · have hck := hc k hlt
      clear hc
      by_cases heq : at0 l k = n
      · have HI := Lib.hid (inB_of_at k hlt heq)
        have hb : (n == at0 l k) = true := by simp [heq]
        clear heq
        go_wp2
        go_ret
        exact ⟨(k : Int), rfl, by rw [HI.out]; simp, Bel.refl _⟩
      · have hb : (n == at0 l k) = false := by simpa using fun h => heq h.symm
        have HB := Lib.hid heq; clear heq
        go_wp2
        go_round
        case rel => exact ⟨k + 1, by omega, by go_num, fun j hj => by
          rcases Nat.lt_succ_iff_lt_or_eq.1 hj with h | h
          · exact hno.out j h
          · rw [h]; exact HB.out⟩
        case measure => simp [intOf]; omega
    · have HI := Lib.hid (inB_of_none (l := l) (n := n) fun j hj => hno.out j (by omega))
      go_wp2
      go_ret
      exact ⟨-1, rfl, by rw [HI.out]; rfl, Bel.refl _⟩
theorem Contains_any (v : Value) (l : List Int) (n : Int) (w : World) (hv : IntsAt w v l) :
    Calls Try.prog 71 #[v, .int .i64 n] w fun e w' => e = .returned (.bool (inB l n)) ∧ Bel w w' := by
  have HC := fun w => Index_any v l n w
  go_enter Try.func71, Try.ntmps71
  go_wp2_with (go_at_call 99; refine (Index_any _ _ _ _ hv).mono ?_; rintro e w' ⟨r, rfl, hr, hb⟩; have HR := Lib.hid hr; clear hr)
  go_ret
  exact ⟨rb (by rw [← HR.out]), hb⟩
theorem Check1_any (tb : Nat) (C T : Int) (x : CW) (ov wv : Value) (w : World) (h0 : w.cell? ⟨tb, 0, none⟩ = some (.int .i64 C)) (h1 : w.cell? ⟨tb, 1, none⟩ = some (.int .i64 T))
    (h2 : w.cell? ⟨tb, 2, none⟩ = some ov) (h3 : w.cell? ⟨tb, 3, none⟩ = some wv) :
    Calls Try.prog 129 #[x.val, .pointer (some ⟨tb, 0, none⟩)] w fun e w' => e = .returned (.bool (!isWordB C T x)) ∧ Bel w w' := by
  have hlt := cell_lt h0
  have HV := Lib.hid (show x.val = .agg #[.int .i64 x.time, .int .i64 x.chamber, .int .i64 x.low, .int .i64 x.high] from rfl)
  rw [HV.out]
  go_enter Try.func129, Try.ntmps129
  go_wp2_with (go_at_call 130; rw [← HV.out]; refine (isWord_any _ _ _ _ _ _).mono ?_; rintro e w' ⟨rfl, hb⟩)
  go_ret
  exact ⟨rfl, (by repeat (first | assumption | exact Bel.refl _ | refine Bel.drew ?_ | refine Bel.drewN ?_ _ | refine Bel.alloc ?_ _ | refine Bel.setCell ?_ (by simp <;> omega) _ | refine Bel.trans ?_ (by assumption)))⟩
theorem infoWord : ∃ i, Try.prog.info? 53 = some i := Option.isSome_iff_exists.1 (by kernel_rfl)
theorem cellsWord : Try.prog.cellsOf 53 = 4 := by kernel_rfl
theorem idxWords {a : Option Addr} {n c b off : Nat} (ha : 0 < n → a = some ⟨b, off, none⟩) :
    ∀ (w : World) (i : Nat), i < n → (Instr.indexAt 45 (.slice a n c) (.int .i64 i)).run Try.prog w = .ok (.pointer (some ⟨b, off + i * 4, none⟩)) w := by
  obtain ⟨i0, hi0⟩ := infoWord
  exact idxRule (P := Try.prog) 45 53 4 Try.underlying45 hi0 cellsWord (c := c) ha
theorem infoRow : ∃ i, Try.prog.info? 26 = some i := Option.isSome_iff_exists.1 (by kernel_rfl)
theorem cellsRow : Try.prog.cellsOf 26 = 1 := by kernel_rfl
theorem idxRows {a : Option Addr} {n c b off : Nat} (ha : 0 < n → a = some ⟨b, off, none⟩) :
    ∀ (w : World) (i : Nat), i < n → (Instr.indexAt 44 (.slice a n c) (.int .i64 i)).run Try.prog w = .ok (.pointer (some ⟨b, off + i, none⟩)) w := by
  obtain ⟨i0, hi0⟩ := infoRow
  have h := idxRule (P := Try.prog) 44 26 1 Try.underlying44 hi0 cellsRow (c := c) ha
  simpa using h
/-- Whether all words are right. -/
def wordsB (C T : Int) (ws : List CW) : Bool := allB ws.length fun i => isWordB C T (atW ws i)
theorem IndexFunc_any (tb : Nat) (C T : Int) (ws : List CW) (ov wv : Value) (w : World) (h0 : w.cell? ⟨tb, 0, none⟩ = some (.int .i64 C)) (h1 : w.cell? ⟨tb, 1, none⟩ = some (.int .i64 T))
    (h2 : w.cell? ⟨tb, 2, none⟩ = some ov) (h3 : w.cell? ⟨tb, 3, none⟩ = some wv) (hv : WordsAt w wv ws) :
    Calls Try.prog 134 #[wv, .func (.func 129) #[] #[.pointer (some ⟨tb, 0, none⟩)]] w (SomeIdx (!wordsB C T ws) w) := by
  obtain ⟨a, c, b, off, rfl, ha, hlen, hc⟩ := hv
  have hix := idxWords (c := c) ha
  clear ha
  go_enter Try.func134, Try.ntmps134
  go_wp2
  go_loopw [8] (fun i wr => ∃ k : Nat, k ≤ ws.length ∧ i = .int .i64 k ∧ Hid (allB k (fun i => isWordB C T (atW ws i)) = true) ∧ Bel w wr) (fun i _ => ws.length - (intOf i).toNat)
  case atStart => exact ⟨0, by omega, rfl, rfl, Bel.refl _⟩
  case round =>
    obtain ⟨k, hk, rfl, hno, hw⟩ := hrel
    by_cases hlt : k < ws.length
    · obtain ⟨k0, k1, k2, k3⟩ := hc k hlt
      have k0 := hw.cell k0
      have k1 := hw.cell k1
      have k2 := hw.cell k2
      have k3 := hw.cell k3
      have hC := Check1_any tb C T (atW ws k) ov _ wr (hw.cell h0) (hw.cell h1) (hw.cell h2) (hw.cell h3)
      clear hc h0 h1 h2 h3
      cases hwk : isWordB C T (atW ws k)
      · have HI := Lib.hid (show wordsB C T ws = false from allB_false k hlt hwk)
        rw [hwk] at hC
        have HC := Lib.hid hC
        clear hC hwk
        go_wp2_with (go_at_call 129; refine HC.out.mono ?_; rintro e w' ⟨rfl, hb⟩)
        go_ret
        exact ⟨(k : Int), rfl, by rw [HI.out]; simp, hw.trans hb⟩
      · have HR := Lib.hid (allB_succ hno.out (f := fun i => isWordB C T (atW ws i)) hwk)
        rw [hwk] at hC
        have HC := Lib.hid hC
        clear hC hwk
        go_wp2_with (go_at_call 129; refine HC.out.mono ?_; rintro e w' ⟨rfl, hb⟩)
        go_roundw
        case rel => exact ⟨k + 1, by omega, by go_num, HR, hw.trans hb⟩
        case measure => simp [intOf]; omega
    · have HI := Lib.hid (show wordsB C T ws = true by unfold wordsB; rw [show ws.length = k by omega]; exact hno.out)
      clear hc h0 h1 h2 h3
      go_wp2
      go_ret
      exact ⟨-1, rfl, by rw [HI.out]; rfl, hw⟩
theorem ContainsFunc_any (tb : Nat) (C T : Int) (ws : List CW) (ov wv : Value) (w : World) (h0 : w.cell? ⟨tb, 0, none⟩ = some (.int .i64 C)) (h1 : w.cell? ⟨tb, 1, none⟩ = some (.int .i64 T))
    (h2 : w.cell? ⟨tb, 2, none⟩ = some ov) (h3 : w.cell? ⟨tb, 3, none⟩ = some wv) (hv : WordsAt w wv ws) :
    Calls Try.prog 128 #[wv, .func (.func 129) #[] #[.pointer (some ⟨tb, 0, none⟩)]] w fun e w' => e = .returned (.bool (!wordsB C T ws)) ∧ Bel w w' := by
  have HC := Lib.hid (IndexFunc_any tb C T ws ov wv w h0 h1 h2 h3 hv)
  clear h0 h1 h2 h3
  go_enter Try.func128, Try.ntmps128
  go_wp2_with (go_at_call 134; refine HC.out.mono ?_; rintro e w' ⟨r, rfl, hr, hb⟩; have HR := Lib.hid hr; clear hr)
  go_ret
  exact ⟨rb (by rw [← HR.out]), hb⟩
/-- Whether all lists of doors are right. -/
def rowsB (C : Int) (op : List (List Int)) : Bool := allB op.length fun i => risingB (atL op i) 0 (C - 1)
def validB (t : CT) : Bool :=
  withinB t.C 1 4 && (withinB t.T 1 5 && (decide ((t.op.length : Int) = t.T - 1) && (decide (t.ws.length ≤ 8) && (rowsB t.C t.op && wordsB t.C t.T t.ws))))
def chk (t : CT) : Int := if validB t then 0 else 10
theorem chk_false {t : CT} (h : validB t = false) : chk t = 10 := by unfold chk; rw [h]; rfl
theorem chk_true {t : CT} (h : validB t = true) : chk t = 0 := by unfold chk; rw [h]; rfl
set_option maxHeartbeats 1000000 in
theorem Check_any (t : CT) (v : Value) (w : World) (hv : TrapAt w v t) :
    Calls Try.prog 120 #[v] w fun e w' => e = .returned (.int .i64 (chk t)) ∧ Bel w w' := by
  obtain ⟨ov, wv, rfl, hrows, hwords⟩ := hv
  have HV := Lib.hid (show validB t = (withinB t.C 1 4 && (withinB t.T 1 5 && (decide ((t.op.length : Int) = t.T - 1) && (decide (t.ws.length ≤ 8) && (rowsB t.C t.op && wordsB t.C t.T t.ws))))) from rfl)
  have HW := Lib.hid hwords
  obtain ⟨a, c, b, off, rv, rfl, ha, hlen, hc⟩ := hrows
  have hwv : ∃ a c, wv = .slice a t.ws.length c := by obtain ⟨a, c, _, _, h, _⟩ := hwords; exact ⟨a, c, h⟩
  obtain ⟨wa, wc, rfl⟩ := hwv
  clear hwords
  have hix := idxRows (c := c) ha
  clear ha
  cases h1 : withinB t.C 1 4
  · have HI := Lib.hid (chk_false (show validB t = false by rw [HV.out, h1]; rfl))
    go_enter Try.func120, Try.ntmps120
    go_wp2_with (first | (go_at_call 103; refine (within_any _ _ _ _).mono ?_; rintro e w' ⟨rfl, rfl⟩))
    go_ret
    exact ⟨ri HI.out, (by repeat (first | assumption | exact Bel.refl _ | refine Bel.drew ?_ | refine Bel.drewN ?_ _ | refine Bel.alloc ?_ _ | refine Bel.setCell ?_ (by simp <;> omega) _ | refine Bel.trans ?_ (by assumption)))⟩
  cases h2 : withinB t.T 1 5
  · have HI := Lib.hid (chk_false (show validB t = false by rw [HV.out, h1, h2]; rfl))
    go_enter Try.func120, Try.ntmps120
    go_wp2_with (first | (go_at_call 103; refine (within_any _ _ _ _).mono ?_; rintro e w' ⟨rfl, rfl⟩))
    go_ret
    exact ⟨ri HI.out, (by repeat (first | assumption | exact Bel.refl _ | refine Bel.drew ?_ | refine Bel.drewN ?_ _ | refine Bel.alloc ?_ _ | refine Bel.setCell ?_ (by simp <;> omega) _ | refine Bel.trans ?_ (by assumption)))⟩
  obtain ⟨b1, b2⟩ := withinB_true.1 h1
  obtain ⟨b3, b4⟩ := withinB_true.1 h2
  by_cases h3 : (t.op.length : Int) = t.T - 1
  case neg =>
    have HI := Lib.hid (chk_false (show validB t = false by rw [HV.out, h1, h2, decide_eq_false h3]; rfl))
    have hb : ((t.op.length : Int) != t.T - 1) = true := by rw [bne_iff_ne]; exact h3
    clear h3
    go_enter Try.func120, Try.ntmps120
    go_wp2_with (first | (go_at_call 103; refine (within_any _ _ _ _).mono ?_; rintro e w' ⟨rfl, rfl⟩))
    go_ret
    exact ⟨ri HI.out, (by repeat (first | assumption | exact Bel.refl _ | refine Bel.drew ?_ | refine Bel.drewN ?_ _ | refine Bel.alloc ?_ _ | refine Bel.setCell ?_ (by simp <;> omega) _ | refine Bel.trans ?_ (by assumption)))⟩
  have hb : ((t.op.length : Int) != t.T - 1) = false := by simpa using h3
  have H3 := Lib.hid h3
  clear h3
  by_cases h4 : t.ws.length ≤ 8
  case neg =>
    have HI := Lib.hid (chk_false (show validB t = false by rw [HV.out, h1, h2, decide_eq_true H3.out, decide_eq_false h4]; rfl))
    have hb4 : decide (8 < t.ws.length) = true := by simp; omega
    go_enter Try.func120, Try.ntmps120
    go_wp2_with (first | (go_at_call 103; refine (within_any _ _ _ _).mono ?_; rintro e w' ⟨rfl, rfl⟩))
    go_ret
    exact ⟨ri HI.out, (by repeat (first | assumption | exact Bel.refl _ | refine Bel.drew ?_ | refine Bel.drewN ?_ _ | refine Bel.alloc ?_ _ | refine Bel.setCell ?_ (by simp <;> omega) _ | refine Bel.trans ?_ (by assumption)))⟩
  have hb4 : decide (8 < t.ws.length) = false := by simp; omega
  have hb5 : ¬ 8 < t.ws.length := by omega
  have HV2 : Hid (validB t = (rowsB t.C t.op && wordsB t.C t.T t.ws)) := by
    have e := HV.out
    rw [h1, h2, decide_eq_true H3.out, decide_eq_true h4] at e
    exact e
  clear HV
  go_enter Try.func120, Try.ntmps120
  go_wp2_with (first | (go_at_call 103; refine (within_any _ _ _ _).mono ?_; rintro e w' ⟨rfl, rfl⟩))
  go_loop [35] (fun i => ∃ k : Nat, k ≤ t.op.length ∧ i = .int .i64 k ∧ Hid (allB k (fun i => risingB (atL t.op i) 0 (t.C - 1)) = true)) (fun i => t.op.length - (intOf i).toNat)
  case atStart => exact ⟨0, by omega, rfl, rfl⟩
  case round =>
    obtain ⟨i, hi, rfl, hno⟩ := hrel
    by_cases hlt : i < t.op.length
    · obtain ⟨hci, ai, ci, bi, offi, hrv, hai, hleni, hcells⟩ := hc i hlt
      rw [hrv] at hci
      have hbl := cell_lt hci
      have hixi := idxInts (c := ci) hai
      clear hc hai hrv
      generalize hrow : atL t.op i = row at *
      have HROW := Lib.hid hrow
      clear hrow
      go_wp2
      go_loop [41] (fun j => ∃ k : Nat, k ≤ row.length ∧ j = .int .i64 k ∧ Hid (allB k (riseAt row 0 (t.C - 1)) = true)) (fun j => row.length - (intOf j).toNat)
      case atStart => exact ⟨0, by omega, rfl, rfl⟩
      case round =>
        obtain ⟨k, hk, rfl, hyes⟩ := hrel
        by_cases hltk : k < row.length
        · have hck := hcells k hltk
          have hbk := cell_lt hck
          by_cases hwi : withinB (at0 row k) 0 (t.C - 1) = true
          · by_cases h0 : k = 0
            · have HR := Lib.hid (allB_succ hyes.out (show riseAt row 0 (t.C - 1) k = true by unfold riseAt; rw [hwi, h0]; rfl))
              have d3 : ¬ 0 < k := by omega
              have d0 : decide (0 < (k : Int)) = false := by simp [h0]
              clear hcells h0
              go_wp2_with (first | (go_at_call 103; refine (within_any _ _ _ _).mono ?_; rintro e w' ⟨rfl, rfl⟩))
              go_round
              case rel => exact ⟨k + 1, by omega, by go_num, HR⟩
              case measure => simp [intOf]; omega
            · have d0 : decide (0 < (k : Int)) = true := by simp; omega
              have d1 : (0 : Int) < (k : Int) := by omega
              have d2 : 0 < k := by omega
              have hck1 := hcells (k - 1) (by omega)
              have hk1 : k - 1 < row.length := by omega
              have ek : (k : Int) - 1 = ((k - 1 : Nat) : Int) := by omega
              by_cases hle : at0 row k ≤ at0 row (k - 1)
              · have HI := Lib.hid (chk_false (show validB t = false by
                  rw [HV2.out, show rowsB t.C t.op = false from allB_false i hlt (by
                    rw [HROW.out]; exact allB_false k hltk (by unfold riseAt; simp [h0]; intro _; omega))]; rfl))
                clear hcells
                go_wp2_with (first | (go_at_call 103; refine (within_any _ _ _ _).mono ?_; rintro e w' ⟨rfl, rfl⟩))
                go_ret
                exact ⟨ri HI.out, (by repeat (first | assumption | exact Bel.refl _ | refine Bel.drew ?_ | refine Bel.drewN ?_ _ | refine Bel.alloc ?_ _ | refine Bel.setCell ?_ (by simp <;> omega) _ | refine Bel.trans ?_ (by assumption)))⟩
              · have HR := Lib.hid (allB_succ hyes.out (show riseAt row 0 (t.C - 1) k = true by unfold riseAt; rw [hwi]; simp; omega))
                have dle : decide (at0 row k ≤ at0 row (k - 1)) = false := by simp; omega
                clear hcells
                go_wp2_with (first | (go_at_call 103; refine (within_any _ _ _ _).mono ?_; rintro e w' ⟨rfl, rfl⟩))
                go_round
                case rel => exact ⟨k + 1, by omega, by go_num, HR⟩
                case measure => simp [intOf]; omega
          · have hwf : withinB (at0 row k) 0 (t.C - 1) = false := by simpa using hwi
            have HI := Lib.hid (chk_false (show validB t = false by
              rw [HV2.out, show rowsB t.C t.op = false from allB_false i hlt (by
                rw [HROW.out]; exact allB_false k hltk (by unfold riseAt; rw [hwf]; rfl))]; rfl))
            clear hcells hwi
            go_wp2_with (first | (go_at_call 103; refine (within_any _ _ _ _).mono ?_; rintro e w' ⟨rfl, rfl⟩))
            go_ret
            exact ⟨ri HI.out, (by repeat (first | assumption | exact Bel.refl _ | refine Bel.drew ?_ | refine Bel.drewN ?_ _ | refine Bel.alloc ?_ _ | refine Bel.setCell ?_ (by simp <;> omega) _ | refine Bel.trans ?_ (by assumption)))⟩
        · have HR := Lib.hid (allB_succ hno.out (f := fun i => risingB (atL t.op i) 0 (t.C - 1)) (by
            show risingB (atL t.op i) 0 (t.C - 1) = true
            rw [HROW.out]; unfold risingB; rw [show row.length = k by omega]; exact hyes.out))
          clear hcells
          go_wp2
          go_round
          case rel => exact ⟨i + 1, by omega, by go_num, HR⟩
          case measure => simp [intOf]; omega
    · have HR := Lib.hid (show rowsB t.C t.op = true by unfold rowsB; rw [show t.op.length = i by omega]; exact hno.out)
      clear hc
      have HCF := Lib.hid (ContainsFunc_any w.heap.size t.C t.T t.ws (.slice a t.op.length c) (.slice wa t.ws.length wc) (w.alloc (.cells #[.int .i64 t.C, .int .i64 t.T, .slice a t.op.length c, .slice wa t.ws.length wc] 47))
        (by simp) (by simp) (by simp) (by simp) (HW.out.bel (by repeat (first | assumption | exact Bel.refl _ | refine Bel.drew ?_ | refine Bel.drewN ?_ _ | refine Bel.alloc ?_ _ | refine Bel.setCell ?_ (by simp <;> omega) _ | refine Bel.trans ?_ (by assumption)))))
      cases h6 : wordsB t.C t.T t.ws
      all_goals
        have HI := Lib.hid (show validB t = _ by rw [HV2.out, HR.out, h6])
        rw [h6] at HCF
        go_wp2_with (go_at_call 128; refine HCF.out.mono ?_; rintro e w' ⟨rfl, hb⟩)
        go_ret
        exact ⟨ri (by unfold chk; rw [HI.out]; rfl), (by repeat (first | assumption | exact Bel.refl _ | refine Bel.drew ?_ | refine Bel.drewN ?_ _ | refine Bel.alloc ?_ _ | refine Bel.setCell ?_ (by simp <;> omega) _ | refine Bel.trans ?_ (by assumption)))⟩
/-- ask: the error of a trap that is asked for something. -/
def askR (t : CT) (b : Bool) : Int := if validB t then (if b then 0 else 1) else 10
theorem validB_bounds {t : CT} (h : validB t = true) : (1 ≤ t.C ∧ t.C ≤ 4) ∧ (1 ≤ t.T ∧ t.T ≤ 5) ∧ (t.op.length : Int) = t.T - 1 ∧ t.ws.length ≤ 8 ∧ rowsB t.C t.op = true ∧ wordsB t.C t.T t.ws = true := by
  unfold validB at h
  simp only [Bool.and_eq_true, decide_eq_true_eq, withinB_true] at h
  exact ⟨h.1, h.2.1, h.2.2.1, h.2.2.2.1, h.2.2.2.2.1, h.2.2.2.2.2⟩
theorem ask_any (t : CT) (v : Value) (bb : Bool) (w : World) (hv : TrapAt w v t) :
    Calls Try.prog 100 #[v, .bool bb] w fun e w' => e = .returned (.int .i64 (askR t bb)) ∧ Bel w w' := by
  have HV := Lib.hid hv
  obtain ⟨ov, wv, rfl, hrows, hwords⟩ := hv
  clear hrows hwords
  cases hb : validB t
  · have HI := Lib.hid (show askR t bb = 10 by unfold askR; rw [hb]; rfl)
    have HK := Lib.hid (chk_false hb)
    clear hb
    go_enter Try.func100, Try.ntmps100
    go_wp2_with (go_at_call 120; refine (Check_any t _ _ (HV.out.bel (by repeat (first | assumption | exact Bel.refl _ | refine Bel.drew ?_ | refine Bel.drewN ?_ _ | refine Bel.alloc ?_ _ | refine Bel.setCell ?_ (by simp <;> omega) _ | refine Bel.trans ?_ (by assumption))))).mono ?_; rintro e w' ⟨rfl, hb⟩; rw [HK.out])
    go_ret
    exact ⟨ri HI.out, (by repeat (first | assumption | exact Bel.refl _ | refine Bel.drew ?_ | refine Bel.drewN ?_ _ | refine Bel.alloc ?_ _ | refine Bel.setCell ?_ (by simp <;> omega) _ | refine Bel.trans ?_ (by assumption)))⟩
  · have HK := Lib.hid (chk_true hb)
    have HI : Hid (askR t bb = if bb then 0 else 1) := Lib.hid (by unfold askR; rw [hb]; rfl)
    cases bb
    all_goals
      go_enter Try.func100, Try.ntmps100
      go_wp2_with (go_at_call 120; refine (Check_any t _ _ (HV.out.bel (by repeat (first | assumption | exact Bel.refl _ | refine Bel.drew ?_ | refine Bel.drewN ?_ _ | refine Bel.alloc ?_ _ | refine Bel.setCell ?_ (by simp <;> omega) _ | refine Bel.trans ?_ (by assumption))))).mono ?_; rintro e w' ⟨rfl, hb⟩; rw [HK.out])
      go_ret
      exact ⟨ri HI.out, (by repeat (first | assumption | exact Bel.refl _ | refine Bel.drew ?_ | refine Bel.drewN ?_ _ | refine Bel.alloc ?_ _ | refine Bel.setCell ?_ (by simp <;> omega) _ | refine Bel.trans ?_ (by assumption)))⟩
end Go.Proofs.Ytkdcdhkhadhcfaa
