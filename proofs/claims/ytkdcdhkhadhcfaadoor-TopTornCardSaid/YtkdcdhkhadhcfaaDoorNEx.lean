/-
  anchors: the example's net and truth: values; the law's Example.
-/
import Derived.Test.YtkdcdhkhadhcfaaDoorNPart
namespace Go.Proofs.YtkdcdhkhadhcfaaDoor
open Go Go.RowKit
set_option maxHeartbeats 4000000
set_option maxRecDepth 100000
def exN : Net := ⟨⟨2, 4⟩, ⟨1, 3⟩, [⟨2, 3⟩, ⟨1, 4⟩], [⟨6, 0⟩, ⟨5, 1⟩, ⟨4, 0⟩], [⟨2, 1, 3, 8, 9⟩, ⟨1, 2, 2, 6, 6⟩]⟩
def exNA : NTr := ⟨4, 3, [2, 1]⟩
theorem exN_ok : NetOk exN := netB_iff.1 (by kernel_rfl)
theorem exNA_ok : TrOk exN exNA := ntrB_iff.1 (by kernel_rfl)
theorem exN_fin : Fin exN exNA 6 := by
  have h1 : stepM exN exNA 0 = 2 := by kernel_rfl
  have h2 : stepM exN exNA 2 = 6 := by kernel_rfl
  have h3 : stepM exN exNA 6 = 6 := by kernel_rfl
  refine ⟨?_, h3⟩
  have a1 : Drg exN exNA 2 := by rw [← h1]; exact .more .none
  rw [← h2]; exact .more a1
theorem exN_drags {D : Nat} (h : Fin exN exNA D) : blOf D = [1, 2] := by
  rw [fin_uniq exN_ok exNA_ok h exN_fin]; rfl
theorem NExample_any (w : World) : Calls Tryd.prog 31 #[] w fun e w' => ∃ vn va vb, e = .returned (.tuple #[vn, va, vb]) ∧ Bel w w' ∧ NetAt w' vn exN ∧ NTrAt w' va exNA ∧ ∃ (x y : Int) (a : Option Addr) (m c : Nat), vb = .agg #[.int .i64 x, .int .i64 y, .slice a m c] := by
  go_enter Tryd.func31, Tryd.ntmps31
  go_wp2
  generalize hW : World.alloc _ _ = W
  have HB : Hid (Bel w W) := Lib.hid (by rw [← hW]; exact ((((((((Bel.refl w).alloc _).alloc _).alloc _).alloc _).alloc _).alloc _).alloc _).alloc _)
  have X0 : Hid (Bx W (w.heap.size) [.int .i64 2, .int .i64 4, .int .i64 1, .int .i64 3, .slice (some ⟨w.heap.size + 1 + 1 + 1, 0, none⟩) 2 2, .slice (some ⟨w.heap.size + 1 + 1 + 1 + 1, 0, none⟩) 3 3, .slice (some ⟨w.heap.size + 1 + 1 + 1 + 1 + 1, 0, none⟩) 2 2]) := Lib.hid (by rw [← hW]; exact (((((((Bx.new (by simp)).bel ((Bel.refl _).alloc _)).bel ((Bel.refl _).alloc _)).bel ((Bel.refl _).alloc _)).bel ((Bel.refl _).alloc _)).bel ((Bel.refl _).alloc _)).bel ((Bel.refl _).alloc _)).bel ((Bel.refl _).alloc _))
  have X1 : Hid (Bx W (w.heap.size + 1) [.int .i64 4, .int .i64 3, .slice (some ⟨w.heap.size + 1 + 1 + 1 + 1 + 1 + 1, 0, none⟩) 2 2]) := Lib.hid (by rw [← hW]; exact ((((((Bx.new (by simp)).bel ((Bel.refl _).alloc _)).bel ((Bel.refl _).alloc _)).bel ((Bel.refl _).alloc _)).bel ((Bel.refl _).alloc _)).bel ((Bel.refl _).alloc _)).bel ((Bel.refl _).alloc _))
  have X2 : Hid (Bx W (w.heap.size + 1 + 1) [.int .i64 2, .int .i64 1, .slice (some ⟨w.heap.size + 1 + 1 + 1 + 1 + 1 + 1 + 1, 0, none⟩) 2 2]) := Lib.hid (by rw [← hW]; exact (((((Bx.new (by simp)).bel ((Bel.refl _).alloc _)).bel ((Bel.refl _).alloc _)).bel ((Bel.refl _).alloc _)).bel ((Bel.refl _).alloc _)).bel ((Bel.refl _).alloc _))
  have X3 : Hid (Bx W (w.heap.size + 1 + 1 + 1) [.int .i64 2, .int .i64 3, .int .i64 1, .int .i64 4]) := Lib.hid (by rw [← hW]; exact ((((Bx.new (by simp)).bel ((Bel.refl _).alloc _)).bel ((Bel.refl _).alloc _)).bel ((Bel.refl _).alloc _)).bel ((Bel.refl _).alloc _))
  have X4 : Hid (Bx W (w.heap.size + 1 + 1 + 1 + 1) [.int .i64 6, .int .i64 0, .int .i64 5, .int .i64 1, .int .i64 4, .int .i64 0]) := Lib.hid (by rw [← hW]; exact (((Bx.new (by simp)).bel ((Bel.refl _).alloc _)).bel ((Bel.refl _).alloc _)).bel ((Bel.refl _).alloc _))
  have X5 : Hid (Bx W (w.heap.size + 1 + 1 + 1 + 1 + 1) [.int .i64 2, .int .i64 1, .int .i64 3, .int .i64 8, .int .i64 9, .int .i64 1, .int .i64 2, .int .i64 2, .int .i64 6, .int .i64 6]) := Lib.hid (by rw [← hW]; exact ((Bx.new (by simp)).bel ((Bel.refl _).alloc _)).bel ((Bel.refl _).alloc _))
  have X6 : Hid (Bx W (w.heap.size + 1 + 1 + 1 + 1 + 1 + 1) [.int .i64 2, .int .i64 1]) := Lib.hid (by rw [← hW]; exact (Bx.new (by simp)).bel ((Bel.refl _).alloc _))
  have X7 : Hid (Bx W (w.heap.size + 1 + 1 + 1 + 1 + 1 + 1 + 1) [.int .i64 3, .int .i64 4]) := Lib.hid (by rw [← hW]; exact Bx.new (by simp))
  clear hW
  have b00 := X0.out.c 0 _ rfl
  have b01 := X0.out.c 1 _ rfl
  have b02 := X0.out.c 2 _ rfl
  have b03 := X0.out.c 3 _ rfl
  have b04 := X0.out.c 4 _ rfl
  have b05 := X0.out.c 5 _ rfl
  have b06 := X0.out.c 6 _ rfl
  have b10 := X1.out.c 0 _ rfl
  have b11 := X1.out.c 1 _ rfl
  have b12 := X1.out.c 2 _ rfl
  have b20 := X2.out.c 0 _ rfl
  have b21 := X2.out.c 1 _ rfl
  have b22 := X2.out.c 2 _ rfl
  have l2 := X2.out.lt
  refine bodyPost_ret (v := .tuple #[.agg #[.int .i64 2, .int .i64 4, .int .i64 1, .int .i64 3, .slice (some ⟨w.heap.size + 1 + 1 + 1, 0, none⟩) 2 2, .slice (some ⟨w.heap.size + 1 + 1 + 1 + 1, 0, none⟩) 3 3, .slice (some ⟨w.heap.size + 1 + 1 + 1 + 1 + 1, 0, none⟩) 2 2], .agg #[.int .i64 4, .int .i64 3, .slice (some ⟨w.heap.size + 1 + 1 + 1 + 1 + 1 + 1, 0, none⟩) 2 2], .agg #[.int .i64 2, .int .i64 1, .slice (some ⟨w.heap.size + 1 + 1 + 1 + 1 + 1 + 1 + 1, 0, none⟩) 2 2]]) (by simp [results, Tryd.results31, go_sem, *]) rfl ⟨_, _, _, rfl, HB.out, ?_, ?_, _, _, _, _, _, rfl⟩
  · refine ⟨_, _, _, rfl, ⟨_, 2, w.heap.size + 1 + 1 + 1, 0, rfl, fun _ => rfl, by simp [exN], fun i hi => ?_⟩, ⟨_, 3, w.heap.size + 1 + 1 + 1 + 1, 0, rfl, fun _ => rfl, by simp [exN], fun i hi => ?_⟩, ⟨_, 2, w.heap.size + 1 + 1 + 1 + 1 + 1, 0, rfl, fun _ => rfl, by simp [exN], fun i hi => ?_⟩⟩
    · have : i = 0 ∨ i = 1 := by simp [exN] at hi; omega
      rcases this with rfl | rfl
      · exact ⟨X3.out.c 0 _ rfl, X3.out.c 1 _ rfl⟩
      · exact ⟨X3.out.c 2 _ rfl, X3.out.c 3 _ rfl⟩
    · have : i = 0 ∨ i = 1 ∨ i = 2 := by simp [exN] at hi; omega
      rcases this with rfl | rfl | rfl
      · exact ⟨X4.out.c 0 _ rfl, X4.out.c 1 _ rfl⟩
      · exact ⟨X4.out.c 2 _ rfl, X4.out.c 3 _ rfl⟩
      · exact ⟨X4.out.c 4 _ rfl, X4.out.c 5 _ rfl⟩
    · have : i = 0 ∨ i = 1 := by simp [exN] at hi; omega
      rcases this with rfl | rfl
      · exact ⟨X5.out.c 0 _ rfl, X5.out.c 1 _ rfl, X5.out.c 2 _ rfl, X5.out.c 3 _ rfl, X5.out.c 4 _ rfl⟩
      · exact ⟨X5.out.c 5 _ rfl, X5.out.c 6 _ rfl, X5.out.c 7 _ rfl, X5.out.c 8 _ rfl, X5.out.c 9 _ rfl⟩
  · refine ⟨_, rfl, ⟨_, 2, w.heap.size + 1 + 1 + 1 + 1 + 1 + 1, 0, rfl, fun _ => rfl, by simp [exNA], fun i hi => ?_⟩⟩
    have : i = 0 ∨ i = 1 := by simp [exNA] at hi; omega
    rcases this with rfl | rfl
    · exact X6.out.c 0 _ rfl
    · exact X6.out.c 1 _ rfl
end Go.Proofs.YtkdcdhkhadhcfaaDoor
