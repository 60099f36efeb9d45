/-
  One field of one element of an owned row is written. No conditions beyond those stated.
-/
import Derived.Test.YtfilagmboeeclaaRw
import Derived.Test.YtfilagmboeeclaaDqp
import Derived.Test.YtfilagmboeeclaaCut
import Derived.Test.YtfilagmboeeclaaLt
namespace Go.Proofs.Ytfilagmboeeclaa
open Go.RowKit

theorem Own.setf {B g off K n i j : Nat} {w : World} {es : List (Nat → Int)} (h : Own B w K (some ⟨g, off, none⟩) n es) (hi : i < n) (hj : j < K) (x : Int) : ∃ es', Own B (w.setCell ⟨g, off + i * K + j, none⟩ (.int .i64 x)) K (some ⟨g, off, none⟩) n es' := by
  obtain ⟨hl, h2⟩ := h
  obtain ⟨b, o, he, hlt, hB, hf, hc⟩ := h2.resolve_left (by omega)
  injection he with he
  injection he with hb ho
  subst hb ho
  have hsome : (w.cell? ⟨g, off + i * K + j, none⟩).isSome = true := by rw [hc i hi j hj]; rfl
  refine ⟨es.set i (upd (fld es i) j x), by simp [hl], .inr ⟨g, off, rfl, by simpa using hlt, hB, fun o => by simpa using hf o, fun i2 hi2 j2 hj2 => ?_⟩⟩
  have hin := World.cell?_setCells_in g [.int .i64 x] (off + i * K + j) w (fun q hq => by
    have : q = 0 := by simpa using hq
    subst this
    exact hsome)
  by_cases e1 : i2 = i
  · subst e1
    rw [fld_set_same (by omega)]
    by_cases e2 : j2 = j
    · subst e2
      have h0 := hin 0 (by simp)
      simpa [upd, World.setCells] using h0
    · have h1 := World.cell?_setCells_out g [.int .i64 x] (off + i2 * K + j) w ⟨g, off + i2 * K + j2, none⟩ (fun _ _ => by simp only [List.length_cons, List.length_nil]; omega)
      simp only [World.setCells] at h1
      rw [h1, hc i2 hi2 j2 hj2]
      simp [upd, e2]
  · rw [fld_set_other e1]
    have hne : off + i2 * K + j2 < off + i * K + j ∨ off + i * K + j + 1 ≤ off + i2 * K + j2 := by
      rcases Nat.lt_or_ge i2 i with h3 | h3
      · left
        have : (i2 + 1) * K ≤ i * K := Nat.mul_le_mul_right _ h3
        rw [Nat.succ_mul] at this
        omega
      · right
        have : (i + 1) * K ≤ i2 * K := Nat.mul_le_mul_right _ (by omega)
        rw [Nat.succ_mul] at this
        omega
    have h1 := World.cell?_setCells_out g [.int .i64 x] (off + i * K + j) w ⟨g, off + i2 * K + j2, none⟩ (fun _ _ => by simp only [List.length_cons, List.length_nil]; omega)
    simp only [World.setCells] at h1
    rw [h1]
    exact hc i2 hi2 j2 hj2
theorem zeros160 : (madeCells (Value.agg #[.int .i64 0, .int .i64 0, .int .i64 0, .int .i64 0]).cells (40 * 4)).toList = List.replicate (40 * 4) (Value.int .i64 0) := by kernel_rfl
theorem padZ_take {es : List (Nat → Int)} {n m : Nat} (h : es.length = n) : (padZ es m).take n = es := by
  unfold padZ
  rw [List.take_append_of_le_length (by omega), List.take_of_length_le (by omega)]
end Go.Proofs.Ytfilagmboeeclaa
