/-
  slices.SortFunc at pins, at most 12 of them, with the program's comparePins. Conditions: the row may be written.
-/
import Derived.Test.YtkdafomnoeaboaaSoi
import Derived.Test.YtkdafomnoeaboaaSol
namespace Go.Proofs.Ytkdafomnoeaboaa
open Go.RowKit

set_option maxRecDepth 100000 in
set_option maxHeartbeats 8000000 in
theorem pdq_any (B : Nat) (A : Option Addr) (cap n : Nat) (z : Int) (es : List (Nat → Int)) (w : World) (hn : n ≤ 12) (hnc : n ≤ cap) (hcm : cap ≤ 9223372036854775807) (hBw : B ≤ w.heap.size) (h : Own B w 2 A n es) :
    Calls Try.prog 62 #[.slice A n cap, .int .i64 0, .int .i64 n, .int .i64 z, .func (.func 43) #[] #[]] w fun y w' => y = .returned (.tuple #[]) ∧ ∃ es', Own B w' 2 A n es' ∧ es'.Perm es ∧ Srt es' n ∧ Below B w w' := by
  have H := Lib.hid h
  clear h
  have hni : (n : Int) ≤ 12 := by omega
  have hn0 : IntKind.i64.wrap ((n : Int) - 0) = (n : Int) := by rw [IntKind.wrap_i64]; omega
  go_enter Try.func62, Try.ntmps62
  go_wp2
  go_loopw [1, 2, 3] (fun s1 s2 s3 wr => s1 = .int .i64 0 ∧ s2 = .int .i64 n ∧ s3 = .int .i64 z ∧ w = wr) (fun _ _ _ _ => 0)
  case atStart => exact ⟨rfl, rfl, rfl, rfl⟩
  case round =>
    obtain ⟨rfl, rfl, rfl, rfl⟩ := hrel
    go_wp2_with (go_at_call 64; refine (insSort_any B A cap n es _ (by omega) hnc hcm hBw H.out).mono ?_; rintro y w3 ⟨rfl, es3, o3, p3, s3, b3⟩)
    exact bodyPost_ret (results_none rfl _ _ _) rfl ⟨rfl, es3, o3, p3, s3, b3⟩

set_option maxRecDepth 100000 in
set_option maxHeartbeats 8000000 in
theorem sortPins_any (B : Nat) (A : Option Addr) (cap n : Nat) (es : List (Nat → Int)) (w : World) (hn : n ≤ 12) (hnc : n ≤ cap) (hcm : cap ≤ 9223372036854775807) (hBw : B ≤ w.heap.size) (h : Own B w 2 A n es) :
    Calls Try.prog 58 #[.slice A n cap, .func (.func 43) #[] #[]] w fun y w' => y = .returned (.tuple #[]) ∧ ∃ es', Own B w' 2 A n es' ∧ es'.Perm es ∧ Srt es' n ∧ Below B w w' := by
  have H := Lib.hid h
  clear h
  have hnu : IntKind.u64.wrap (n : Int) = (n : Int) := by rw [IntKind.wrap_u64]; omega
  go_enter Try.func58, Try.ntmps58
  go_wp2_with (first
    | (go_at_call 63; refine (len12_any _ n hn).mono ?_; rintro y w3 ⟨rfl, z, rfl⟩)
    | (go_at_call 62; refine (pdq_any B A cap n z es _ hn hnc hcm hBw H.out).mono ?_; rintro y w3 ⟨rfl, es3, o3, p3, s3, b3⟩))
  exact bodyPost_end (results_none rfl _ _ _) rfl ⟨rfl, es3, o3, p3, s3, b3⟩
end Go.Proofs.Ytkdafomnoeaboaa
