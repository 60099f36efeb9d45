/-
  slices.SortStableFunc at pins, at most 19 of them. Conditions: the row may be written.
-/
import Derived.Test.YtlkladabefpnfaaSoi
namespace Go.Proofs.Ytlkladabefpnfaa
open Go.RowKit

set_option maxRecDepth 100000 in
set_option maxHeartbeats 8000000 in
theorem stable_any (B : Nat) (A : Option Addr) (cap n : Nat) (es : List (Nat → Int)) (w : World) (hn : n ≤ 19) (hnc : n ≤ cap) (hcm : cap ≤ 9223372036854775807) (hBw : B ≤ w.heap.size) (h : Own B w 2 A n es) :
    Calls Try.prog 32 #[.slice A n cap, .int .i64 n, .func (.func 25) #[] #[]] w fun y w' => y = .returned (.tuple #[]) ∧ ∃ es', Own B w' 2 A n es' ∧ es'.Perm es ∧ Srt es' n ∧ Below B w w' := by
  have H := Lib.hid h
  clear h
  have hni : ¬ (20 : Int) ≤ (n : Int) := by omega
  have hnj : ¬ (20 : Int) < (n : Int) := by omega
  have hnk : ¬ 20 ≤ n := by omega
  have hnl : ¬ 20 < n := by omega
  go_enter Try.func32, Try.ntmps32
  go_wp2
  go_loopw [7, 8] (fun s7 s8 wr => s7 = .int .i64 0 ∧ s8 = .int .i64 20 ∧ w = wr) (fun _ _ _ => 0)
  case atStart => exact ⟨rfl, rfl, rfl⟩
  case round =>
    obtain ⟨rfl, rfl, rfl⟩ := hrel
    go_wp2_with (go_at_call 38; refine (insSort_any B A cap n es _ (by omega) hnc hcm hBw H.out).mono ?_; rintro y w3 ⟨rfl, es3, o3, p3, s3, b3⟩)
    have O3 := Lib.hid o3
    have P3 := Lib.hid p3
    have S3 := Lib.hid s3
    have B3 := Lib.hid b3
    clear o3 p3 s3 b3
    go_loopw [6, 7, 8] (fun s6 _ _ wr => s6 = .int .i64 20 ∧ w3 = wr) (fun _ _ _ _ => 0)
    case atStart => exact ⟨rfl, rfl⟩
    case round =>
      obtain ⟨rfl, rfl⟩ := hrel
      go_wp2
      exact bodyPost_end (results_none rfl _ _ _) rfl ⟨rfl, es3, O3.out, P3.out, S3.out, B3.out⟩

set_option maxRecDepth 100000 in
set_option maxHeartbeats 8000000 in
theorem stablePins_any (B : Nat) (A : Option Addr) (cap n : Nat) (es : List (Nat → Int)) (w : World) (hn : n ≤ 19) (hnc : n ≤ cap) (hcm : cap ≤ 9223372036854775807) (hBw : B ≤ w.heap.size) (h : Own B w 2 A n es) :
    Calls Try.prog 24 #[.slice A n cap, .func (.func 25) #[] #[]] w fun y w' => y = .returned (.tuple #[]) ∧ ∃ es', Own B w' 2 A n es' ∧ es'.Perm es ∧ Srt es' n ∧ Below B w w' := by
  have H := Lib.hid h
  clear h
  go_enter Try.func24, Try.ntmps24
  go_wp2_with (go_at_call 32; refine (stable_any B A cap n es _ hn hnc hcm hBw H.out).mono ?_; rintro y w3 ⟨rfl, es3, o3, p3, s3, b3⟩)
  exact bodyPost_end (results_none rfl _ _ _) rfl ⟨rfl, es3, o3, p3, s3, b3⟩
end Go.Proofs.Ytlkladabefpnfaa
