/-
  The contract of slices.rotateCmpFunc (impl.Pin). Conditions: the row may be written; neither block is empty.
-/
import Derived.Test.YtjlmcppkafjniaaGreatSm
import Derived.Test.YtjlmcppkafjniaaGreatSwp
namespace Go.Proofs.YtjlmcppkafjniaaGreat
open Go.RowKit

set_option maxRecDepth 100000 in
set_option maxHeartbeats 8000000 in
theorem rotP_any (B : Nat) (A : Option Addr) (cap n a m b : Nat) (es : List (Nat → Int)) (w : World) (hn : n ≤ 4194304) (hnc : n ≤ cap) (hcm : cap ≤ 9223372036854775807) (hBw : B ≤ w.heap.size) (ham : a < m) (hmb : m < b) (hbn : b ≤ n) (h : Own B w 2 A n es) :
    Calls Tryz.prog 145 #[.slice A n cap, .int .i64 a, .int .i64 m, .int .i64 b, .func (.func 81) #[] #[]] w fun y w' => y = .returned (.tuple #[]) ∧ Own B w' 2 A n (rotL es a m b) ∧ Below B w w' := by
  have H := Lib.hid h
  clear h
  go_enter Tryz.func145, Tryz.ntmps145
  go_wp2
  go_loopw [10, 11] (fun s t wr => ∃ (i j : Nat) (es2 : List (Nat → Int)), 0 < i ∧ 0 < j ∧ a + i ≤ m ∧ m + j ≤ b ∧ s = .int .i64 i ∧ t = .int .i64 j ∧ Hid (Own B wr 2 A n es2) ∧ Hid (rotL es2 (m - i) m (m + j) = rotL es a m b) ∧ Hid (Below B w wr)) (fun s t _ => (intOf s + intOf t).toNat)
  case atStart => exact ⟨m - a, b - m, es, by omega, by omega, by omega, by omega, by go_num, by go_num, H, Lib.hid (by rw [show m - (m - a) = a by omega, show m + (b - m) = b by omega]), Lib.hid (Below.refl _ _)⟩
  case round =>
    obtain ⟨i, j, es2, hi, hj, hai, hbj, rfl, rfl, HO, HE, HG⟩ := hrel
    obtain ⟨p, hp⟩ : ∃ p, m - i = p := ⟨_, rfl⟩
    have hmi : IntKind.i64.wrap ((m : Int) - (i : Int)) = (p : Int) := by rw [IntKind.wrap_i64]; omega
    have hmi2 : (m : Int) - (i : Int) = (p : Int) := by omega
    have hpi : p + i = m := by omega
    have HP := Lib.hid hp
    have HPI := Lib.hid hpi
    have hpa : a ≤ p := by omega
    have hpm : p ≤ m := by omega
    clear hp hpi
    have hlen := HO.out.1
    rcases Nat.lt_trichotomy i j with h3 | h3 | h3
    · have hne : ¬ (i : Int) = (j : Int) := by omega
      have hgt : ¬ (j : Int) < (i : Int) := by omega
      obtain ⟨q, hq⟩ : ∃ q, m + (j - i) = q := ⟨_, rfl⟩
      have hmj : IntKind.i64.wrap ((m : Int) + (j : Int)) = (m : Int) + (j : Int) := by rw [IntKind.wrap_i64]; omega
      have hq1 : (m : Int) + (j : Int) - (i : Int) = (q : Int) := by omega
      have hq2 : IntKind.i64.wrap ((m : Int) + (j : Int) - (i : Int)) = (q : Int) := by rw [IntKind.wrap_i64]; omega
      have HQ := Lib.hid hq
      clear hq
      go_wp2_with (go_at_call 149; refine (swapP_any B A cap n (p) (q) (i) es2 _ hn hnc hcm (Nat.le_trans hBw HG.out.size) (by (have := HPI.out; (try have := HQ.out); omega)) (by (have := HPI.out; (try have := HQ.out); omega)) HO.out).mono ?_; rintro y w3 ⟨rfl, es3, o3, s3, b3⟩)
      have O3 := Lib.hid o3
      have E3 := Lib.hid (rot_lt HPI.out h3 (by omega) (HQ.out ▸ s3))
      have G3 := Lib.hid (HG.out.trans b3)
      clear o3 s3 b3
      go_roundw
      case rel => exact ⟨i, j - i, es3, hi, by omega, hai, by omega, rfl, by go_num, O3, Lib.hid (by rw [HP.out]; exact E3.out.trans (by have hE := HE.out; rw [HP.out] at hE; exact hE)), G3⟩
      case measure => simp [intOf]; omega
    · subst h3
      go_wp2_with (go_at_call 149; refine (swapP_any B A cap n (p) (m) (i) es2 _ hn hnc hcm (Nat.le_trans hBw HG.out.size) (by (have := HPI.out; (try have := HQ.out); omega)) (by (have := HPI.out; (try have := HQ.out); omega)) HO.out).mono ?_; rintro y w3 ⟨rfl, es3, o3, s3, b3⟩)
      have e3 := rot_eq HPI.out (by omega) s3
      have hE := HE.out
      rw [HP.out] at hE
      rw [hE] at e3
      rw [e3] at o3
      exact bodyPost_end (results_none rfl _ _ _) rfl ⟨rfl, o3, HG.out.trans b3⟩
    · have hne : ¬ (i : Int) = (j : Int) := by omega
      have hgt : (j : Int) < (i : Int) := by omega
      go_wp2_with (go_at_call 149; refine (swapP_any B A cap n (p) (m) (j) es2 _ hn hnc hcm (Nat.le_trans hBw HG.out.size) (by (have := HPI.out; (try have := HQ.out); omega)) (by (have := HPI.out; (try have := HQ.out); omega)) HO.out).mono ?_; rintro y w3 ⟨rfl, es3, o3, s3, b3⟩)
      have O3 := Lib.hid o3
      have E3 := Lib.hid (rot_gt HPI.out h3 (by omega) s3)
      have G3 := Lib.hid (HG.out.trans b3)
      clear o3 s3 b3
      go_roundw
      case rel => exact ⟨i - j, j, es3, by omega, hj, by omega, hbj, by go_num, rfl, O3, Lib.hid (by rw [show m - (i - j) = p + j by have := HPI.out; omega]; exact E3.out.trans (by have hE := HE.out; rw [HP.out] at hE; exact hE)), G3⟩
      case measure => simp [intOf]; omega
end Go.Proofs.YtjlmcppkafjniaaGreat
