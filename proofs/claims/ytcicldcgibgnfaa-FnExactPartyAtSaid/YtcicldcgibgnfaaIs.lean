/-
  Contracts of the functions that copy, compare, mark and check slices of integers. No conditions beyond those stated.
-/
import Derived.Test.YtcicldcgibgnfaaFill
import Derived.Test.YtcicldcgibgnfaaBase
namespace Go.Proofs.Ytcicldcgibgnfaa
open Go.RowKit

theorem toIntS_info : (Try.prog.info? 3).map (fun i => (i.zero, i.size, i.bytes)) = some (some (.int .i64 0), 1, 8) := by kernel_rfl
set_option maxRecDepth 100000 in
set_option maxHeartbeats 1000000 in
theorem toIntS_any (A : Option Addr) (n c : Nat) (es : List (Nat → Int)) (w : World) (hn : n ≤ 1048576) (h : Rd w 1 A n es) :
    Calls Try.prog 17 #[.slice A n c] w fun x w' => ∃ A' c', x = .returned (.slice A' n c') ∧ Own w.heap.size w' 1 A' n es ∧ Below w.heap.size w w' := by
  obtain ⟨i0, hi0, hz0, hz1, hz2⟩ := info_parts toIntS_info
  have hb0 : i0.bytes * n ≤ 281474976710656 := by rw [hz2]; omega
  have HL := Lib.hid h.1
  have hcases := h.2
  clear h
  go_enter Try.func17, Try.ntmps17
  go_wp2_with (at_make; refine wpList_make_full _ rfl _ _ 22 rfl w.heap.size 3 i0 _ 1 Try.underlying22 hi0 hz0 hz1 .i64 .i64 _ _ n rfl rfl rfl rfl hb0 (by unfold maxLen; omega) (by simp) ?_; intro w1 hown hgr)
  have hfill0 := Fill.start (g := w.heap.size) (es := es) (Below.refl w.heap.size w) (Nat.le_refl _) rfl hown hgr
  clear hown hgr hi0 hz0 hz1 hz2 hb0
  go_wp2
  go_loopw [4] (fun i wr => ∃ k : Nat, k ≤ n ∧ i = .int .i64 k ∧ Fill w.heap.size w.heap.size 1 n w wr k es) (fun i _ => n - (intOf i).toNat)
  case atStart => exact ⟨0, Nat.zero_le _, rfl, hfill0⟩
  case round =>
    obtain ⟨k, hk, rfl, hfill⟩ := hrel
    clear hfill0
    by_cases hlt : k < n
    · obtain ⟨b, off, rfl, hb, hc⟩ := hcases.resolve_left (by omega)
      have c0 : wr.cell? ⟨b, off + k, none⟩ = some (.int .i64 (fld es k 0)) := (hfill.below.cell (p := ⟨b, off + k, none⟩) hb).trans (by simpa using hc k hlt 0 (by omega))
      clear hcases hc
      have hset := hfill.set (vs := [.int .i64 (fld es k 0)]) (Nat.le_refl _) hlt rfl (by intro j hj; match j, hj with | 0, _ => rfl)
      rw [Nat.mul_one] at hset
      obtain ⟨r0, q0⟩ := Option.isSome_iff_exists.1 (hfill.room k (by omega))
      have z0 := hfill.fz k
      clear hfill
      go_wp2
      go_roundw
      case rel => exact ⟨k + 1, by omega, by go_num, hset⟩
      case measure => simp [intOf]; omega
    · have hkn : k = n := by omega
      subst hkn
      have hown := hfill.own (Nat.le_refl _) HL.out
      have hbel := hfill.below
      clear hfill hcases
      go_wp2
      go_ret
      exact ⟨_, _, rfl, hown, hbel⟩

set_option maxHeartbeats 400000 in
theorem szIntS_any (A : Option Addr) (n c : Nat) (l : Int) (w : World) (hn : n ≤ 9223372036854775807) (h0 : 0 ≤ l) (h1 : l ≤ 1048576) :
    Calls Try.prog 12 #[.slice A n c, .int .i64 l] w fun x w' => x = .returned (.int .i64 (if (n : Int) ≤ l then l - n else -1)) ∧ w = w' := by
  by_cases h : (n : Int) ≤ l
  · rw [if_pos h]
    go_enter Try.func12, Try.ntmps12
    go_wp2
    go_ret
    exact ⟨rfl, rfl⟩
  · rw [if_neg h]
    go_enter Try.func12, Try.ntmps12
    go_wp2
    go_ret
    exact ⟨rfl, rfl⟩

set_option maxHeartbeats 1000000 in
theorem eqIntS_same (A A2 : Option Addr) (n c c2 : Nat) (es : List (Nat → Int)) (w : World) (hn : n ≤ 4194304) (h : Rd w 1 A n es) (h2 : Rd w 1 A2 n es) :
    Calls Try.prog 22 #[.slice A n c, .slice A2 n c2] w fun x w' => x = .returned (.bool true) ∧ Below w.heap.size w w' := by
  have hcases := h.2
  have hcases2 := h2.2
  clear h h2
  go_enter Try.func22, Try.ntmps22
  go_wp2
  go_loopw [5] (fun i wr => ∃ k : Nat, k ≤ n ∧ i = .int .i64 k ∧ Below w.heap.size w wr) (fun i _ => n - (intOf i).toNat)
  case atStart => exact ⟨0, Nat.zero_le _, rfl, Below.refl _ _⟩
  case round =>
    obtain ⟨k, hk, rfl, hbel⟩ := hrel
    by_cases hlt : k < n
    · obtain ⟨b, off, rfl, hb, hc⟩ := hcases.resolve_left (by omega)
      obtain ⟨b2, off2, rfl, hb2, hc2⟩ := hcases2.resolve_left (by omega)
      have c0 : wr.cell? ⟨b, off + k, none⟩ = some (.int .i64 (fld es k 0)) := (hbel.cell (p := ⟨b, off + k, none⟩) hb).trans (by simpa using hc k hlt 0 (by omega))
      have d0 : wr.cell? ⟨b2, off2 + k, none⟩ = some (.int .i64 (fld es k 0)) := (hbel.cell (p := ⟨b2, off2 + k, none⟩) hb2).trans (by simpa using hc2 k hlt 0 (by omega))
      clear hcases hc hcases2 hc2
      go_wp2
      go_region_held3 (fun w' => w'.cell? ⟨b, off + k, none⟩ = some (.int .i64 (fld es k 0)) ∧ w'.cell? ⟨b2, off2 + k, none⟩ = some (.int .i64 (fld es k 0))) (go_keep) (fail)
      go_wp2
      go_roundw
      case rel => exact ⟨k + 1, by omega, by go_num, by first | exact hbel.drew | exact hbel⟩
      case measure => simp [intOf]; omega
    · go_wp2
      go_ret
      exact ⟨rfl, hbel⟩

end Go.Proofs.Ytcicldcgibgnfaa
