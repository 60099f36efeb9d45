/-
  Walk of the law on HeldIn: it returns true and leaves old memory alone.
-/
import Derived.Test.YthideehlhhpkjaaSum
namespace Go.Proofs.Ythideehlhhpkjaa
open Go.RowKit

set_option maxHeartbeats 1000000 in
theorem lawHeldIn (A : Option Addr) (n c : Nat) (cab : Int) (es : List (Nat → Int)) (w : World) (hn0 : n ≤ 9223372036854775807) (h : Rd w 10 A n es) :
    Calls Try.prog 12 #[.slice A n c, .int .i64 cab] w fun x w' => x = .returned (.bool true) ∧ Below w.heap.size w w' := by
  go_enter Try.func12, Try.ntmps12
  go_wp2_with fail
  refine (szPartyS_any A n c 1048576 _ hn0 (by omega) (by omega)).mono ?_
  by_cases hn : (n : Int) ≤ 1048576
  · rw [if_pos hn]
    rintro x w' ⟨rfl, rfl⟩
    have hn : n ≤ 1048576 := by omega
    go_wp2_with fail
    refine (toPartyS_any A n c es _ hn h).mono ?_
    rintro x w1 ⟨A1, c1, rfl, o1, b1⟩
    go_wp2_with fail
    refine (spec_HeldIn A1 n c1 cab es _ (by omega) o1.rd).mono ?_
    rintro x w2 ⟨rfl, b2⟩
    have h2 := h.below (b1.trans (b2.mono b1.size))
    go_wp2_with fail
    refine (toPartyS_any A n c es _ hn h2).mono ?_
    rintro x w3 ⟨A3, c3, rfl, o3, b3⟩
    go_wp2_with fail
    refine (impl_HeldIn A3 n c3 cab es _ (by omega) o3.rd).mono ?_
    rintro x w4 ⟨rfl, b4⟩
    skip
    have h4 := h2.below (b3.trans (b4.mono b3.size))
    go_wp2_with fail
    refine (toPartyS_any A n c es _ hn h4).mono ?_
    rintro x w5 ⟨A5, c5, rfl, o5, b5⟩
    have o35 := (o3.below b4).below b5
    go_wp2_with fail
    refine (eqPartyS_same A3 A5 n c3 c5 es _ (by omega) o35.rd o5.rd).mono ?_
    rintro x w6 ⟨rfl, b6⟩
    have hb : Below w.heap.size w w6 := ((((b1.trans (b2.mono b1.size)).trans (b3.mono (Nat.le_trans b1.size b2.size))).trans (b4.mono (Nat.le_trans (Nat.le_trans b1.size b2.size) b3.size))).trans (b5.mono (Nat.le_trans (Nat.le_trans (Nat.le_trans b1.size b2.size) b3.size) b4.size))).trans (b6.mono (Nat.le_trans (Nat.le_trans (Nat.le_trans (Nat.le_trans b1.size b2.size) b3.size) b4.size) b5.size))
    clear b1 b2 b3 b4 b5 b6
    go_wp2
    go_ret
    exact ⟨rfl, hb⟩
  · rw [if_neg hn]
    rintro x w' ⟨rfl, rfl⟩
    go_wp2
    go_ret
    exact ⟨rfl, Below.refl _ _⟩
end Go.Proofs.Ythideehlhhpkjaa
