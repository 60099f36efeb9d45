/-
  bits.Len of a number of at most 12. No conditions beyond those stated.
-/
import Derived.Test.YtkdafomnoeaboaaBase
namespace Go.Proofs.Ytkdafomnoeaboaa
open Go.RowKit

set_option maxRecDepth 100000 in
set_option maxHeartbeats 8000000 in
theorem len12_any (w : World) : ∀ n : Nat, n ≤ 12 → Calls Try.prog 63 #[.int .u64 ((n : Nat) : Int)] w fun y w' => w = w' ∧ ∃ z, y = .returned (.int .i64 z)
  | 0, _ => by
    go_enter Try.func63, Try.ntmps63
    go_wp2
    go_ret
    exact ⟨rfl, ⟨_, rfl⟩⟩
  | 1, _ => by
    go_enter Try.func63, Try.ntmps63
    go_wp2
    go_ret
    exact ⟨rfl, ⟨_, rfl⟩⟩
  | 2, _ => by
    go_enter Try.func63, Try.ntmps63
    go_wp2
    go_ret
    exact ⟨rfl, ⟨_, rfl⟩⟩
  | 3, _ => by
    go_enter Try.func63, Try.ntmps63
    go_wp2
    go_ret
    exact ⟨rfl, ⟨_, rfl⟩⟩
  | 4, _ => by
    go_enter Try.func63, Try.ntmps63
    go_wp2
    go_ret
    exact ⟨rfl, ⟨_, rfl⟩⟩
  | 5, _ => by
    go_enter Try.func63, Try.ntmps63
    go_wp2
    go_ret
    exact ⟨rfl, ⟨_, rfl⟩⟩
  | 6, _ => by
    go_enter Try.func63, Try.ntmps63
    go_wp2
    go_ret
    exact ⟨rfl, ⟨_, rfl⟩⟩
  | 7, _ => by
    go_enter Try.func63, Try.ntmps63
    go_wp2
    go_ret
    exact ⟨rfl, ⟨_, rfl⟩⟩
  | 8, _ => by
    go_enter Try.func63, Try.ntmps63
    go_wp2
    go_ret
    exact ⟨rfl, ⟨_, rfl⟩⟩
  | 9, _ => by
    go_enter Try.func63, Try.ntmps63
    go_wp2
    go_ret
    exact ⟨rfl, ⟨_, rfl⟩⟩
  | 10, _ => by
    go_enter Try.func63, Try.ntmps63
    go_wp2
    go_ret
    exact ⟨rfl, ⟨_, rfl⟩⟩
  | 11, _ => by
    go_enter Try.func63, Try.ntmps63
    go_wp2
    go_ret
    exact ⟨rfl, ⟨_, rfl⟩⟩
  | 12, _ => by
    go_enter Try.func63, Try.ntmps63
    go_wp2
    go_ret
    exact ⟨rfl, ⟨_, rfl⟩⟩
  | n + 13, h => absurd h (by omega)
end Go.Proofs.Ytkdafomnoeaboaa
