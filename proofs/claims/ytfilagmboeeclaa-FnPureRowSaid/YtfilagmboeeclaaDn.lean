/-
  Contract of l1New: a cursor over the code in a block of its own. Conditions: the code is not longer than 2^20.
-/
import Derived.Test.YtfilagmboeeclaaDr
import Derived.Test.YtfilagmboeeclaaBy
namespace Go.Proofs.Ytfilagmboeeclaa
open Go.RowKit

theorem Drew.cur {w w' : World} {cb : Nat} (h : Drew w cb w') : Cur w' cb := h.1
theorem rd_lits (w : World) (t : TypeId) (zs : List Int) : Rd (w.alloc (.cells (zs.map (Value.int .i64)).toArray t)) 1 (some ⟨w.heap.size, 0, none⟩) zs.length (zs.map fun z _ => z) :=
  ⟨by simp, .inr ⟨w.heap.size, 0, rfl, by simp, fun i hi j hj => by
    obtain rfl : j = 0 := by omega
    simp [fld, List.getD_eq_getElem?_getD, hi]⟩⟩

theorem rd_litsb (w : World) (t : TypeId) (zs : List Int) (b : Nat) (h : b = w.heap.size) : Rd (w.alloc (.cells (zs.map (Value.int .i64)).toArray t)) 1 (some ⟨b, 0, none⟩) zs.length (zs.map fun z _ => z) := h ▸ rd_lits w t zs

set_option maxRecDepth 100000 in
set_option maxHeartbeats 2000000 in
theorem l1New_any (A : Option Addr) (n c : Nat) (w : World) (hn : n ≤ 1048576) (h : RdB w A n) :
    Calls Try.prog 9 #[.slice A n c] w fun y w' => y = .returned (.pointer (some ⟨w.heap.size, 0, none⟩)) ∧ Cur w' w.heap.size ∧ Below w.heap.size w w' := by
  have HB := Lib.hid h
  clear h
  go_enter Try.func9, Try.ntmps9
  go_wp2
  go_loop [3, 4] (fun h i => ∃ (x : Int) (k : Nat), k ≤ n ∧ h = .int .i64 x ∧ i = .int .i64 k) (fun _ i => n - (intOf i).toNat)
  case atStart => exact ⟨_, 0, Nat.zero_le _, rfl, rfl⟩
  case round =>
    obtain ⟨x, k, hk, rfl, rfl⟩ := hrel
    have hgo : k < n ∧ (k : Int) < 4000 ∨ ¬ (k < n ∧ (k : Int) < 4000) := Classical.em _
    rcases hgo with ⟨hlt, h4⟩ | hno
    · obtain ⟨b, off, rfl, hb, h3⟩ := HB.out.resolve_left (by omega)
      obtain ⟨z, z1, z2, z3⟩ := h3 k hlt
      have hki : (k : Int) < (n : Int) := by omega
      clear h3
      go_wp2
      go_round
      case rel => exact ⟨_, k + 1, by omega, rfl, by go_num⟩
      case measure => simp [intOf]; omega
    · by_cases hlt : k < n
      · have h4 : ¬ (k : Int) < 4000 := by omega
        have hki : (k : Int) < (n : Int) := by omega
        go_wp2
        go_ret
        refine ⟨rfl, ?_, (by (repeat (first | with_reducible exact Below.refl _ _ | with_reducible refine Below.drew ?_ | with_reducible refine below_drewN ?_ _ | (with_reducible refine bel_alloc ?_ ?_ _; (first | omega | (simp; omega) | simp)) | (with_reducible refine bel_set ?_ ?_ _; (first | omega | (simp; omega) | simp)) | (with_reducible refine bel_tr (by assumption) ?_ ?_; (first | omega | (simp; omega) | simp)))))⟩
        exact ⟨A, n, c, 0, x, by simp, by simp, by simp, by omega, by omega, hn, fun o => by simp, HB.out.imp id fun ⟨b, off, h1, h2, h3⟩ => ⟨b, off, h1, by omega, fun j hj => by
          obtain ⟨y, y1, y2, y3⟩ := h3 j hj
          exact ⟨y, y1, y2, (((Below.refl w.heap.size w).alloc (Nat.le_refl _) _).cell (p := ⟨b, off + j, none⟩) h2).trans y3⟩⟩⟩
      · have hki : ¬ (k : Int) < (n : Int) := by omega
        go_wp2
        go_ret
        refine ⟨rfl, ?_, (by (repeat (first | with_reducible exact Below.refl _ _ | with_reducible refine Below.drew ?_ | with_reducible refine below_drewN ?_ _ | (with_reducible refine bel_alloc ?_ ?_ _; (first | omega | (simp; omega) | simp)) | (with_reducible refine bel_set ?_ ?_ _; (first | omega | (simp; omega) | simp)) | (with_reducible refine bel_tr (by assumption) ?_ ?_; (first | omega | (simp; omega) | simp)))))⟩
        exact ⟨A, n, c, 0, x, by simp, by simp, by simp, by omega, by omega, hn, fun o => by simp, HB.out.imp id fun ⟨b, off, h1, h2, h3⟩ => ⟨b, off, h1, by omega, fun j hj => by
          obtain ⟨y, y1, y2, y3⟩ := h3 j hj
          exact ⟨y, y1, y2, (((Below.refl w.heap.size w).alloc (Nat.le_refl _) _).cell (p := ⟨b, off + j, none⟩) h2).trans y3⟩⟩⟩
end Go.Proofs.Ytfilagmboeeclaa
