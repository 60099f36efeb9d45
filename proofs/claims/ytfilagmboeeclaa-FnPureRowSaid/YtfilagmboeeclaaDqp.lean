/-
  The draw of FnPureRow's arguments. No conditions beyond those stated.
-/
import Derived.Test.YtfilagmboeeclaaFi3
import Derived.Test.YtfilagmboeeclaaDe1
import Derived.Test.YtfilagmboeeclaaDv0
namespace Go.Proofs.Ytfilagmboeeclaa
open Go.RowKit

theorem bx_zero4 (w : World) (t : TypeId) : Bx (w.alloc (.cells #[.int .i64 0, .int .i64 0, .int .i64 0, .int .i64 0] t)) w.heap.size 4 (fun _ => .int .i64 0) :=
  ⟨by simp, fun o => by (first | (simp; done) | (go_simp; done)), fun j hj => by
    match j, hj with
    | 0, _ => first | (simp; done) | (go_simp; done)
    | 1, _ => first | (simp; done) | (go_simp; done)
    | 2, _ => first | (simp; done) | (go_simp; done)
    | 3, _ => first | (simp; done) | (go_simp; done)⟩
set_option maxRecDepth 100000 in
set_option maxHeartbeats 8000000 in
theorem drawQueuePut_any (A : Option Addr) (n c : Nat) (w : World) (hn : n ≤ 1048576) (h : RdB w A n) :
    Calls Try.prog 5 #[.slice A n c] w fun y w' => ∃ A1 N c1 es, ∃ e : Nat → Int, y = .returned (.tuple #[.slice A1 N c1, .agg #[.int .i64 (e 0), .int .i64 (e 1), .int .i64 (e 2), .int .i64 (e 3)]]) ∧ N ≤ 15 ∧ N ≤ c1 ∧ c1 ≤ 9223372036854775807 ∧ Own w.heap.size w' 4 A1 N es ∧ Below w.heap.size w w' := by
  have HN := Lib.hid h
  clear h
  obtain ⟨cb, hcb⟩ : ∃ cb : Nat, cb = w.heap.size + 1 := ⟨_, rfl⟩
  have HCB := Lib.hid hcb
  have hc0 : w.heap.size < cb := by omega
  clear hcb
  go_enter Try.func5, Try.ntmps5
  go_wp2_with fail
  refine (l1New_c cb A n c _ (by have := HCB.out; simp; omega) hn (HN.out.below (by (repeat (first | with_reducible exact Below.refl _ _ | with_reducible refine Below.drew ?_ | with_reducible refine below_drewN ?_ _ | (with_reducible refine bel_alloc ?_ ?_ _; (first | omega | (simp; omega) | simp)) | (with_reducible refine bel_set ?_ ?_ _; (first | omega | (simp; omega) | simp)) | (with_reducible refine bel_tr (by assumption) ?_ ?_; (first | omega | (simp; omega) | simp))))))).mono ?_
  rintro y w1 ⟨rfl, hc1, b1⟩
  have X0 := Lib.hid (bx_zero4 w 26)
  have s1 := b1.size
  (try simp at s1)
  have X1 := Lib.hid (X0.out.below b1)
  have B1 : Hid (Below w.heap.size w w1) := Lib.hid (bel_tr b1 (by (first | omega | (simp; omega) | simp)) (by (repeat (first | with_reducible exact Below.refl _ _ | with_reducible refine Below.drew ?_ | with_reducible refine below_drewN ?_ _ | (with_reducible refine bel_alloc ?_ ?_ _; (first | omega | (simp; omega) | simp)) | (with_reducible refine bel_set ?_ ?_ _; (first | omega | (simp; omega) | simp)) | (with_reducible refine bel_tr (by assumption) ?_ ?_; (first | omega | (simp; omega) | simp))))))
  clear b1
  go_wp2_with fail
  refine (l7Draw_any cb _ hc1).mono ?_
  rintro y w2 ⟨A1, N, c1, rfl, hN, hNc, hcm, ⟨es, o2⟩, d2⟩
  have lc1 := hc1.lt
  have X2 := Lib.hid (X1.out.drew d2 (by omega))
  have B2 : Hid (Below w.heap.size w w2) := Lib.hid (bel_tr (d2.toBelow (B := w.heap.size) (by omega) (by omega)) (Nat.le_refl _) B1.out)
  have s2 := d2.2.size
  have O2 := Lib.hid o2
  have C2 := Lib.hid d2.1
  clear o2 d2
  go_wp2_with fail
  refine (l7Entry_any cb _ C2.out).mono ?_
  rintro y w3 ⟨e, rfl, d3⟩
  have s3 := d3.2.size
  have X3 := Lib.hid (X2.out.drew d3 (by omega))
  have O3 := Lib.hid (O2.out.drew_c d3 lc1)
  have B3 : Hid (Below w.heap.size w w3) := Lib.hid (bel_tr (d3.toBelow (B := w.heap.size) (by omega) (by omega)) (Nat.le_refl _) B2.out)
  clear d3
  have ac0 : w3.cell? ⟨w.heap.size, 0, none⟩ = some (Value.int .i64 0) := X3.out.2.2 0 (by omega)
  have af0 := X3.out.2.1 0
  have ac1 : w3.cell? ⟨w.heap.size, 1, none⟩ = some (Value.int .i64 0) := X3.out.2.2 1 (by omega)
  have af1 := X3.out.2.1 1
  have ac2 : w3.cell? ⟨w.heap.size, 2, none⟩ = some (Value.int .i64 0) := X3.out.2.2 2 (by omega)
  have af2 := X3.out.2.1 2
  have ac3 : w3.cell? ⟨w.heap.size, 3, none⟩ = some (Value.int .i64 0) := X3.out.2.2 3 (by omega)
  have af3 := X3.out.2.1 3
  go_wp2
  refine bodyPost_ret (v := .tuple #[.slice A1 N c1, .agg #[.int .i64 (e 0), .int .i64 (e 1), .int .i64 (e 2), .int .i64 (e 3)]]) (by simp only [results, Try.results5]; (first | (go_simp; done) | (go_simp; omega))) rfl ⟨A1, N, c1, es, e, rfl, hN, hNc, hcm, ?_, ?_⟩
  · refine Own.mono (B := w.heap.size + 1) ?_ (by omega)
    have h1 : Own (w.heap.size + 1) w3 4 A1 N es := O3.out.mono (by omega)
    (repeat (first | with_reducible exact h1 | (with_reducible refine Own.set_ ?_ ?_ _; (first | omega | (simp; omega) | simp))))
  · have h1 := B3.out
    (repeat (first | with_reducible exact h1 | (with_reducible refine bel_set ?_ ?_ _; (first | omega | (simp; omega) | simp))))
end Go.Proofs.Ytfilagmboeeclaa
