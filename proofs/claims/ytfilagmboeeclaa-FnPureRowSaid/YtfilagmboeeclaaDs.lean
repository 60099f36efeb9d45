/-
  Contracts of the functions that draw, with the size of the memory: they make no block. No conditions beyond those stated.
-/
import Derived.Test.YtfilagmboeeclaaDx
namespace Go.Proofs.Ytfilagmboeeclaa
open Go.RowKit

def IntS (P : Int → Prop) (w : World) (cb : Nat) (e : Ending) (w' : World) : Prop := ∃ x : Int, e = .returned (.int .i64 x) ∧ P x ∧ Drew w cb w' ∧ w'.heap.size = w.heap.size
def BoolS (w : World) (cb : Nat) (e : Ending) (w' : World) : Prop := ∃ x : Bool, e = .returned (.bool x) ∧ Drew w cb w' ∧ w'.heap.size = w.heap.size

set_option maxRecDepth 100000 in
set_option maxHeartbeats 2000000 in
theorem l1ByteS (cb : Nat) (w : World) (h : Cur w cb) :
    Calls Try.prog 35 #[.pointer (some ⟨cb, 0, none⟩)] w (IntS (fun x => 0 ≤ x ∧ x ≤ 255) w cb) := by
  have hlt := h.lt
  obtain ⟨A, n, c, i, x, h0, h1, h2, h3, h4, h5, h6, h7⟩ := h
  have f0 := h6 0
  have f1 := h6 1
  have f2 := h6 2
  obtain ⟨M, hM⟩ : ∃ M : Int, M = 6364136223846793005 := ⟨_, rfl⟩
  by_cases hin : i < (n : Int)
  · obtain ⟨b, off, rfl, hb1, hb3⟩ := h7.resolve_left (by omega)
    have hb1' : b ≠ cb := by omega
    have hb2 : b < w.heap.size := by omega
    obtain ⟨k, rfl⟩ : ∃ k : Nat, i = k := ⟨i.toNat, by omega⟩
    obtain ⟨y, y1, y2, y3⟩ := hb3 k (by omega)
    have hkn : k < n := by omega
    go_enter Try.func35, Try.ntmps35
    go_wp2
    generalize (wrap64 (wrap64 (x * 6364136223846793005) + 1442695040888963407)) = H1
    go_quiet (fail)
    go_wp2
    go_quiet (fail)
    go_wp2
    go_quiet (fail)
    go_wp2
    go_ret
    exact ⟨_, rfl, and255 _, cur_of (A := some ⟨b, off, none⟩) (n := n) (c := c) (i := (k : Int) + 1) (h := H1) (by (repeat (first | with_reducible exact World.grownBy.refl _ _ | with_reducible assumption | with_reducible refine grown_set ?_ | with_reducible refine grown_drewN ?_ _ | with_reducible refine grown_alloc ?_ _))) (by (first | (go_keep; done) | (go_simp; done) | (simp [*]; done))) (by (first | (go_keep; done) | (go_simp; done) | (simp [*]; done))) (by (first | (go_keep; done) | (go_simp; done) | (simp [*]; done))) (by omega) h5 (fun o => by simp [h6]) hlt (.inr ⟨b, off, rfl, hb1, hb3⟩), by (first | rfl | (simp; done) | (go_simp; done) | (simp [*]; done))⟩
  · go_enter Try.func35, Try.ntmps35
    go_wp2
    generalize (wrap64 (wrap64 (x * 6364136223846793005) + 1442695040888963407)) = H1
    go_quiet (fail)
    go_wp2
    go_quiet (fail)
    go_wp2
    go_ret
    exact ⟨_, rfl, and255 _, cur_of (A := A) (n := n) (c := c) (i := i) (h := H1) (by (repeat (first | with_reducible exact World.grownBy.refl _ _ | with_reducible assumption | with_reducible refine grown_set ?_ | with_reducible refine grown_drewN ?_ _ | with_reducible refine grown_alloc ?_ _))) (by (first | (go_keep; done) | (go_simp; done) | (simp [*]; done))) (by (first | (go_keep; done) | (go_simp; done) | (simp [*]; done))) (by (first | (go_keep; done) | (go_simp; done) | (simp [*]; done))) ⟨h3, h4⟩ h5 (fun o => by simp [h6]) hlt h7, by (first | rfl | (simp; done) | (go_simp; done) | (simp [*]; done))⟩

set_option maxRecDepth 100000 in
set_option maxHeartbeats 2000000 in
theorem l1BelowS (cb : Nat) (n : Int) (w : World) (h : Cur w cb) :
    Calls Try.prog 22 #[.pointer (some ⟨cb, 0, none⟩), .int .i64 n] w (IntS (fun x => 0 ≤ x ∧ (0 < n → x < n) ∧ (n ≤ 0 → x = 0)) w cb) := by
  by_cases h1 : n ≤ 0
  · go_enter Try.func22, Try.ntmps22
    go_wp2
    go_ret
    exact ⟨0, rfl, ⟨by omega, by omega, fun _ => rfl⟩, h.drew_below (Below.refl _ _), rfl⟩
  by_cases h2 : n ≤ 256
  · have HC := Lib.hid h
    clear h
    go_enter Try.func22, Try.ntmps22
    go_wp2_with fail
    refine (l1ByteS cb _ HC.out).mono ?_
    rintro y w1 ⟨x, rfl, ⟨hx0, hx1⟩, d1, e1⟩
    go_wp2
    go_ret
    have h3 := Int.emod_nonneg x (show n ≠ 0 by omega)
    have h4 := Int.emod_lt_of_pos x (show 0 < n by omega)
    exact ⟨_, rfl, ⟨by omega, by omega, by omega⟩, d1, e1⟩
  · have HC := Lib.hid h
    clear h
    go_enter Try.func22, Try.ntmps22
    go_wp2_with fail
    refine (l1ByteS cb _ HC.out).mono ?_
    rintro y w1 ⟨x1, rfl, ⟨ha0, ha1⟩, d1, e1⟩
    have D1 := Lib.hid d1
    clear d1
    go_wp2_with fail
    refine (l1ByteS cb _ D1.out.1).mono ?_
    rintro y w2 ⟨x2, rfl, ⟨hb0, hb1⟩, d2, e2⟩
    have D2 := Lib.hid (D1.out.trans d2)
    clear d2
    go_wp2_with fail
    refine (l1ByteS cb _ D2.out.1).mono ?_
    rintro y w3 ⟨x3, rfl, ⟨hc0, hc1⟩, d3, e3⟩
    have D3 := Lib.hid (D2.out.trans d3)
    clear d3
    go_wp2_with fail
    refine (l1ByteS cb _ D3.out.1).mono ?_
    rintro y w4 ⟨x4, rfl, ⟨hd0, hd1⟩, d4, e4⟩
    have D4 := Lib.hid (D3.out.trans d4)
    clear d4
    go_wp2
    go_ret
    refine ⟨_, rfl, ?_, D4.out, by omega⟩
    generalize x1 * 16777216 + x2 * 65536 + x3 * 256 + x4 = X
    have h3 := Int.emod_nonneg X (show n ≠ 0 by omega)
    have h4 := Int.emod_lt_of_pos X (show 0 < n by omega)
    exact ⟨by omega, by omega, by omega⟩

set_option maxHeartbeats 400000 in
theorem l1OnceS (cb : Nat) (n : Int) (w : World) (h : Cur w cb) :
    Calls Try.prog 34 #[.pointer (some ⟨cb, 0, none⟩), .int .i64 n] w (BoolS w cb) := by
  have HC := Lib.hid h
  clear h
  go_enter Try.func34, Try.ntmps34
  go_wp2_with fail
  refine (l1BelowS cb n _ HC.out).mono ?_
  rintro y w1 ⟨x, rfl, _, d1, e1⟩
  go_wp2
  go_ret
  exact ⟨_, rfl, d1, e1⟩

set_option maxHeartbeats 400000 in
theorem l1PickIntS (cb : Nat) (A : Option Addr) (n c : Nat) (es : List (Nat → Int)) (w : World) (h : Cur w cb) (hr : Rd w 1 A n es) (hn : 0 < n) (hn2 : n ≤ 256) (hne : ∀ a, A = some a → a.block ≠ cb) :
    Calls Try.prog 23 #[.pointer (some ⟨cb, 0, none⟩), .slice A n c] w (IntS (fun x => ∃ k, k < n ∧ x = fld es k 0) w cb) := by
  have HC := Lib.hid h
  obtain ⟨b, off, rfl, hb, hc⟩ := hr.2.resolve_left (by omega)
  have hbc : b ≠ cb := hne _ rfl
  have HB := Lib.hid hc
  clear h hr hne hc
  go_enter Try.func23, Try.ntmps23
  go_wp2_with fail
  refine (l1BelowS cb n _ HC.out).mono ?_
  rintro y w1 ⟨x, rfl, ⟨hx0, hx1, _⟩, d1, e1⟩
  obtain ⟨k, rfl⟩ : ∃ k : Nat, x = k := ⟨x.toNat, by omega⟩
  have hk : k < n := by have := hx1 (by omega); omega
  have hcell : w1.cell? ⟨b, off + k, none⟩ = some (.int .i64 (fld es k 0)) := by
    rw [World.cell?_of_block (w := w) (w' := w1) (a := ⟨b, off + k, none⟩) (d1.2.block b hb (by simpa using hbc))]
    have := HB.out k hk 0 (by omega)
    simpa using this
  clear hx1
  go_wp2
  go_ret
  exact ⟨_, rfl, ⟨k, hk, rfl⟩, d1, e1⟩

theorem Cur.drw {w : World} {cb : Nat} (h : Cur w cb) : Cur w.drew cb := h
theorem Drew.drw {w w1 : World} {cb : Nat} (d : Drew w cb w1) : Drew w cb w1.drew := ⟨d.1, d.2.os, d.2.tape, d.2.output, d.2.size, d.2.block⟩
theorem Drew.refl {w : World} {cb : Nat} (h : Cur w cb) : Drew w cb w := h.drew_below (Below.refl _ _)
end Go.Proofs.Ytfilagmboeeclaa
