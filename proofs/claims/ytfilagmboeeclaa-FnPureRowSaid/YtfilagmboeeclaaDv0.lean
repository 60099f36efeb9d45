/-
  Small lemmas on boxes. No conditions beyond those stated.
-/
import Derived.Test.YtfilagmboeeclaaDu
import Derived.Test.YtfilagmboeeclaaDq2
namespace Go.Proofs.Ytfilagmboeeclaa
open Go.RowKit

theorem Bx.alloc {w : World} {b K : Nat} {v : Nat → Value} (h : Bx w b K v) (o : Obj) : Bx (w.alloc o) b K v := h.below ((Below.refl _ _).alloc (Nat.le_refl _) o)
theorem Cur.alc {w : World} {cb : Nat} (h : Cur w cb) (o : Obj) : Cur (w.alloc o) cb := h.below ((Below.refl _ _).alloc (Nat.le_refl _) o)
theorem Bx.party (w : World) (t : TypeId) (p : Nat → Int) : Bx (w.alloc (.cells #[.int .i64 (p 0), .int .i64 (p 1), .int .i64 (p 2), .int .i64 (p 3), .int .i64 (p 4), .int .i64 (p 5), .int .i64 (p 6), .int .i64 (p 7), .int .i64 (p 8), .int .i64 (p 9)] t)) w.heap.size 10 (ints p) :=
  ⟨by simp, fun o => by (first | (simp; done) | (go_simp; done)), all10 (by show _ = some (Value.int .i64 (p 0)); (first | (simp; done) | (go_simp; done))) (by show _ = some (Value.int .i64 (p 1)); (first | (simp; done) | (go_simp; done))) (by show _ = some (Value.int .i64 (p 2)); (first | (simp; done) | (go_simp; done))) (by show _ = some (Value.int .i64 (p 3)); (first | (simp; done) | (go_simp; done))) (by show _ = some (Value.int .i64 (p 4)); (first | (simp; done) | (go_simp; done))) (by show _ = some (Value.int .i64 (p 5)); (first | (simp; done) | (go_simp; done))) (by show _ = some (Value.int .i64 (p 6)); (first | (simp; done) | (go_simp; done))) (by show _ = some (Value.int .i64 (p 7)); (first | (simp; done) | (go_simp; done))) (by show _ = some (Value.int .i64 (p 8)); (first | (simp; done) | (go_simp; done))) (by show _ = some (Value.int .i64 (p 9)); (first | (simp; done) | (go_simp; done)))⟩
theorem Bx.rules (w : World) (t : TypeId) (A : Option Addr) (n c : Nat) (r : Nat → Int) : Bx (w.alloc (.cells #[.slice A n c, .int .i64 (r 1), .int .i64 (r 2), .int .i64 (r 3), .int .i64 (r 4), .int .i64 (r 5), .int .i64 (r 6), .int .i64 (r 7), .int .i64 (r 8)] t)) w.heap.size 9 (rv A n c r) :=
  ⟨by simp, fun o => by (first | (simp; done) | (go_simp; done)), all9 (by show _ = some (Value.slice A n c); (first | (simp; done) | (go_simp; done))) (by show _ = some (Value.int .i64 (r 1)); (first | (simp; done) | (go_simp; done))) (by show _ = some (Value.int .i64 (r 2)); (first | (simp; done) | (go_simp; done))) (by show _ = some (Value.int .i64 (r 3)); (first | (simp; done) | (go_simp; done))) (by show _ = some (Value.int .i64 (r 4)); (first | (simp; done) | (go_simp; done))) (by show _ = some (Value.int .i64 (r 5)); (first | (simp; done) | (go_simp; done))) (by show _ = some (Value.int .i64 (r 6)); (first | (simp; done) | (go_simp; done))) (by show _ = some (Value.int .i64 (r 7)); (first | (simp; done) | (go_simp; done))) (by show _ = some (Value.int .i64 (r 8)); (first | (simp; done) | (go_simp; done)))⟩
theorem Bx.upd {w : World} {b k : Nat} {p : Nat → Int} (h : Bx w b 10 (ints p)) (x : Int) (hk : k < 10) : Bx (w.setCell ⟨b, k, none⟩ (.int .i64 x)) b 10 (ints (upd p k x)) := ints_upd p k x ▸ h.set _ hk
theorem Own.set_nb {B K n : Nat} {w : World} {A : Option Addr} {es : List (Nat → Int)} {b0 o0 : Nat} (h : Own B w K A n es) (hne : ∀ a, n ≠ 0 → A = some a → a.block ≠ b0) (v : Value) : Own B (w.setCell ⟨b0, o0, none⟩ v) K A n es := by
  refine ⟨h.1, ?_⟩
  rcases Nat.eq_zero_or_pos n with h0 | h0
  · exact .inl h0
  · obtain ⟨b, off, h1, h2, h3, h4, h5⟩ := h.2.resolve_left (by omega)
    have hb : b ≠ b0 := hne _ (by omega) h1
    have hh := Below.heap_setCell w ⟨b0, o0, none⟩ v b hb
    exact .inr ⟨b, off, h1, by simpa [World.setCell] using h2, h3, fun o => (World.frozen?_of_block (w := w) (w' := w.setCell ⟨b0, o0, none⟩ v) (a := ⟨b, o, none⟩) hh).trans (h4 o), fun i hi j hj => (World.cell?_of_block (w := w) (w' := w.setCell ⟨b0, o0, none⟩ v) (a := ⟨b, _, none⟩) hh).trans (h5 i hi j hj)⟩
theorem Own.lt {B K n : Nat} {w : World} {A : Option Addr} {es : List (Nat → Int)} (h : Own B w K A n es) : ∀ a, n ≠ 0 → A = some a → a.block < w.heap.size := fun a h0 ha => by
  obtain ⟨b, off, h1, h2, _⟩ := h.2.resolve_left h0
  rw [h1] at ha
  injection ha with ha
  rw [← ha]
  exact h2
theorem l1New_c (cb : Nat) (A : Option Addr) (n c : Nat) (w : World) (hcb : cb = w.heap.size) (hn : n ≤ 1048576) (h : RdB w A n) :
    Calls Try.prog 9 #[.slice A n c] w fun y w' => y = .returned (.pointer (some ⟨cb, 0, none⟩)) ∧ Cur w' cb ∧ Below w.heap.size w w' := hcb ▸ l1New_any A n c w hn h
end Go.Proofs.Ytfilagmboeeclaa
