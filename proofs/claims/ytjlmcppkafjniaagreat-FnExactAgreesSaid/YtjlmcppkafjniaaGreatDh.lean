/-
  The draws of lists of parties. No conditions beyond those stated.
-/
import Derived.Test.YtjlmcppkafjniaaGreatDu
import Derived.Test.YtjlmcppkafjniaaGreatDq2
import Derived.Test.YtjlmcppkafjniaaGreatW2
namespace Go.Proofs.YtjlmcppkafjniaaGreat
open Go.RowKit

theorem Bx.alloc {w : World} {b K : Nat} {v : Nat → Value} (h : Bx w b K v) (o : Obj) : Bx (w.alloc o) b K v := h.below ((Below.refl _ _).alloc (Nat.le_refl _) o)
theorem Cur.alc {w : World} {cb : Nat} (h : Cur w cb) (o : Obj) : Cur (w.alloc o) cb := h.below ((Below.refl _ _).alloc (Nat.le_refl _) o)
theorem Bx.party (w : World) (t : TypeId) (p : Nat → Int) : Bx (w.alloc (.cells #[.int .i64 (p 0), .int .i64 (p 1), .int .i64 (p 2), .int .i64 (p 3), .int .i64 (p 4), .int .i64 (p 5), .int .i64 (p 6), .int .i64 (p 7), .int .i64 (p 8), .int .i64 (p 9)] t)) w.heap.size 10 (ints p) :=
  ⟨by simp, fun o => by (first | (simp; done) | (go_simp; done)), all10 (by show _ = some (Value.int .i64 (p 0)); (first | (simp; done) | (go_simp; done))) (by show _ = some (Value.int .i64 (p 1)); (first | (simp; done) | (go_simp; done))) (by show _ = some (Value.int .i64 (p 2)); (first | (simp; done) | (go_simp; done))) (by show _ = some (Value.int .i64 (p 3)); (first | (simp; done) | (go_simp; done))) (by show _ = some (Value.int .i64 (p 4)); (first | (simp; done) | (go_simp; done))) (by show _ = some (Value.int .i64 (p 5)); (first | (simp; done) | (go_simp; done))) (by show _ = some (Value.int .i64 (p 6)); (first | (simp; done) | (go_simp; done))) (by show _ = some (Value.int .i64 (p 7)); (first | (simp; done) | (go_simp; done))) (by show _ = some (Value.int .i64 (p 8)); (first | (simp; done) | (go_simp; done))) (by show _ = some (Value.int .i64 (p 9)); (first | (simp; done) | (go_simp; done)))⟩
theorem Bx.rules (w : World) (t : TypeId) (A : Option Addr) (n c : Nat) (r : Nat → Int) : Bx (w.alloc (.cells #[.slice A n c, .int .i64 (r 1), .int .i64 (r 2), .int .i64 (r 3), .int .i64 (r 4), .int .i64 (r 5), .int .i64 (r 6), .int .i64 (r 7), .int .i64 (r 8)] t)) w.heap.size 9 (rv A n c r) :=
  ⟨by simp, fun o => by (first | (simp; done) | (go_simp; done)), all9 (by show _ = some (Value.slice A n c); (first | (simp; done) | (go_simp; done))) (by show _ = some (Value.int .i64 (r 1)); (first | (simp; done) | (go_simp; done))) (by show _ = some (Value.int .i64 (r 2)); (first | (simp; done) | (go_simp; done))) (by show _ = some (Value.int .i64 (r 3)); (first | (simp; done) | (go_simp; done))) (by show _ = some (Value.int .i64 (r 4)); (first | (simp; done) | (go_simp; done))) (by show _ = some (Value.int .i64 (r 5)); (first | (simp; done) | (go_simp; done))) (by show _ = some (Value.int .i64 (r 6)); (first | (simp; done) | (go_simp; done))) (by show _ = some (Value.int .i64 (r 7)); (first | (simp; done) | (go_simp; done))) (by show _ = some (Value.int .i64 (r 8)); (first | (simp; done) | (go_simp; done)))⟩
theorem Bx.upd {w : World} {b k : Nat} {p : Nat → Int} (h : Bx w b 10 (ints p)) (x : Int) (hk : k < 10) : Bx (w.setCell ⟨b, k, none⟩ (.int .i64 x)) b 10 (ints (upd p k x)) := ints_upd p k x ▸ h.set _ hk
theorem Own.set_nb {B K n : Nat} {w : World} {A : Option Addr} {es : List (Nat → Int)} {b0 o0 : Nat} (h : Own B w K A n es) (hne : ∀ a, n ≠ 0 → A = some a → a.block ≠ b0) (v : Value) : Own B (w.setCell ⟨b0, o0, none⟩ v) K A n es := by
  refine ⟨h.1, ?_⟩
  rcases Nat.eq_zero_or_pos n with h0 | h0
  · exact .inl h0
  · obtain ⟨b, off, h1, h2, h3, h4, h5⟩ := h.2.resolve_left (by omega)
    have hb : b ≠ b0 := hne _ (by omega) h1
    have hh := Below.heap_setCell w ⟨b0, o0, none⟩ v b hb
    exact .inr ⟨b, off, h1, by simpa [World.setCell] using h2, h3, fun o => (World.frozen?_of_block (w := w) (w' := w.setCell ⟨b0, o0, none⟩ v) (a := ⟨b, o, none⟩) hh).trans (h4 o), fun i hi j hj => (World.cell?_of_block (w := w) (w' := w.setCell ⟨b0, o0, none⟩ v) (a := ⟨b, _, none⟩) hh).trans (h5 i hi j hj)⟩
theorem Own.lt {B K n : Nat} {w : World} {A : Option Addr} {es : List (Nat → Int)} (h : Own B w K A n es) : ∀ a, n ≠ 0 → A = some a → a.block < w.heap.size := fun a h0 ha => by
  obtain ⟨b, off, h1, h2, _⟩ := h.2.resolve_left h0
  rw [h1] at ha
  injection ha with ha
  rw [← ha]
  exact h2
theorem l1New_c (cb : Nat) (A : Option Addr) (n c : Nat) (w : World) (hcb : cb = w.heap.size) (hn : n ≤ 1048576) (h : RdB w A n) :
    Calls Tryz.prog 26 #[.slice A n c] w fun y w' => y = .returned (.pointer (some ⟨cb, 0, none⟩)) ∧ Cur w' cb ∧ Below w.heap.size w w' := hcb ▸ l1New_any A n c w hn h
end Go.Proofs.YtjlmcppkafjniaaGreat

namespace Go.Proofs.YtjlmcppkafjniaaGreat
open Go.RowKit

theorem party_info : (Tryz.prog.info? 71).map (fun i => (i.zero, i.size, i.bytes)) = some (some (.agg #[.int .i64 0, .int .i64 0, .int .i64 0, .int .i64 0, .int .i64 0, .int .i64 0, .int .i64 0, .int .i64 0, .int .i64 0, .int .i64 0]), 10, 80) := by kernel_rfl
theorem rd_one10 (w : World) (t : TypeId) (p : Nat → Int) : Rd (w.alloc (.cells #[.int .i64 (p 0), .int .i64 (p 1), .int .i64 (p 2), .int .i64 (p 3), .int .i64 (p 4), .int .i64 (p 5), .int .i64 (p 6), .int .i64 (p 7), .int .i64 (p 8), .int .i64 (p 9)] t)) 10 (some ⟨w.heap.size, 0, none⟩) 1 [p] :=
  ⟨rfl, .inr ⟨w.heap.size, 0, rfl, by simp, fun i hi => by
    obtain rfl : i = 0 := by omega
    have hb := (Bx.party w t p).2.2
    intro j hj
    have h1 := hb j hj
    simp only [Nat.zero_mul, Nat.zero_add]
    exact h1⟩⟩
theorem row_empty1 (w : World) (t : TypeId) (K : Nat) {b : Nat} (h : b = w.heap.size) : (w.alloc (.cells #[] t)).ownsRow b t K (.slice (some ⟨b, 0, none⟩) 0 0) 0 (flat K []) :=
  h ▸ ⟨by simp [flat], .inr ⟨w.heap.size, 0, #[], rfl, Nat.le_refl _, heap_alloc_new w _, Nat.le_refl _, Nat.zero_le _, by simp, by simp [flat]⟩⟩
theorem bel_grown0 {w w' : World} {o : Obj} {B : Nat} {row : Option Nat} (hg : (w.alloc o).grownBy w' row) (hr : ∀ k, row = some k → B ≤ k) (hB : B ≤ (w.alloc o).heap.size) (hB2 : B ≤ w.heap.size) : Below B w w' := Below.grown ((Below.refl B w).alloc hB2 o) hg hB hr
theorem Bx.keep {w w' : World} {b K B : Nat} {v : Nat → Value} (h : Bx w b K v) (d : Below B w w') (hb : b < B) : Bx w' b K v :=
  ⟨Nat.lt_of_lt_of_le h.1 d.size, fun o => (d.frozen (p := ⟨b, o, none⟩) hb).trans (h.2.1 o), fun j hj => (d.cell (p := ⟨b, j, none⟩) hb).trans (h.2.2 j hj)⟩
theorem Own.keep {B D K n : Nat} {w w' : World} {A : Option Addr} {es : List (Nat → Int)} (h : Own B w K A n es) (d : Below D w w') (hD : ∀ a, n ≠ 0 → A = some a → a.block < D) : Own B w' K A n es :=
  ⟨h.1, by
    rcases Nat.eq_zero_or_pos n with h0 | h0
    · exact .inl h0
    · obtain ⟨b, off, h1, h2, h3, h4, h5⟩ := h.2.resolve_left (by omega)
      have hb : b < D := hD _ (by omega) h1
      exact .inr ⟨b, off, h1, Nat.lt_of_lt_of_le h2 d.size, h3, fun o => (d.frozen (p := ⟨b, o, none⟩) hb).trans (h4 o), fun i hi j hj => (d.cell (p := ⟨b, off + i * K + j, none⟩) hb).trans (h5 i hi j hj)⟩⟩
def Shp (A : Option Addr) : Prop := ∃ g, A = some ⟨g, 0, none⟩
theorem row_shape {w : World} {base n c : Nat} {e : TypeId} {K : Nat} {A : Option Addr} {xs : List Value} (h : w.ownsRow base e K (.slice A n c) n xs) (hb : ∃ g, (Value.slice A n c).ownBlock = some g) : Shp A := by
  rcases h.2 with ⟨hv, _⟩ | ⟨g, cap, cur, hv, _⟩
  · injection hv with h1 _ _
    subst h1
    obtain ⟨g, hg⟩ := hb
    cases hg
  · injection hv with h1 _ _
    exact ⟨g, h1⟩
def PtsD (w : World) (cb : Nat) (y : Ending) (w' : World) : Prop := ∃ (A' : Option Addr) (m c' : Nat) (ps : List (Nat → Int)), y = .returned (.slice A' m c') ∧ m ≤ 7 ∧ m ≤ c' ∧ c' ≤ 9223372036854775807 ∧ Own w.heap.size w' 10 A' m ps ∧ Drew w cb w' ∧ Shp A'

def LcD (w : World) (y : Ending) (w' : World) : Prop := ∃ (A' : Option Addr) (m c' : Nat) (ps : List (Nat → Int)) (cab : Int), y = .returned (.tuple #[.slice A' m c', .int .i64 cab]) ∧ m ≤ 7 ∧ m ≤ c' ∧ c' ≤ 9223372036854775807 ∧ Own w.heap.size w' 10 A' m ps ∧ Below w.heap.size w w' ∧ Shp A'

end Go.Proofs.YtjlmcppkafjniaaGreat
