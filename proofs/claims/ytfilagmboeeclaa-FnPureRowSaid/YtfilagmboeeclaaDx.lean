/-
  Rows and what draws leave alone. No conditions beyond those stated.
-/
import Derived.Test.YtfilagmboeeclaaDn
import Derived.Test.YtfilagmboeeclaaMk
import Derived.Test.YtfilagmboeeclaaCu
namespace Go.Proofs.Ytfilagmboeeclaa
open Go.RowKit

theorem own_of_row_cap {base : Nat} {w : World} {e : TypeId} {K n : Nat} {v : Value} {es : List (Nat → Int)} (hl : es.length = n) (h : w.ownsRow base e K v n (flat K es)) :
    ∃ A c, v = .slice A n c ∧ n ≤ c ∧ c ≤ 9223372036854775807 ∧ Own base w K A n es := by
  obtain ⟨A, c, rfl, ho⟩ := own_of_row hl h
  refine ⟨A, c, rfl, ?_, ?_, ho⟩
  · rcases h.2 with ⟨hv, hx⟩ | ⟨g, cap, cur, hv, hg, hh, hnc, hcm, hsz, htk⟩
    · injection hv with _ h2 h3
      omega
    · injection hv with _ h2 h3
      omega
  · rcases h.2 with ⟨hv, hx⟩ | ⟨g, cap, cur, hv, hg, hh, hnc, hcm, hsz, htk⟩
    · injection hv with _ h2 h3
      omega
    · injection hv with _ h2 h3
      unfold maxLen at hcm
      omega

theorem Cur.keep {w w' : World} {cb : Nat} (h : Cur w cb) (hb : Below (cb + 1) w w') : Cur w' cb := by
  obtain ⟨A, n, c, i, x, h0, h1, h2, h3, h4, h5, h6, h7⟩ := h
  refine ⟨A, n, c, i, x, (hb.cell (p := ⟨cb, 0, none⟩) (Nat.lt_succ_self cb)).trans h0, (hb.cell (p := ⟨cb, 1, none⟩) (Nat.lt_succ_self cb)).trans h1, (hb.cell (p := ⟨cb, 2, none⟩) (Nat.lt_succ_self cb)).trans h2, h3, h4, h5, fun o => (hb.frozen (p := ⟨cb, o, none⟩) (Nat.lt_succ_self cb)).trans (h6 o), h7.imp id fun ⟨b, off, g1, g2, g4⟩ => ⟨b, off, g1, g2, fun j hj => ?_⟩⟩
  obtain ⟨y, y1, y2, y3⟩ := g4 j hj
  exact ⟨y, y1, y2, (hb.cell (p := ⟨b, off + j, none⟩) (Nat.lt_succ_of_lt g2)).trans y3⟩
/-- Something turns that has been made since. -/
theorem Drew.grow {w w1 w2 : World} {cb : Nat} {row : Option Nat} (hcb : cb < w.heap.size) (hs : w.heap.size ≤ w1.heap.size) (h : Drew w cb w1) (hg : w1.grownBy w2 row) (hrow : ∀ k, row = some k → w.heap.size ≤ k) : Drew w cb w2 := by
  have hb : Below w.heap.size w1 w2 := (Below.refl _ w1).grown hg hs hrow
  refine ⟨h.1.keep (hb.mono (by omega)), hb.os.trans h.2.os, hb.tape.trans h.2.tape, hb.output.trans h.2.output, Nat.le_trans h.2.size hb.size, fun i hi hne => (hb.block i hi).trans (h.2.block i hi hne)⟩
theorem Drew.below {w w1 w2 : World} {cb : Nat} (hcb : cb < w.heap.size) (h : Drew w cb w1) (hb : Below w.heap.size w1 w2) : Drew w cb w2 :=
  ⟨h.1.keep (hb.mono (by omega)), hb.os.trans h.2.os, hb.tape.trans h.2.tape, hb.output.trans h.2.output, Nat.le_trans h.2.size hb.size, fun i hi hne => (hb.block i hi).trans (h.2.block i hi hne)⟩
theorem row_drew {base cb : Nat} {w w' : World} {e : TypeId} {K n : Nat} {v : Value} {xs : List Value} (h : w.ownsRow base e K v n xs) (d : Drew w cb w') (hcb : cb < base) : w'.ownsRow base e K v n xs :=
  ⟨h.1, h.2.imp id fun ⟨g, cap, cur, h1, h2, hh, h3⟩ => ⟨g, cap, cur, h1, h2, (d.2.block g (Array.getElem?_eq_some_iff.1 hh).1 (by simp; omega)).trans hh, h3⟩⟩
theorem Own.drew_c {B cb : Nat} {w w' : World} {K n : Nat} {A : Option Addr} {es : List (Nat → Int)} (h : Own B w K A n es) (d : Drew w cb w') (hcb : cb < B) : Own B w' K A n es :=
  h.grown_ d.2 (fun a hn ha => by
    obtain ⟨b, off, h1, h2, h3, _⟩ := h.2.resolve_left hn
    rw [ha] at h1
    injection h1 with h1
    rw [h1]
    simp
    omega)
end Go.Proofs.Ytfilagmboeeclaa
