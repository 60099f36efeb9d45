/-
  Weak contracts of the functions that draw rules, ticks and parties. No conditions beyond those stated.
-/
import Derived.Test.YtfilagmboeeclaaDx
import Derived.Test.YtfilagmboeeclaaRu
import Derived.Deep.DeepCutAuto
import Derived.Deep.RegionLaw
import Derived.Test.YtfilagmboeeclaaApp
namespace Go.Proofs.Ytfilagmboeeclaa
open Go.RowKit

theorem Cur.dr {w : World} {cb : Nat} (h : Cur w cb) : Cur w.drew cb := h
theorem Drew.undrew {w w' : World} {cb : Nat} (d : Drew w.drew cb w') : Drew w cb w' := ⟨d.1, d.2.os, d.2.tape, d.2.output, d.2.size, d.2.block⟩
theorem row_set5 {base b o : Nat} {w : World} {e : TypeId} {K n : Nat} {v u : Value} {xs : List Value} (h : w.ownsRow base e K v n xs) (hb : b < base) : (w.setCell ⟨b, o, none⟩ u).ownsRow base e K v n xs :=
  ⟨h.1, h.2.imp id fun ⟨g, cap, cur, h1, h2, hh, h3⟩ => ⟨g, cap, cur, h1, h2, (Below.heap_setCell w ⟨b, o, none⟩ u g (by show g ≠ b; omega)).trans hh, h3⟩⟩
def one5 (x : Int) : Nat → Int := fun _ => x
theorem one5_bd {es : List (Nat → Int)} {k : Nat} {x lo hi : Int} (hl : es.length = k) (h : ∀ i, i < k → lo ≤ fld es i 0 ∧ fld es i 0 ≤ hi) (h1 : lo ≤ x) (h2 : x ≤ hi) : ∀ i, i < k + 1 → lo ≤ fld (es ++ [one5 x]) i 0 ∧ fld (es ++ [one5 x]) i 0 ≤ hi := fun i hi => by
  by_cases hik : i < k
  · have e : fld (es ++ [one5 x]) i 0 = fld es i 0 := by unfold fld; rw [List.getD_eq_getElem?_getD, List.getD_eq_getElem?_getD, List.getElem?_append_left (by omega)]
    rw [e]; exact h i hik
  · obtain rfl : i = k := by omega
    have e : fld (es ++ [one5 x]) i 0 = x := by unfold fld; rw [List.getD_eq_getElem?_getD, List.getElem?_append_right (by omega)]; simp [hl, one5]
    rw [e]; exact ⟨h1, h2⟩
theorem rd_one5 (w : World) (t : TypeId) (x : Int) : Rd (w.alloc (.cells #[.int .i64 x] t)) 1 (some ⟨w.heap.size, 0, none⟩) 1 [one5 x] :=
  ⟨rfl, .inr ⟨w.heap.size, 0, rfl, by simp, fun i hi j hj => by
    obtain rfl : i = 0 := by omega
    obtain rfl : j = 0 := by omega
    simp [fld, one5]⟩⟩
theorem intD_info : (Try.prog.info? 3).map (fun i => (i.zero, i.size, i.bytes)) = some (some (.int .i64 0), 1, 8) := by kernel_rfl

end Go.Proofs.Ytfilagmboeeclaa
