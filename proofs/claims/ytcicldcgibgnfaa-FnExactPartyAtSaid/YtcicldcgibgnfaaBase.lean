/-
  Small lemmas on worlds and contracts of the range tests. No conditions beyond those stated.
-/
import Derived.Test.YtcicldcgibgnfaaRows
import Derived.WalkKit
import Derived.WalkSpells
import Derived.WalkLawsBesides
import Derived.RegionTactic
import Derived.BigRegion
import Derived.ChangeAlike
import Derived.Lib.Hide
import Derived.Deep.RegionWith
import Derived.Deep.RegionHeld3
namespace Go.Proofs.Ytcicldcgibgnfaa
open Go.RowKit

theorem below_drewN {B : Nat} {a w : World} (h : Below B a w) (n : Nat) : Below B a (w.drewN n) := ⟨h.os, h.tape, h.output, h.size, h.block⟩
theorem bel_alloc {B : Nat} {a w : World} (hB : B ≤ w.heap.size) (h : Below B a w) (o : Obj) : Below B a (w.alloc o) := h.alloc hB o
theorem bel_set {B : Nat} {a w : World} {p : Addr} (hp : B ≤ p.block) (h : Below B a w) (u : Value) : Below B a (w.setCell p u) := h.setCell hp u
theorem bel_tr {B B' : Nat} {a b c : World} (k : Below B' b c) (hB : B ≤ B') (h : Below B a b) : Below B a c := h.trans (k.mono hB)
theorem bcell {W w1 : World} (hb : Below W.heap.size W w1) : (∀ b o, b < W.heap.size → w1.cell? ⟨b, o, none⟩ = W.cell? ⟨b, o, none⟩) ∧ (∀ b o, b < W.heap.size → w1.frozen? ⟨b, o, none⟩ = W.frozen? ⟨b, o, none⟩) :=
  ⟨fun b o h => hb.cell (p := ⟨b, o, none⟩) h, fun b o h => hb.frozen (p := ⟨b, o, none⟩) h⟩

def TF (P : Prop) (w : World) (e : Ending) (w' : World) : Prop := (e = .returned (.bool true) ∧ P ∧ w = w') ∨ (e = .returned (.bool false) ∧ ¬ P ∧ w = w')
def TFB (P : Prop) (w : World) (e : Ending) (w' : World) : Prop := (e = .returned (.bool true) ∧ P ∧ Below w.heap.size w w') ∨ (e = .returned (.bool false) ∧ ¬ P ∧ Below w.heap.size w w')

end Go.Proofs.Ytcicldcgibgnfaa
