/-
  Small lemmas on worlds and contracts of the range tests. No conditions beyond those stated.
-/
import Derived.Test.YtbnkdoilpidfaaaDoorRows
import Derived.WalkKit
import Derived.WalkSpells
import Derived.WalkLawsBesides
import Derived.RegionTactic
import Derived.BigRegion
import Derived.ChangeAlike
import Derived.Lib.Hide
import Derived.Deep.RegionWith
import Derived.Deep.RegionHeld3
namespace Go.Proofs.YtbnkdoilpidfaaaDoor
open Go.RowKit

theorem below_drewN {B : Nat} {a w : World} (h : Below B a w) (n : Nat) : Below B a (w.drewN n) := ⟨h.os, h.tape, h.output, h.size, h.block⟩
theorem bel_alloc {B : Nat} {a w : World} (hB : B ≤ w.heap.size) (h : Below B a w) (o : Obj) : Below B a (w.alloc o) := h.alloc hB o
theorem bel_set {B : Nat} {a w : World} {p : Addr} (hp : B ≤ p.block) (h : Below B a w) (u : Value) : Below B a (w.setCell p u) := h.setCell hp u
theorem bel_tr {B B' : Nat} {a b c : World} (k : Below B' b c) (hB : B ≤ B') (h : Below B a b) : Below B a c := h.trans (k.mono hB)
theorem bcell {W w1 : World} (hb : Below W.heap.size W w1) : (∀ b o, b < W.heap.size → w1.cell? ⟨b, o, none⟩ = W.cell? ⟨b, o, none⟩) ∧ (∀ b o, b < W.heap.size → w1.frozen? ⟨b, o, none⟩ = W.frozen? ⟨b, o, none⟩) :=
  ⟨fun b o h => hb.cell (p := ⟨b, o, none⟩) h, fun b o h => hb.frozen (p := ⟨b, o, none⟩) h⟩

def TF (P : Prop) (w : World) (e : Ending) (w' : World) : Prop := (e = .returned (.bool true) ∧ P ∧ w = w') ∨ (e = .returned (.bool false) ∧ ¬ P ∧ w = w')
def TFB (P : Prop) (w : World) (e : Ending) (w' : World) : Prop := (e = .returned (.bool true) ∧ P ∧ Below w.heap.size w w') ∨ (e = .returned (.bool false) ∧ ¬ P ∧ Below w.heap.size w w')

set_option maxHeartbeats 400000 in
theorem within_any (n a b : Int) (w : World) :
    Calls Tryd.prog 12 #[.int .i64 n, .int .i64 a, .int .i64 b] w (TF (a ≤ n ∧ n ≤ b) w) := by
  go_enter Tryd.func12, Tryd.ntmps12
  by_cases h1 : a ≤ n <;> by_cases h2 : n ≤ b
  all_goals go_wp2
  all_goals go_ret
  · exact .inl ⟨by simp <;> omega, ⟨h1, h2⟩, rfl⟩
  · exact .inr ⟨by simp <;> omega, by omega, rfl⟩
  · exact .inr ⟨by simp, by omega, rfl⟩
  · exact .inr ⟨by simp, by omega, rfl⟩

set_option maxHeartbeats 400000 in
theorem l1In_any (n a b : Int) (w : World) :
    Calls Tryd.prog 11 #[.int .i64 n, .int .i64 a, .int .i64 b] w (TF (a ≤ n ∧ n ≤ b) w) := by
  go_enter Tryd.func11, Tryd.ntmps11
  by_cases h1 : a ≤ n <;> by_cases h2 : n ≤ b
  all_goals go_wp2
  all_goals go_ret
  · exact .inl ⟨by simp <;> omega, ⟨h1, h2⟩, rfl⟩
  · exact .inr ⟨by simp <;> omega, by omega, rfl⟩
  · exact .inr ⟨by simp, by omega, rfl⟩
  · exact .inr ⟨by simp, by omega, rfl⟩
theorem ty {P : Program} {f : FuncId} {args : Array Value} {w : World} {A : Prop} (c : Calls P f args w (TFB A w)) (h : A) : Calls P f args w fun e w' => e = .returned (.bool true) ∧ Below w.heap.size w w' :=
  c.mono fun _ _ x => x.elim (fun y => ⟨y.1, y.2.2⟩) (fun y => absurd h y.2.1)
theorem tn {P : Program} {f : FuncId} {args : Array Value} {w : World} {A : Prop} (c : Calls P f args w (TFB A w)) (h : ¬ A) : Calls P f args w fun e w' => e = .returned (.bool false) ∧ Below w.heap.size w w' :=
  c.mono fun _ _ x => x.elim (fun y => absurd y.2.1 h) (fun y => ⟨y.1, y.2.2⟩)
theorem sy {P : Program} {f : FuncId} {args : Array Value} {w : World} {A : Prop} (c : Calls P f args w (TF A w)) (h : A) : Calls P f args w fun e w' => e = .returned (.bool true) ∧ w = w' :=
  c.mono fun _ _ x => x.elim (fun y => ⟨y.1, y.2.2⟩) (fun y => absurd h y.2.1)
theorem sn {P : Program} {f : FuncId} {args : Array Value} {w : World} {A : Prop} (c : Calls P f args w (TF A w)) (h : ¬ A) : Calls P f args w fun e w' => e = .returned (.bool false) ∧ w = w' :=
  c.mono fun _ _ x => x.elim (fun y => absurd y.2.1 h) (fun y => ⟨y.1, y.2.2⟩)

end Go.Proofs.YtbnkdoilpidfaaaDoor
