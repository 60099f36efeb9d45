/-
  Contracts of the ledger functions of the program and of the reference. No conditions beyond those stated.
-/
import Derived.Test.YteimoaeihemfoaaRows
import Derived.WalkKit
import Derived.WalkSpells
import Derived.WalkLawsBesides
import Derived.RegionTactic
import Derived.BigRegion
import Derived.ChangeAlike
namespace Go.Proofs.Yteimoaeihemfoaa
open Go.RowKit

theorem below_drewN {B : Nat} {a w : World} (h : Below B a w) (n : Nat) : Below B a (w.drewN n) := ⟨h.os, h.tape, h.output, h.size, h.block⟩
theorem bel_alloc {B : Nat} {a w : World} (hB : B ≤ w.heap.size) (h : Below B a w) (o : Obj) : Below B a (w.alloc o) := h.alloc hB o
theorem bel_set {B : Nat} {a w : World} {p : Addr} (hp : B ≤ p.block) (h : Below B a w) (u : Value) : Below B a (w.setCell p u) := h.setCell hp u
theorem bel_tr {B B' : Nat} {a b c : World} (k : Below B' b c) (hB : B ≤ B') (h : Below B a b) : Below B a c := h.trans (k.mono hB)
theorem bcell {W w1 : World} (hb : Below W.heap.size W w1) : (∀ b o, b < W.heap.size → w1.cell? ⟨b, o, none⟩ = W.cell? ⟨b, o, none⟩) ∧ (∀ b o, b < W.heap.size → w1.frozen? ⟨b, o, none⟩ = W.frozen? ⟨b, o, none⟩) :=
  ⟨fun b o h => hb.cell (p := ⟨b, o, none⟩) h, fun b o h => hb.frozen (p := ⟨b, o, none⟩) h⟩

def TF (P : Prop) (w : World) (e : Ending) (w' : World) : Prop := (e = .returned (.bool true) ∧ P ∧ w = w') ∨ (e = .returned (.bool false) ∧ ¬ P ∧ w = w')
def TFB (P : Prop) (w : World) (e : Ending) (w' : World) : Prop := (e = .returned (.bool true) ∧ P ∧ Below w.heap.size w w') ∨ (e = .returned (.bool false) ∧ ¬ P ∧ Below w.heap.size w w')
def LOk (t f h s d : Int) : Prop := (1 ≤ t ∧ t ≤ 60) ∧ (0 ≤ f ∧ f ≤ t) ∧ (0 ≤ h ∧ h ≤ t) ∧ (0 ≤ s ∧ s ≤ t) ∧ f + h + s = t ∧ 0 ≤ d ∧ d ≤ s

set_option maxHeartbeats 400000 in
theorem within_any (n a b : Int) (w : World) :
    Calls Try.prog 22 #[.int .i64 n, .int .i64 a, .int .i64 b] w (TF (a ≤ n ∧ n ≤ b) w) := by
  go_enter Try.func22, Try.ntmps22
  by_cases h1 : a ≤ n <;> by_cases h2 : n ≤ b
  all_goals go_wp2
  all_goals go_ret
  · exact .inl ⟨by simp <;> omega, ⟨h1, h2⟩, rfl⟩
  · exact .inr ⟨by simp <;> omega, by omega, rfl⟩
  · exact .inr ⟨by simp, by omega, rfl⟩
  · exact .inr ⟨by simp, by omega, rfl⟩

set_option maxHeartbeats 400000 in
theorem l1In_any (n a b : Int) (w : World) :
    Calls Try.prog 21 #[.int .i64 n, .int .i64 a, .int .i64 b] w (TF (a ≤ n ∧ n ≤ b) w) := by
  go_enter Try.func21, Try.ntmps21
  by_cases h1 : a ≤ n <;> by_cases h2 : n ≤ b
  all_goals go_wp2
  all_goals go_ret
  · exact .inl ⟨by simp <;> omega, ⟨h1, h2⟩, rfl⟩
  · exact .inr ⟨by simp <;> omega, by omega, rfl⟩
  · exact .inr ⟨by simp, by omega, rfl⟩
  · exact .inr ⟨by simp, by omega, rfl⟩
set_option maxHeartbeats 400000 in
theorem okI_any (t f h s d : Int) (w : World) :
    Calls Try.prog 10 #[.agg #[.int .i64 t, .int .i64 f, .int .i64 h, .int .i64 s, .int .i64 d]] w (TFB (LOk t f h s d) w) := by
  go_enter Try.func10, Try.ntmps10
  go_wp2_with (go_at_call 22; refine (within_any _ _ _ _).mono ?_; rintro e w' (⟨rfl, ⟨h1, h2⟩, rfl⟩ | ⟨rfl, h1, rfl⟩))
  all_goals go_ret
  all_goals first
    | exact .inl ⟨rfl, by unfold LOk; omega, (Below.refl _ _).alloc (Nat.le_refl _) _⟩
    | exact .inr ⟨rfl, by unfold LOk; omega, (Below.refl _ _).alloc (Nat.le_refl _) _⟩

set_option maxHeartbeats 400000 in
theorem okS_any (t f h s d : Int) (w : World) :
    Calls Try.prog 8 #[.agg #[.int .i64 t, .int .i64 f, .int .i64 h, .int .i64 s, .int .i64 d]] w (TFB (LOk t f h s d) w) := by
  go_enter Try.func8, Try.ntmps8
  go_wp2_with (go_at_call 21; refine (l1In_any _ _ _ _).mono ?_; rintro e w' (⟨rfl, ⟨h1, h2⟩, rfl⟩ | ⟨rfl, h1, rfl⟩))
  all_goals go_ret
  all_goals first
    | exact .inl ⟨rfl, by unfold LOk; omega, (Below.refl _ _).alloc (Nat.le_refl _) _⟩
    | exact .inr ⟨rfl, by unfold LOk; omega, (Below.refl _ _).alloc (Nat.le_refl _) _⟩

set_option maxHeartbeats 400000 in
theorem toLedger_any (t f h s d : Int) (w : World) :
    Calls Try.prog 9 #[.agg #[.int .i64 t, .int .i64 f, .int .i64 h, .int .i64 s, .int .i64 d]] w fun e w' => e = .returned (.agg #[.int .i64 t, .int .i64 f, .int .i64 h, .int .i64 s, .int .i64 d]) ∧ Below w.heap.size w w' := by
  go_enter Try.func9, Try.ntmps9
  go_wp2
  refine bodyPost_ret (v := .agg #[.int .i64 t, .int .i64 f, .int .i64 h, .int .i64 s, .int .i64 d]) (by simp [results, Try.results9, go_sem]) rfl ⟨rfl, ?_⟩
  (repeat (first | with_reducible exact Below.refl _ _ | with_reducible refine Below.drew ?_ | with_reducible refine below_drewN ?_ _ | (with_reducible refine bel_alloc ?_ ?_ _; (first | omega | (simp; omega) | simp)) | (with_reducible refine bel_set ?_ ?_ _; (first | omega | (simp; omega) | simp)) | (with_reducible refine bel_tr (by assumption) ?_ ?_; (first | omega | (simp; omega) | simp))))

set_option maxHeartbeats 400000 in
theorem eqLedger_any (t f h s d : Int) (w : World) :
    Calls Try.prog 13 #[.agg #[.int .i64 t, .int .i64 f, .int .i64 h, .int .i64 s, .int .i64 d], .agg #[.int .i64 t, .int .i64 f, .int .i64 h, .int .i64 s, .int .i64 d]] w fun e w' => e = .returned (.bool true) ∧ Below w.heap.size w w' := by
  go_enter Try.func13, Try.ntmps13
  go_wp2
  go_ret
  refine ⟨rfl, ?_⟩
  (repeat (first | with_reducible exact Below.refl _ _ | with_reducible refine Below.drew ?_ | with_reducible refine below_drewN ?_ _ | (with_reducible refine bel_alloc ?_ ?_ _; (first | omega | (simp; omega) | simp)) | (with_reducible refine bel_set ?_ ?_ _; (first | omega | (simp; omega) | simp)) | (with_reducible refine bel_tr (by assumption) ?_ ?_; (first | omega | (simp; omega) | simp))))
end Go.Proofs.Yteimoaeihemfoaa
