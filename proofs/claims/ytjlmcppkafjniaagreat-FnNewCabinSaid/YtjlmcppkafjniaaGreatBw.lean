/-
  A region that draws its order, whose operations only read and whose callees leave all old memory alone and return what does not hang on the world: walked once.
-/
import Derived.Test.YtjlmcppkafjniaaGreatSl
import Derived.BigQuiet
namespace Go.Proofs.YtjlmcppkafjniaaGreat
open Go.RowKit

def cmp1 (x y : Int) : Int := if x < y then -1 else if y < x then 1 else 0
def cmp2 (a a2 b b2 : Int) : Int := if cmp1 a a2 != 0 then cmp1 a a2 else cmp1 b b2
def eLt (a a2 b b2 : Int) : Bool := decide (a < a2 ∨ a = a2 ∧ b < b2)
theorem eLt_cmp (a a2 b b2 : Int) : decide (cmp2 a a2 b b2 < 0) = eLt a a2 b b2 := by
  unfold cmp2 cmp1 eLt
  rw [Bool.eq_iff_iff]
  simp only [decide_eq_true_eq, bne_iff_ne]
  repeat' split
  all_goals omega

set_option maxHeartbeats 400000 in
theorem compare_any (x y : Int) (w : World) :
    Calls Tryz.prog 104 #[.int .i64 x, .int .i64 y] w fun e w' => e = .returned (.int .i64 (cmp1 x y)) ∧ w = w' := by
  rcases Int.lt_trichotomy x y with h | h | h
  · have hv : cmp1 x y = -1 := by unfold cmp1; rw [if_pos h]
    rw [hv]
    clear hv
    go_enter Tryz.func104, Tryz.ntmps104
    go_wp2
    go_ret
    exact ⟨rfl, rfl⟩
  · subst h
    have hv : cmp1 x x = 0 := by unfold cmp1; rw [if_neg (by omega), if_neg (by omega)]
    rw [hv]
    clear hv
    go_enter Tryz.func104, Tryz.ntmps104
    go_wp2
    go_ret
    exact ⟨rfl, rfl⟩
  · have hv : cmp1 x y = 1 := by unfold cmp1; rw [if_neg (by omega), if_pos h]
    rw [hv]
    clear hv
    go_enter Tryz.func104, Tryz.ntmps104
    go_wp2
    go_ret
    exact ⟨rfl, rfl⟩

set_option maxHeartbeats 400000 in
theorem compareEntries_any (a b c d a2 b2 c2 d2 : Int) (w : World) :
    Calls Tryz.prog 84 #[.agg #[.int .i64 a, .int .i64 b, .int .i64 c, .int .i64 d], .agg #[.int .i64 a2, .int .i64 b2, .int .i64 c2, .int .i64 d2]] w fun e w' => e = .returned (.int .i64 (cmp2 a a2 b b2)) ∧ Below w.heap.size w w' := by
  by_cases h : (cmp1 a a2 != 0) = true
  · have hv : cmp2 a a2 b b2 = cmp1 a a2 := by unfold cmp2; rw [if_pos h]
    rw [hv]
    clear hv
    go_enter Tryz.func84, Tryz.ntmps84
    go_wp2_with (go_at_call 104; refine (compare_any _ _ _).mono ?_; rintro e w' ⟨rfl, rfl⟩)
    go_ret
    refine ⟨rfl, ?_⟩
    (repeat (first | with_reducible exact Below.refl _ _ | with_reducible refine Below.drew ?_ | with_reducible refine below_drewN ?_ _ | (with_reducible refine bel_alloc ?_ ?_ _; (first | omega | (simp; omega) | simp)) | (with_reducible refine bel_set ?_ ?_ _; (first | omega | (simp; omega) | simp)) | (with_reducible refine bel_tr (by assumption) ?_ ?_; (first | omega | (simp; omega) | simp))))
  · have hv : cmp2 a a2 b b2 = cmp1 b b2 := by unfold cmp2; rw [if_neg h]
    rw [hv]
    have h : (cmp1 a a2 != 0) = false := by simpa using h
    clear hv
    go_enter Tryz.func84, Tryz.ntmps84
    go_wp2_with (go_at_call 104; refine (compare_any _ _ _).mono ?_; rintro e w' ⟨rfl, rfl⟩)
    go_ret
    refine ⟨rfl, ?_⟩
    (repeat (first | with_reducible exact Below.refl _ _ | with_reducible refine Below.drew ?_ | with_reducible refine below_drewN ?_ _ | (with_reducible refine bel_alloc ?_ ?_ _; (first | omega | (simp; omega) | simp)) | (with_reducible refine bel_set ?_ ?_ _; (first | omega | (simp; omega) | simp)) | (with_reducible refine bel_tr (by assumption) ?_ ?_; (first | omega | (simp; omega) | simp))))

set_option maxHeartbeats 400000 in
theorem iEntryLess_any (a b c d a2 b2 c2 d2 : Int) (w : World) :
    Calls Tryz.prog 77 #[.agg #[.int .i64 a, .int .i64 b, .int .i64 c, .int .i64 d], .agg #[.int .i64 a2, .int .i64 b2, .int .i64 c2, .int .i64 d2]] w fun e w' => e = .returned (.bool (eLt a a2 b b2)) ∧ Below w.heap.size w w' := by
  rw [← eLt_cmp]
  go_enter Tryz.func77, Tryz.ntmps77
  go_wp2_with (go_at_call 84; refine (compareEntries_any _ _ _ _ _ _ _ _ _).mono ?_; rintro e w1 ⟨rfl, hb1⟩)
  go_ret
  refine ⟨rfl, ?_⟩
  (repeat (first | with_reducible exact Below.refl _ _ | with_reducible refine Below.drew ?_ | with_reducible refine below_drewN ?_ _ | (with_reducible refine bel_alloc ?_ ?_ _; (first | omega | (simp; omega) | simp)) | (with_reducible refine bel_set ?_ ?_ _; (first | omega | (simp; omega) | simp)) | (with_reducible refine bel_tr (by assumption) ?_ ?_; (first | omega | (simp; omega) | simp))))

set_option maxHeartbeats 400000 in
theorem sEntryLess_any (a b c d a2 b2 c2 d2 : Int) (w : World) :
    Calls Tryz.prog 112 #[.agg #[.int .i64 a, .int .i64 b, .int .i64 c, .int .i64 d], .agg #[.int .i64 a2, .int .i64 b2, .int .i64 c2, .int .i64 d2]] w fun e w' => e = .returned (.bool (eLt a a2 b b2)) ∧ Below w.heap.size w w' := by
  rcases Int.lt_trichotomy a a2 with h | h | h
  · rw [show eLt a a2 b b2 = true from by unfold eLt; simp [h]]
    go_enter Tryz.func112, Tryz.ntmps112
    go_wp2
    go_ret
    refine ⟨rfl, ?_⟩
    (repeat (first | with_reducible exact Below.refl _ _ | with_reducible refine Below.drew ?_ | with_reducible refine below_drewN ?_ _ | (with_reducible refine bel_alloc ?_ ?_ _; (first | omega | (simp; omega) | simp)) | (with_reducible refine bel_set ?_ ?_ _; (first | omega | (simp; omega) | simp)) | (with_reducible refine bel_tr (by assumption) ?_ ?_; (first | omega | (simp; omega) | simp))))
  · subst h
    by_cases h : b < b2
    · rw [show eLt a a b b2 = true from by unfold eLt; simp [h]]
      go_enter Tryz.func112, Tryz.ntmps112
      go_wp2
      go_ret
      refine ⟨by first | rfl | (simp; done) | (simp; omega), ?_⟩
      (repeat (first | with_reducible exact Below.refl _ _ | with_reducible refine Below.drew ?_ | with_reducible refine below_drewN ?_ _ | (with_reducible refine bel_alloc ?_ ?_ _; (first | omega | (simp; omega) | simp)) | (with_reducible refine bel_set ?_ ?_ _; (first | omega | (simp; omega) | simp)) | (with_reducible refine bel_tr (by assumption) ?_ ?_; (first | omega | (simp; omega) | simp))))
    · rw [show eLt a a b b2 = false from by unfold eLt; simp; omega]
      go_enter Tryz.func112, Tryz.ntmps112
      go_wp2
      go_ret
      refine ⟨by first | rfl | (simp; done) | (simp; omega), ?_⟩
      (repeat (first | with_reducible exact Below.refl _ _ | with_reducible refine Below.drew ?_ | with_reducible refine below_drewN ?_ _ | (with_reducible refine bel_alloc ?_ ?_ _; (first | omega | (simp; omega) | simp)) | (with_reducible refine bel_set ?_ ?_ _; (first | omega | (simp; omega) | simp)) | (with_reducible refine bel_tr (by assumption) ?_ ?_; (first | omega | (simp; omega) | simp))))
  · rw [show eLt a a2 b b2 = false from by unfold eLt; simp; omega]
    go_enter Tryz.func112, Tryz.ntmps112
    go_wp2
    go_ret
    refine ⟨by first | rfl | (simp; done) | (simp; omega), ?_⟩
    (repeat (first | with_reducible exact Below.refl _ _ | with_reducible refine Below.drew ?_ | with_reducible refine below_drewN ?_ _ | (with_reducible refine bel_alloc ?_ ?_ _; (first | omega | (simp; omega) | simp)) | (with_reducible refine bel_set ?_ ?_ _; (first | omega | (simp; omega) | simp)) | (with_reducible refine bel_tr (by assumption) ?_ ?_; (first | omega | (simp; omega) | simp))))


end Go.Proofs.YtjlmcppkafjniaaGreat

namespace Go.Proofs.YtjlmcppkafjniaaGreat
open Go.RowKit

/-- A world behind W in which all old memory is as it was. -/
structure BW (W : World) where
  w : World
  below : Below W.heap.size W w

instance BW.inst (W : World) : Inhabited (BW W) := ⟨⟨W, Below.refl _ _⟩⟩
theorem BW.cell {W : World} (p : BW W) {b o : Nat} {v : Value} (hb : b < W.heap.size) (h : W.cell? ⟨b, o, none⟩ = some v) : p.w.cell? ⟨b, o, none⟩ = some v :=
  (p.below.cell (p := ⟨b, o, none⟩) hb).trans h
theorem wp_region_bw {P : Program} {id : Nat} {Q : Exit → Act → World → Prop} {a : Act} {w : World} {l : List Oper} (hm : P.follows .mixedOrders = true) (hB : Region.lexB .any l.toArray = true)
    (h : ∀ W, W = w → wpQuiet P l.toArray (fun w' => ∃ p : BW W, w' = p.w) (fun a' => ∀ w', (∃ p : BW W, w' = p.w) → Q .normal a' w') l a) : (Code.region id l.toArray true).wp P Q a w :=
  wp_region_quiet (C := fun w' => ∃ p : BW w, w' = p.w) hm hB ⟨⟨w.drew, Below.drew (Below.refl _ _)⟩, rfl⟩ (by simpa using h w rfl)
theorem bw_of {P : Program} {f : FuncId} {args : Array Value} {W : World} {p : BW W} {v : Value} (h : Calls P f args p.w fun e w' => e = .returned v ∧ Below p.w.heap.size p.w w') :
    Calls P f args p.w fun e w'' => e = .returned v ∧ ∃ p' : BW W, w'' = p'.w :=
  h.mono fun _ w' ⟨he, hb⟩ => ⟨he, ⟨w', p.below.trans (hb.mono p.below.size)⟩, rfl⟩
/-- .. of a callee that leaves the world alone. -/
theorem bw_same {P : Program} {f : FuncId} {args : Array Value} {W : World} {p : BW W} {v : Value} (h : Calls P f args p.w fun e w' => e = .returned v ∧ p.w = w') :
    Calls P f args p.w fun e w'' => e = .returned v ∧ ∃ p' : BW W, w'' = p'.w :=
  h.mono fun _ _ ⟨he, hb⟩ => ⟨he, p, hb.symm⟩
end Go.Proofs.YtjlmcppkafjniaaGreat
