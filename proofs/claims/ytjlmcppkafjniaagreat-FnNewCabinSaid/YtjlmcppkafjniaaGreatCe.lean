/-
  The contract of compareEntries. No conditions.
-/
import Derived.Test.YtjlmcppkafjniaaGreatIs
import Derived.Test.YtjlmcppkafjniaaGreatFa
import Derived.Test.YtjlmcppkafjniaaGreatSl
import Derived.Test.YtjlmcppkafjniaaGreatWa
namespace Go.Proofs.YtjlmcppkafjniaaGreat
open Go.RowKit

def entAt (r : Nat → Int) (now : Int) (ps : List (Nat → Int)) (i : Nat) : Nat → Int := fun j => [lvlV r (fld ps i) now, fld ps i 6, fld ps i 0, fld ps i 3].getD j 0
/-- The entries of the first k parties that wait in the cabin (ok says which). -/
def entL (ok : Nat → Bool) (r : Nat → Int) (now : Int) (ps : List (Nat → Int)) (k : Nat) : List (Nat → Int) := ((List.range k).filter ok).map (entAt r now ps)
/-- The entries of m parties from number k on. -/
def entS (ok : Nat → Bool) (r : Nat → Int) (now : Int) (ps : List (Nat → Int)) (k m : Nat) : List (Nat → Int) := ((List.range' k m).filter ok).map (entAt r now ps)
/-- ok tells the parties that wait in the cabin. -/
def OkF (ok : Nat → Bool) (n : Nat) (es : List (Nat → Int)) (r : Nat → Int) (now : Int) (ps : List (Nat → Int)) (cab : Int) : Prop := ∀ i, ok i = true ↔ (entP n es r (fld ps i) now ∧ fld ps i 1 = cab)
theorem okF_ex (n : Nat) (es : List (Nat → Int)) (r : Nat → Int) (now : Int) (ps : List (Nat → Int)) (cab : Int) : ∃ ok, OkF ok n es r now ps cab := by
  classical
  exact ⟨fun i => decide (entP n es r (fld ps i) now ∧ fld ps i 1 = cab), fun i => by simp⟩
section
variable {ok : Nat → Bool} {r : Nat → Int} {now : Int} {ps : List (Nat → Int)} {k m : Nat}
theorem entL_y (h : ok k = true) : entL ok r now ps (k + 1) = entL ok r now ps k ++ [entAt r now ps k] := by
  unfold entL
  rw [List.range_succ, List.filter_append, List.map_append]
  simp [h]
theorem entL_n (h : ok k = false) : entL ok r now ps (k + 1) = entL ok r now ps k := by
  unfold entL
  rw [List.range_succ, List.filter_append, List.map_append]
  simp [h]
theorem entL_len (ok : Nat → Bool) (r : Nat → Int) (now : Int) (ps : List (Nat → Int)) (k : Nat) : (entL ok r now ps k).length ≤ k := by
  unfold entL
  rw [List.length_map]
  have h := List.length_filter_le ok (List.range k)
  rw [List.length_range] at h
  exact h
theorem entS_y (h : ok k = true) : entS ok r now ps k (m + 1) = entAt r now ps k :: entS ok r now ps (k + 1) m := by
  unfold entS
  rw [List.range'_succ, List.filter_cons, if_pos h, List.map_cons]
theorem entS_n (h : ok k = false) : entS ok r now ps k (m + 1) = entS ok r now ps (k + 1) m := by
  unfold entS
  rw [List.range'_succ, List.filter_cons, if_neg (by rw [h]; decide)]
theorem entS_all : entS ok r now ps 0 m = entL ok r now ps m := by
  unfold entS entL
  rw [List.range_eq_range']
theorem entS_len (ok : Nat → Bool) (r : Nat → Int) (now : Int) (ps : List (Nat → Int)) (k m : Nat) : (entS ok r now ps k m).length ≤ m := by
  unfold entS
  rw [List.length_map]
  have h := List.length_filter_le ok (List.range' k m)
  rw [List.length_range'] at h
  exact h
end
theorem insF_len (e : Nat → Int) : ∀ l, (insF e l).length = l.length + 1
  | [] => rfl
  | x :: l => by
    unfold insF
    split
    · show (insF e l).length + 1 = l.length + 1 + 1
      rw [insF_len e l]
    · rfl
theorem sortR_len : ∀ l, (sortR l).length = l.length
  | [] => rfl
  | e :: l => by
    show (insF e (sortR l)).length = l.length + 1
    rw [insF_len, sortR_len l]
end Go.Proofs.YtjlmcppkafjniaaGreat

namespace Go.Proofs.YtjlmcppkafjniaaGreat
open Go.RowKit

/-- The elements from a to b stand in order. -/
def SrtR (es : List (Nat → Int)) (a b : Nat) : Prop := ∀ q, a ≤ q → q + 1 < b → ¬ ltP (fld es (q + 1)) (fld es q)
/-- The elements from a to i stand in order but for element j, which may belong further ahead. -/
def MidR (es : List (Nat → Int)) (a i j : Nat) : Prop := (∀ q, a ≤ q → q + 1 < i + 1 → q + 1 ≠ j → ¬ ltP (fld es (q + 1)) (fld es q)) ∧ (a < j → j < i → ¬ ltP (fld es (j + 1)) (fld es (j - 1)))
def OutR (es' es : List (Nat → Int)) (a b : Nat) : Prop := ∀ q, q < a ∨ b ≤ q → fld es' q = fld es q
theorem OutR.refl (es : List (Nat → Int)) (a b : Nat) : OutR es es a b := fun _ _ => rfl
theorem OutR.trans {e1 e2 e3 : List (Nat → Int)} {a b : Nat} (h : OutR e1 e2 a b) (h2 : OutR e2 e3 a b) : OutR e1 e3 a b := fun q hq => (h q hq).trans (h2 q hq)
theorem OutR.swp {es : List (Nat → Int)} {a b j : Nat} (h1 : a < j) (h2 : j < b) : OutR (swp es j) es a b := fun q hq => swp_other (by omega) (by omega)
theorem MidR.start {es : List (Nat → Int)} {a i : Nat} (h : SrtR es a i) : MidR es a i i := ⟨fun q h0 h1 h2 => h q h0 (by omega), fun _ h => absurd h (by omega)⟩
theorem MidR.stop {es : List (Nat → Int)} {a i j : Nat} (h : MidR es a i j) (h2 : j ≤ a ∨ ¬ ltP (fld es j) (fld es (j - 1))) : SrtR es a (i + 1) := fun q h0 hq => by
  by_cases h3 : q + 1 = j
  · rcases h2 with h2 | h2
    · omega
    · rw [← h3] at h2
      exact h2
  · exact h.1 q h0 hq h3
theorem MidR.step {es : List (Nat → Int)} {a i j : Nat} (h : MidR es a i j) (h0 : a < j) (hj : j ≤ i) (hi : i < es.length) (hl : ltP (fld es j) (fld es (j - 1))) : MidR (swp es j) a i (j - 1) := by
  have hjl : j < es.length := by omega
  refine ⟨fun q hqa hq hne => ?_, fun h1 h2 => ?_⟩
  · by_cases h3 : q + 1 = j
    · rw [h3, swp_at (by omega) hjl, show q = j - 1 by omega, swp_pred hjl]
      exact ltP_asymm hl
    · by_cases h4 : q = j
      · rw [h4, swp_at (by omega) hjl, swp_other (by omega) (by omega)]
        exact h.2 h0 (by omega)
      · rw [swp_other (k := q + 1) h3 hne, swp_other (k := q) h4 (by omega)]
        exact h.1 q hqa hq h3
  · rw [show j - 1 + 1 = j by omega, swp_at (by omega) hjl, swp_other (k := j - 1 - 1) (by omega) (by omega)]
    have h5 := h.1 (j - 1 - 1) (by omega) (by omega) (by omega)
    rw [show j - 1 - 1 + 1 = j - 1 by omega] at h5
    exact h5
def InsD (B K n a b : Nat) (A : Option Addr) (es : List (Nat → Int)) (w : World) (y : Ending) (w' : World) : Prop := y = .returned (.tuple #[]) ∧ ∃ es', Own B w' K A n es' ∧ Stb es' es ∧ SrtR es' a b ∧ OutR es' es a b ∧ Below B w w'
theorem SrtR.all {es : List (Nat → Int)} {n : Nat} (h : SrtR es 0 n) (hl : es.length = n) : Pw es := Pw.of_srt (fun q hq => h q (Nat.zero_le _) (by omega))
def SrD (B K n : Nat) (A : Option Addr) (es : List (Nat → Int)) (w : World) (y : Ending) (w' : World) : Prop := y = .returned (.tuple #[]) ∧ Own B w' K A n (sortR es) ∧ Below B w w'
end Go.Proofs.YtjlmcppkafjniaaGreat

namespace Go.Proofs.YtjlmcppkafjniaaGreat
open Go.RowKit

set_option maxHeartbeats 1000000 in
theorem cmpIntE_any (a b : Int) (w : World) :
    Calls Tryz.prog 104 #[.int .i64 a, .int .i64 b] w fun e w' => e = .returned (.int .i64 (cmpI a b)) ∧ w = w' := by
  rcases cmpI_cases a b with ⟨h, e⟩ | ⟨h, e⟩ | ⟨h, e⟩
  · rw [e]
    have h2 : ¬ b < a := by omega
    have h3 : ¬ a = b := by omega
    clear e
    go_enter Tryz.func104, Tryz.ntmps104
    go_wp2
    go_ret
    exact ⟨rfl, rfl⟩
  · rw [e]
    subst h
    have h2 : ¬ a < a := by omega
    clear e
    go_enter Tryz.func104, Tryz.ntmps104
    go_wp2
    go_ret
    exact ⟨rfl, rfl⟩
  · rw [e]
    have h2 : ¬ a < b := by omega
    have h3 : ¬ a = b := by omega
    clear e
    go_enter Tryz.func104, Tryz.ntmps104
    go_wp2
    go_ret
    exact ⟨rfl, rfl⟩

set_option maxHeartbeats 1000000 in
theorem compareE_any (a b : Nat → Int) (w : World) :
    Calls Tryz.prog 84 #[.agg #[.int .i64 (a 0), .int .i64 (a 1), .int .i64 (a 2), .int .i64 (a 3)], .agg #[.int .i64 (b 0), .int .i64 (b 1), .int .i64 (b 2), .int .i64 (b 3)]] w fun e w' => e = .returned (.int .i64 (cmpP a b)) ∧ Below w.heap.size w w' := by
  by_cases h : cmpI (a 0) (b 0) = 0
  · rw [show cmpP a b = cmpI (a 1) (b 1) from if_pos h]
    go_enter Tryz.func84, Tryz.ntmps84
    go_wp2_with (go_at_call 104; refine (cmpIntE_any _ _ _).mono ?_; rintro y w9 ⟨rfl, rfl⟩)
    go_ret
    exact ⟨rfl, by (repeat (first | with_reducible exact Below.refl _ _ | with_reducible refine Below.drew ?_ | with_reducible refine below_drewN ?_ _ | (with_reducible refine bel_alloc ?_ ?_ _; (first | omega | (simp; omega) | simp)) | (with_reducible refine bel_set ?_ ?_ _; (first | omega | (simp; omega) | simp)) | (with_reducible refine bel_tr (by assumption) ?_ ?_; (first | omega | (simp; omega) | simp))))⟩
  · rw [show cmpP a b = cmpI (a 0) (b 0) from if_neg h]
    go_enter Tryz.func84, Tryz.ntmps84
    go_wp2_with (go_at_call 104; refine (cmpIntE_any _ _ _).mono ?_; rintro y w9 ⟨rfl, rfl⟩)
    go_ret
    exact ⟨rfl, by (repeat (first | with_reducible exact Below.refl _ _ | with_reducible refine Below.drew ?_ | with_reducible refine below_drewN ?_ _ | (with_reducible refine bel_alloc ?_ ?_ _; (first | omega | (simp; omega) | simp)) | (with_reducible refine bel_set ?_ ?_ _; (first | omega | (simp; omega) | simp)) | (with_reducible refine bel_tr (by assumption) ?_ ?_; (first | omega | (simp; omega) | simp))))⟩
end Go.Proofs.YtjlmcppkafjniaaGreat
