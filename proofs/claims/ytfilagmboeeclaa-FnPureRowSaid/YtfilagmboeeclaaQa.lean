/-
  Contracts of QueueAt of the program and of the reference. No conditions beyond those stated.
-/
import Derived.Test.YtfilagmboeeclaaEs
import Derived.Test.YtfilagmboeeclaaAt
namespace Go.Proofs.Ytfilagmboeeclaa
open Go.RowKit

/-- Element i has this Id. -/
def hasId (es : List (Nat → Int)) (id : Int) (i : Nat) : Bool := fld es i 2 == id

set_option maxHeartbeats 400000 in
theorem sQueueAt_any (A : Option Addr) (n c : Nat) (id : Int) (es : List (Nat → Int)) (w : World) (hn : n ≤ 4194304) (h : Rd w 4 A n es) :
    Calls Try.prog 31 #[.slice A n c, .int .i64 id] w (IntP (FirstAt (hasId es id) n) w) := by
  have hcases := h.2
  clear h
  go_enter Try.func31, Try.ntmps31
  go_wp2
  go_loop [5] (fun i => ∃ k : Nat, k ≤ n ∧ i = .int .i64 k ∧ Hid (∀ i, i < k → hasId es id i = false)) (fun i => n - (intOf i).toNat)
  case atStart => exact ⟨0, Nat.zero_le _, rfl, fun i hi => absurd hi (by omega)⟩
  case round =>
    obtain ⟨k, hk, rfl, hno⟩ := hrel
    by_cases hlt : k < n
    · obtain ⟨b, off, rfl, hb, hc⟩ := hcases.resolve_left (by omega)
      have c2 := hc k hlt 2 (by omega)
      clear hcases hc
      rcases Bool.eq_false_or_eq_true (fld es k 2 == id) with hp | hp
      · go_wp2
        go_ret
        exact ⟨k, .inl ⟨k, hlt, rfl, hp, hno.out⟩, rfl, Below.refl _ _⟩
      · have hno' : Hid (∀ i, i < k + 1 → hasId es id i = false) := fun i hi => by
          rcases Nat.lt_or_ge i k with h | h
          · exact hno.out i h
          · obtain rfl : i = k := by omega
            exact hp
        clear hno
        go_wp2
        go_round
        case rel => exact ⟨k + 1, by omega, by go_num, hno'⟩
        case measure => simp [intOf]; omega
    · have hkn : k = n := by omega
      subst hkn
      go_wp2
      go_ret
      exact ⟨-1, .inr ⟨rfl, hno.out⟩, rfl, Below.refl _ _⟩

set_option maxHeartbeats 1000000 in
theorem indexFunc_at (p0 : Nat) (p : (Nat → Int) → Bool) (A : Option Addr) (n c : Nat) (es : List (Nat → Int)) (w : World) (hn : n ≤ 4194304) (h : Rd w 4 A n es)
    (hp : ∀ (w1 : World) (e : Nat → Int), Below w.heap.size w w1 → Calls Try.prog 33 #[.agg #[.int .i64 (e 0), .int .i64 (e 1), .int .i64 (e 2), .int .i64 (e 3)], .pointer (some ⟨p0, 0, none⟩)] w1 fun x w' => x = .returned (.bool (p e)) ∧ Below w1.heap.size w1 w') :
    Calls Try.prog 32 #[.slice A n c, .func (.func 33) #[] #[.pointer (some ⟨p0, 0, none⟩)]] w (IntP (FirstAt (fun i => p (fld es i)) n) w) := by
  have hcases := h.2
  have HP := Lib.hid hp
  clear h hp
  go_enter Try.func32, Try.ntmps32
  go_wp2
  go_loopw [5, 8] (fun j i wr => ∃ k : Nat, k ≤ n ∧ i = .int .i64 k ∧ Below w.heap.size w wr ∧ Hid (∀ i, i < k → p (fld es i) = false)) (fun _ i _ => n - (intOf i).toNat)
  case atStart => exact ⟨0, Nat.zero_le _, rfl, Below.refl _ _, fun i hi => absurd hi (by omega)⟩
  case round =>
    obtain ⟨k, hk, rfl, hbel, hno⟩ := hrel
    by_cases hlt : k < n
    · obtain ⟨b, off, rfl, hb, hc⟩ := hcases.resolve_left (by omega)
      have c0 : wr.cell? ⟨b, off + k * 4, none⟩ = some (.int .i64 (fld es k 0)) := (hbel.cell (p := ⟨b, off + k * 4, none⟩) hb).trans (hc k hlt 0 (by omega))
      have c1 : wr.cell? ⟨b, off + k * 4 + 1, none⟩ = some (.int .i64 (fld es k 1)) := (hbel.cell (p := ⟨b, off + k * 4 + 1, none⟩) hb).trans (hc k hlt 1 (by omega))
      have c2 : wr.cell? ⟨b, off + k * 4 + 2, none⟩ = some (.int .i64 (fld es k 2)) := (hbel.cell (p := ⟨b, off + k * 4 + 2, none⟩) hb).trans (hc k hlt 2 (by omega))
      have c3 : wr.cell? ⟨b, off + k * 4 + 3, none⟩ = some (.int .i64 (fld es k 3)) := (hbel.cell (p := ⟨b, off + k * 4 + 3, none⟩) hb).trans (hc k hlt 3 (by omega))
      clear hcases hc
      have hsz := hbel.size
      go_wp2_with fail
      refine (HP.out wr (fld es k) hbel).mono ?_
      rintro x w2 ⟨rfl, hb2⟩
      have hbel2 := hbel.trans (hb2.mono hsz)
      rcases Bool.eq_false_or_eq_true (p (fld es k)) with hpk | hpk
      · clear hbel hb2
        go_wp2
        go_ret
        exact ⟨k, .inl ⟨k, hlt, rfl, hpk, hno.out⟩, rfl, hbel2⟩
      · have hno' : Hid (∀ i, i < k + 1 → p (fld es i) = false) := fun i hi => by
          rcases Nat.lt_or_ge i k with h | h
          · exact hno.out i h
          · obtain rfl : i = k := by omega
            exact hpk
        clear hno hbel hb2
        go_wp2
        go_roundw
        case rel => exact ⟨k + 1, by omega, by go_num, hbel2, hno'⟩
        case measure => simp [intOf]; omega
    · have hkn : k = n := by omega
      subst hkn
      go_wp2
      go_ret
      exact ⟨-1, .inr ⟨rfl, hno.out⟩, rfl, hbel⟩

set_option maxHeartbeats 400000 in
theorem atClo_any (bid : Nat) (id : Int) (e : Nat → Int) (w : World) (hb : bid < w.heap.size) (hc : w.cell? ⟨bid, 0, none⟩ = some (.int .i64 id)) :
    Calls Try.prog 33 #[.agg #[.int .i64 (e 0), .int .i64 (e 1), .int .i64 (e 2), .int .i64 (e 3)], .pointer (some ⟨bid, 0, none⟩)] w fun x w' => x = .returned (.bool (e 2 == id)) ∧ Below w.heap.size w w' := by
  go_enter Try.func33, Try.ntmps33
  go_wp2
  go_ret
  refine ⟨rfl, ?_⟩
  (repeat (first | with_reducible exact Below.refl _ _ | with_reducible refine Below.drew ?_ | with_reducible refine below_drewN ?_ _ | (with_reducible refine bel_alloc ?_ ?_ _; (first | omega | (simp; omega) | simp)) | (with_reducible refine bel_set ?_ ?_ _; (first | omega | (simp; omega) | simp)) | (with_reducible refine bel_tr (by assumption) ?_ ?_; (first | omega | (simp; omega) | simp))))

set_option maxHeartbeats 400000 in
theorem iQueueAt_any (A : Option Addr) (n c : Nat) (id : Int) (es : List (Nat → Int)) (w : World) (hn : n ≤ 4194304) (h : Rd w 4 A n es) :
    Calls Try.prog 19 #[.slice A n c, .int .i64 id] w (IntP (FirstAt (hasId es id) n) w) := by
  have H := Lib.hid h
  clear h
  go_enter Try.func19, Try.ntmps19
  go_wp2_with fail
  refine (indexFunc_at w.heap.size (fun e => e 2 == id) A n c es _ hn (H.out.below ((Below.refl _ _).alloc (Nat.le_refl _) _)) ?_).mono ?_
  · intro w1 e hb
    have hlt : w.heap.size < w1.heap.size := by have := hb.size; simp at this; omega
    refine atClo_any w.heap.size id e w1 hlt ?_
    rw [hb.cell (p := ⟨w.heap.size, 0, none⟩) (by simp)]
    simp
  · rintro x w1 ⟨r, hr, rfl, hb1⟩
    have HR := Lib.hid hr
    clear hr
    go_wp2
    go_ret
    refine ⟨r, HR.out, rfl, ?_⟩
    (repeat (first | with_reducible exact Below.refl _ _ | with_reducible refine Below.drew ?_ | with_reducible refine below_drewN ?_ _ | (with_reducible refine bel_alloc ?_ ?_ _; (first | omega | (simp; omega) | simp)) | (with_reducible refine bel_set ?_ ?_ _; (first | omega | (simp; omega) | simp)) | (with_reducible refine bel_tr (by assumption) ?_ ?_; (first | omega | (simp; omega) | simp))))

end Go.Proofs.Ytfilagmboeeclaa
