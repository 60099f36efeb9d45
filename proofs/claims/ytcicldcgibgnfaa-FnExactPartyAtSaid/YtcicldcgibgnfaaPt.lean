/-
  Contracts of the place of a party, of the program and of the reference. No conditions beyond those stated.
-/
import Derived.Test.YtcicldcgibgnfaaPs
import Derived.Test.YtcicldcgibgnfaaAt
namespace Go.Proofs.Ytcicldcgibgnfaa
open Go.RowKit

/-- Element i has this Id. -/
def hasPid (es : List (Nat → Int)) (id : Int) (i : Nat) : Bool := fld es i 0 == id

set_option maxRecDepth 100000 in
set_option maxHeartbeats 400000 in
theorem sPartyAt_any (A : Option Addr) (n c : Nat) (id : Int) (es : List (Nat → Int)) (w : World) (hn : n ≤ 4194304) (h : Rd w 10 A n es) :
    Calls Try.prog 13 #[.slice A n c, .int .i64 id] w (IntP (FirstAt (hasPid es id) n) w) := by
  have hcases := h.2
  clear h
  go_enter Try.func13, Try.ntmps13
  go_wp2
  go_loop [5] (fun i => ∃ k : Nat, k ≤ n ∧ i = .int .i64 k ∧ Hid (∀ i, i < k → hasPid es id i = false)) (fun i => n - (intOf i).toNat)
  case atStart => exact ⟨0, Nat.zero_le _, rfl, fun i hi => absurd hi (by omega)⟩
  case round =>
    obtain ⟨k, hk, rfl, hno⟩ := hrel
    by_cases hlt : k < n
    · obtain ⟨b, off, rfl, hb, hc⟩ := hcases.resolve_left (by omega)
      have c2 : w.cell? ⟨b, off + k * 10, none⟩ = some (.int .i64 (fld es k 0)) := hc k hlt 0 (by omega)
      clear hcases hc
      rcases Bool.eq_false_or_eq_true (fld es k 0 == id) with hp | hp
      · go_wp2
        go_ret
        exact ⟨k, .inl ⟨k, hlt, rfl, hp, hno.out⟩, rfl, Below.refl _ _⟩
      · have hno' : Hid (∀ i, i < k + 1 → hasPid es id i = false) := fun i hi => by
          rcases Nat.lt_or_ge i k with h | h
          · exact hno.out i h
          · obtain rfl : i = k := by omega
            exact hp
        clear hno
        go_wp2
        go_round
        case rel => exact ⟨k + 1, by omega, by go_num, hno'⟩
        case measure => simp [intOf]; omega
    · have hkn : k = n := by omega
      subst hkn
      go_wp2
      go_ret
      exact ⟨-1, .inr ⟨rfl, hno.out⟩, rfl, Below.refl _ _⟩

set_option maxRecDepth 100000 in
set_option maxHeartbeats 1000000 in
theorem indexFunc_pat (p0 : Nat) (p : (Nat → Int) → Bool) (A : Option Addr) (n c : Nat) (es : List (Nat → Int)) (w : World) (hn : n ≤ 4194304) (h : Rd w 10 A n es)
    (hp : ∀ (w1 : World) (e : Nat → Int), Below w.heap.size w w1 → Calls Try.prog 27 #[.agg #[.int .i64 (e 0), .int .i64 (e 1), .int .i64 (e 2), .int .i64 (e 3), .int .i64 (e 4), .int .i64 (e 5), .int .i64 (e 6), .int .i64 (e 7), .int .i64 (e 8), .int .i64 (e 9)], .pointer (some ⟨p0, 0, none⟩)] w1 fun x w' => x = .returned (.bool (p e)) ∧ Below w1.heap.size w1 w') :
    Calls Try.prog 26 #[.slice A n c, .func (.func 27) #[] #[.pointer (some ⟨p0, 0, none⟩)]] w (IntP (FirstAt (fun i => p (fld es i)) n) w) := by
  have hcases := h.2
  have HP := Lib.hid hp
  clear h hp
  go_enter Try.func26, Try.ntmps26
  go_wp2
  go_loopw [5, 8] (fun j i wr => ∃ k : Nat, k ≤ n ∧ i = .int .i64 k ∧ Below w.heap.size w wr ∧ Hid (∀ i, i < k → p (fld es i) = false)) (fun _ i _ => n - (intOf i).toNat)
  case atStart => exact ⟨0, Nat.zero_le _, rfl, Below.refl _ _, fun i hi => absurd hi (by omega)⟩
  case round =>
    obtain ⟨k, hk, rfl, hbel, hno⟩ := hrel
    by_cases hlt : k < n
    · obtain ⟨b, off, rfl, hb, hc⟩ := hcases.resolve_left (by omega)
      have c0 : wr.cell? ⟨b, off + k * 10, none⟩ = some (.int .i64 (fld es k 0)) := (hbel.cell (p := ⟨b, off + k * 10, none⟩) hb).trans (hc k hlt 0 (by omega))
      have c1 : wr.cell? ⟨b, off + k * 10 + 1, none⟩ = some (.int .i64 (fld es k 1)) := (hbel.cell (p := ⟨b, off + k * 10 + 1, none⟩) hb).trans (hc k hlt 1 (by omega))
      have c2 : wr.cell? ⟨b, off + k * 10 + 2, none⟩ = some (.int .i64 (fld es k 2)) := (hbel.cell (p := ⟨b, off + k * 10 + 2, none⟩) hb).trans (hc k hlt 2 (by omega))
      have c3 : wr.cell? ⟨b, off + k * 10 + 3, none⟩ = some (.int .i64 (fld es k 3)) := (hbel.cell (p := ⟨b, off + k * 10 + 3, none⟩) hb).trans (hc k hlt 3 (by omega))
      have c4 : wr.cell? ⟨b, off + k * 10 + 4, none⟩ = some (.int .i64 (fld es k 4)) := (hbel.cell (p := ⟨b, off + k * 10 + 4, none⟩) hb).trans (hc k hlt 4 (by omega))
      have c5 : wr.cell? ⟨b, off + k * 10 + 5, none⟩ = some (.int .i64 (fld es k 5)) := (hbel.cell (p := ⟨b, off + k * 10 + 5, none⟩) hb).trans (hc k hlt 5 (by omega))
      have c6 : wr.cell? ⟨b, off + k * 10 + 6, none⟩ = some (.int .i64 (fld es k 6)) := (hbel.cell (p := ⟨b, off + k * 10 + 6, none⟩) hb).trans (hc k hlt 6 (by omega))
      have c7 : wr.cell? ⟨b, off + k * 10 + 7, none⟩ = some (.int .i64 (fld es k 7)) := (hbel.cell (p := ⟨b, off + k * 10 + 7, none⟩) hb).trans (hc k hlt 7 (by omega))
      have c8 : wr.cell? ⟨b, off + k * 10 + 8, none⟩ = some (.int .i64 (fld es k 8)) := (hbel.cell (p := ⟨b, off + k * 10 + 8, none⟩) hb).trans (hc k hlt 8 (by omega))
      have c9 : wr.cell? ⟨b, off + k * 10 + 9, none⟩ = some (.int .i64 (fld es k 9)) := (hbel.cell (p := ⟨b, off + k * 10 + 9, none⟩) hb).trans (hc k hlt 9 (by omega))
      clear hcases hc
      have hsz := hbel.size
      go_wp2_with fail
      refine (HP.out wr (fld es k) hbel).mono ?_
      rintro x w2 ⟨rfl, hb2⟩
      have hbel2 := hbel.trans (hb2.mono hsz)
      rcases Bool.eq_false_or_eq_true (p (fld es k)) with hpk | hpk
      · clear hbel hb2
        go_wp2
        go_ret
        exact ⟨k, .inl ⟨k, hlt, rfl, hpk, hno.out⟩, rfl, hbel2⟩
      · have hno' : Hid (∀ i, i < k + 1 → p (fld es i) = false) := fun i hi => by
          rcases Nat.lt_or_ge i k with h | h
          · exact hno.out i h
          · obtain rfl : i = k := by omega
            exact hpk
        clear hno hbel hb2
        go_wp2
        go_roundw
        case rel => exact ⟨k + 1, by omega, by go_num, hbel2, hno'⟩
        case measure => simp [intOf]; omega
    · have hkn : k = n := by omega
      subst hkn
      go_wp2
      go_ret
      exact ⟨-1, .inr ⟨rfl, hno.out⟩, rfl, hbel⟩

set_option maxRecDepth 100000 in
set_option maxHeartbeats 400000 in
theorem atpClo_any (bid : Nat) (id : Int) (e : Nat → Int) (w : World) (hb : bid < w.heap.size) (hc : w.cell? ⟨bid, 0, none⟩ = some (.int .i64 id)) :
    Calls Try.prog 27 #[.agg #[.int .i64 (e 0), .int .i64 (e 1), .int .i64 (e 2), .int .i64 (e 3), .int .i64 (e 4), .int .i64 (e 5), .int .i64 (e 6), .int .i64 (e 7), .int .i64 (e 8), .int .i64 (e 9)], .pointer (some ⟨bid, 0, none⟩)] w fun x w' => x = .returned (.bool (e 0 == id)) ∧ Below w.heap.size w w' := by
  go_enter Try.func27, Try.ntmps27
  go_wp2
  go_ret
  refine ⟨rfl, ?_⟩
  (repeat (first | with_reducible exact Below.refl _ _ | with_reducible refine Below.drew ?_ | with_reducible refine below_drewN ?_ _ | (with_reducible refine bel_alloc ?_ ?_ _; (first | omega | (simp; omega) | simp)) | (with_reducible refine bel_set ?_ ?_ _; (first | omega | (simp; omega) | simp)) | (with_reducible refine bel_tr (by assumption) ?_ ?_; (first | omega | (simp; omega) | simp))))

set_option maxRecDepth 100000 in
set_option maxHeartbeats 400000 in
theorem iPartyAt_any (A : Option Addr) (n c : Nat) (id : Int) (es : List (Nat → Int)) (w : World) (hn : n ≤ 4194304) (h : Rd w 10 A n es) :
    Calls Try.prog 18 #[.slice A n c, .int .i64 id] w (IntP (FirstAt (hasPid es id) n) w) := by
  have H := Lib.hid h
  clear h
  go_enter Try.func18, Try.ntmps18
  go_wp2_with fail
  refine (indexFunc_pat w.heap.size (fun e => e 0 == id) A n c es _ hn (H.out.below ((Below.refl _ _).alloc (Nat.le_refl _) _)) ?_).mono ?_
  · intro w1 e hb
    have hlt : w.heap.size < w1.heap.size := by have := hb.size; simp at this; omega
    refine atpClo_any w.heap.size id e w1 hlt ?_
    rw [hb.cell (p := ⟨w.heap.size, 0, none⟩) (by simp)]
    simp
  · rintro x w1 ⟨r, hr, rfl, hb1⟩
    have HR := Lib.hid hr
    clear hr
    go_wp2
    go_ret
    refine ⟨r, HR.out, rfl, ?_⟩
    (repeat (first | with_reducible exact Below.refl _ _ | with_reducible refine Below.drew ?_ | with_reducible refine below_drewN ?_ _ | (with_reducible refine bel_alloc ?_ ?_ _; (first | omega | (simp; omega) | simp)) | (with_reducible refine bel_set ?_ ?_ _; (first | omega | (simp; omega) | simp)) | (with_reducible refine bel_tr (by assumption) ?_ ?_; (first | omega | (simp; omega) | simp))))

end Go.Proofs.Ytcicldcgibgnfaa
