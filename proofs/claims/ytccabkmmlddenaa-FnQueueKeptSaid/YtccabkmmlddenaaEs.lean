/-
  Contracts of the functions that copy, compare, mark and check slices of structs. No conditions beyond those stated.
-/
import Derived.Test.YtccabkmmlddenaaFill
import Derived.Test.YtccabkmmlddenaaBase
namespace Go.Proofs.Ytccabkmmlddenaa
open Go.RowKit

set_option maxHeartbeats 400000 in
theorem eqEntry_same (e : Nat → Int) (w : World) :
    Calls Try.prog 38 #[.agg #[.int .i64 (e 0), .int .i64 (e 1), .int .i64 (e 2), .int .i64 (e 3)], .agg #[.int .i64 (e 0), .int .i64 (e 1), .int .i64 (e 2), .int .i64 (e 3)]] w fun x w' => x = .returned (.bool true) ∧ Below w.heap.size w w' := by
  go_enter Try.func38, Try.ntmps38
  go_wp2
  go_ret
  refine ⟨rfl, ?_⟩
  (repeat (first | with_reducible exact Below.refl _ _ | with_reducible refine Below.drew ?_ | with_reducible refine below_drewN ?_ _ | (with_reducible refine bel_alloc ?_ ?_ _; (first | omega | (simp; omega) | simp)) | (with_reducible refine bel_set ?_ ?_ _; (first | omega | (simp; omega) | simp)) | (with_reducible refine bel_tr (by assumption) ?_ ?_; (first | omega | (simp; omega) | simp))))

set_option maxRecDepth 100000 in
set_option maxHeartbeats 1000000 in
theorem eqEntryS_same (A A2 : Option Addr) (n c c2 : Nat) (es : List (Nat → Int)) (w : World) (hn : n ≤ 4194304) (h : Rd w 4 A n es) (h2 : Rd w 4 A2 n es) :
    Calls Try.prog 12 #[.slice A n c, .slice A2 n c2] w fun x w' => x = .returned (.bool true) ∧ Below w.heap.size w w' := by
  have hcases := h.2
  have hcases2 := h2.2
  clear h h2
  go_enter Try.func12, Try.ntmps12
  go_wp2
  go_loopw [5] (fun i wr => ∃ k : Nat, k ≤ n ∧ i = .int .i64 k ∧ Below w.heap.size w wr) (fun i _ => n - (intOf i).toNat)
  case atStart => exact ⟨0, Nat.zero_le _, rfl, Below.refl _ _⟩
  case round =>
    obtain ⟨k, hk, rfl, hbel⟩ := hrel
    by_cases hlt : k < n
    · obtain ⟨b, off, rfl, hb, hc⟩ := hcases.resolve_left (by omega)
      obtain ⟨b2, off2, rfl, hb2, hc2⟩ := hcases2.resolve_left (by omega)
      have c0 : wr.cell? ⟨b, off + k * 4, none⟩ = some (.int .i64 (fld es k 0)) := (hbel.cell (p := ⟨b, off + k * 4, none⟩) hb).trans (hc k hlt 0 (by omega))
      have c1 : wr.cell? ⟨b, off + k * 4 + 1, none⟩ = some (.int .i64 (fld es k 1)) := (hbel.cell (p := ⟨b, off + k * 4 + 1, none⟩) hb).trans (hc k hlt 1 (by omega))
      have c2 : wr.cell? ⟨b, off + k * 4 + 2, none⟩ = some (.int .i64 (fld es k 2)) := (hbel.cell (p := ⟨b, off + k * 4 + 2, none⟩) hb).trans (hc k hlt 2 (by omega))
      have c3 : wr.cell? ⟨b, off + k * 4 + 3, none⟩ = some (.int .i64 (fld es k 3)) := (hbel.cell (p := ⟨b, off + k * 4 + 3, none⟩) hb).trans (hc k hlt 3 (by omega))
      have d0 : wr.cell? ⟨b2, off2 + k * 4, none⟩ = some (.int .i64 (fld es k 0)) := (hbel.cell (p := ⟨b2, off2 + k * 4, none⟩) hb2).trans (hc2 k hlt 0 (by omega))
      have d1 : wr.cell? ⟨b2, off2 + k * 4 + 1, none⟩ = some (.int .i64 (fld es k 1)) := (hbel.cell (p := ⟨b2, off2 + k * 4 + 1, none⟩) hb2).trans (hc2 k hlt 1 (by omega))
      have d2 : wr.cell? ⟨b2, off2 + k * 4 + 2, none⟩ = some (.int .i64 (fld es k 2)) := (hbel.cell (p := ⟨b2, off2 + k * 4 + 2, none⟩) hb2).trans (hc2 k hlt 2 (by omega))
      have d3 : wr.cell? ⟨b2, off2 + k * 4 + 3, none⟩ = some (.int .i64 (fld es k 3)) := (hbel.cell (p := ⟨b2, off2 + k * 4 + 3, none⟩) hb2).trans (hc2 k hlt 3 (by omega))
      clear hcases hc hcases2 hc2
      have hsz := hbel.size
      have hbr : b < wr.heap.size := by omega
      have hb2r : b2 < wr.heap.size := by omega
      go_wp2
      go_region_held3 (fun w' => w'.cell? ⟨b, off + k * 4, none⟩ = some (.int .i64 (fld es k 0)) ∧ w'.cell? ⟨b, off + k * 4 + 1, none⟩ = some (.int .i64 (fld es k 1)) ∧ w'.cell? ⟨b, off + k * 4 + 2, none⟩ = some (.int .i64 (fld es k 2)) ∧ w'.cell? ⟨b, off + k * 4 + 3, none⟩ = some (.int .i64 (fld es k 3)) ∧ w'.cell? ⟨b2, off2 + k * 4, none⟩ = some (.int .i64 (fld es k 0)) ∧ w'.cell? ⟨b2, off2 + k * 4 + 1, none⟩ = some (.int .i64 (fld es k 1)) ∧ w'.cell? ⟨b2, off2 + k * 4 + 2, none⟩ = some (.int .i64 (fld es k 2)) ∧ w'.cell? ⟨b2, off2 + k * 4 + 3, none⟩ = some (.int .i64 (fld es k 3))) (go_keep) ((go_at_call 38; refine (eqEntry_same (fld es k) _).mono ?_; rintro x w2 ⟨rfl, hbw⟩; have hcw0 := bcell hbw; obtain ⟨hcw, hfw⟩ := hcw0; have kcb : ∀ o, w2.cell? ⟨b, o, none⟩ = _ := (fun o => hbw.cell (p := ⟨b, o, none⟩) (by simpa using hbr)); have kcb2 : ∀ o, w2.cell? ⟨b2, o, none⟩ = _ := (fun o => hbw.cell (p := ⟨b2, o, none⟩) (by simpa using hb2r))))
      go_wp2
      go_roundw
      case rel => exact ⟨k + 1, by omega, by go_num, hbel.drew.trans (hbw.mono (by simpa using hsz))⟩
      case measure => simp [intOf]; omega
    · go_wp2
      go_ret
      exact ⟨rfl, hbel⟩

set_option maxRecDepth 100000 in
set_option maxHeartbeats 1000000 in
theorem markEntryS_any (B : Nat) (A : Option Addr) (n c m : Nat) (es : List (Nat → Int)) (w : World) (hn : n ≤ 4194304) (hm : m ≤ 1073741824) (h : Own B w 4 A n es) :
    Calls Try.prog 17 #[.slice A n c, .int .i64 m] w fun x w' => x = .returned (.int .i64 ((m + n * 4 : Nat) : Int)) ∧ Marked B 4 A n m w w' := by
  rcases Nat.eq_zero_or_pos n with h0 | h0
  · subst h0
    have hfin : Marked B 4 A 0 m w w := ⟨⟨rfl, .inl rfl⟩, World.grownBy.refl w _, rfl⟩
    clear h
    go_enter Try.func17, Try.ntmps17
    go_wp2
    go_loop [1, 5] (fun v i => v = .int .i64 (m : Int) ∧ i = .int .i64 0) (fun _ _ => 0)
    case atStart => exact ⟨rfl, rfl⟩
    case round =>
      obtain ⟨rfl, rfl⟩ := hrel
      go_wp2
      go_ret
      exact ⟨by simp, hfin⟩
  · obtain ⟨b, off, rfl, hlt, hB, hfz, hc⟩ := h.2.resolve_left (by omega)
    have hM0 : Mark b off 4 n m w w 0 := Mark.start (es := es) (by omega) hlt hfz hc
    clear h hlt hfz hc
    go_enter Try.func17, Try.ntmps17
    go_wp2
    go_loopw [1, 5] (fun v i wr => ∃ k : Nat, k ≤ n ∧ i = .int .i64 k ∧ v = .int .i64 ((m + k * 4 : Nat) : Int) ∧ Mark b off 4 n m w wr k) (fun _ i _ => n - (intOf i).toNat)
    case atStart => exact ⟨0, Nat.zero_le _, rfl, by simp, hM0⟩
    case round =>
      obtain ⟨k, hk, rfl, rfl, hM⟩ := hrel
      clear hM0
      by_cases hlt : k < n
      · obtain ⟨v, hv⟩ : ∃ v : Nat, v = m + k * 4 := ⟨_, rfl⟩
        rw [← hv]
        have hvb : v ≤ 1200000000 := by omega
        have HV := Lib.hid hv
        obtain ⟨r0, q0⟩ := Option.isSome_iff_exists.1 (hM.room (k * 4) (by omega))
        have q0 : wr.cell? ⟨b, off + k * 4, none⟩ = some r0 := by first | exact q0 | (rw [← q0]; congr 2 <;> omega)
        have z0 := hM.fz (off + k * 4)
        obtain ⟨r1, q1⟩ := Option.isSome_iff_exists.1 (hM.room (k * 4 + 1) (by omega))
        have q1 : wr.cell? ⟨b, off + k * 4 + 1, none⟩ = some r1 := by first | exact q1 | (rw [← q1]; congr 2 <;> omega)
        have z1 := hM.fz (off + k * 4 + 1)
        obtain ⟨r2, q2⟩ := Option.isSome_iff_exists.1 (hM.room (k * 4 + 2) (by omega))
        have q2 : wr.cell? ⟨b, off + k * 4 + 2, none⟩ = some r2 := by first | exact q2 | (rw [← q2]; congr 2 <;> omega)
        have z2 := hM.fz (off + k * 4 + 2)
        obtain ⟨r3, q3⟩ := Option.isSome_iff_exists.1 (hM.room (k * 4 + 3) (by omega))
        have q3 : wr.cell? ⟨b, off + k * 4 + 3, none⟩ = some r3 := by first | exact q3 | (rw [← q3]; congr 2 <;> omega)
        have z3 := hM.fz (off + k * 4 + 3)
        have hset := hM.set (vs := [.int .i64 ((v : Int)), .int .i64 ((v : Int) + 1), .int .i64 ((v : Int) + 1 + 1), .int .i64 ((v : Int) + 1 + 1 + 1)]) hlt rfl (by intro j hj; rw [← hv]; match j, hj with | 0, _ => (first | rfl | (simp; done) | (simp; omega)) | 1, _ => (first | rfl | (simp; done) | (simp; omega)) | 2, _ => (first | rfl | (simp; done) | (simp; omega)) | 3, _ => (first | rfl | (simp; done) | (simp; omega)))
        clear hM hv
        go_wp2
        go_roundw
        case rel => exact ⟨k + 1, by omega, by go_num, by rw [Nat.succ_mul]; have := HV.out; go_num, hset⟩
        case measure => simp [intOf]; omega
      · have hkn : k = n := by omega
        subst hkn
        have hown := hM.own hB
        have hfin : Marked B 4 (some ⟨b, off, none⟩) k m w wr := ⟨hown, by rw [if_neg (by omega)]; exact hM.grown, hM.size⟩
        clear hM hown
        go_wp2
        go_ret
        exact ⟨rfl, hfin⟩

set_option maxRecDepth 100000 in
set_option maxHeartbeats 1000000 in
theorem heldEntryS_any (A : Option Addr) (n c m : Nat) (w : World) (hn : n ≤ 4194304) (hm : m ≤ 1073741824) (h : Rd w 4 A n (marks 4 m n)) :
    Calls Try.prog 18 #[.slice A n c, .int .i64 m] w fun x w' => x = .returned (.int .i64 ((m + n * 4 : Nat) : Int)) ∧ w = w' := by
  have hcases := h.2
  clear h
  go_enter Try.func18, Try.ntmps18
  go_wp2
  go_loop [1, 5] (fun v i => ∃ k : Nat, k ≤ n ∧ i = .int .i64 k ∧ v = .int .i64 ((m + k * 4 : Nat) : Int)) (fun _ i => n - (intOf i).toNat)
  case atStart => exact ⟨0, Nat.zero_le _, rfl, by simp⟩
  case round =>
    obtain ⟨k, hk, rfl, rfl⟩ := hrel
    by_cases hlt : k < n
    · obtain ⟨b, off, rfl, hb, hc⟩ := hcases.resolve_left (by omega)
      obtain ⟨v, hv⟩ : ∃ v : Nat, v = m + k * 4 := ⟨_, rfl⟩
      rw [← hv]
      have hvb : v ≤ 1200000000 := by omega
      have c0 : w.cell? ⟨b, off + k * 4, none⟩ = some (.int .i64 ((v : Int))) := (hc k hlt 0 (by omega)).trans (by rw [fld_marks hlt, ← hv]; first | rfl | (simp; done) | (simp; omega))
      have c1 : w.cell? ⟨b, off + k * 4 + 1, none⟩ = some (.int .i64 ((v : Int) + 1)) := (hc k hlt 1 (by omega)).trans (by rw [fld_marks hlt, ← hv]; first | rfl | (simp; done) | (simp; omega))
      have c2 : w.cell? ⟨b, off + k * 4 + 2, none⟩ = some (.int .i64 ((v : Int) + 1 + 1)) := (hc k hlt 2 (by omega)).trans (by rw [fld_marks hlt, ← hv]; first | rfl | (simp; done) | (simp; omega))
      have c3 : w.cell? ⟨b, off + k * 4 + 3, none⟩ = some (.int .i64 ((v : Int) + 1 + 1 + 1)) := (hc k hlt 3 (by omega)).trans (by rw [fld_marks hlt, ← hv]; first | rfl | (simp; done) | (simp; omega))
      have HV := Lib.hid hv
      clear hcases hc hv
      go_wp2
      go_round
      case rel => exact ⟨k + 1, by omega, by go_num, by rw [Nat.succ_mul]; have := HV.out; go_num⟩
      case measure => simp [intOf]; omega
    · have hkn : k = n := by omega
      subst hkn
      go_wp2
      go_ret
      exact ⟨rfl, rfl⟩

end Go.Proofs.Ytccabkmmlddenaa
