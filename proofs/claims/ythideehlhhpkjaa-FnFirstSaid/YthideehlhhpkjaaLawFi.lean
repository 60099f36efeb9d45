/-
  Walk of the law FnFirst: it returns true and leaves old memory alone.
-/
import Derived.Test.YthideehlhhpkjaaFi4
namespace Go.Proofs.Ythideehlhhpkjaa
open Go.RowKit

set_option maxRecDepth 100000 in
set_option maxHeartbeats 8000000 in
theorem lawFnFirst (A : Option Addr) (n c : Nat) (w : World) (hn0 : n ≤ 9223372036854775807) (hB : RdB w A n) :
    Calls Try.prog 8 #[.slice A n c] w fun y w' => y = .returned (.bool true) ∧ Below w.heap.size w w' := by
  by_cases hn : n ≤ 1048576
  case neg =>
    have hbig : decide (1048576 < n) = true := by simp; omega
    go_enter Try.func8, Try.ntmps8
    go_wp2_with fail
    refine (big_any A n c _).mono ?_
    rintro y _ ⟨rfl, rfl⟩
    go_wp2
    go_ret
    exact ⟨rfl, Below.refl _ _⟩
  have HB := Lib.hid hB
  clear hB
  have hbig : decide (1048576 < n) = false := by simpa using hn
  go_enter Try.func8, Try.ntmps8
  go_wp2_with fail
  refine (big_any A n c _).mono ?_
  rintro y _ ⟨rfl, rfl⟩
  go_wp2_with fail
  refine (drawFF_any A n c _ hn HB.out).mono ?_
  rintro y w1 ⟨A1, N, c1, x, A2, m, c2, rfl, hN, hm, ⟨es, r1⟩, ⟨ss, r2⟩, b1⟩
  have s1 := b1.size
  have R1 := Lib.hid r1
  have R2 := Lib.hid r2
  have HC := Lib.hid r1.2
  clear r1 r2
  go_wp2_with fail
  refine (iFirstFit_any A1 A2 N c1 m c2 x es ss _ (by omega) (by omega) R1.out R2.out).mono ?_
  rintro y w2 ⟨r, hr, rfl, b2⟩
  have s2 := b2.size
  rcases hr with ⟨k, hk, rfl, hp, hno⟩ | ⟨rfl, hall⟩
  · have HP := Lib.hid hp
    have HNO := Lib.hid hno
    have hk1 : ¬ (k : Int) < 0 := by omega
    have hk2 : ¬ (k : Int) < -1 := by omega
    have hk3 : ¬ (N : Int) < (k : Int) := by omega
    have hk4 : ¬ (N : Int) ≤ (k : Int) := by omega
    have hd1 : decide (N < k) = false := by simp <;> omega
    have hd2 : decide (N ≤ k) = false := by simp <;> omega
    have hd3 : decide ((k : Int) < -1) = false := by simp <;> omega
    have hd4 : decide ((k : Int) < 0) = false := by simp
    clear hp hno
    go_wp2
    go_loopw [2, 8] (fun _ i wr => ∃ j : Nat, j ≤ k ∧ i = .int .i64 j ∧ Below w1.heap.size w1 wr) (fun _ i _ => k - (intOf i).toNat)
    case atStart => exact ⟨0, Nat.zero_le _, rfl, by (repeat (first | with_reducible exact Below.refl _ _ | with_reducible refine Below.drew ?_ | with_reducible refine below_drewN ?_ _ | (with_reducible refine bel_alloc ?_ ?_ _; (first | omega | (simp; omega) | simp)) | (with_reducible refine bel_set ?_ ?_ _; (first | omega | (simp; omega) | simp)) | (with_reducible refine bel_tr (by assumption) ?_ ?_; (first | omega | (simp; omega) | simp))))⟩
    case round =>
      obtain ⟨j, hj, rfl, hbel⟩ := hrel
      have hsz := hbel.size
      by_cases hlt : j < k
      · have hji : (j : Int) < (k : Int) := by omega
        have hjn : (j : Int) < (N : Int) := by omega
        obtain ⟨b, off, rfl, hb, hc⟩ := HC.out.resolve_left (by omega)
        have q2 : wr.cell? ⟨b, off + j * 4 + 2, none⟩ = some (.int .i64 (fld es j 2)) := ((hbel).cell (p := ⟨b, off + j * 4 + 2, none⟩) hb).trans (hc j (by omega) 2 (by omega))
        have q3 : wr.cell? ⟨b, off + j * 4 + 3, none⟩ = some (.int .i64 (fld es j 3)) := ((hbel).cell (p := ⟨b, off + j * 4 + 3, none⟩) hb).trans (hc j (by omega) 3 (by omega))
        have hf := HNO.out j (by omega)
        unfold fits at hf
        clear hc
        by_cases hle : fld es j 3 ≤ x
        · have hh : hasN ss m (fld es j 2) = true := by simpa [hle] using hf
          have HF := Lib.hid hf
          clear hf
          go_wp2_with (go_at_call 35; go_must (refine (hasInt_is A2 m c2 (fld es j 2) ss _ _ (by omega) (R2.out.below (by (repeat (first | with_reducible exact Below.refl _ _ | with_reducible refine Below.drew ?_ | with_reducible refine below_drewN ?_ _ | (with_reducible refine bel_alloc ?_ ?_ _; (first | omega | (simp; omega) | simp)) | (with_reducible refine bel_set ?_ ?_ _; (first | omega | (simp; omega) | simp)) | (with_reducible refine bel_tr (by assumption) ?_ ?_; (first | omega | (simp; omega) | simp)))))) hh).mono ?_); rintro y _ ⟨rfl, rfl⟩)
          go_roundw
          case rel => exact ⟨j + 1, by omega, by go_num, by (repeat (first | with_reducible exact Below.refl _ _ | with_reducible refine Below.drew ?_ | with_reducible refine below_drewN ?_ _ | (with_reducible refine bel_alloc ?_ ?_ _; (first | omega | (simp; omega) | simp)) | (with_reducible refine bel_set ?_ ?_ _; (first | omega | (simp; omega) | simp)) | (with_reducible refine bel_tr (by assumption) ?_ ?_; (first | omega | (simp; omega) | simp))))⟩
          case measure => simp [intOf]; omega
        · clear hf
          go_wp2
          go_roundw
          case rel => exact ⟨j + 1, by omega, by go_num, by (repeat (first | with_reducible exact Below.refl _ _ | with_reducible refine Below.drew ?_ | with_reducible refine below_drewN ?_ _ | (with_reducible refine bel_alloc ?_ ?_ _; (first | omega | (simp; omega) | simp)) | (with_reducible refine bel_set ?_ ?_ _; (first | omega | (simp; omega) | simp)) | (with_reducible refine bel_tr (by assumption) ?_ ?_; (first | omega | (simp; omega) | simp))))⟩
          case measure => simp [intOf]; omega
      · have hjk : j = k := by omega
        subst hjk
        have hji : ¬ (j : Int) < (j : Int) := by omega
        obtain ⟨b, off, rfl, hb, hc⟩ := HC.out.resolve_left (by omega)
        have q2 : wr.cell? ⟨b, off + j * 4 + 2, none⟩ = some (.int .i64 (fld es j 2)) := ((hbel).cell (p := ⟨b, off + j * 4 + 2, none⟩) hb).trans (hc j (by omega) 2 (by omega))
        have q3 : wr.cell? ⟨b, off + j * 4 + 3, none⟩ = some (.int .i64 (fld es j 3)) := ((hbel).cell (p := ⟨b, off + j * 4 + 3, none⟩) hb).trans (hc j (by omega) 3 (by omega))
        have hf := HP.out
        unfold fits at hf
        have hle : fld es j 3 ≤ x := by simp at hf; exact hf.1
        have hh : hasN ss m (fld es j 2) = false := by simp at hf; exact hf.2
        have hjn : (j : Int) < (N : Int) := by omega
        have hj0 : ¬ (j : Int) < 0 := by omega
        clear hf hc
        go_wp2_with (go_at_call 35; go_must (refine (hasInt_is A2 m c2 (fld es j 2) ss _ _ (by omega) (R2.out.below (by (repeat (first | with_reducible exact Below.refl _ _ | with_reducible refine Below.drew ?_ | with_reducible refine below_drewN ?_ _ | (with_reducible refine bel_alloc ?_ ?_ _; (first | omega | (simp; omega) | simp)) | (with_reducible refine bel_set ?_ ?_ _; (first | omega | (simp; omega) | simp)) | (with_reducible refine bel_tr (by assumption) ?_ ?_; (first | omega | (simp; omega) | simp)))))) hh).mono ?_); rintro y _ ⟨rfl, rfl⟩)
        go_ret
        refine ⟨rfl, b1.trans (Below.mono (B := w1.heap.size) ?_ s1)⟩
        (repeat (first | with_reducible exact Below.refl _ _ | with_reducible refine Below.drew ?_ | with_reducible refine below_drewN ?_ _ | (with_reducible refine bel_alloc ?_ ?_ _; (first | omega | (simp; omega) | simp)) | (with_reducible refine bel_set ?_ ?_ _; (first | omega | (simp; omega) | simp)) | (with_reducible refine bel_tr (by assumption) ?_ ?_; (first | omega | (simp; omega) | simp))))
  · have HNO := Lib.hid hall
    have hk4 : ¬ (N : Int) ≤ -1 := by omega
    clear hall
    go_wp2
    go_loopw [2, 8] (fun _ i wr => ∃ j : Nat, j ≤ N ∧ i = .int .i64 j ∧ Below w1.heap.size w1 wr) (fun _ i _ => N - (intOf i).toNat)
    case atStart => exact ⟨0, Nat.zero_le _, rfl, by (repeat (first | with_reducible exact Below.refl _ _ | with_reducible refine Below.drew ?_ | with_reducible refine below_drewN ?_ _ | (with_reducible refine bel_alloc ?_ ?_ _; (first | omega | (simp; omega) | simp)) | (with_reducible refine bel_set ?_ ?_ _; (first | omega | (simp; omega) | simp)) | (with_reducible refine bel_tr (by assumption) ?_ ?_; (first | omega | (simp; omega) | simp))))⟩
    case round =>
      obtain ⟨j, hj, rfl, hbel⟩ := hrel
      have hsz := hbel.size
      by_cases hlt : j < N
      · have hji : (j : Int) < (N : Int) := by omega
        have hjn : (j : Int) < (N : Int) := by omega
        obtain ⟨b, off, rfl, hb, hc⟩ := HC.out.resolve_left (by omega)
        have q2 : wr.cell? ⟨b, off + j * 4 + 2, none⟩ = some (.int .i64 (fld es j 2)) := ((hbel).cell (p := ⟨b, off + j * 4 + 2, none⟩) hb).trans (hc j (by omega) 2 (by omega))
        have q3 : wr.cell? ⟨b, off + j * 4 + 3, none⟩ = some (.int .i64 (fld es j 3)) := ((hbel).cell (p := ⟨b, off + j * 4 + 3, none⟩) hb).trans (hc j (by omega) 3 (by omega))
        have hf := HNO.out j (by omega)
        unfold fits at hf
        clear hc
        by_cases hle : fld es j 3 ≤ x
        · have hh : hasN ss m (fld es j 2) = true := by simpa [hle] using hf
          have HF := Lib.hid hf
          clear hf
          go_wp2_with (go_at_call 35; go_must (refine (hasInt_is A2 m c2 (fld es j 2) ss _ _ (by omega) (R2.out.below (by (repeat (first | with_reducible exact Below.refl _ _ | with_reducible refine Below.drew ?_ | with_reducible refine below_drewN ?_ _ | (with_reducible refine bel_alloc ?_ ?_ _; (first | omega | (simp; omega) | simp)) | (with_reducible refine bel_set ?_ ?_ _; (first | omega | (simp; omega) | simp)) | (with_reducible refine bel_tr (by assumption) ?_ ?_; (first | omega | (simp; omega) | simp)))))) hh).mono ?_); rintro y _ ⟨rfl, rfl⟩)
          go_roundw
          case rel => exact ⟨j + 1, by omega, by go_num, by (repeat (first | with_reducible exact Below.refl _ _ | with_reducible refine Below.drew ?_ | with_reducible refine below_drewN ?_ _ | (with_reducible refine bel_alloc ?_ ?_ _; (first | omega | (simp; omega) | simp)) | (with_reducible refine bel_set ?_ ?_ _; (first | omega | (simp; omega) | simp)) | (with_reducible refine bel_tr (by assumption) ?_ ?_; (first | omega | (simp; omega) | simp))))⟩
          case measure => simp [intOf]; omega
        · clear hf
          go_wp2
          go_roundw
          case rel => exact ⟨j + 1, by omega, by go_num, by (repeat (first | with_reducible exact Below.refl _ _ | with_reducible refine Below.drew ?_ | with_reducible refine below_drewN ?_ _ | (with_reducible refine bel_alloc ?_ ?_ _; (first | omega | (simp; omega) | simp)) | (with_reducible refine bel_set ?_ ?_ _; (first | omega | (simp; omega) | simp)) | (with_reducible refine bel_tr (by assumption) ?_ ?_; (first | omega | (simp; omega) | simp))))⟩
          case measure => simp [intOf]; omega
      · have hjk : j = N := by omega
        subst hjk
        have hji : ¬ (j : Int) < (j : Int) := by omega
        go_wp2
        go_ret
        refine ⟨rfl, b1.trans (Below.mono (B := w1.heap.size) ?_ s1)⟩
        (repeat (first | with_reducible exact Below.refl _ _ | with_reducible refine Below.drew ?_ | with_reducible refine below_drewN ?_ _ | (with_reducible refine bel_alloc ?_ ?_ _; (first | omega | (simp; omega) | simp)) | (with_reducible refine bel_set ?_ ?_ _; (first | omega | (simp; omega) | simp)) | (with_reducible refine bel_tr (by assumption) ?_ ?_; (first | omega | (simp; omega) | simp))))
end Go.Proofs.Ythideehlhhpkjaa
