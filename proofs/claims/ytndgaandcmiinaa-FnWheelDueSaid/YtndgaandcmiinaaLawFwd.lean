/-
  Walk of the law FnWheelDue: it returns true and leaves old memory alone.
-/
import Derived.Test.YtndgaandcmiinaaWg
import Derived.Test.YtndgaandcmiinaaPdi
import Derived.Test.YtndgaandcmiinaaPos
import Derived.BigQuiet
namespace Go.Proofs.Ytndgaandcmiinaa
open Go.RowKit

theorem due_pre {L : List (Nat → Int)} {t : Int} {k : Nat} : ∀ {m : Nat}, k ≤ m → ∃ tl, dueL L t m = dueL L t k ++ tl
  | 0, h => by
    obtain rfl : k = 0 := by omega
    exact ⟨[], by simp⟩
  | m + 1, h => by
    by_cases hk : k = m + 1
    · subst hk
      exact ⟨[], by simp⟩
    · obtain ⟨tl, he⟩ := due_pre (L := L) (t := t) (k := k) (m := m) (by omega)
      by_cases hd : fld L m 0 ≤ t
      · exact ⟨tl ++ [fld L m], by rw [dueL_yes hd, he, List.append_assoc]⟩
      · exact ⟨tl, by rw [dueL_no hd, he]⟩
theorem due_lt {L : List (Nat → Int)} {t : Int} {k m : Nat} (hk : k < m) (h : fld L k 0 ≤ t) : (dueL L t k).length < (dueL L t m).length ∧ fld (dueL L t m) (dueL L t k).length = fld L k := by
  obtain ⟨tl, he⟩ := due_pre (L := L) (t := t) (k := k + 1) (m := m) hk
  rw [dueL_yes h, List.append_assoc] at he
  rw [he]
  refine ⟨by simp <;> omega, ?_⟩
  have h2 := fld_append_right (es := dueL L t k) (es2 := [fld L k] ++ tl) (i := 0)
  rw [Nat.add_zero] at h2
  rw [h2]
  rfl

set_option maxRecDepth 100000 in
set_option maxHeartbeats 16000000 in
theorem lawFnWheelDue (A : Option Addr) (n c : Nat) (w : World) (hn0 : n ≤ 9223372036854775807) (hB : RdB w A n) :
    Calls Try.prog 11 #[.slice A n c] w fun y w' => y = .returned (.bool true) ∧ Below w.heap.size w w' := by
  by_cases hn : n ≤ 1048576
  case neg =>
    have hbig : decide (1048576 < n) = true := by simp; omega
    go_enter Try.func11, Try.ntmps11
    go_wp2_with fail
    refine (big_any A n c _).mono ?_
    rintro y _ ⟨rfl, rfl⟩
    go_wp2
    go_ret
    exact ⟨rfl, Below.refl _ _⟩
  have HB := Lib.hid hB
  clear hB
  have hbig : decide (1048576 < n) = false := by simpa using hn
  go_enter Try.func11, Try.ntmps11
  go_wp2_with fail
  refine (big_any A n c _).mono ?_
  rintro y _ ⟨rfl, rfl⟩
  go_wp2_with fail
  refine (drawPinsDue_any A n c _ hn HB.out).mono ?_
  rintro y w1 ⟨A1, N, c1, t, rfl, hN, hc1, ⟨S, r1, t1⟩, b1⟩
  have s1 := b1.size
  have R1 := Lib.hid r1
  have T1 : tot S N ≤ 4194304 := by omega
  obtain ⟨L, hL⟩ : ∃ L, pinsL N S = L := ⟨_, rfl⟩
  obtain ⟨T, hT⟩ : ∃ T, L.length = T := ⟨_, rfl⟩
  obtain ⟨M, hM⟩ : ∃ M, (dueL L t T).length = M := ⟨_, rfl⟩
  have hT10 : T ≤ 10 := by rw [← hT, ← hL]; exact pinsL_len
  have hMT : M ≤ T := by rw [← hM]; exact dueL_len _
  have HL := Lib.hid hL
  have HT := Lib.hid hT
  have HM := Lib.hid hM
  clear r1 t1 hL hT hM
  have hN4 : N ≤ 4194304 := by omega
  go_wp2_with fail
  refine (iPinsDue_any A1 N c1 S t M (dueL L t T) _ hN4 T1 (R1.out.below (by (repeat (first | with_reducible exact Below.refl _ _ | with_reducible refine Below.drew ?_ | with_reducible refine below_drewN ?_ _ | (with_reducible refine bel_alloc ?_ ?_ _; (first | omega | (simp; omega) | simp)) | (with_reducible refine bel_set ?_ ?_ _; (first | omega | (simp; omega) | simp)) | (with_reducible refine bel_tr (by assumption) ?_ ?_; (first | omega | (simp; omega) | simp)))))) (by rw [HL.out, HT.out]) HM.out).mono ?_
  rintro y w2 ⟨A2, c2, rfl, o2, hc2, hb2⟩
  have bc2 := bcell hb2; obtain ⟨hc2, hf2⟩ := bc2; have ks2 := hb2.size; (try simp at ks2); (try (have jzw12 : w1.heap.size < w2.heap.size := (by have hh := hb2.size; (try simp at hh); omega); have jcw12 : ∀ o, w2.cell? ⟨w1.heap.size, o, none⟩ = _ := (fun o => hb2.cell (p := ⟨w1.heap.size, o, none⟩) (by (first | omega | (simp; omega) | simp))); have jfw12 : ∀ o, w2.frozen? ⟨w1.heap.size, o, none⟩ = _ := (fun o => hb2.frozen (p := ⟨w1.heap.size, o, none⟩) (by (first | omega | (simp; omega) | simp)))))
  have O2 := Lib.hid o2
  clear o2
  go_wp2_with fail
  refine (sPinsOf_t A1 N c1 S T L _ hN4 T1 (R1.out.below (by (repeat (first | with_reducible exact Below.refl _ _ | with_reducible refine Below.drew ?_ | with_reducible refine below_drewN ?_ _ | (with_reducible refine bel_alloc ?_ ?_ _; (first | omega | (simp; omega) | simp)) | (with_reducible refine bel_set ?_ ?_ _; (first | omega | (simp; omega) | simp)) | (with_reducible refine bel_tr (by assumption) ?_ ?_; (first | omega | (simp; omega) | simp)))))) HL.out HT.out).mono ?_
  rintro y w3 ⟨A3, c3, rfl, o3, hc3, hb3⟩
  have bc3 := bcell hb3; obtain ⟨hc3, hf3⟩ := bc3; have ks3 := hb3.size; (try simp at ks3); (try (have jzw13 : w1.heap.size < w3.heap.size := (by have hh := hb3.size; (try simp at hh); omega); have jcw13 : ∀ o, w3.cell? ⟨w1.heap.size, o, none⟩ = _ := (fun o => hb3.cell (p := ⟨w1.heap.size, o, none⟩) (by (first | omega | (simp; omega) | simp))); have jfw13 : ∀ o, w3.frozen? ⟨w1.heap.size, o, none⟩ = _ := (fun o => hb3.frozen (p := ⟨w1.heap.size, o, none⟩) (by (first | omega | (simp; omega) | simp)))))
  have B3 : Hid (Below w.heap.size w w3) := Lib.hid (by (repeat (first | with_reducible exact Below.refl _ _ | with_reducible refine Below.drew ?_ | with_reducible refine below_drewN ?_ _ | (with_reducible refine bel_alloc ?_ ?_ _; (first | omega | (simp; omega) | simp)) | (with_reducible refine bel_set ?_ ?_ _; (first | omega | (simp; omega) | simp)) | (with_reducible refine bel_tr (by assumption) ?_ ?_; (first | omega | (simp; omega) | simp)))))
  have O2' : Hid (Rd w3 2 A2 M (dueL L t T)) := Lib.hid (O2.out.rd.below (by (repeat (first | with_reducible exact Below.refl _ _ | with_reducible refine Below.drew ?_ | with_reducible refine below_drewN ?_ _ | (with_reducible refine bel_alloc ?_ ?_ _; (first | omega | (simp; omega) | simp)) | (with_reducible refine bel_set ?_ ?_ _; (first | omega | (simp; omega) | simp)) | (with_reducible refine bel_tr (by assumption) ?_ ?_; (first | omega | (simp; omega) | simp))))))
  have O3 := Lib.hid o3.rd
  clear o3
  go_wp2
  go_loopw [2, 7, 8] (fun _ v i wr => ∃ k : Nat, k ≤ T ∧ i = .int .i64 k ∧ v = .int .i64 ((dueL L t k).length : Nat) ∧ Below w3.heap.size w3 wr) (fun _ _ i _ => T - (intOf i).toNat)
  case atStart => exact ⟨0, Nat.zero_le _, rfl, rfl, by (repeat (first | with_reducible exact Below.refl _ _ | with_reducible refine Below.drew ?_ | with_reducible refine below_drewN ?_ _ | (with_reducible refine bel_alloc ?_ ?_ _; (first | omega | (simp; omega) | simp)) | (with_reducible refine bel_set ?_ ?_ _; (first | omega | (simp; omega) | simp)) | (with_reducible refine bel_tr (by assumption) ?_ ?_; (first | omega | (simp; omega) | simp))))⟩
  case round =>
    obtain ⟨k, hk, rfl, rfl, hbel⟩ := hrel
    obtain ⟨q, hq⟩ : ∃ q, (dueL L t k).length = q := ⟨_, rfl⟩
    rw [hq]
    have HQ := Lib.hid hq
    clear hq
    by_cases hlt : k < T
    · have hki : (k : Int) < (T : Int) := by omega
      have hk0 : (0 : Int) ≤ (k : Int) := by omega
      obtain ⟨b, off, hA3, hb, hc⟩ := (O3.out.below hbel).2.resolve_left (by omega)
      have f0 := hc k hlt 0 (by omega)
      have f1 := hc k hlt 1 (by omega)
      rw [Nat.add_zero] at f0
      clear hc
      by_cases hd : fld L k 0 ≤ t
      · obtain ⟨hm, he⟩ := due_lt hlt hd
        rw [HM.out, HQ.out] at hm
        rw [HQ.out] at he
        have hqi : (q : Int) < (M : Int) := by omega
        have hq0 : (0 : Int) ≤ (q : Int) := by omega
        have hqn : decide ((M : Int) ≤ (q : Int)) = false := decide_eq_false (by omega)
        have HY : Hid ((dueL L t (k + 1)).length = q + 1) := Lib.hid (by rw [dueL_yes hd, List.length_append, HQ.out]; rfl)
        obtain ⟨b2, off2, hA2, hb2, hc2'⟩ := (O2'.out.below hbel).2.resolve_left (by omega)
        have g0 := hc2' q hm 0 (by omega)
        have g1 := hc2' q hm 1 (by omega)
        rw [Nat.add_zero] at g0
        rw [he] at g0 g1
        clear hc2' he
        subst hA2 hA3
        go_wp2
        go_quiet (fail)
        go_wp2
        go_roundw
        case rel => exact ⟨k + 1, by omega, by go_num, by rw [HY.out]; go_num, by (repeat (first | with_reducible exact Below.refl _ _ | with_reducible refine Below.drew ?_ | with_reducible refine below_drewN ?_ _ | (with_reducible refine bel_alloc ?_ ?_ _; (first | omega | (simp; omega) | simp)) | (with_reducible refine bel_set ?_ ?_ _; (first | omega | (simp; omega) | simp)) | (with_reducible refine bel_tr (by assumption) ?_ ?_; (first | omega | (simp; omega) | simp))))⟩
        case measure => simp [intOf]; omega
      · have HY : Hid ((dueL L t (k + 1)).length = q) := Lib.hid (by rw [dueL_no hd, HQ.out])
        subst hA3
        go_wp2
        go_roundw
        case rel => exact ⟨k + 1, by omega, by go_num, by rw [HY.out], by (repeat (first | with_reducible exact Below.refl _ _ | with_reducible refine Below.drew ?_ | with_reducible refine below_drewN ?_ _ | (with_reducible refine bel_alloc ?_ ?_ _; (first | omega | (simp; omega) | simp)) | (with_reducible refine bel_set ?_ ?_ _; (first | omega | (simp; omega) | simp)) | (with_reducible refine bel_tr (by assumption) ?_ ?_; (first | omega | (simp; omega) | simp))))⟩
        case measure => simp [intOf]; omega
    · have hkT : T = k := by omega
      subst hkT
      have hqM : q = M := by rw [← HQ.out, HM.out]
      subst hqM
      have hki : ¬ (T : Int) < (T : Int) := by omega
      go_wp2
      go_ret
      exact ⟨rfl, B3.out.trans (hbel.mono (by have := B3.out.size; omega))⟩
end Go.Proofs.Ytndgaandcmiinaa
