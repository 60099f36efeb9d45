/-
  Walk of the law FnWheelBack: it returns true and leaves old memory alone.
-/
import Derived.Test.YtehmanlpgjccoaaWg
import Derived.Test.YtehmanlpgjccoaaWpi
import Derived.Test.YtehmanlpgjccoaaWci
import Derived.Test.YtehmanlpgjccoaaWcs
import Derived.Test.YtehmanlpgjccoaaSwi
import Derived.Test.YtehmanlpgjccoaaSws
namespace Go.Proofs.Ytehmanlpgjccoaa
open Go.RowKit

theorem cut_ins {es : List (Nat → Int)} {p : Nat → Int} {k n : Nat} (hl : es.length = n) (hk : k ≤ n) : cutL (insL es k p) k = es := by
  have h1 : (es.take k).length = k := by rw [List.length_take]; omega
  have h2 : (es.take k ++ p :: es.drop k).take k = es.take k := List.take_left' h1
  have h3 : (es.take k ++ p :: es.drop k).drop (k + 1) = es.drop k := by
    have h4 : es.take k ++ p :: es.drop k = (es.take k ++ [p]) ++ es.drop k := by simp
    rw [h4]
    exact List.drop_left' (by rw [List.length_append, h1]; rfl)
  unfold cutL insL
  rw [h2, h3, List.take_append_drop]
/-- A pin that was put is found and cut again. -/
theorem put_cut {S S2 : Nat → Sp} {p : Nat → Int} {E : Nat → List (Nat → Int)} (hl : ∀ i, i < 9 → (S i).es.length = (S i).n) (hl2 : ∀ i, i < 9 → (S2 i).es.length = (S2 i).n) (h : PutR 9 S p E true) (he : ∀ i, i < 9 → (S2 i).es = E i) :
    CutR 9 S2 p (fun m => (S m).es) true ∧ WOK 9 S ∧ WOK 9 S2 ∧ tot S2 9 = tot S 9 + 1 := by
  rcases h with ⟨_, ⟨h1, h2, h3⟩, h4⟩ | ⟨h0, _⟩
  case inr => cases h0
  have hk : (p 0 % 9).toNat < 9 := by omega
  have hlI := insW_len (p := p) hl
  have hs : Sam 9 (insW S p) S2 := fun i hi => ⟨by rw [← hlI i hi, ← hl2 i hi, he i hi, h4 i hi], by rw [he i hi, h4 i hi]⟩
  have hn : (insW S p (p 0 % 9).toNat).n = (S (p 0 % 9).toNat).n + 1 := by unfold insW updS; rw [if_pos rfl]
  have hE : (insW S p (p 0 % 9).toNat).es = insL (S (p 0 % 9).toNat).es (plcP (S (p 0 % 9).toNat).es p (S (p 0 % 9).toNat).n) p := by unfold insW updS; rw [if_pos rfl]
  have hle := hl _ hk
  have hpl := plcP_le (es := (S (p 0 % 9).toNat).es) (p := p) (n := (S (p 0 % 9).toNat).n)
  refine ⟨CutR.sam hs (.inl ⟨_, plcP (S (p 0 % 9).toNat).es p (S (p 0 % 9).toNat).n, rfl, h3, h2, rfl, hk, by omega, ?_, fun j hj => ?_, fun m hm => ?_⟩), h1, h3.sam hs, ?_⟩
  · unfold isP
    rw [hE, fld_insL_at (by omega)]
    simp
  · have h5 := plcP_lt hj
    unfold isP
    rw [hE, fld_insL_lt hj (by omega)]
    rw [decide_eq_false_iff_not]
    intro h6
    unfold ltP at h5
    omega
  · show (S m).es = _
    by_cases hmk : m = (p 0 % 9).toNat
    · rw [if_pos hmk, hE, hmk, cut_ins hle hpl]
    · rw [if_neg hmk]
      unfold insW updS
      rw [if_neg hmk]
  · rw [← hs.tot (Nat.le_refl _), insW_tot, if_pos hk]

set_option maxRecDepth 100000 in
set_option maxHeartbeats 16000000 in
theorem lawFnWheelBack (A : Option Addr) (n c : Nat) (w : World) (hn0 : n ≤ 9223372036854775807) (hB : RdB w A n) :
    Calls Try.prog 3 #[.slice A n c] w fun y w' => y = .returned (.bool true) ∧ Below w.heap.size w w' := by
  by_cases hn : n ≤ 1048576
  case neg =>
    have hbig : decide (1048576 < n) = true := by simp; omega
    go_enter Try.func3, Try.ntmps3
    go_wp2_with fail
    refine (big_any A n c _).mono ?_
    rintro y _ ⟨rfl, rfl⟩
    go_wp2
    go_ret
    exact ⟨rfl, Below.refl _ _⟩
  have HB := Lib.hid hB
  clear hB
  have hbig : decide (1048576 < n) = false := by simpa using hn
  go_enter Try.func3, Try.ntmps3
  go_wp2_with fail
  refine (big_any A n c _).mono ?_
  rintro y _ ⟨rfl, rfl⟩
  go_wp2_with fail
  refine (drawWheelPut_any A n c _ hn HB.out).mono ?_
  rintro y w1 ⟨A1, N, c1, p, rfl, hN, hc1, ⟨S, r1, t1⟩, b1⟩
  have s1 := b1.size
  have R1 := Lib.hid r1
  have T1 : tot S N ≤ 4194303 := by omega
  have T11 : tot S N ≤ 11 := t1
  have hN4 : N ≤ 4194304 := by omega
  obtain ⟨E, b, hR⟩ := putR_ex N S p
  have hbN : b = true → N = 9 := fun hb => by
    rcases hR with ⟨_, h1, _⟩ | ⟨h0, _⟩
    · exact h1.1.1
    · rw [hb] at h0; cases h0
  have HR := Lib.hid hR
  clear r1 t1 hR
  go_wp2_with fail
  refine (iWheelPut_any A1 N c1 S p E b _ hN4 T1 (R1.out.below (by (repeat (first | with_reducible exact Below.refl _ _ | with_reducible refine Below.drew ?_ | with_reducible refine below_drewN ?_ _ | (with_reducible refine bel_alloc ?_ ?_ _; (first | omega | (simp; omega) | simp)) | (with_reducible refine bel_set ?_ ?_ _; (first | omega | (simp; omega) | simp)) | (with_reducible refine bel_tr (by assumption) ?_ ?_; (first | omega | (simp; omega) | simp)))))) HR.out).mono ?_
  rintro y w2 ⟨A2, c2, S2, rfl, o2, e2, hc2, hb2⟩
  have bc2 := bcell hb2; obtain ⟨hc2, hf2⟩ := bc2; have ks2 := hb2.size; (try simp at ks2); (try (have jzw12 : w1.heap.size < w2.heap.size := (by have hh := hb2.size; (try simp at hh); omega); have jcw12 : ∀ o, w2.cell? ⟨w1.heap.size, o, none⟩ = _ := (fun o => hb2.cell (p := ⟨w1.heap.size, o, none⟩) (by (first | omega | (simp; omega) | simp))); have jfw12 : ∀ o, w2.frozen? ⟨w1.heap.size, o, none⟩ = _ := (fun o => hb2.frozen (p := ⟨w1.heap.size, o, none⟩) (by (first | omega | (simp; omega) | simp))))); (try (have jzw112 : w1.heap.size + 1 < w2.heap.size := (by have hh := hb2.size; (try simp at hh); omega); have jcw112 : ∀ o, w2.cell? ⟨w1.heap.size + 1, o, none⟩ = _ := (fun o => hb2.cell (p := ⟨w1.heap.size + 1, o, none⟩) (by (first | omega | (simp; omega) | simp))); have jfw112 : ∀ o, w2.frozen? ⟨w1.heap.size + 1, o, none⟩ = _ := (fun o => hb2.frozen (p := ⟨w1.heap.size + 1, o, none⟩) (by (first | omega | (simp; omega) | simp)))))
  have O2 := Lib.hid o2
  have E2 := Lib.hid e2
  clear o2 e2
  go_wp2_with fail
  refine (sWheelPut_gat A1 N c1 S p E b _ hN4 T1 (R1.out.below (by (repeat (first | with_reducible exact Below.refl _ _ | with_reducible refine Below.drew ?_ | with_reducible refine below_drewN ?_ _ | (with_reducible refine bel_alloc ?_ ?_ _; (first | omega | (simp; omega) | simp)) | (with_reducible refine bel_set ?_ ?_ _; (first | omega | (simp; omega) | simp)) | (with_reducible refine bel_tr (by assumption) ?_ ?_; (first | omega | (simp; omega) | simp)))))) HR.out).mono ?_
  rintro y w3 ⟨A3, c3, S3, rfl, _, _, hc3, hb3⟩
  have bc3 := bcell hb3; obtain ⟨hc3, hf3⟩ := bc3; have ks3 := hb3.size; (try simp at ks3); (try (have jzw13 : w1.heap.size < w3.heap.size := (by have hh := hb3.size; (try simp at hh); omega); have jcw13 : ∀ o, w3.cell? ⟨w1.heap.size, o, none⟩ = _ := (fun o => hb3.cell (p := ⟨w1.heap.size, o, none⟩) (by (first | omega | (simp; omega) | simp))); have jfw13 : ∀ o, w3.frozen? ⟨w1.heap.size, o, none⟩ = _ := (fun o => hb3.frozen (p := ⟨w1.heap.size, o, none⟩) (by (first | omega | (simp; omega) | simp))))); (try (have jzw113 : w1.heap.size + 1 < w3.heap.size := (by have hh := hb3.size; (try simp at hh); omega); have jcw113 : ∀ o, w3.cell? ⟨w1.heap.size + 1, o, none⟩ = _ := (fun o => hb3.cell (p := ⟨w1.heap.size + 1, o, none⟩) (by (first | omega | (simp; omega) | simp))); have jfw113 : ∀ o, w3.frozen? ⟨w1.heap.size + 1, o, none⟩ = _ := (fun o => hb3.frozen (p := ⟨w1.heap.size + 1, o, none⟩) (by (first | omega | (simp; omega) | simp))))); (try (have jzw23 : w2.heap.size < w3.heap.size := (by have hh := hb3.size; (try simp at hh); omega); have jcw23 : ∀ o, w3.cell? ⟨w2.heap.size, o, none⟩ = _ := (fun o => hb3.cell (p := ⟨w2.heap.size, o, none⟩) (by (first | omega | (simp; omega) | simp))); have jfw23 : ∀ o, w3.frozen? ⟨w2.heap.size, o, none⟩ = _ := (fun o => hb3.frozen (p := ⟨w2.heap.size, o, none⟩) (by (first | omega | (simp; omega) | simp)))))
  cases b
  · obtain ⟨E4, b4, hR4⟩ := cutR_ex N S p
    have HR4 := Lib.hid hR4
    clear hR4 hbN
    go_wp2_with fail
    refine (iWheelCut_any A1 N c1 S p E4 b4 _ hN4 T1 (R1.out.below (by (repeat (first | with_reducible exact Below.refl _ _ | with_reducible refine Below.drew ?_ | with_reducible refine below_drewN ?_ _ | (with_reducible refine bel_alloc ?_ ?_ _; (first | omega | (simp; omega) | simp)) | (with_reducible refine bel_set ?_ ?_ _; (first | omega | (simp; omega) | simp)) | (with_reducible refine bel_tr (by assumption) ?_ ?_; (first | omega | (simp; omega) | simp)))))) HR4.out).mono ?_
    rintro y w4 ⟨A4, c4, S4, rfl, _, _, hc4, hb4⟩
    have bc4 := bcell hb4; obtain ⟨hc4, hf4⟩ := bc4; have ks4 := hb4.size; (try simp at ks4); (try (have jzw14 : w1.heap.size < w4.heap.size := (by have hh := hb4.size; (try simp at hh); omega); have jcw14 : ∀ o, w4.cell? ⟨w1.heap.size, o, none⟩ = _ := (fun o => hb4.cell (p := ⟨w1.heap.size, o, none⟩) (by (first | omega | (simp; omega) | simp))); have jfw14 : ∀ o, w4.frozen? ⟨w1.heap.size, o, none⟩ = _ := (fun o => hb4.frozen (p := ⟨w1.heap.size, o, none⟩) (by (first | omega | (simp; omega) | simp))))); (try (have jzw114 : w1.heap.size + 1 < w4.heap.size := (by have hh := hb4.size; (try simp at hh); omega); have jcw114 : ∀ o, w4.cell? ⟨w1.heap.size + 1, o, none⟩ = _ := (fun o => hb4.cell (p := ⟨w1.heap.size + 1, o, none⟩) (by (first | omega | (simp; omega) | simp))); have jfw114 : ∀ o, w4.frozen? ⟨w1.heap.size + 1, o, none⟩ = _ := (fun o => hb4.frozen (p := ⟨w1.heap.size + 1, o, none⟩) (by (first | omega | (simp; omega) | simp)))))
    go_wp2_with fail
    refine (sWheelCut_any A1 N c1 S p E4 b4 _ hN4 T1 (R1.out.below (by (repeat (first | with_reducible exact Below.refl _ _ | with_reducible refine Below.drew ?_ | with_reducible refine below_drewN ?_ _ | (with_reducible refine bel_alloc ?_ ?_ _; (first | omega | (simp; omega) | simp)) | (with_reducible refine bel_set ?_ ?_ _; (first | omega | (simp; omega) | simp)) | (with_reducible refine bel_tr (by assumption) ?_ ?_; (first | omega | (simp; omega) | simp)))))) HR4.out).mono ?_
    rintro y w5 ⟨A5, c5, S5, rfl, _, _, hc5, hb5⟩
    have s5 := hb5.size
    (try simp at s5)
    clear HR4
    cases b4
    all_goals
      go_wp2
      go_ret
      exact ⟨rfl, by (repeat (first | with_reducible exact Below.refl _ _ | with_reducible refine Below.drew ?_ | with_reducible refine below_drewN ?_ _ | (with_reducible refine bel_alloc ?_ ?_ _; (first | omega | (simp; omega) | simp)) | (with_reducible refine bel_set ?_ ?_ _; (first | omega | (simp; omega) | simp)) | (with_reducible refine bel_tr (by assumption) ?_ ?_; (first | omega | (simp; omega) | simp))))⟩
  have hN9 : N = 9 := hbN rfl
  clear hbN
  subst hN9
  obtain ⟨hC, hW, hW2, hT⟩ := put_cut R1.out.lens O2.out.rdw.lens HR.out E2.out
  have HC := Lib.hid hC
  have HW := Lib.hid hW
  have T2 : tot S2 9 ≤ 4194303 := by omega
  obtain ⟨T, hTT⟩ : ∃ T, tot S 9 = T := ⟨_, rfl⟩
  have HL1 : Hid ((pinsL 9 S).length = T) := Lib.hid (by rw [pinsL_yes hW, sortL_len, hTT])
  have HL2 : Hid ((pinsL 9 S2).length = T + 1) := Lib.hid (by rw [pinsL_yes hW2, sortL_len, hT, hTT])
  have hT11 : T ≤ 11 := by omega
  have hTw : IntKind.i64.wrap ((T : Int) + 1) = (T : Int) + 1 := by rw [IntKind.wrap_i64]; omega
  clear hC hW hW2 hT hTT
  go_wp2_with fail
  refine (iWheelCut_any A2 9 c2 S2 p (fun m => (S m).es) true _ hN4 T2 (O2.out.rdw.below (by (repeat (first | with_reducible exact Below.refl _ _ | with_reducible refine Below.drew ?_ | with_reducible refine below_drewN ?_ _ | (with_reducible refine bel_alloc ?_ ?_ _; (first | omega | (simp; omega) | simp)) | (with_reducible refine bel_set ?_ ?_ _; (first | omega | (simp; omega) | simp)) | (with_reducible refine bel_tr (by assumption) ?_ ?_; (first | omega | (simp; omega) | simp)))))) HC.out).mono ?_
  rintro y w4 ⟨A4, c4, S4, rfl, o4, e4, hc4, hb4⟩
  have bc4 := bcell hb4; obtain ⟨hc4, hf4⟩ := bc4; have ks4 := hb4.size; (try simp at ks4); (try (have jzw14 : w1.heap.size < w4.heap.size := (by have hh := hb4.size; (try simp at hh); omega); have jcw14 : ∀ o, w4.cell? ⟨w1.heap.size, o, none⟩ = _ := (fun o => hb4.cell (p := ⟨w1.heap.size, o, none⟩) (by (first | omega | (simp; omega) | simp))); have jfw14 : ∀ o, w4.frozen? ⟨w1.heap.size, o, none⟩ = _ := (fun o => hb4.frozen (p := ⟨w1.heap.size, o, none⟩) (by (first | omega | (simp; omega) | simp))))); (try (have jzw114 : w1.heap.size + 1 < w4.heap.size := (by have hh := hb4.size; (try simp at hh); omega); have jcw114 : ∀ o, w4.cell? ⟨w1.heap.size + 1, o, none⟩ = _ := (fun o => hb4.cell (p := ⟨w1.heap.size + 1, o, none⟩) (by (first | omega | (simp; omega) | simp))); have jfw114 : ∀ o, w4.frozen? ⟨w1.heap.size + 1, o, none⟩ = _ := (fun o => hb4.frozen (p := ⟨w1.heap.size + 1, o, none⟩) (by (first | omega | (simp; omega) | simp))))); (try (have jzw24 : w2.heap.size < w4.heap.size := (by have hh := hb4.size; (try simp at hh); omega); have jcw24 : ∀ o, w4.cell? ⟨w2.heap.size, o, none⟩ = _ := (fun o => hb4.cell (p := ⟨w2.heap.size, o, none⟩) (by (first | omega | (simp; omega) | simp))); have jfw24 : ∀ o, w4.frozen? ⟨w2.heap.size, o, none⟩ = _ := (fun o => hb4.frozen (p := ⟨w2.heap.size, o, none⟩) (by (first | omega | (simp; omega) | simp)))))
  have O4 := Lib.hid o4
  have M4 : Hid (Sam 9 S4 S) := Lib.hid (sam_es o4.rdw R1.out e4)
  have T4 : tot S4 9 ≤ 4194304 := by rw [M4.out.tot (Nat.le_refl _)]; omega
  have HS : Hid (SameR 9 S4 9 S) := Lib.hid ⟨HW.out.sam M4.out.symm, HW.out, SamL.of_eq (pinsL_sam M4.out)⟩
  have T14 : tot S 9 ≤ 4194304 := by omega
  have T24 : tot S2 9 ≤ 4194304 := by omega
  clear o4 e4
  go_wp2
  go_region_held3 (fun w' => w'.cell? ⟨w1.heap.size, 0, none⟩ = some (.slice A1 9 c1) ∧ w'.cell? ⟨w2.heap.size, 0, none⟩ = some (.slice A2 9 c2) ∧ w'.cell? ⟨w4.heap.size, 0, none⟩ = some (.slice A4 9 c4)) ((first | (go_keep; done) | (go_simp; done))) (first
    | (go_at_call 10; refine (ty (iSameWheel_any A4 9 c4 A1 9 c1 S4 S _ hN4 T4 hN4 T14 (O4.out.rdw.below (by (repeat (first | with_reducible exact Below.refl _ _ | with_reducible refine Below.drew ?_ | with_reducible refine below_drewN ?_ _ | (with_reducible refine bel_alloc ?_ ?_ _; (first | omega | (simp; omega) | simp)) | (with_reducible refine bel_set ?_ ?_ _; (first | omega | (simp; omega) | simp)) | (with_reducible refine bel_tr (by assumption) ?_ ?_; (first | omega | (simp; omega) | simp)))))) (R1.out.below (by (repeat (first | with_reducible exact Below.refl _ _ | with_reducible refine Below.drew ?_ | with_reducible refine below_drewN ?_ _ | (with_reducible refine bel_alloc ?_ ?_ _; (first | omega | (simp; omega) | simp)) | (with_reducible refine bel_set ?_ ?_ _; (first | omega | (simp; omega) | simp)) | (with_reducible refine bel_tr (by assumption) ?_ ?_; (first | omega | (simp; omega) | simp))))))) HS.out).mono ?_; rintro y w5 ⟨rfl, hb5⟩; have bc5 := bcell hb5; obtain ⟨hc5, hf5⟩ := bc5; have ks5 := hb5.size; (try simp at ks5); (try (have jzw15 : w1.heap.size < w5.heap.size := (by have hh := hb5.size; (try simp at hh); omega); have jcw15 : ∀ o, w5.cell? ⟨w1.heap.size, o, none⟩ = _ := (fun o => hb5.cell (p := ⟨w1.heap.size, o, none⟩) (by (first | omega | (simp; omega) | simp))); have jfw15 : ∀ o, w5.frozen? ⟨w1.heap.size, o, none⟩ = _ := (fun o => hb5.frozen (p := ⟨w1.heap.size, o, none⟩) (by (first | omega | (simp; omega) | simp))))); (try (have jzw25 : w2.heap.size < w5.heap.size := (by have hh := hb5.size; (try simp at hh); omega); have jcw25 : ∀ o, w5.cell? ⟨w2.heap.size, o, none⟩ = _ := (fun o => hb5.cell (p := ⟨w2.heap.size, o, none⟩) (by (first | omega | (simp; omega) | simp))); have jfw25 : ∀ o, w5.frozen? ⟨w2.heap.size, o, none⟩ = _ := (fun o => hb5.frozen (p := ⟨w2.heap.size, o, none⟩) (by (first | omega | (simp; omega) | simp))))); (try (have jzw45 : w4.heap.size < w5.heap.size := (by have hh := hb5.size; (try simp at hh); omega); have jcw45 : ∀ o, w5.cell? ⟨w4.heap.size, o, none⟩ = _ := (fun o => hb5.cell (p := ⟨w4.heap.size, o, none⟩) (by (first | omega | (simp; omega) | simp))); have jfw45 : ∀ o, w5.frozen? ⟨w4.heap.size, o, none⟩ = _ := (fun o => hb5.frozen (p := ⟨w4.heap.size, o, none⟩) (by (first | omega | (simp; omega) | simp))))))
    | (go_at_call 11; refine (ty (sSameWheel_any A4 9 c4 A1 9 c1 S4 S _ hN4 T4 hN4 T14 (O4.out.rdw.below (by (repeat (first | with_reducible exact Below.refl _ _ | with_reducible refine Below.drew ?_ | with_reducible refine below_drewN ?_ _ | (with_reducible refine bel_alloc ?_ ?_ _; (first | omega | (simp; omega) | simp)) | (with_reducible refine bel_set ?_ ?_ _; (first | omega | (simp; omega) | simp)) | (with_reducible refine bel_tr (by assumption) ?_ ?_; (first | omega | (simp; omega) | simp)))))) (R1.out.below (by (repeat (first | with_reducible exact Below.refl _ _ | with_reducible refine Below.drew ?_ | with_reducible refine below_drewN ?_ _ | (with_reducible refine bel_alloc ?_ ?_ _; (first | omega | (simp; omega) | simp)) | (with_reducible refine bel_set ?_ ?_ _; (first | omega | (simp; omega) | simp)) | (with_reducible refine bel_tr (by assumption) ?_ ?_; (first | omega | (simp; omega) | simp))))))) HS.out).mono ?_; rintro y w6 ⟨rfl, hb6⟩; have bc6 := bcell hb6; obtain ⟨hc6, hf6⟩ := bc6; have ks6 := hb6.size; (try simp at ks6); (try (have jzw16 : w1.heap.size < w6.heap.size := (by have hh := hb6.size; (try simp at hh); omega); have jcw16 : ∀ o, w6.cell? ⟨w1.heap.size, o, none⟩ = _ := (fun o => hb6.cell (p := ⟨w1.heap.size, o, none⟩) (by (first | omega | (simp; omega) | simp))); have jfw16 : ∀ o, w6.frozen? ⟨w1.heap.size, o, none⟩ = _ := (fun o => hb6.frozen (p := ⟨w1.heap.size, o, none⟩) (by (first | omega | (simp; omega) | simp))))); (try (have jzw26 : w2.heap.size < w6.heap.size := (by have hh := hb6.size; (try simp at hh); omega); have jcw26 : ∀ o, w6.cell? ⟨w2.heap.size, o, none⟩ = _ := (fun o => hb6.cell (p := ⟨w2.heap.size, o, none⟩) (by (first | omega | (simp; omega) | simp))); have jfw26 : ∀ o, w6.frozen? ⟨w2.heap.size, o, none⟩ = _ := (fun o => hb6.frozen (p := ⟨w2.heap.size, o, none⟩) (by (first | omega | (simp; omega) | simp))))); (try (have jzw46 : w4.heap.size < w6.heap.size := (by have hh := hb6.size; (try simp at hh); omega); have jcw46 : ∀ o, w6.cell? ⟨w4.heap.size, o, none⟩ = _ := (fun o => hb6.cell (p := ⟨w4.heap.size, o, none⟩) (by (first | omega | (simp; omega) | simp))); have jfw46 : ∀ o, w6.frozen? ⟨w4.heap.size, o, none⟩ = _ := (fun o => hb6.frozen (p := ⟨w4.heap.size, o, none⟩) (by (first | omega | (simp; omega) | simp))))))
    | (go_at_call 12; refine (iPinsOf_t A2 9 c2 S2 (T + 1) (pinsL 9 S2) _ hN4 T24 (O2.out.rdw.below (by (repeat (first | with_reducible exact Below.refl _ _ | with_reducible refine Below.drew ?_ | with_reducible refine below_drewN ?_ _ | (with_reducible refine bel_alloc ?_ ?_ _; (first | omega | (simp; omega) | simp)) | (with_reducible refine bel_set ?_ ?_ _; (first | omega | (simp; omega) | simp)) | (with_reducible refine bel_tr (by assumption) ?_ ?_; (first | omega | (simp; omega) | simp)))))) rfl HL2.out).mono ?_; rintro y w7 ⟨A7, c7, rfl, _, _, hb7⟩; have bc7 := bcell hb7; obtain ⟨hc7, hf7⟩ := bc7; have ks7 := hb7.size; (try simp at ks7); (try (have jzw17 : w1.heap.size < w7.heap.size := (by have hh := hb7.size; (try simp at hh); omega); have jcw17 : ∀ o, w7.cell? ⟨w1.heap.size, o, none⟩ = _ := (fun o => hb7.cell (p := ⟨w1.heap.size, o, none⟩) (by (first | omega | (simp; omega) | simp))); have jfw17 : ∀ o, w7.frozen? ⟨w1.heap.size, o, none⟩ = _ := (fun o => hb7.frozen (p := ⟨w1.heap.size, o, none⟩) (by (first | omega | (simp; omega) | simp))))); (try (have jzw27 : w2.heap.size < w7.heap.size := (by have hh := hb7.size; (try simp at hh); omega); have jcw27 : ∀ o, w7.cell? ⟨w2.heap.size, o, none⟩ = _ := (fun o => hb7.cell (p := ⟨w2.heap.size, o, none⟩) (by (first | omega | (simp; omega) | simp))); have jfw27 : ∀ o, w7.frozen? ⟨w2.heap.size, o, none⟩ = _ := (fun o => hb7.frozen (p := ⟨w2.heap.size, o, none⟩) (by (first | omega | (simp; omega) | simp))))); (try (have jzw47 : w4.heap.size < w7.heap.size := (by have hh := hb7.size; (try simp at hh); omega); have jcw47 : ∀ o, w7.cell? ⟨w4.heap.size, o, none⟩ = _ := (fun o => hb7.cell (p := ⟨w4.heap.size, o, none⟩) (by (first | omega | (simp; omega) | simp))); have jfw47 : ∀ o, w7.frozen? ⟨w4.heap.size, o, none⟩ = _ := (fun o => hb7.frozen (p := ⟨w4.heap.size, o, none⟩) (by (first | omega | (simp; omega) | simp))))))
    | (go_at_call 13; refine (sPinsOf_t A1 9 c1 S T (pinsL 9 S) _ hN4 T14 (R1.out.below (by (repeat (first | with_reducible exact Below.refl _ _ | with_reducible refine Below.drew ?_ | with_reducible refine below_drewN ?_ _ | (with_reducible refine bel_alloc ?_ ?_ _; (first | omega | (simp; omega) | simp)) | (with_reducible refine bel_set ?_ ?_ _; (first | omega | (simp; omega) | simp)) | (with_reducible refine bel_tr (by assumption) ?_ ?_; (first | omega | (simp; omega) | simp)))))) rfl HL1.out).mono ?_; rintro y w8 ⟨A8, c8, rfl, _, _, hb8⟩; have bc8 := bcell hb8; obtain ⟨hc8, hf8⟩ := bc8; have ks8 := hb8.size; (try simp at ks8); (try (have jzw18 : w1.heap.size < w8.heap.size := (by have hh := hb8.size; (try simp at hh); omega); have jcw18 : ∀ o, w8.cell? ⟨w1.heap.size, o, none⟩ = _ := (fun o => hb8.cell (p := ⟨w1.heap.size, o, none⟩) (by (first | omega | (simp; omega) | simp))); have jfw18 : ∀ o, w8.frozen? ⟨w1.heap.size, o, none⟩ = _ := (fun o => hb8.frozen (p := ⟨w1.heap.size, o, none⟩) (by (first | omega | (simp; omega) | simp))))); (try (have jzw28 : w2.heap.size < w8.heap.size := (by have hh := hb8.size; (try simp at hh); omega); have jcw28 : ∀ o, w8.cell? ⟨w2.heap.size, o, none⟩ = _ := (fun o => hb8.cell (p := ⟨w2.heap.size, o, none⟩) (by (first | omega | (simp; omega) | simp))); have jfw28 : ∀ o, w8.frozen? ⟨w2.heap.size, o, none⟩ = _ := (fun o => hb8.frozen (p := ⟨w2.heap.size, o, none⟩) (by (first | omega | (simp; omega) | simp))))); (try (have jzw48 : w4.heap.size < w8.heap.size := (by have hh := hb8.size; (try simp at hh); omega); have jcw48 : ∀ o, w8.cell? ⟨w4.heap.size, o, none⟩ = _ := (fun o => hb8.cell (p := ⟨w4.heap.size, o, none⟩) (by (first | omega | (simp; omega) | simp))); have jfw48 : ∀ o, w8.frozen? ⟨w4.heap.size, o, none⟩ = _ := (fun o => hb8.frozen (p := ⟨w4.heap.size, o, none⟩) (by (first | omega | (simp; omega) | simp)))))))
  go_wp2
  go_ret
  exact ⟨by first | rfl | (rw [hTw]; simp), by (repeat (first | with_reducible exact Below.refl _ _ | with_reducible refine Below.drew ?_ | with_reducible refine below_drewN ?_ _ | (with_reducible refine bel_alloc ?_ ?_ _; (first | omega | (simp; omega) | simp)) | (with_reducible refine bel_set ?_ ?_ _; (first | omega | (simp; omega) | simp)) | (with_reducible refine bel_tr (by assumption) ?_ ?_; (first | omega | (simp; omega) | simp))))⟩
end Go.Proofs.Ytehmanlpgjccoaa
