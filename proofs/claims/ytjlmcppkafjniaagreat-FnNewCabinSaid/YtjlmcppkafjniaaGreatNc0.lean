/-
  Drawn numbers of seats and the cabin that parties make. No conditions beyond those stated.
-/
import Derived.Test.YtjlmcppkafjniaaGreatDz
import Derived.Test.YtjlmcppkafjniaaGreatQfI
import Derived.Test.YtjlmcppkafjniaaGreatLv
import Derived.Test.YtjlmcppkafjniaaGreatWe
import Derived.Deep.DeepCutAuto
namespace Go.Proofs.YtjlmcppkafjniaaGreat
open Go.RowKit

def zcab : Nat → Value
  | 5 => .slice none 0 0
  | 6 => .slice none 0 0
  | _ => .int .i64 0
theorem all7 {P : Nat → Prop} (h0 : P 0) (h1 : P 1) (h2 : P 2) (h3 : P 3) (h4 : P 4) (h5 : P 5) (h6 : P 6) : ∀ j, j < 7 → P j
  | 0, _ => h0 | 1, _ => h1 | 2, _ => h2 | 3, _ => h3 | 4, _ => h4 | 5, _ => h5 | 6, _ => h6
  | n + 7, h => absurd h (by omega)
theorem Bx.zcab (w : World) (t : TypeId) : Bx (w.alloc (.cells #[.int .i64 0, .int .i64 0, .int .i64 0, .int .i64 0, .int .i64 0, .slice none 0 0, .slice none 0 0] t)) w.heap.size 7 zcab :=
  ⟨by simp, fun o => by (first | (simp; done) | (go_simp; done)), all7 (by show _ = some (Value.int .i64 0); (first | (simp; done) | (go_simp; done))) (by show _ = some (Value.int .i64 0); (first | (simp; done) | (go_simp; done))) (by show _ = some (Value.int .i64 0); (first | (simp; done) | (go_simp; done))) (by show _ = some (Value.int .i64 0); (first | (simp; done) | (go_simp; done))) (by show _ = some (Value.int .i64 0); (first | (simp; done) | (go_simp; done))) (by show _ = some (Value.slice none 0 0); (first | (simp; done) | (go_simp; done))) (by show _ = some (Value.slice none 0 0); (first | (simp; done) | (go_simp; done)))⟩
theorem l1Max_b (a b : Int) (w : World) :
    Calls Tryz.prog 70 #[.int .i64 a, .int .i64 b] w fun y w' => ∃ x, y = .returned (.int .i64 x) ∧ (x = a ∨ x = b) ∧ w = w' :=
  (l1Max_any a b w).mono fun y w' ⟨h1, h2⟩ => ⟨_, h1, by split <;> simp, h2⟩

set_option maxHeartbeats 1000000 in
theorem drawLedgerNew_any (A : Option Addr) (n c : Nat) (w : World) (hn : n ≤ 1048576) (h : RdB w A n) :
    Calls Tryz.prog 23 #[.slice A n c] w fun y w' => ∃ x : Int, y = .returned (.int .i64 x) ∧ Below w.heap.size w w' := by
  have HB := Lib.hid h
  clear h
  go_enter Tryz.func23, Tryz.ntmps23
  go_wp2_with fail
  refine (l1New_c w.heap.size A n c _ rfl hn HB.out).mono ?_
  rintro y w1 ⟨rfl, hc1, b1⟩
  have s1 := b1.size
  (try simp at s1)
  have hlt1 := hc1.lt
  have C1 := Lib.hid hc1
  have B1 := Lib.hid b1
  clear hc1 b1
  go_wp2_with fail
  refine (l1PickInt_any _ _ 7 7 _ _ (C1.out.below (by (repeat (first | with_reducible exact Below.refl _ _ | with_reducible refine Below.drew ?_ | with_reducible refine below_drewN ?_ _ | (with_reducible refine bel_alloc ?_ ?_ _; (first | omega | (simp; omega) | simp)) | (with_reducible refine bel_set ?_ ?_ _; (first | omega | (simp; omega) | simp)) | (with_reducible refine bel_tr (by assumption) ?_ ?_; (first | omega | (simp; omega) | simp)))))) (rd_litsb _ _ [0, 1, 8, 60, 61, -1, 9223372036854775807] _ (by (first | omega | (simp; omega) | simp))) (by omega) (by omega) (by rintro a ⟨⟩; show _ ≠ _; (first | omega | (simp; omega) | simp))).mono ?_
  rintro y w2 ⟨x, rfl, _, d2⟩
  have B2 : Hid (Below w.heap.size w w2) := Lib.hid (bel_tr (d2.toBelow (B := w.heap.size) (by (first | omega | (simp; omega) | simp)) (by (first | omega | (simp; omega) | simp))) (Nat.le_refl _) (by have q1 := B1.out; (repeat (first | with_reducible exact Below.refl _ _ | with_reducible refine Below.drew ?_ | with_reducible refine below_drewN ?_ _ | (with_reducible refine bel_alloc ?_ ?_ _; (first | omega | (simp; omega) | simp)) | (with_reducible refine bel_set ?_ ?_ _; (first | omega | (simp; omega) | simp)) | (with_reducible refine bel_tr (by assumption) ?_ ?_; (first | omega | (simp; omega) | simp))))))
  clear d2
  go_wp2
  go_ret
  exact ⟨x, rfl, B2.out⟩

set_option maxHeartbeats 1000000 in
theorem drawCabinNew_any (A : Option Addr) (n c : Nat) (w : World) (hn : n ≤ 1048576) (h : RdB w A n) :
    Calls Tryz.prog 6 #[.slice A n c] w fun y w' => ∃ x : Int, y = .returned (.int .i64 x) ∧ Below w.heap.size w w' := by
  have HB := Lib.hid h
  clear h
  go_enter Tryz.func6, Tryz.ntmps6
  go_wp2_with fail
  refine (drawLedgerNew_any A n c _ hn HB.out).mono ?_
  rintro y w1 ⟨x, rfl, b1⟩
  go_wp2
  go_ret
  exact ⟨x, rfl, b1⟩

set_option maxRecDepth 100000 in
set_option maxHeartbeats 8000000 in
theorem l10Made_any (A : Option Addr) (n c : Nat) (es : List (Nat → Int)) (r : Nat → Int) (P : Option Addr) (m pc : Nat) (ps : List (Nat → Int)) (q : Nat) (now free : Int) (ok : Nat → Bool) (w : World) (hn : n ≤ 4194304) (hm : m ≤ 5) (hq : q < n) (hR : ∀ i, i < n → 1 ≤ fld es i 0 ∧ fld es i 0 ≤ 60) (hf0 : 0 ≤ free) (hf1 : free ≤ 3) (h : Rd w 1 A n es) (hp : Rd w 10 P m ps) (hok : OkF ok n es r now ps q) :
    Calls Tryz.prog 30 #[.agg #[.slice A n c, .int .i64 (r 1), .int .i64 (r 2), .int .i64 (r 3), .int .i64 (r 4), .int .i64 (r 5), .int .i64 (r 6), .int .i64 (r 7), .int .i64 (r 8)], .slice P m pc, .int .i64 q, .int .i64 now, .int .i64 free] w fun y w' => (∃ (x : Nat → Int) (AE : Option Addr) (k kc : Nat) (WA : Option Addr) (N cw : Nat), y = .returned (.agg #[.int .i64 (x 0), .int .i64 (x 1), .int .i64 (x 2), .int .i64 (x 3), .int .i64 (x 4), .slice AE k kc, .slice WA N cw])) ∧ Below w.heap.size w w' := by
  obtain ⟨c0, hc0⟩ : ∃ c0, c = c0 := ⟨_, rfl⟩
  rw [hc0]
  clear hc0 c
  obtain ⟨b, off, rfl, hb, hc⟩ := h.2.resolve_left (by omega)
  have f0 : w.cell? ⟨b, off + q, none⟩ = some (.int .i64 (fld es q 0)) := by have h0 := hc q hq 0 (by omega); rw [Nat.mul_one, Nat.add_zero] at h0; exact h0
  clear hc
  have H := Lib.hid h
  have HP := Lib.hid hp
  have HK := Lib.hid hok
  have F0 := Lib.hid f0
  obtain ⟨sv, hsv⟩ : ∃ sv, fld es q 0 = sv := ⟨_, rfl⟩
  have hv1 : 1 ≤ sv ∧ sv ≤ 60 := by rw [← hsv]; exact hR q hq
  obtain ⟨hv0, hv2⟩ := hv1
  rw [hsv] at F0
  clear h hp hok f0 hsv hR
  obtain ⟨hd, hhd⟩ : ∃ hd, sumTo (heldF ps (q : Int)) m = hd := ⟨_, rfl⟩
  obtain ⟨td, htd⟩ : ∃ td, sumTo (tiedF ps (q : Int)) m = td := ⟨_, rfl⟩
  have ihd : 0 ≤ hd ∧ hd ≤ 60 := by have hh := sumTo_le (heldF ps (q : Int)) 6 (heldF_b _ _) m; rw [hhd] at hh; omega
  have itd : 0 ≤ td ∧ td ≤ 60 := by have hh := sumTo_le (tiedF ps (q : Int)) 6 (tiedF_b _ _) m; rw [htd] at hh; omega
  obtain ⟨hd0, hd1⟩ := ihd
  obtain ⟨td0, td1⟩ := itd
  have HD := Lib.hid hhd
  have HT := Lib.hid htd
  clear hhd htd
  have hm0 : m ≤ 4194304 := by omega
  have hm4 : m ≤ 4194303 := by omega
  have hw1 : IntKind.i64.wrap (sv - hd) = sv - hd := by (rw [IntKind.wrap_i64]; omega)
  have hw2 : IntKind.i64.wrap (sv - hd - free) = sv - hd - free := by (rw [IntKind.wrap_i64]; omega)
  go_enter Tryz.func30, Tryz.ntmps30
  go_wp2_with fail
  refine (sWheelNew_any _).mono ?_
  rintro y w1 ⟨A1, c1, S1, rfl, g1, e1, hb1⟩
  have Z0 := Lib.hid (((Bx.rules w 37 (some ⟨b, off, none⟩) n c0 r).alloc (.cells #[.int .i64 0, .int .i64 ((fun _ => 0) 1), .int .i64 ((fun _ => 0) 2), .int .i64 ((fun _ => 0) 3), .int .i64 ((fun _ => 0) 4), .slice none 0 0, .slice none 0 0] 32)).below hb1)
  have Z1 := Lib.hid ((Bx.zcab (w.alloc (.cells #[.slice (some ⟨b, off, none⟩) n c0, .int .i64 (r 1), .int .i64 (r 2), .int .i64 (r 3), .int .i64 (r 4), .int .i64 (r 5), .int .i64 (r 6), .int .i64 (r 7), .int .i64 (r 8)] 37)) 32).below hb1)
  (try simp at Z1)
  have ks1 := hb1.size
  (try simp at ks1)
  have s1 : w.heap.size + 1 + 1 ≤ w1.heap.size := by omega
  have G1 : Hid (Gat (w.heap.size + 1 + 1) w1 (.slice A1 9 c1) 9 S1) := Lib.hid (g1.lower (by (first | omega | (simp; omega) | simp)))
  have T1 : Hid (tot S1 9 ≤ 10) := Lib.hid (by rw [tot_zero fun i hi => (e1 i hi).1]; omega)
  have B1 : Hid (Below w.heap.size w w1) := Lib.hid (by (repeat (first | with_reducible exact Below.refl _ _ | with_reducible refine Below.drew ?_ | with_reducible refine below_drewN ?_ _ | (with_reducible refine bel_alloc ?_ ?_ _; (first | omega | (simp; omega) | simp)) | (with_reducible refine bel_set ?_ ?_ _; (first | omega | (simp; omega) | simp)) | (with_reducible refine bel_tr (by assumption) ?_ ?_; (first | omega | (simp; omega) | simp)))))
  clear g1 e1 hb1
  go_wp2_with fail
  refine (sPinsIn_n P m pc q ps _ hm4 (HP.out.below (by have q1 := B1.out; (repeat (first | with_reducible exact Below.refl _ _ | with_reducible refine Below.drew ?_ | with_reducible refine below_drewN ?_ _ | (with_reducible refine bel_alloc ?_ ?_ _; (first | omega | (simp; omega) | simp)) | (with_reducible refine bel_set ?_ ?_ _; (first | omega | (simp; omega) | simp)) | (with_reducible refine bel_tr (by assumption) ?_ ?_; (first | omega | (simp; omega) | simp))))))).mono ?_
  rintro y w3 ⟨AL, N, cL, rfl, oL, _, hb3⟩
  have s3 := hb3.size
  (try simp at s3)
  have LN : N ≤ 5 := by have h1 := oL.1; have h2 := pinF_len ps (q : Int) m; rw [sortL_len] at h1; omega
  obtain ⟨pl, hpl⟩ : ∃ pl, pl = sortL (pinF ps (q : Int) m) (pinF ps (q : Int) m).length := ⟨_, rfl⟩
  rw [← hpl] at oL
  have RL : Hid (Own (w1.heap.size + 1) w3 2 AL N pl) := Lib.hid (oL.mono (by (first | omega | (simp; omega) | simp)))
  have xB : w3.cell? ⟨w1.heap.size, 0, none⟩ = some (.slice A1 9 c1) := (hb3.cell (p := ⟨w1.heap.size, 0, none⟩) (by (first | omega | (simp; omega) | simp))).trans (by (first | (go_keep; done) | (go_simp; done)))
  have fB : w3.frozen? ⟨w1.heap.size, 0, none⟩ = false := (hb3.frozen (p := ⟨w1.heap.size, 0, none⟩) (by (first | omega | (simp; omega) | simp))).trans (by (first | (go_keep; done) | (go_simp; done)))
  have X0 : Hid (Bx w3 w.heap.size 9 (rv (some ⟨b, off, none⟩) n c0 r)) := Lib.hid ((Z0.out.alloc _).below hb3)
  have X1 : Hid (Bx w3 (w.heap.size + 1) 7 zcab) := Lib.hid ((Z1.out.alloc _).below hb3)
  have G3 : Hid (Gat (w.heap.size + 1 + 1) w3 (.slice A1 9 c1) 9 S1) := Lib.hid ((G1.out.below (by exact (Below.refl _ _).alloc (Nat.le_refl _) _)).below hb3)
  have B3 : Hid (Below w.heap.size w w3) := Lib.hid (bel_tr hb3 (by (first | omega | (simp; omega) | simp)) (by have q1 := B1.out; (repeat (first | with_reducible exact Below.refl _ _ | with_reducible refine Below.drew ?_ | with_reducible refine below_drewN ?_ _ | (with_reducible refine bel_alloc ?_ ?_ _; (first | omega | (simp; omega) | simp)) | (with_reducible refine bel_set ?_ ?_ _; (first | omega | (simp; omega) | simp)) | (with_reducible refine bel_tr (by assumption) ?_ ?_; (first | omega | (simp; omega) | simp))))))
  have sL : w1.heap.size + 1 ≤ w3.heap.size := by (first | omega | (simp; omega) | simp)
  clear oL hb3 hpl Z0 Z1 B1 G1
  go_wp2
  go_loopw [13] (fun i wr => ∃ k : Nat, k ≤ N ∧ i = .int .i64 k ∧ ∃ A c S, Hid (Gat (w.heap.size + 1 + 1) wr (.slice A 9 c) 9 S) ∧ Hid (tot S 9 ≤ 10) ∧ Hid (Own (w1.heap.size + 1) wr 2 AL N pl) ∧ Hid (Below w.heap.size w wr) ∧ w1.heap.size + 1 ≤ wr.heap.size ∧ wr.cell? ⟨w1.heap.size, 0, none⟩ = some (.slice A 9 c) ∧ wr.frozen? ⟨w1.heap.size, 0, none⟩ = false ∧ Hid (Bx wr w.heap.size 9 (rv (some ⟨b, off, none⟩) n c0 r)) ∧ Hid (Bx wr (w.heap.size + 1) 7 zcab)) (fun i _ => N - (intOf i).toNat)
  case atStart => exact ⟨0, Nat.zero_le _, rfl, A1, c1, S1, G3, T1, RL, B3, sL, xB, fB, X0, X1⟩
  case round =>
    obtain ⟨k, hk, rfl, A, c, S, HG, HT0, HO, HB, hs, x0, z0, Y0, Y1⟩ := hrel
    by_cases hlt2 : k < N
    · have hki : (k : Int) < ((N : Nat) : Int) := by omega
      have hcs := (HO.out.rd).2
      obtain ⟨b2, off2, hA, hb2, hc2⟩ := hcs.resolve_left (by omega)
      have hbl : w1.heap.size + 1 ≤ b2 := by
        obtain ⟨a, ha, h1, h2⟩ := HO.out.inB.resolve_left (by omega)
        rw [hA] at ha
        injection ha with ha
        subst ha
        exact h1
      have g0 := hc2 k hlt2 0 (by omega)
      have g1 := hc2 k hlt2 1 (by omega)
      rw [Nat.add_zero] at g0
      clear hc2 hcs
      subst hA
      obtain ⟨E, bv, hR⟩ := putR_ex 9 S (fld pl k)
      have HR := Lib.hid hR
      have HL := Lib.hid HG.out.own1.1.rdw.lens
      clear hR xB fB X0 X1 G3 B3 RL
      have ht10 : tot S 9 ≤ 4194303 := by have := HT0.out; omega
      go_upto_region 6 with fail
      (
        go_region_with (
          (go_at_call 69; refine (sWheelPut_gat A 9 c S (fld pl k) E bv _ (by omega) ht10 (HG.out.own1.1.rdw.below (by (repeat (first | with_reducible exact Below.refl _ _ | with_reducible refine Below.drew ?_ | with_reducible refine below_drewN ?_ _ | (with_reducible refine bel_alloc ?_ ?_ _; (first | omega | (simp; omega) | simp)) | (with_reducible refine bel_set ?_ ?_ _; (first | omega | (simp; omega) | simp)) | (with_reducible refine bel_tr (by assumption) ?_ ?_; (first | omega | (simp; omega) | simp)))))) HR.out).mono ?_; rintro y w5 ⟨A5, c5, S5, rfl, g5, e5, _, hb5⟩; have b5 : Below wr.heap.size wr w5 := (Below.drew (Below.refl _ wr)).trans hb5; clear hb5; have s5 := b5.size; have G5 : Hid (Gat wr.heap.size w5 (.slice A5 9 c5) 9 S5) := Lib.hid g5; have T5 : Hid (tot S5 9 ≤ 10) := Lib.hid (put_tot HR.out HT0.out HL.out g5.own1.1.rdw.lens e5); clear g5 e5; have y0 := (b5.cell (p := ⟨w1.heap.size, 0, none⟩) (by (first | omega | (simp; omega) | simp))).trans x0; have y1 := (b5.frozen (p := ⟨w1.heap.size, 0, none⟩) (by (first | omega | (simp; omega) | simp))).trans z0))
        all_goals
          have y4 : (w5.setCell ⟨w1.heap.size, 0, none⟩ (.slice A5 9 c5)).cell? ⟨w1.heap.size, 0, none⟩ = some (.slice A5 9 c5) := World.cell?_setCell_same' _ _ _ (by rw [y0]; rfl)
          have y5 : (w5.setCell ⟨w1.heap.size, 0, none⟩ (.slice A5 9 c5)).frozen? ⟨w1.heap.size, 0, none⟩ = false := (World.frozen?_setCell _ _ _ _).trans y1
          have U0 : Hid (Bx (w5.setCell ⟨w1.heap.size, 0, none⟩ (.slice A5 9 c5)) w.heap.size 9 (rv (some ⟨b, off, none⟩) n c0 r)) := Lib.hid ((Y0.out.below b5).set_ne _ (by omega))
          have U1 : Hid (Bx (w5.setCell ⟨w1.heap.size, 0, none⟩ (.slice A5 9 c5)) (w.heap.size + 1) 7 zcab) := Lib.hid ((Y1.out.below b5).set_ne _ (by omega))
          have B5 : Hid (Below w.heap.size w (w5.setCell ⟨w1.heap.size, 0, none⟩ (.slice A5 9 c5))) := Lib.hid (Below.setCell (bel_tr b5 (by omega) HB.out) (show w.heap.size ≤ w1.heap.size by omega) _)
          have O5 : Hid (Own (w1.heap.size + 1) (w5.setCell ⟨w1.heap.size, 0, none⟩ (.slice A5 9 c5)) 2 (some ⟨b2, off2, none⟩) N pl) := Lib.hid ((HO.out.below b5).set_ (by (first | omega | (simp; omega) | simp)) _)
          have G6 : Hid (Gat (w.heap.size + 1 + 1) (w5.setCell ⟨w1.heap.size, 0, none⟩ (.slice A5 9 c5)) (.slice A5 9 c5) 9 S5) := Lib.hid ((G5.out.set_ (by (first | omega | (simp; omega) | simp)) _).lower (by omega))
          have sz5 : (w5.setCell ⟨w1.heap.size, 0, none⟩ (.slice A5 9 c5)).heap.size = w5.heap.size := by simp [World.setCell]
          go_wp2
          go_roundw
          case rel => exact ⟨k + 1, by omega, by go_num, A5, c5, S5, G6, T5, O5, B5, by omega, y4, y5, U0, U1⟩
          case measure => (simp [intOf]; omega))
    · have hkn : N = k := by omega
      subst hkn
      clear xB fB X0 X1 G3 B3 RL
      have hki : ¬ ((N : Nat) : Int) < ((N : Nat) : Int) := by omega
      go_wp2_with fail
      refine (sHeldIn_t P m pc q ps hd _ hm0 (HP.out.below HB.out) HD.out).mono ?_
      rintro y w6 ⟨rfl, b6⟩
      have s6 := b6.size
      have V0 := Lib.hid (Y0.out.below b6)
      have V1 := Lib.hid (Y1.out.below b6)
      have HB6 := Lib.hid (bel_tr b6 (by omega) HB.out)
      have x6 := (b6.cell (p := ⟨w1.heap.size, 0, none⟩) (by (first | omega | (simp; omega) | simp))).trans x0
      have z6 := (b6.frozen (p := ⟨w1.heap.size, 0, none⟩) (by (first | omega | (simp; omega) | simp))).trans z0
      clear b6
      go_wp2_with fail
      refine (sTiedIn_t P m pc q ps td _ hm0 (HP.out.below HB6.out) HT.out).mono ?_
      rintro y w7 ⟨rfl, b7⟩
      have s7 := b7.size
      have U0 := Lib.hid (V0.out.below b7)
      have U1 := Lib.hid (V1.out.below b7)
      have HB7 := Lib.hid (bel_tr b7 (by omega) HB6.out)
      have x7 := (b7.cell (p := ⟨w1.heap.size, 0, none⟩) (by (first | omega | (simp; omega) | simp))).trans x6
      have z7 := (b7.frozen (p := ⟨w1.heap.size, 0, none⟩) (by (first | omega | (simp; omega) | simp))).trans z6
      clear b7
      have hq0 : (0 : Int) ≤ (q : Int) := by omega
      have hqn : (q : Int) < (n : Int) := by omega
      have e0 : w7.cell? ⟨b, off + q, none⟩ = some (.int .i64 sv) := (HB7.out.cell (p := ⟨b, off + q, none⟩) hb).trans F0.out
      have rc0 : _ = some (Value.slice (some ⟨b, off, none⟩) n c0) := (U0.out).2.2 0 (by omega)
      have rc1 : _ = some (Value.int .i64 (r 1)) := (U0.out).2.2 1 (by omega)
      have rc2 : _ = some (Value.int .i64 (r 2)) := (U0.out).2.2 2 (by omega)
      have rc3 : _ = some (Value.int .i64 (r 3)) := (U0.out).2.2 3 (by omega)
      have rc4 : _ = some (Value.int .i64 (r 4)) := (U0.out).2.2 4 (by omega)
      have rc5 : _ = some (Value.int .i64 (r 5)) := (U0.out).2.2 5 (by omega)
      have rc6 : _ = some (Value.int .i64 (r 6)) := (U0.out).2.2 6 (by omega)
      have rc7 : _ = some (Value.int .i64 (r 7)) := (U0.out).2.2 7 (by omega)
      have rc8 : _ = some (Value.int .i64 (r 8)) := (U0.out).2.2 8 (by omega)
      go_wp2_with fail
      refine (l1Max_b td (sv - hd - free) _).mono ?_
      rintro y _ ⟨sl, rfl, hsl, rfl⟩
      have hsl2 : -200 ≤ sl ∧ sl ≤ 200 := by omega
      obtain ⟨hs0, hs1⟩ := hsl2
      have hw3 : IntKind.i64.wrap (sv - hd - sl) = sv - hd - sl := by (rw [IntKind.wrap_i64]; omega)
      clear hsl e0
      clear rc0 rc1 rc2 rc3 rc4 rc5 rc6 rc7 rc8
      have rc0 : _ = some (Value.slice (some ⟨b, off, none⟩) n c0) := (U0.out).2.2 0 (by omega)
      have rc1 : _ = some (Value.int .i64 (r 1)) := (U0.out).2.2 1 (by omega)
      have rc2 : _ = some (Value.int .i64 (r 2)) := (U0.out).2.2 2 (by omega)
      have rc3 : _ = some (Value.int .i64 (r 3)) := (U0.out).2.2 3 (by omega)
      have rc4 : _ = some (Value.int .i64 (r 4)) := (U0.out).2.2 4 (by omega)
      have rc5 : _ = some (Value.int .i64 (r 5)) := (U0.out).2.2 5 (by omega)
      have rc6 : _ = some (Value.int .i64 (r 6)) := (U0.out).2.2 6 (by omega)
      have rc7 : _ = some (Value.int .i64 (r 7)) := (U0.out).2.2 7 (by omega)
      have rc8 : _ = some (Value.int .i64 (r 8)) := (U0.out).2.2 8 (by omega)
      go_upto_region 11 with fail
      (
        go_region_with (
          (go_at_call 50; refine (sQueueOf_any (some ⟨b, off, none⟩) n c0 es r P m pc ps q now ok _ hn hm4 (H.out.below (by have q1 := HB7.out; (repeat (first | with_reducible exact Below.refl _ _ | with_reducible refine Below.drew ?_ | with_reducible refine below_drewN ?_ _ | (with_reducible refine bel_alloc ?_ ?_ _; (first | omega | (simp; omega) | simp)) | (with_reducible refine bel_set ?_ ?_ _; (first | omega | (simp; omega) | simp)) | (with_reducible refine bel_tr (by assumption) ?_ ?_; (first | omega | (simp; omega) | simp)))))) (HP.out.below (by have q1 := HB7.out; (repeat (first | with_reducible exact Below.refl _ _ | with_reducible refine Below.drew ?_ | with_reducible refine below_drewN ?_ _ | (with_reducible refine bel_alloc ?_ ?_ _; (first | omega | (simp; omega) | simp)) | (with_reducible refine bel_set ?_ ?_ _; (first | omega | (simp; omega) | simp)) | (with_reducible refine bel_tr (by assumption) ?_ ?_; (first | omega | (simp; omega) | simp)))))) HK.out).mono ?_; rintro y w9 ⟨A9, q9, c9, rfl, o9, _, hb9⟩; have b9 : Below w7.heap.size w7 w9 := (Below.drew (Below.refl _ w7)).trans hb9; clear hb9 o9; have s9 := b9.size; have x9 := (b9.cell (p := ⟨w1.heap.size, 0, none⟩) (by (first | omega | (simp; omega) | simp))).trans x7; have z9 := (b9.frozen (p := ⟨w1.heap.size, 0, none⟩) (by (first | omega | (simp; omega) | simp))).trans z7; have V9 := Lib.hid (U1.out.below b9); have HB9 := Lib.hid (bel_tr b9 (by omega) HB7.out); have qc0 : _ = some (Value.int .i64 0) := V9.out.2.2 0 (by omega); have qf0 := V9.out.2.1 0; have qc1 : _ = some (Value.int .i64 0) := V9.out.2.2 1 (by omega); have qf1 := V9.out.2.1 1; have qc2 : _ = some (Value.int .i64 0) := V9.out.2.2 2 (by omega); have qf2 := V9.out.2.1 2; have qc3 : _ = some (Value.int .i64 0) := V9.out.2.2 3 (by omega); have qf3 := V9.out.2.1 3; have qc4 : _ = some (Value.int .i64 0) := V9.out.2.2 4 (by omega); have qf4 := V9.out.2.1 4; have qc5 : _ = some (Value.slice none 0 0) := V9.out.2.2 5 (by omega); have qf5 := V9.out.2.1 5; have qc6 : _ = some (Value.slice none 0 0) := V9.out.2.2 6 (by omega); have qf6 := V9.out.2.1 6))
        all_goals
          go_wp2
          refine bodyPost_ret (v := .agg #[.int .i64 sv, .int .i64 (sv - hd - sl), .int .i64 hd, .int .i64 sl, .int .i64 td, .slice A9 q9 c9, .slice A 9 c]) (by simp only [results, Tryz.results30]; first | (go_simp; done) | (go_simp; omega)) rfl ⟨⟨(fun j => [sv, sv - hd - sl, hd, sl, td].getD j 0), A9, q9, c9, A, 9, c, rfl⟩, ?_⟩
          have q9 := HB9.out
          (repeat (first | with_reducible exact Below.refl _ _ | with_reducible refine Below.drew ?_ | with_reducible refine below_drewN ?_ _ | (with_reducible refine bel_alloc ?_ ?_ _; (first | omega | (simp; omega) | simp)) | (with_reducible refine bel_set ?_ ?_ _; (first | omega | (simp; omega) | simp)) | (with_reducible refine bel_tr (by assumption) ?_ ?_; (first | omega | (simp; omega) | simp)))))
end Go.Proofs.YtjlmcppkafjniaaGreat
