/-
  The walk of the law on PinsOf. No conditions.
-/
import Derived.Test.YtndgaandcmiinaaPd
namespace Go.Proofs.Ytndgaandcmiinaa
open Go.RowKit

/-- A slice apart from a wheel that is marked. -/
theorem Own.mkd {w w' : World} {B K n lo hi lo' hi' : Nat} {A : Option Addr} {es : List (Nat → Int)} (h : Own B w K A n es) (hI : InB A n lo' hi') (hm : Mk lo hi w w') (hd : hi' ≤ lo ∨ hi ≤ lo') : Own B w' K A n es := by
  refine ⟨h.1, ?_⟩
  rcases Nat.eq_zero_or_pos n with h0 | h0
  · exact .inl h0
  · obtain ⟨b, off, h1, h2, h3, h4, h5⟩ := h.2.resolve_left (by omega)
    obtain ⟨a, ha, g1, g2⟩ := hI.resolve_left (by omega)
    rw [h1] at ha
    injection ha with ha
    subst ha
    have hb : b < lo ∨ hi ≤ b := by simp only [] at g1 g2; omega
    exact .inr ⟨b, off, h1, Nat.lt_of_lt_of_le h2 hm.size, h3, fun o => (hm.frozen (p := ⟨b, o, none⟩) h2 hb).trans (h4 o), fun i hi' j hj => (hm.cell (p := ⟨b, off + i * K + j, none⟩) h2 hb).trans (h5 i hi' j hj)⟩

set_option maxRecDepth 100000 in
set_option maxHeartbeats 8000000 in
theorem lawPinsOf (A : Option Addr) (N c : Nat) (S : Nat → Sp) (w : World) (hN0 : N ≤ 9223372036854775807) (h : RdW w A N S) :
    Calls Try.prog 8 #[.agg #[.slice A N c]] w fun y w' => y = .returned (.bool true) ∧ Below w.heap.size w w' := by
  have H := Lib.hid h
  clear h
  obtain ⟨T, hTT⟩ : ∃ T, pinsL N S = T := ⟨_, rfl⟩
  obtain ⟨n, hnn⟩ : ∃ n, T.length = n := ⟨_, rfl⟩
  have hn10 : n ≤ 10 := by rw [← hnn, ← hTT]; exact pinsL_len
  have HT := Lib.hid hTT
  have HN := Lib.hid hnn
  clear hTT hnn
  go_enter Try.func8, Try.ntmps8
  go_wp2_with fail
  refine (szWheel_any A N c S 1048576 _ hN0 (by omega) (by omega) (H.out.below (by (repeat (first | with_reducible exact Below.refl _ _ | with_reducible refine Below.drew ?_ | with_reducible refine below_drewN ?_ _ | (with_reducible refine bel_alloc ?_ ?_ _; (first | omega | (simp; omega) | simp)) | (with_reducible refine bel_set ?_ ?_ _; (first | omega | (simp; omega) | simp)) | (with_reducible refine bel_tr (by assumption) ?_ ?_; (first | omega | (simp; omega) | simp))))))).mono ?_
  rintro y w1 ⟨r, rfl, hb1, hr⟩
  have bc1 := bcell hb1; obtain ⟨hc1, hf1⟩ := bc1; have ks1 := hb1.size; (try simp at ks1); have kc10 : ∀ o, w1.cell? ⟨w.heap.size, o, none⟩ = _ := (fun o => hb1.cell (p := ⟨w.heap.size, o, none⟩) (by (first | omega | (simp; omega) | simp))); have kf10 : ∀ o, w1.frozen? ⟨w.heap.size, o, none⟩ = _ := (fun o => hb1.frozen (p := ⟨w.heap.size, o, none⟩) (by (first | omega | (simp; omega) | simp))); have kz10 : w.heap.size < w1.heap.size := (by have hh := hb1.size; (try simp at hh); omega)
  rcases hr with hr | ⟨hr, hs⟩
  · go_wp2
    go_ret
    exact ⟨rfl, by (repeat (first | with_reducible exact Below.refl _ _ | with_reducible refine Below.drew ?_ | with_reducible refine below_drewN ?_ _ | (with_reducible refine bel_alloc ?_ ?_ _; (first | omega | (simp; omega) | simp)) | (with_reducible refine bel_set ?_ ?_ _; (first | omega | (simp; omega) | simp)) | (with_reducible refine bel_tr (by assumption) ?_ ?_; (first | omega | (simp; omega) | simp))))⟩
  have hN : N ≤ 1048576 := by omega
  have hT : tot S N ≤ 1048576 := by omega
  have hN4 : N ≤ 4194304 := by omega
  have hT4 : tot S N ≤ 4194304 := by omega
  have hrn : ¬ r < 0 := by omega
  have hn4 : n ≤ 4194304 := by omega
  clear hs
  go_wp2_with fail
  refine (toWheel_any A N c S _ hN hT (H.out.below (by (repeat (first | with_reducible exact Below.refl _ _ | with_reducible refine Below.drew ?_ | with_reducible refine below_drewN ?_ _ | (with_reducible refine bel_alloc ?_ ?_ _; (first | omega | (simp; omega) | simp)) | (with_reducible refine bel_set ?_ ?_ _; (first | omega | (simp; omega) | simp)) | (with_reducible refine bel_tr (by assumption) ?_ ?_; (first | omega | (simp; omega) | simp))))))).mono ?_
  rintro y w2 ⟨A2, S2, rfl, o2, m2, hb2⟩
  have bc2 := bcell hb2; obtain ⟨hc2, hf2⟩ := bc2; have ks2 := hb2.size; (try simp at ks2); have kc20 : ∀ o, w2.cell? ⟨w.heap.size, o, none⟩ = _ := (fun o => hb2.cell (p := ⟨w.heap.size, o, none⟩) (by (first | omega | (simp; omega) | simp))); have kf20 : ∀ o, w2.frozen? ⟨w.heap.size, o, none⟩ = _ := (fun o => hb2.frozen (p := ⟨w.heap.size, o, none⟩) (by (first | omega | (simp; omega) | simp))); have kz20 : w.heap.size < w2.heap.size := (by have hh := hb2.size; (try simp at hh); omega)
  have O2 := Lib.hid o2
  have T2 : tot S2 N ≤ 4194304 := by rw [← m2.tot (Nat.le_refl _)]; exact hT4
  have M2 := Lib.hid m2
  clear o2 m2
  go_wp2_with fail
  refine (sPinsOf_t A2 N N S2 n T _ hN4 T2 (O2.out.rdw.below (by (repeat (first | with_reducible exact Below.refl _ _ | with_reducible refine Below.drew ?_ | with_reducible refine below_drewN ?_ _ | (with_reducible refine bel_alloc ?_ ?_ _; (first | omega | (simp; omega) | simp)) | (with_reducible refine bel_set ?_ ?_ _; (first | omega | (simp; omega) | simp)) | (with_reducible refine bel_tr (by assumption) ?_ ?_; (first | omega | (simp; omega) | simp)))))) ((pinsL_sam M2.out).symm.trans HT.out) HN.out).mono ?_
  rintro y w3 ⟨A3, c3, rfl, o3, _, hb3⟩
  have bc3 := bcell hb3; obtain ⟨hc3, hf3⟩ := bc3; have ks3 := hb3.size; (try simp at ks3); have kc30 : ∀ o, w3.cell? ⟨w.heap.size, o, none⟩ = _ := (fun o => hb3.cell (p := ⟨w.heap.size, o, none⟩) (by (first | omega | (simp; omega) | simp))); have kf30 : ∀ o, w3.frozen? ⟨w.heap.size, o, none⟩ = _ := (fun o => hb3.frozen (p := ⟨w.heap.size, o, none⟩) (by (first | omega | (simp; omega) | simp))); have kz30 : w.heap.size < w3.heap.size := (by have hh := hb3.size; (try simp at hh); omega)
  have O3 := Lib.hid o3
  have I3 := Lib.hid o3.inB
  clear o3
  go_wp2_with fail
  refine (toWheel_any A N c S _ hN hT (H.out.below (by (repeat (first | with_reducible exact Below.refl _ _ | with_reducible refine Below.drew ?_ | with_reducible refine below_drewN ?_ _ | (with_reducible refine bel_alloc ?_ ?_ _; (first | omega | (simp; omega) | simp)) | (with_reducible refine bel_set ?_ ?_ _; (first | omega | (simp; omega) | simp)) | (with_reducible refine bel_tr (by assumption) ?_ ?_; (first | omega | (simp; omega) | simp))))))).mono ?_
  rintro y w4 ⟨A4, S4, rfl, o4, m4, hb4⟩
  have bc4 := bcell hb4; obtain ⟨hc4, hf4⟩ := bc4; have ks4 := hb4.size; (try simp at ks4); have kc40 : ∀ o, w4.cell? ⟨w.heap.size, o, none⟩ = _ := (fun o => hb4.cell (p := ⟨w.heap.size, o, none⟩) (by (first | omega | (simp; omega) | simp))); have kf40 : ∀ o, w4.frozen? ⟨w.heap.size, o, none⟩ = _ := (fun o => hb4.frozen (p := ⟨w.heap.size, o, none⟩) (by (first | omega | (simp; omega) | simp))); have kz40 : w.heap.size < w4.heap.size := (by have hh := hb4.size; (try simp at hh); omega)
  have O4 := Lib.hid o4
  have T4 : tot S4 N ≤ 4194304 := by rw [← m4.tot (Nat.le_refl _)]; exact hT4
  have M4 := Lib.hid m4
  clear o4 m4
  go_wp2_with fail
  refine (iPinsOf_t A4 N N S4 n T _ hN4 T4 (O4.out.rdw.below (by (repeat (first | with_reducible exact Below.refl _ _ | with_reducible refine Below.drew ?_ | with_reducible refine below_drewN ?_ _ | (with_reducible refine bel_alloc ?_ ?_ _; (first | omega | (simp; omega) | simp)) | (with_reducible refine bel_set ?_ ?_ _; (first | omega | (simp; omega) | simp)) | (with_reducible refine bel_tr (by assumption) ?_ ?_; (first | omega | (simp; omega) | simp)))))) ((pinsL_sam M4.out).symm.trans HT.out) HN.out).mono ?_
  rintro y w5 ⟨A5, c5, rfl, o5, _, hb5⟩
  have bc5 := bcell hb5; obtain ⟨hc5, hf5⟩ := bc5; have ks5 := hb5.size; (try simp at ks5); have kc50 : ∀ o, w5.cell? ⟨w.heap.size, o, none⟩ = _ := (fun o => hb5.cell (p := ⟨w.heap.size, o, none⟩) (by (first | omega | (simp; omega) | simp))); have kf50 : ∀ o, w5.frozen? ⟨w.heap.size, o, none⟩ = _ := (fun o => hb5.frozen (p := ⟨w.heap.size, o, none⟩) (by (first | omega | (simp; omega) | simp))); have kz50 : w.heap.size < w5.heap.size := (by have hh := hb5.size; (try simp at hh); omega); (try (have jzw45 : w4.heap.size < w5.heap.size := (by have hh := hb5.size; (try simp at hh); omega); have jcw45 : ∀ o, w5.cell? ⟨w4.heap.size, o, none⟩ = _ := (fun o => hb5.cell (p := ⟨w4.heap.size, o, none⟩) (by (first | omega | (simp; omega) | simp))); have jfw45 : ∀ o, w5.frozen? ⟨w4.heap.size, o, none⟩ = _ := (fun o => hb5.frozen (p := ⟨w4.heap.size, o, none⟩) (by (first | omega | (simp; omega) | simp)))))
  have O5 := Lib.hid o5
  have I5 := Lib.hid o5.inB
  clear o5
  have I5' : Hid (InB A5 n (w4.heap.size + 1) w5.heap.size) := Lib.hid (by have h := I5.out; simp at h; exact h)
  go_wp2_with fail
  refine (eqPinS_same A5 A3 n c5 c3 T _ hn4 (O5.out.rd.below (by (repeat (first | with_reducible exact Below.refl _ _ | with_reducible refine Below.drew ?_ | with_reducible refine below_drewN ?_ _ | (with_reducible refine bel_alloc ?_ ?_ _; (first | omega | (simp; omega) | simp)) | (with_reducible refine bel_set ?_ ?_ _; (first | omega | (simp; omega) | simp)) | (with_reducible refine bel_tr (by assumption) ?_ ?_; (first | omega | (simp; omega) | simp)))))) (O3.out.rd.below (by (repeat (first | with_reducible exact Below.refl _ _ | with_reducible refine Below.drew ?_ | with_reducible refine below_drewN ?_ _ | (with_reducible refine bel_alloc ?_ ?_ _; (first | omega | (simp; omega) | simp)) | (with_reducible refine bel_set ?_ ?_ _; (first | omega | (simp; omega) | simp)) | (with_reducible refine bel_tr (by assumption) ?_ ?_; (first | omega | (simp; omega) | simp))))))).mono ?_
  rintro y w6 ⟨rfl, hb6⟩
  have bc6 := bcell hb6; obtain ⟨hc6, hf6⟩ := bc6; have ks6 := hb6.size; (try simp at ks6); have kc60 : ∀ o, w6.cell? ⟨w.heap.size, o, none⟩ = _ := (fun o => hb6.cell (p := ⟨w.heap.size, o, none⟩) (by (first | omega | (simp; omega) | simp))); have kf60 : ∀ o, w6.frozen? ⟨w.heap.size, o, none⟩ = _ := (fun o => hb6.frozen (p := ⟨w.heap.size, o, none⟩) (by (first | omega | (simp; omega) | simp))); have kz60 : w.heap.size < w6.heap.size := (by have hh := hb6.size; (try simp at hh); omega); (try (have jzw46 : w4.heap.size < w6.heap.size := (by have hh := hb6.size; (try simp at hh); omega); have jcw46 : ∀ o, w6.cell? ⟨w4.heap.size, o, none⟩ = _ := (fun o => hb6.cell (p := ⟨w4.heap.size, o, none⟩) (by (first | omega | (simp; omega) | simp))); have jfw46 : ∀ o, w6.frozen? ⟨w4.heap.size, o, none⟩ = _ := (fun o => hb6.frozen (p := ⟨w4.heap.size, o, none⟩) (by (first | omega | (simp; omega) | simp)))))
  go_wp2
  go_region_held3 (fun w' => w'.cell? ⟨w.heap.size, 0, none⟩ = some (.slice A N c) ∧ w'.cell? ⟨w4.heap.size, 0, none⟩ = some (.slice A4 N N)) ((first | (go_keep; done) | (go_simp; done))) (first
    | (go_at_call 22; refine (toWheel_any A N c S _ hN hT (H.out.below (by (repeat (first | with_reducible exact Below.refl _ _ | with_reducible refine Below.drew ?_ | with_reducible refine below_drewN ?_ _ | (with_reducible refine bel_alloc ?_ ?_ _; (first | omega | (simp; omega) | simp)) | (with_reducible refine bel_set ?_ ?_ _; (first | omega | (simp; omega) | simp)) | (with_reducible refine bel_tr (by assumption) ?_ ?_; (first | omega | (simp; omega) | simp))))))).mono ?_; rintro y w7 ⟨A7, S7, rfl, o7, m7, hb7⟩; have b67 : Below w6.heap.size w6 w7 := (by (repeat (first | with_reducible exact Below.refl _ _ | with_reducible refine Below.drew ?_ | with_reducible refine below_drewN ?_ _ | (with_reducible refine bel_alloc ?_ ?_ _; (first | omega | (simp; omega) | simp)) | (with_reducible refine bel_set ?_ ?_ _; (first | omega | (simp; omega) | simp)) | (with_reducible refine bel_tr (by assumption) ?_ ?_; (first | omega | (simp; omega) | simp))))); have s7 := b67.size; clear hb7; have kc7 : ∀ o, w7.cell? ⟨w.heap.size, o, none⟩ = _ := (fun o => b67.cell (p := ⟨w.heap.size, o, none⟩) (by (first | omega | (simp; omega) | simp))); have kd7 : ∀ o, w7.cell? ⟨w4.heap.size, o, none⟩ = _ := (fun o => b67.cell (p := ⟨w4.heap.size, o, none⟩) (by (first | omega | (simp; omega) | simp))); have O7 := Lib.hid o7; have M7 := Lib.hid m7; clear o7 m7)
    | (go_at_call 17; refine (eqWheel_same A4 A7 N N N S4 S7 _ hN4 T4 (O4.out.rdw.below (by (repeat (first | with_reducible exact Below.refl _ _ | with_reducible refine Below.drew ?_ | with_reducible refine below_drewN ?_ _ | (with_reducible refine bel_alloc ?_ ?_ _; (first | omega | (simp; omega) | simp)) | (with_reducible refine bel_set ?_ ?_ _; (first | omega | (simp; omega) | simp)) | (with_reducible refine bel_tr (by assumption) ?_ ?_; (first | omega | (simp; omega) | simp)))))) (O7.out.rdw.below (by (repeat (first | with_reducible exact Below.refl _ _ | with_reducible refine Below.drew ?_ | with_reducible refine below_drewN ?_ _ | (with_reducible refine bel_alloc ?_ ?_ _; (first | omega | (simp; omega) | simp)) | (with_reducible refine bel_set ?_ ?_ _; (first | omega | (simp; omega) | simp)) | (with_reducible refine bel_tr (by assumption) ?_ ?_; (first | omega | (simp; omega) | simp)))))) (M4.out.symm.trans M7.out)).mono ?_; rintro y w8 ⟨rfl, hb8⟩; have b78 : Below w7.heap.size w7 w8 := (by (repeat (first | with_reducible exact Below.refl _ _ | with_reducible refine Below.drew ?_ | with_reducible refine below_drewN ?_ _ | (with_reducible refine bel_alloc ?_ ?_ _; (first | omega | (simp; omega) | simp)) | (with_reducible refine bel_set ?_ ?_ _; (first | omega | (simp; omega) | simp)) | (with_reducible refine bel_tr (by assumption) ?_ ?_; (first | omega | (simp; omega) | simp))))); have s8 := b78.size; clear hb8; have kc8 : ∀ o, w8.cell? ⟨w.heap.size, o, none⟩ = _ := (fun o => b78.cell (p := ⟨w.heap.size, o, none⟩) (by (first | omega | (simp; omega) | simp))); have kd8 : ∀ o, w8.cell? ⟨w4.heap.size, o, none⟩ = _ := (fun o => b78.cell (p := ⟨w4.heap.size, o, none⟩) (by (first | omega | (simp; omega) | simp)))))
  have P4 : Hid (OwnW w3.heap.size w4.heap.size w8 A4 N S4) := Lib.hid (O4.out.below (by (repeat (first | with_reducible exact Below.refl _ _ | with_reducible refine Below.drew ?_ | with_reducible refine below_drewN ?_ _ | (with_reducible refine bel_alloc ?_ ?_ _; (first | omega | (simp; omega) | simp)) | (with_reducible refine bel_set ?_ ?_ _; (first | omega | (simp; omega) | simp)) | (with_reducible refine bel_tr (by assumption) ?_ ?_; (first | omega | (simp; omega) | simp))))))
  have P3 : Hid (Own w2.heap.size w8 2 A3 n T) := Lib.hid (O3.out.below (by (repeat (first | with_reducible exact Below.refl _ _ | with_reducible refine Below.drew ?_ | with_reducible refine below_drewN ?_ _ | (with_reducible refine bel_alloc ?_ ?_ _; (first | omega | (simp; omega) | simp)) | (with_reducible refine bel_set ?_ ?_ _; (first | omega | (simp; omega) | simp)) | (with_reducible refine bel_tr (by assumption) ?_ ?_; (first | omega | (simp; omega) | simp))))))
  have P5 : Hid (Own _ w8 2 A5 n T) := Lib.hid (O5.out.below (by (repeat (first | with_reducible exact Below.refl _ _ | with_reducible refine Below.drew ?_ | with_reducible refine below_drewN ?_ _ | (with_reducible refine bel_alloc ?_ ?_ _; (first | omega | (simp; omega) | simp)) | (with_reducible refine bel_set ?_ ?_ _; (first | omega | (simp; omega) | simp)) | (with_reducible refine bel_tr (by assumption) ?_ ?_; (first | omega | (simp; omega) | simp))))))
  have B8 : Hid (Below w.heap.size w w8) := Lib.hid (by (repeat (first | with_reducible exact Below.refl _ _ | with_reducible refine Below.drew ?_ | with_reducible refine below_drewN ?_ _ | (with_reducible refine bel_alloc ?_ ?_ _; (first | omega | (simp; omega) | simp)) | (with_reducible refine bel_set ?_ ?_ _; (first | omega | (simp; omega) | simp)) | (with_reducible refine bel_tr (by assumption) ?_ ?_; (first | omega | (simp; omega) | simp)))))
  go_wp2_with fail
  refine (markWheel_any w3.heap.size w4.heap.size A4 N N 1 S4 _ hN4 T4 (by omega) P4.out).mono ?_
  rintro y w9 ⟨rfl, _, mM⟩
  have s9 := mM.size
  have kc9 : ∀ o, w9.cell? ⟨w.heap.size, o, none⟩ = _ := fun o => mM.cell (p := ⟨w.heap.size, o, none⟩) (by (first | omega | (simp; omega) | simp)) (.inl (by (first | omega | (simp; omega) | simp)))
  have z9 : w.heap.size < w9.heap.size := by (first | omega | (simp; omega) | simp)
  have zd9 : w4.heap.size + 1 ≤ w9.heap.size := by (first | omega | (simp; omega) | simp)
  have b9 : Below w.heap.size w8 w9 := mM.below (by (first | omega | (simp; omega) | simp)) (by (first | omega | (simp; omega) | simp))
  have Q3 : Hid (Own w2.heap.size w9 2 A3 n T) := Lib.hid (P3.out.mkd I3.out mM (.inl (by (first | omega | (simp; omega) | simp))))
  have Q5 : Hid (Own _ w9 2 A5 n T) := Lib.hid (P5.out.mkd I5'.out mM (.inr (by (first | omega | (simp; omega) | simp))))
  have B9 : Hid (Below w.heap.size w w9) := Lib.hid (B8.out.trans b9)
  clear mM P3 P5 P4 O3 O5 B8 b9
  have hk0 : ¬ (((1 + 2 * tot S4 N : Nat) : Nat) : Int) < 0 := by omega
  go_wp2_with fail
  refine (eqPinS_same A5 A3 n c5 c3 T _ hn4 Q5.out.rd Q3.out.rd).mono ?_
  rintro y w10 ⟨rfl, hb10⟩
  have bc10 := bcell hb10; obtain ⟨hc10, hf10⟩ := bc10; have ks10 := hb10.size; (try simp at ks10); have kc100 : ∀ o, w10.cell? ⟨w.heap.size, o, none⟩ = _ := (fun o => hb10.cell (p := ⟨w.heap.size, o, none⟩) (by (first | omega | (simp; omega) | simp))); have kf100 : ∀ o, w10.frozen? ⟨w.heap.size, o, none⟩ = _ := (fun o => hb10.frozen (p := ⟨w.heap.size, o, none⟩) (by (first | omega | (simp; omega) | simp))); have kz100 : w.heap.size < w10.heap.size := (by have hh := hb10.size; (try simp at hh); omega)
  have U3 : Hid (Own w2.heap.size w10 2 A3 n T) := Lib.hid (Q3.out.below hb10)
  have U5 : Hid (Own _ w10 2 A5 n T) := Lib.hid (Q5.out.below hb10)
  have B10 : Hid (Below w.heap.size w w10) := Lib.hid (B9.out.trans (hb10.mono (by (first | omega | (simp; omega) | simp))))
  go_wp2_with fail
  refine (markPinS_any _ A5 n c5 1 T _ hn4 (by omega) U5.out).mono ?_
  rintro y w11 ⟨rfl, m11⟩
  have s11 : w10.heap.size ≤ w11.heap.size := by have := m11.2.2; omega
  have b11 : Below (w4.heap.size + 1) w10 w11 := m11.below I5'.out (Nat.le_refl _) (by (first | omega | (simp; omega) | simp))
  have kc11 : ∀ o, w11.cell? ⟨w.heap.size, o, none⟩ = _ := fun o => b11.cell (p := ⟨w.heap.size, o, none⟩) (by (first | omega | (simp; omega) | simp))
  have V3 : Hid (Own w2.heap.size w11 2 A3 n T) := Lib.hid (U3.out.grown_ m11.2.1 (ne_of_InB I3.out I5'.out (.inl (by (first | omega | (simp; omega) | simp)))))
  have V5 := Lib.hid m11.1
  have B11 : Hid (Below w.heap.size w w11) := Lib.hid (B10.out.trans (b11.mono (by (first | omega | (simp; omega) | simp))))
  clear m11 b11 U3 U5 Q3 Q5
  have z11 : w.heap.size < w11.heap.size := by (first | omega | (simp; omega) | simp)
  go_wp2_with fail
  refine (heldPinS_any A5 n c5 1 _ hn4 (by omega) V5.out.rd).mono ?_
  rintro y w12 ⟨rfl, rfl⟩
  have hq0 : ¬ (((1 + n * 2 : Nat) : Nat) : Int) < 0 := by omega
  go_wp2_with fail
  refine (toWheel_any A N c S _ hN hT (H.out.below B11.out)).mono ?_
  rintro y w13 ⟨A13, S13, rfl, o13, m13, hb13⟩
  have s13 := hb13.size
  have T13 : tot S13 N ≤ 4194304 := by rw [← m13.tot (Nat.le_refl _)]; exact hT4
  have O13 := Lib.hid o13
  have M13 := Lib.hid m13
  clear o13 m13
  go_wp2_with fail
  refine (iPinsOf_t A13 N N S13 n T _ hN4 T13 O13.out.rdw ((pinsL_sam M13.out).symm.trans HT.out) HN.out).mono ?_
  rintro y w14 ⟨A14, c14, rfl, o14, _, hb14⟩
  have s14 := hb14.size
  have O14 := Lib.hid o14
  clear o14
  go_wp2_with fail
  refine (eqPinS_same A14 A3 n c14 c3 T _ hn4 O14.out.rd (V3.out.rd.below (hb13.trans (hb14.mono s13)))).mono ?_
  rintro y w15 ⟨rfl, hb15⟩
  have b15 := hb13.trans ((hb14.mono s13).trans (hb15.mono (Nat.le_trans s13 s14)))
  have V6 : Hid (Rd w15 2 A5 n (marks 2 1 n)) := Lib.hid (V5.out.rd.below b15)
  go_wp2_with fail
  refine (heldPinS_any A5 n c5 1 _ hn4 (by omega) V6.out).mono ?_
  rintro y w16 ⟨rfl, rfl⟩
  go_wp2
  go_ret
  exact ⟨rfl, B11.out.trans (b15.mono (by omega))⟩
end Go.Proofs.Ytndgaandcmiinaa
