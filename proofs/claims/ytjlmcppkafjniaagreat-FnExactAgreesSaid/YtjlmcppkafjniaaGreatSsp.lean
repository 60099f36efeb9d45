/-
  The contract of slices.insertionSortCmpFunc on a part of a row (impl.Pin): stable. Conditions: the row may be written.
-/
import Derived.Test.YtjlmcppkafjniaaGreatSt
import Derived.Test.YtjlmcppkafjniaaGreatWs
import Derived.Test.YtjlmcppkafjniaaGreatCe
import Derived.Test.YtjlmcppkafjniaaGreatAt
import Derived.Test.YtjlmcppkafjniaaGreatMk
import Derived.Great.Walk
namespace Go.Proofs.YtjlmcppkafjniaaGreat
open Go.RowKit

set_option maxRecDepth 100000 in
set_option maxHeartbeats 8000000 in
theorem sPinsOf_any (A : Option Addr) (N c : Nat) (S : Nat → Sp) (w : World) (hN : N ≤ 4194304) (hT : tot S N ≤ 4194304) (h : RdW w A N S) :
    Calls Tryz.prog 52 #[.agg #[.slice A N c]] w fun y w' => ∃ (A' : Option Addr) (n' c' : Nat), y = .returned (.slice A' n' c') ∧ Own w.heap.size w' 2 A' n' (pinsL N S) ∧ (n' ≤ c' ∧ c' ≤ 9223372036854775807) ∧ Below w.heap.size w w' := by
  have H := Lib.hid h
  have HLen := Lib.hid h.lens
  clear h
  have r0 : Hid (((w.alloc (.cells #[.slice A N c] 30)).alloc (.cells #[] 87)).ownsRow (w.heap.size + 1) 87 2 (.slice (some ⟨w.heap.size + 1, 0, none⟩) 0 0) 0 (flat 2 [])) := Lib.hid (by
    have h := rowE (w.alloc (.cells #[.slice A N c] 30)) 87 2
    have e : (w.alloc (.cells #[.slice A N c] 30)).heap.size = w.heap.size + 1 := by simp
    rw [e] at h
    exact h)
  obtain ⟨w0, hw0⟩ : ∃ w0, w0 = (w.alloc (.cells #[.slice A N c] 30)).alloc (.cells #[] 87) := ⟨_, rfl⟩
  have b0 : Below w.heap.size w w0 := by rw [hw0]; (repeat (first | with_reducible exact Below.refl _ _ | with_reducible refine Below.drew ?_ | with_reducible refine below_drewN ?_ _ | (with_reducible refine bel_alloc ?_ ?_ _; (first | omega | (simp; omega) | simp)) | (with_reducible refine bel_set ?_ ?_ _; (first | omega | (simp; omega) | simp)) | (with_reducible refine bel_tr (by assumption) ?_ ?_; (first | omega | (simp; omega) | simp))))
  have s0 : w0.heap.size = w.heap.size + 2 := by rw [hw0]; simp
  have k0 : w0.cell? ⟨w.heap.size, 0, none⟩ = some (.slice A N c) := by rw [hw0]; (first | (go_keep; done) | (go_simp; done))
  rw [← hw0] at r0
  by_cases hW : WOK N S
  case neg =>
    go_enter Tryz.func52, Tryz.ntmps52
    go_wp2_with fail
    rw [← hw0]
    refine (tn (sWheelOk_any A N c S _ hN hT (H.out.below b0)) hW).mono ?_
    rintro y w1 ⟨rfl, hb1⟩
    have r1 := row_below r0.out hb1
    obtain ⟨A3, c3, he3, hc1, hc2, o3⟩ := own_of_row_cap rfl r1
    cases he3
    go_wp2
    go_ret
    exact ⟨_, _, _, rfl, by rw [pinsL_no hW]; exact o3.mono (by omega), ⟨hc1, hc2⟩, b0.trans (hb1.mono (by omega))⟩
  go_enter Tryz.func52, Tryz.ntmps52
  go_wp2_with fail
  rw [← hw0]
  refine (ty (sWheelOk_any A N c S _ hN hT (H.out.below b0)) hW).mono ?_
  rintro y w1 ⟨rfl, hb1⟩
  have s1 := hb1.size
  have k1 : w1.cell? ⟨w.heap.size, 0, none⟩ = some (.slice A N c) := (hb1.cell (p := ⟨w.heap.size, 0, none⟩) (by show w.heap.size < _; omega)).trans k0
  have r1 := Lib.hid (row_below r0.out hb1)
  have b1 : Hid (Below w.heap.size w w1) := Lib.hid (b0.trans (hb1.mono (by omega)))
  clear hb1
  go_wp2_with fail
  refine (l9All_any A N c S _ hN hT (H.out.below b1.out)).mono ?_
  rintro y w2 ⟨v2, rfl, hr2, hb2⟩
  have s2 := hb2.size
  have r2 := Lib.hid (row_below r1.out hb2)
  have B2 : Hid (Below w.heap.size w w2) := Lib.hid (b1.out.trans (hb2.mono (by omega)))
  have hlen := allS_len HLen.out
  obtain ⟨A2, c2, rfl, hc1, hc2, o2⟩ := own_of_row_cap hlen hr2
  have hnT := hW.2.1
  have O2 := Lib.hid o2
  clear o2 hr2 hb2 k1 k0 r0 r1
  have HP := Lib.hid (pinsL_yes hW)
  obtain ⟨T, hTT⟩ : ∃ T, T = tot S N := ⟨_, rfl⟩
  obtain ⟨L, hLL⟩ : ∃ L, L = allS S N := ⟨_, rfl⟩
  rw [← hTT, ← hLL] at O2 HP
  rw [← hTT] at hc1 hnT
  rw [← hTT]
  have HLL := Lib.hid hLL
  have HTT := Lib.hid hTT
  clear hlen hT hTT hLL
  go_wp2
  go_loopw [3, 5] (fun v i wr => ∃ k : Nat, k ≤ T ∧ i = .int .i64 k ∧ Hid (wr.ownsRow (w.heap.size + 1) 87 2 v k (flat 2 (sortL L k))) ∧ Hid (Below w2.heap.size w2 wr)) (fun _ i _ => T - (intOf i).toNat)
  case atStart => exact ⟨0, Nat.zero_le _, rfl, r2, Lib.hid (Below.refl _ _)⟩
  case round =>
    obtain ⟨k, hk, rfl, HR, HB⟩ := hrel
    have sB := HB.out.size
    by_cases hlt : k < T
    · have hki : (k : Int) < (T : Int) := by omega
      have hk0 : (0 : Int) ≤ (k : Int) := by omega
      obtain ⟨b, off, rfl, hb, hc⟩ := (O2.out.rd.below HB.out).2.resolve_left (by omega)
      have f0 := hc k hlt 0 (by omega)
      have f1 := hc k hlt 1 (by omega)
      rw [Nat.add_zero] at f0
      clear hc
      go_wp2_with (go_at_call 94; refine (l9Put_any (w.heap.size + 1) k _ (sortL L k) (fld L k) _ (by omega) (sortL_len L k) HR.out).mono ?_; rintro y w4 ⟨v4, rfl, hr4, hb4⟩)
      have H4 : Hid (w4.ownsRow (w.heap.size + 1) 87 2 v4 (k + 1) (flat 2 (sortL L (k + 1)))) := Lib.hid (hr4.lower (by omega))
      have HB4 := Lib.hid (HB.out.trans (hb4.mono (by omega)))
      clear hr4 hb4 HR HB
      go_wp2
      go_roundw
      case rel => exact ⟨k + 1, by omega, by go_num, H4, HB4⟩
      case measure => simp [intOf]; omega
    · have hkn : k = T := by omega
      subst hkn
      have hki : ¬ (k : Int) < (k : Int) := by omega
      obtain ⟨A3, c3, rfl, hd1, hd2, o3⟩ := own_of_row_cap (sortL_len L k) HR.out
      rw [← HP.out] at o3
      go_wp2
      go_ret
      exact ⟨A3, _, c3, rfl, o3.mono (by omega), ⟨hd1, hd2⟩, B2.out.trans (HB.out.mono (by omega))⟩
end Go.Proofs.YtjlmcppkafjniaaGreat

namespace Go.Proofs.YtjlmcppkafjniaaGreat
open Go.RowKit

def pinAt (es : List (Nat → Int)) (i : Nat) : Nat → Int := fun j => [fld es i 8, fld es i 0].getD j 0
def pinT (es : List (Nat → Int)) (cab : Int) (i : Nat) : Bool := (fld es i 7 == 2) && (fld es i 1 == cab)
def pinF (es : List (Nat → Int)) (cab : Int) : Nat → List (Nat → Int)
  | 0 => []
  | k + 1 => if pinT es cab k then pinF es cab k ++ [pinAt es k] else pinF es cab k
theorem pinF_y {es : List (Nat → Int)} {cab : Int} {k : Nat} (h : pinT es cab k = true) : pinF es cab (k + 1) = pinF es cab k ++ [pinAt es k] := by
  show (if pinT es cab k then _ else _) = _
  rw [if_pos h]
theorem pinF_n {es : List (Nat → Int)} {cab : Int} {k : Nat} (h : pinT es cab k = false) : pinF es cab (k + 1) = pinF es cab k := by
  show (if pinT es cab k then _ else _) = _
  rw [if_neg (by rw [h]; decide)]
theorem pinF_len (es : List (Nat → Int)) (cab : Int) : ∀ k, (pinF es cab k).length ≤ k
  | 0 => Nat.le_refl _
  | k + 1 => by
    have h := pinF_len es cab k
    rcases Bool.eq_false_or_eq_true (pinT es cab k) with t | t
    · rw [pinF_y t]
      simp
      omega
    · rw [pinF_n t]
      omega
theorem sortL_snoc (xs : List (Nat → Int)) (p : Nat → Int) : ∀ k, k ≤ xs.length → sortL (xs ++ [p]) k = sortL xs k
  | 0, _ => rfl
  | k + 1, h => by
    have e : fld (xs ++ [p]) k = fld xs k := by
      funext j
      unfold fld
      rw [List.getD_eq_getElem?_getD, List.getD_eq_getElem?_getD, List.getElem?_append_left (by omega)]
    show insL (sortL (xs ++ [p]) k) (plcP (sortL (xs ++ [p]) k) (fld (xs ++ [p]) k) k) (fld (xs ++ [p]) k) = _
    rw [e, sortL_snoc xs p k (by omega)]
    rfl
/-- The sorted row grows by one pin put at its place. -/
theorem sortL_put (xs : List (Nat → Int)) (p : Nat → Int) : sortL (xs ++ [p]) (xs.length + 1) = insL (sortL xs xs.length) (plcP (sortL xs xs.length) p xs.length) p := by
  have e : fld (xs ++ [p]) xs.length = p := by
    funext j
    unfold fld
    rw [List.getD_eq_getElem?_getD, List.getElem?_append_right (Nat.le_refl _), Nat.sub_self]
    rfl
  show insL (sortL (xs ++ [p]) xs.length) (plcP (sortL (xs ++ [p]) xs.length) (fld (xs ++ [p]) xs.length) xs.length) (fld (xs ++ [p]) xs.length) = _
  rw [e, sortL_snoc xs p _ (Nat.le_refl _)]
end Go.Proofs.YtjlmcppkafjniaaGreat

namespace Go.Proofs.YtjlmcppkafjniaaGreat
open Go.RowKit

theorem Own.swpP {B n g off j m : Nat} {w : World} {es : List (Nat → Int)} (h : Own B w 2 (some ⟨g, off, none⟩) n es) (hm : j = m + 1) (hj : j < n) :
    Own B ((w.setCells g (off + j * 2) [.int .i64 (fld es m 0), .int .i64 (fld es m 1)]).setCells g (off + m * 2) [.int .i64 (fld es j 0), .int .i64 (fld es j 1)]) 2 (some ⟨g, off, none⟩) n (swp es j) := by
  obtain ⟨hl, h2⟩ := h
  obtain ⟨b, o, he, hlt, hB, hf, hc⟩ := h2.resolve_left (by omega)
  injection he with he
  injection he with hb ho
  subst hb ho
  refine ⟨by rw [swp_len]; exact hl, .inr ⟨g, off, rfl, by rw [size_setCells, size_setCells]; exact hlt, hB, fun o => ?_, fun i hi q hq => ?_⟩⟩
  · rw [World.frozen?_setCells, World.frozen?_setCells]
    exact hf o
  have hsome : ∀ i q, i < n → q < 2 → (w.cell? ⟨g, off + i * 2 + q, none⟩).isSome = true := fun i q hi hq => by rw [hc i hi q hq]; rfl
  have hs1 : ∀ q, q < 2 → (w.cell? ⟨g, off + j * 2 + q, none⟩).isSome = true := fun q hq => hsome j q hj hq
  have hin1 := World.cell?_setCells_in g [.int .i64 (fld es m 0), .int .i64 (fld es m 1)] (off + j * 2) w hs1
  have hin2 := World.cell?_setCells_in g [.int .i64 (fld es j 0), .int .i64 (fld es j 1)] (off + m * 2) (w.setCells g (off + j * 2) [.int .i64 (fld es m 0), .int .i64 (fld es m 1)]) (fun q hq => World.isSome_setCells g _ _ _ ⟨g, _, none⟩ (hsome m q (by omega) hq))
  have hmj : m = j - 1 := by omega
  rcases Nat.lt_trichotomy i m with h3 | h3 | h3
  · rw [World.cell?_setCells_out g _ _ _ ⟨g, off + i * 2 + q, none⟩ (fun _ _ => .inl (by simp only []; omega)), World.cell?_setCells_out g _ _ _ ⟨g, off + i * 2 + q, none⟩ (fun _ _ => .inl (by simp only []; omega)), swp_other (by omega) (by omega)]
    exact hc i hi q hq
  · subst h3
    rw [hin2 q hq]
    subst hmj
    rw [swp_pred (by omega)]
    match q, hq with
    | 0, _ => rfl
    | 1, _ => rfl
  · rw [World.cell?_setCells_out g _ _ _ ⟨g, off + i * 2 + q, none⟩ (fun _ _ => .inr (by simp only [List.length_cons, List.length_nil]; omega))]
    by_cases h4 : i = j
    · subst h4
      rw [hin1 q hq, swp_at (by omega) (by omega), ← hmj]
      match q, hq with
      | 0, _ => rfl
      | 1, _ => rfl
    · rw [World.cell?_setCells_out g _ _ _ ⟨g, off + i * 2 + q, none⟩ (fun _ _ => .inr (by simp only [List.length_cons, List.length_nil]; omega)), swp_other h4 (by omega)]
      exact hc i hi q hq

set_option maxRecDepth 100000 in
set_option maxHeartbeats 8000000 in
theorem insP_any (B : Nat) (A : Option Addr) (cap n a b : Nat) (es : List (Nat → Int)) (w : World) (hn : n ≤ 4194304) (hnc : n ≤ cap) (hcm : cap ≤ 9223372036854775807) (hBw : B ≤ w.heap.size) (hbn : b ≤ n) (han : a ≤ n) (h : Own B w 2 A n es) :
    Calls Tryz.prog 124 #[.slice A n cap, .int .i64 a, .int .i64 b, .func (.func 81) #[] #[]] w (InsD B 2 n a b A es w) := by
  have H := Lib.hid h
  clear h
  have ha0 : (0 : Int) ≤ (a : Int) := by omega
  have haw : IntKind.i64.wrap ((a : Int) + 1) = ((a + 1 : Nat) : Int) := by rw [IntKind.wrap_i64]; omega
  go_enter Tryz.func124, Tryz.ntmps124
  go_wp2
  go_loopw [8] (fun i wr => ∃ (k : Nat) (es1 : List (Nat → Int)), a + 1 ≤ k ∧ i = .int .i64 k ∧ (k ≤ b ∨ k = a + 1) ∧ Hid (Own B wr 2 A n es1) ∧ Hid (Stb es1 es) ∧ Hid (SrtR es1 a k) ∧ Hid (OutR es1 es a b) ∧ Hid (Below B w wr)) (fun i _ => b - (intOf i).toNat)
  case atStart => exact ⟨a + 1, es, by omega, by go_num, .inr rfl, H, Lib.hid (Stb.refl _), Lib.hid (fun q h0 hq => absurd hq (by omega)), Lib.hid (OutR.refl _ _ _), Lib.hid (Below.refl _ _)⟩
  case round =>
    obtain ⟨k, es1, hk1, rfl, hk, HO, HP, HS, HU, HG⟩ := hrel
    by_cases hlt : k < b
    case neg =>
      have hki : ¬ (k : Int) < (b : Int) := by omega
      have HS2 : Hid (SrtR es1 a b) := Lib.hid fun q h0 hq => HS.out q h0 (by omega)
      go_wp2
      exact bodyPost_end (results_none rfl _ _ _) rfl ⟨rfl, es1, HO.out, HP.out, HS2.out, HU.out, HG.out⟩
    have hki : (k : Int) < (b : Int) := by omega
    obtain ⟨g, off, rfl⟩ : ∃ g off, A = some ⟨g, off, none⟩ := by
      obtain ⟨b', o, he, _⟩ := HO.out.2.resolve_left (by omega)
      exact ⟨b', o, he⟩
    obtain ⟨w2, hw2⟩ : ∃ w2, w2 = wr := ⟨wr, rfl⟩
    subst hw2
    go_wp2
    go_loopw [9] (fun i wr => ∃ (j : Nat) (es2 : List (Nat → Int)), a ≤ j ∧ j ≤ k ∧ i = .int .i64 j ∧ Hid (Own B wr 2 (some ⟨g, off, none⟩) n es2) ∧ Hid (Stb es2 es) ∧ Hid (MidR es2 a k j) ∧ Hid (OutR es2 es a b) ∧ Hid (Below B w wr)) (fun i _ => (intOf i).toNat)
    case atStart => exact ⟨k, es1, by omega, Nat.le_refl _, rfl, HO, HP, Lib.hid (MidR.start HS.out), HU, HG⟩
    case round =>
      obtain ⟨j, es2, hja, hj, rfl, HO2, HP2, HM2, HU2, HG2⟩ := hrel
      have hBr : B ≤ wr.heap.size := Nat.le_trans hBw HG2.out.size
      have hkw : IntKind.i64.wrap ((k : Int) + 1) = ((k + 1 : Nat) : Int) := by rw [IntKind.wrap_i64]; omega
      by_cases hj0 : j ≤ a
      · have HS3 : Hid (SrtR es2 a (k + 1)) := Lib.hid (HM2.out.stop (.inl hj0))
        have hjai : ¬ (a : Int) < (j : Int) := by omega
        have hjad : decide ((a : Int) < (j : Int)) = false := by simpa using hjai
        have hjad2 : decide (a < j) = false := by simp; omega
        go_wp2
        refine wp_region_bw (by kernel_rfl) (by kernel_rfl) (fun W hW => ?_)
        have hbW : Below wr.heap.size wr W := by rw [hW]; (repeat (first | with_reducible exact Below.refl _ _ | with_reducible refine Below.drew ?_ | with_reducible refine below_drewN ?_ _ | (with_reducible refine bel_alloc ?_ ?_ _; (first | omega | (simp; omega) | simp)) | (with_reducible refine bel_set ?_ ?_ _; (first | omega | (simp; omega) | simp)) | (with_reducible refine bel_tr (by assumption) ?_ ?_; (first | omega | (simp; omega) | simp))))
        have HW := Lib.hid hW
        clear hW
        repeat (go_big_quiet_step (fail))
        refine wpQuiet_nil ?_
        intro wq hq
        have hbq : Below W.heap.size W wq := by (obtain ⟨p, hp⟩ := hq; rw [hp]; exact p.below)
        clear hq
        have hbel4 : Below wr.heap.size wr wq := hbW.trans (hbq.mono hbW.size)
        have sq := hbel4.size
        clear hbW hbq HW 
        have hbB := hbel4.mono hBr
        go_wp2
        go_roundw
        case rel => exact ⟨k + 1, es2, by omega, by go_num, .inl (by omega), Lib.hid (HO2.out.below hbel4), HP2, HS3, HU2, Lib.hid (HG2.out.trans hbB)⟩
        case measure => simp [intOf]; omega
      obtain ⟨m, hm⟩ : ∃ m, j = m + 1 := ⟨j - 1, by omega⟩
      have hjm : IntKind.i64.wrap ((j : Int) - 1) = (m : Int) := by rw [IntKind.wrap_i64]; omega
      have hm0 : (0 : Int) ≤ (m : Int) := by omega
      have hj1 : (0 : Int) ≤ (j : Int) := by omega
      have hmn : (m : Int) < (n : Int) := by omega
      have hjn : (j : Int) < (n : Int) := by omega
      have hmn2 : m < n := by omega
      have hjn2 : j < n := by omega
      have hjp : (a : Int) < (j : Int) := by omega
      have hjp2 : a < j := by omega
      have hjd : decide ((a : Int) < (j : Int)) = true := by simpa using hjp
      have hjd2 : decide (a < j) = true := by simpa using hjp2
      obtain ⟨hgl, hB, hfz, hc⟩ : g < wr.heap.size ∧ B ≤ g ∧ (∀ o, wr.frozen? ⟨g, o, none⟩ = false) ∧ Hid (∀ i, i < n → ∀ q, q < 2 → wr.cell? ⟨g, off + i * 2 + q, none⟩ = some (.int .i64 (fld es2 i q))) := by
        obtain ⟨b', o, he, h1, h2, h3, h4⟩ := HO2.out.2.resolve_left (by omega)
        injection he with he
        injection he with hb ho
        subst hb ho
        exact ⟨h1, h2, h3, h4⟩
      have c0 : wr.cell? ⟨g, off + j * 2, none⟩ = some (.int .i64 (fld es2 j 0)) := hc.out j (by omega) 0 (by omega)
      have c1 : wr.cell? ⟨g, off + j * 2 + 1, none⟩ = some (.int .i64 (fld es2 j 1)) := hc.out j (by omega) 1 (by omega)
      have d0 : wr.cell? ⟨g, off + m * 2, none⟩ = some (.int .i64 (fld es2 m 0)) := hc.out m (by omega) 0 (by omega)
      have d1 : wr.cell? ⟨g, off + m * 2 + 1, none⟩ = some (.int .i64 (fld es2 m 1)) := hc.out m (by omega) 1 (by omega)
      have HMM := Lib.hid hm
      clear hc hm
      by_cases hL : ltP (fld es2 j) (fld es2 m)
      case neg =>
        have HS3 : Hid (SrtR es2 a (k + 1)) := Lib.hid (HM2.out.stop (.inr (by rw [show j - 1 = m by have := HMM.out; omega]; exact hL)))
        have hcp : ¬ cmpP (fld es2 j) (fld es2 m) < 0 := fun h => hL (cmpP_neg.1 h)
        have hcd : decide (cmpP (fld es2 j) (fld es2 m) < 0) = false := by simpa using hcp
        go_wp2
        refine wp_region_bw (by kernel_rfl) (by kernel_rfl) (fun W hW => ?_)
        have q0 : ∀ pq : BW W, pq.w.cell? ⟨g, off + j * 2, none⟩ = some (.int .i64 (fld es2 j 0)) := fun pq => pq.cell (by rw [hW]; (first | omega | (simp; omega) | simp)) (by rw [hW]; (first | (go_keep; done) | (go_simp; done)))
        have q1 : ∀ pq : BW W, pq.w.cell? ⟨g, off + j * 2 + 1, none⟩ = some (.int .i64 (fld es2 j 1)) := fun pq => pq.cell (by rw [hW]; (first | omega | (simp; omega) | simp)) (by rw [hW]; (first | (go_keep; done) | (go_simp; done)))
        have q2 : ∀ pq : BW W, pq.w.cell? ⟨g, off + m * 2, none⟩ = some (.int .i64 (fld es2 m 0)) := fun pq => pq.cell (by rw [hW]; (first | omega | (simp; omega) | simp)) (by rw [hW]; (first | (go_keep; done) | (go_simp; done)))
        have q3 : ∀ pq : BW W, pq.w.cell? ⟨g, off + m * 2 + 1, none⟩ = some (.int .i64 (fld es2 m 1)) := fun pq => pq.cell (by rw [hW]; (first | omega | (simp; omega) | simp)) (by rw [hW]; (first | (go_keep; done) | (go_simp; done)))
        have hbW : Below wr.heap.size wr W := by rw [hW]; (repeat (first | with_reducible exact Below.refl _ _ | with_reducible refine Below.drew ?_ | with_reducible refine below_drewN ?_ _ | (with_reducible refine bel_alloc ?_ ?_ _; (first | omega | (simp; omega) | simp)) | (with_reducible refine bel_set ?_ ?_ _; (first | omega | (simp; omega) | simp)) | (with_reducible refine bel_tr (by assumption) ?_ ?_; (first | omega | (simp; omega) | simp))))
        have HW := Lib.hid hW
        clear hW
        repeat (go_big_quiet_step ((go_at_call 81; exact bw_of (comparePins_any (fld es2 j) (fld es2 m) _))))
        refine wpQuiet_nil ?_
        intro wq hq
        have hbq : Below W.heap.size W wq := by (obtain ⟨p, hp⟩ := hq; rw [hp]; exact p.below)
        clear hq
        have hbel4 : Below wr.heap.size wr wq := hbW.trans (hbq.mono hbW.size)
        have sq := hbel4.size
        clear hbW hbq HW q0 q1 q2 q3
        have hbB := hbel4.mono hBr
        go_wp2
        go_roundw
        case rel => exact ⟨k + 1, es2, by omega, by go_num, .inl (by omega), Lib.hid (HO2.out.below hbel4), HP2, HS3, HU2, Lib.hid (HG2.out.trans hbB)⟩
        case measure => simp [intOf]; omega
      have hcp : cmpP (fld es2 j) (fld es2 m) < 0 := cmpP_neg.2 hL
      have hcd : decide (cmpP (fld es2 j) (fld es2 m) < 0) = true := by simpa using hcp
      have HL := Lib.hid hL
      clear hL
      go_wp2
      refine wp_region_bw (by kernel_rfl) (by kernel_rfl) (fun W hW => ?_)
      have q0 : ∀ pq : BW W, pq.w.cell? ⟨g, off + j * 2, none⟩ = some (.int .i64 (fld es2 j 0)) := fun pq => pq.cell (by rw [hW]; (first | omega | (simp; omega) | simp)) (by rw [hW]; (first | (go_keep; done) | (go_simp; done)))
      have q1 : ∀ pq : BW W, pq.w.cell? ⟨g, off + j * 2 + 1, none⟩ = some (.int .i64 (fld es2 j 1)) := fun pq => pq.cell (by rw [hW]; (first | omega | (simp; omega) | simp)) (by rw [hW]; (first | (go_keep; done) | (go_simp; done)))
      have q2 : ∀ pq : BW W, pq.w.cell? ⟨g, off + m * 2, none⟩ = some (.int .i64 (fld es2 m 0)) := fun pq => pq.cell (by rw [hW]; (first | omega | (simp; omega) | simp)) (by rw [hW]; (first | (go_keep; done) | (go_simp; done)))
      have q3 : ∀ pq : BW W, pq.w.cell? ⟨g, off + m * 2 + 1, none⟩ = some (.int .i64 (fld es2 m 1)) := fun pq => pq.cell (by rw [hW]; (first | omega | (simp; omega) | simp)) (by rw [hW]; (first | (go_keep; done) | (go_simp; done)))
      have hbW : Below wr.heap.size wr W := by rw [hW]; (repeat (first | with_reducible exact Below.refl _ _ | with_reducible refine Below.drew ?_ | with_reducible refine below_drewN ?_ _ | (with_reducible refine bel_alloc ?_ ?_ _; (first | omega | (simp; omega) | simp)) | (with_reducible refine bel_set ?_ ?_ _; (first | omega | (simp; omega) | simp)) | (with_reducible refine bel_tr (by assumption) ?_ ?_; (first | omega | (simp; omega) | simp))))
      have HW := Lib.hid hW
      clear hW
      repeat (go_big_quiet_step ((go_at_call 81; exact bw_of (comparePins_any (fld es2 j) (fld es2 m) _))))
      refine wpQuiet_nil ?_
      intro wq hq
      have hbq : Below W.heap.size W wq := by (obtain ⟨p, hp⟩ := hq; rw [hp]; exact p.below)
      clear hq
      have hbel4 : Below wr.heap.size wr wq := hbW.trans (hbq.mono hbW.size)
      have sq := hbel4.size
      clear hbW hbq HW q0 q1 q2 q3
      have hbB := hbel4.mono hBr
      have HO3 : Hid (Own B wq 2 (some ⟨g, off, none⟩) n es2) := Lib.hid (HO2.out.below hbel4)
      have HG3 : Hid (Below B w wq) := Lib.hid (HG2.out.trans hbB)
      have e0 : wq.cell? ⟨g, off + j * 2, none⟩ = some (.int .i64 (fld es2 j 0)) := (hbel4.cell (p := ⟨g, off + j * 2, none⟩) hgl).trans c0
      have e1 : wq.cell? ⟨g, off + j * 2 + 1, none⟩ = some (.int .i64 (fld es2 j 1)) := (hbel4.cell (p := ⟨g, off + j * 2 + 1, none⟩) hgl).trans c1
      have f0 : wq.cell? ⟨g, off + m * 2, none⟩ = some (.int .i64 (fld es2 m 0)) := (hbel4.cell (p := ⟨g, off + m * 2, none⟩) hgl).trans d0
      have f1 : wq.cell? ⟨g, off + m * 2 + 1, none⟩ = some (.int .i64 (fld es2 m 1)) := (hbel4.cell (p := ⟨g, off + m * 2 + 1, none⟩) hgl).trans d1
      have k0 : ∀ o, wq.frozen? ⟨g, o, none⟩ = false := fun o => (hbel4.frozen (p := ⟨g, o, none⟩) hgl).trans (hfz o)
      have k1 := k0 (off + j * 2)
      have k2 := k0 (off + m * 2)
      have k3 := k0 (off + j * 2 + 1)
      have k4 := k0 (off + m * 2 + 1)
      have h1 : (wq.setCell ⟨g, off + j * 2, none⟩ (.int .i64 (fld es2 m 0))).cell? ⟨g, off + j * 2 + 1, none⟩ = some (.int .i64 (fld es2 j 1)) := (World.cell?_setCells_out g [.int .i64 (fld es2 m 0)] (off + j * 2) wq ⟨g, off + j * 2 + 1, none⟩ (fun _ _ => .inr (by simp only [List.length_cons, List.length_nil]; omega))).trans e1
      have g0 : ((wq.setCell ⟨g, off + j * 2, none⟩ (.int .i64 (fld es2 m 0))).setCell ⟨g, off + j * 2 + 1, none⟩ (.int .i64 (fld es2 m 1))).cell? ⟨g, off + m * 2, none⟩ = some (.int .i64 (fld es2 m 0)) := (World.cell?_setCells_out g [.int .i64 (fld es2 m 0), .int .i64 (fld es2 m 1)] (off + j * 2) wq ⟨g, off + m * 2, none⟩ (fun _ _ => .inl (by have := HMM.out; simp only []; omega))).trans f0
      have g1 : (((wq.setCell ⟨g, off + j * 2, none⟩ (.int .i64 (fld es2 m 0))).setCell ⟨g, off + j * 2 + 1, none⟩ (.int .i64 (fld es2 m 1))).setCell ⟨g, off + m * 2, none⟩ (.int .i64 (fld es2 j 0))).cell? ⟨g, off + m * 2 + 1, none⟩ = some (.int .i64 (fld es2 m 1)) := (World.cell?_setCells_out g [.int .i64 (fld es2 j 0)] (off + m * 2) _ ⟨g, off + m * 2 + 1, none⟩ (fun _ _ => .inr (by simp only [List.length_cons, List.length_nil]; omega))).trans ((World.cell?_setCells_out g [.int .i64 (fld es2 m 0), .int .i64 (fld es2 m 1)] (off + j * 2) wq ⟨g, off + m * 2 + 1, none⟩ (fun _ _ => .inl (by have := HMM.out; simp only []; omega))).trans f1)
      have hgq : g < wq.heap.size := Nat.lt_of_lt_of_le hgl sq
      clear c0 d0 c1 d1 hfz hbel4 hbB k0
      have HO4 := Lib.hid (HO3.out.swpP HMM.out hjn2)
      have HG4 := below_setCells hB [.int .i64 (fld es2 j 0), .int .i64 (fld es2 j 1)] (off + m * 2) _ (below_setCells hB [.int .i64 (fld es2 m 0), .int .i64 (fld es2 m 1)] (off + j * 2) wq HG3.out)
      have E4 : (wq.setCells g (off + j * 2) [.int .i64 (fld es2 m 0), .int .i64 (fld es2 m 1)]).setCells g (off + m * 2) [.int .i64 (fld es2 j 0), .int .i64 (fld es2 j 1)] = ((((wq.setCell ⟨g, off + j * 2, none⟩ (.int .i64 (fld es2 m 0))).setCell ⟨g, off + j * 2 + 1, none⟩ (.int .i64 (fld es2 m 1))).setCell ⟨g, off + m * 2, none⟩ (.int .i64 (fld es2 j 0))).setCell ⟨g, off + m * 2 + 1, none⟩ (.int .i64 (fld es2 j 1))) := by simp only [World.setCells, Nat.add_assoc, Nat.reduceAdd]
      rw [E4] at HO4 HG4
      have HO5 := Lib.hid (Own.drew_ HO4.out)
      have HG5 := Lib.hid (Below.drew HG4)
      clear E4 HO4 HG4
      have HM4 : Hid (MidR (swp es2 j) a k m) := Lib.hid (by
        have h := HM2.out.step (by omega) hj (by rw [HO3.out.1]; omega) (by rw [show j - 1 = m by have := HMM.out; omega]; exact HL.out)
        rw [show j - 1 = m by have := HMM.out; omega] at h
        exact h)
      have HP4 : Hid (Stb (swp es2 j) es) := Lib.hid ((Stb.swp (by omega) (by rw [HO3.out.1]; exact hjn2) (by rw [show j - 1 = m by have := HMM.out; omega]; exact HL.out)).trans HP2.out)
      have HU4 : Hid (OutR (swp es2 j) es a b) := Lib.hid ((OutR.swp (by omega) (by omega)).trans HU2.out)
      go_wp2
      go_region
      go_wp2
      go_roundw
      case rel => exact ⟨m, swp es2 j, by have := HMM.out; omega, by have := HMM.out; omega, by go_num, by with_reducible exact HO5, HP4, HM4, HU4, by with_reducible exact HG5⟩
      case measure => have := HMM.out; simp [intOf]; omega
end Go.Proofs.YtjlmcppkafjniaaGreat
