/-
  The contract of slices.swapRangeCmpFunc (impl.Pin). Conditions: the row may be written; the ranges lie apart.
-/
import Derived.Test.YtjlmcppkafjniaaGreatPo
import Derived.Test.YtjlmcppkafjniaaGreatCe
import Derived.Test.YtjlmcppkafjniaaGreatBw
import Derived.Test.YtjlmcppkafjniaaGreatEs
import Derived.Test.YtjlmcppkafjniaaGreatWa
import Derived.Great.Walk
import Derived.Test.YtjlmcppkafjniaaGreatSw
import Derived.Test.YtjlmcppkafjniaaGreatSl
namespace Go.Proofs.YtjlmcppkafjniaaGreat
open Go.RowKit

def pinAt (es : List (Nat → Int)) (i : Nat) : Nat → Int := fun j => [fld es i 8, fld es i 0].getD j 0
def pinT (es : List (Nat → Int)) (cab : Int) (i : Nat) : Bool := (fld es i 7 == 2) && (fld es i 1 == cab)
def pinF (es : List (Nat → Int)) (cab : Int) : Nat → List (Nat → Int)
  | 0 => []
  | k + 1 => if pinT es cab k then pinF es cab k ++ [pinAt es k] else pinF es cab k
theorem pinF_y {es : List (Nat → Int)} {cab : Int} {k : Nat} (h : pinT es cab k = true) : pinF es cab (k + 1) = pinF es cab k ++ [pinAt es k] := by
  show (if pinT es cab k then _ else _) = _
  rw [if_pos h]
theorem pinF_n {es : List (Nat → Int)} {cab : Int} {k : Nat} (h : pinT es cab k = false) : pinF es cab (k + 1) = pinF es cab k := by
  show (if pinT es cab k then _ else _) = _
  rw [if_neg (by rw [h]; decide)]
theorem pinF_len (es : List (Nat → Int)) (cab : Int) : ∀ k, (pinF es cab k).length ≤ k
  | 0 => Nat.le_refl _
  | k + 1 => by
    have h := pinF_len es cab k
    rcases Bool.eq_false_or_eq_true (pinT es cab k) with t | t
    · rw [pinF_y t]
      simp
      omega
    · rw [pinF_n t]
      omega
theorem sortL_snoc (xs : List (Nat → Int)) (p : Nat → Int) : ∀ k, k ≤ xs.length → sortL (xs ++ [p]) k = sortL xs k
  | 0, _ => rfl
  | k + 1, h => by
    have e : fld (xs ++ [p]) k = fld xs k := by
      funext j
      unfold fld
      rw [List.getD_eq_getElem?_getD, List.getD_eq_getElem?_getD, List.getElem?_append_left (by omega)]
    show insL (sortL (xs ++ [p]) k) (plcP (sortL (xs ++ [p]) k) (fld (xs ++ [p]) k) k) (fld (xs ++ [p]) k) = _
    rw [e, sortL_snoc xs p k (by omega)]
    rfl
/-- The sorted row grows by one pin put at its place. -/
theorem sortL_put (xs : List (Nat → Int)) (p : Nat → Int) : sortL (xs ++ [p]) (xs.length + 1) = insL (sortL xs xs.length) (plcP (sortL xs xs.length) p xs.length) p := by
  have e : fld (xs ++ [p]) xs.length = p := by
    funext j
    unfold fld
    rw [List.getD_eq_getElem?_getD, List.getElem?_append_right (Nat.le_refl _), Nat.sub_self]
    rfl
  show insL (sortL (xs ++ [p]) xs.length) (plcP (sortL (xs ++ [p]) xs.length) (fld (xs ++ [p]) xs.length) xs.length) (fld (xs ++ [p]) xs.length) = _
  rw [e, sortL_snoc xs p _ (Nat.le_refl _)]
end Go.Proofs.YtjlmcppkafjniaaGreat

namespace Go.Proofs.YtjlmcppkafjniaaGreat
open Go.RowKit

theorem Own.swpP {B n g off j m : Nat} {w : World} {es : List (Nat → Int)} (h : Own B w 2 (some ⟨g, off, none⟩) n es) (hm : j = m + 1) (hj : j < n) :
    Own B ((w.setCells g (off + j * 2) [.int .i64 (fld es m 0), .int .i64 (fld es m 1)]).setCells g (off + m * 2) [.int .i64 (fld es j 0), .int .i64 (fld es j 1)]) 2 (some ⟨g, off, none⟩) n (swp es j) := by
  obtain ⟨hl, h2⟩ := h
  obtain ⟨b, o, he, hlt, hB, hf, hc⟩ := h2.resolve_left (by omega)
  injection he with he
  injection he with hb ho
  subst hb ho
  refine ⟨by rw [swp_len]; exact hl, .inr ⟨g, off, rfl, by rw [size_setCells, size_setCells]; exact hlt, hB, fun o => ?_, fun i hi q hq => ?_⟩⟩
  · rw [World.frozen?_setCells, World.frozen?_setCells]
    exact hf o
  have hsome : ∀ i q, i < n → q < 2 → (w.cell? ⟨g, off + i * 2 + q, none⟩).isSome = true := fun i q hi hq => by rw [hc i hi q hq]; rfl
  have hs1 : ∀ q, q < 2 → (w.cell? ⟨g, off + j * 2 + q, none⟩).isSome = true := fun q hq => hsome j q hj hq
  have hin1 := World.cell?_setCells_in g [.int .i64 (fld es m 0), .int .i64 (fld es m 1)] (off + j * 2) w hs1
  have hin2 := World.cell?_setCells_in g [.int .i64 (fld es j 0), .int .i64 (fld es j 1)] (off + m * 2) (w.setCells g (off + j * 2) [.int .i64 (fld es m 0), .int .i64 (fld es m 1)]) (fun q hq => World.isSome_setCells g _ _ _ ⟨g, _, none⟩ (hsome m q (by omega) hq))
  have hmj : m = j - 1 := by omega
  rcases Nat.lt_trichotomy i m with h3 | h3 | h3
  · rw [World.cell?_setCells_out g _ _ _ ⟨g, off + i * 2 + q, none⟩ (fun _ _ => .inl (by simp only []; omega)), World.cell?_setCells_out g _ _ _ ⟨g, off + i * 2 + q, none⟩ (fun _ _ => .inl (by simp only []; omega)), swp_other (by omega) (by omega)]
    exact hc i hi q hq
  · subst h3
    rw [hin2 q hq]
    subst hmj
    rw [swp_pred (by omega)]
    match q, hq with
    | 0, _ => rfl
    | 1, _ => rfl
  · rw [World.cell?_setCells_out g _ _ _ ⟨g, off + i * 2 + q, none⟩ (fun _ _ => .inr (by simp only [List.length_cons, List.length_nil]; omega))]
    by_cases h4 : i = j
    · subst h4
      rw [hin1 q hq, swp_at (by omega) (by omega), ← hmj]
      match q, hq with
      | 0, _ => rfl
      | 1, _ => rfl
    · rw [World.cell?_setCells_out g _ _ _ ⟨g, off + i * 2 + q, none⟩ (fun _ _ => .inr (by simp only [List.length_cons, List.length_nil]; omega)), swp_other h4 (by omega)]
      exact hc i hi q hq

set_option maxRecDepth 100000 in
set_option maxHeartbeats 8000000 in
theorem insP_any (B : Nat) (A : Option Addr) (cap n a b : Nat) (es : List (Nat → Int)) (w : World) (hn : n ≤ 4194304) (hnc : n ≤ cap) (hcm : cap ≤ 9223372036854775807) (hBw : B ≤ w.heap.size) (hbn : b ≤ n) (han : a ≤ n) (h : Own B w 2 A n es) :
    Calls Tryz.prog 124 #[.slice A n cap, .int .i64 a, .int .i64 b, .func (.func 81) #[] #[]] w (InsD B 2 n a b A es w) := by
  have H := Lib.hid h
  clear h
  have ha0 : (0 : Int) ≤ (a : Int) := by omega
  have haw : IntKind.i64.wrap ((a : Int) + 1) = ((a + 1 : Nat) : Int) := by rw [IntKind.wrap_i64]; omega
  go_enter Tryz.func124, Tryz.ntmps124
  go_wp2
  go_loopw [8] (fun i wr => ∃ (k : Nat) (es1 : List (Nat → Int)), a + 1 ≤ k ∧ i = .int .i64 k ∧ (k ≤ b ∨ k = a + 1) ∧ Hid (Own B wr 2 A n es1) ∧ Hid (Stb es1 es) ∧ Hid (SrtR es1 a k) ∧ Hid (OutR es1 es a b) ∧ Hid (Below B w wr)) (fun i _ => b - (intOf i).toNat)
  case atStart => exact ⟨a + 1, es, by omega, by go_num, .inr rfl, H, Lib.hid (Stb.refl _), Lib.hid (fun q h0 hq => absurd hq (by omega)), Lib.hid (OutR.refl _ _ _), Lib.hid (Below.refl _ _)⟩
  case round =>
    obtain ⟨k, es1, hk1, rfl, hk, HO, HP, HS, HU, HG⟩ := hrel
    by_cases hlt : k < b
    case neg =>
      have hki : ¬ (k : Int) < (b : Int) := by omega
      have HS2 : Hid (SrtR es1 a b) := Lib.hid fun q h0 hq => HS.out q h0 (by omega)
      go_wp2
      exact bodyPost_end (results_none rfl _ _ _) rfl ⟨rfl, es1, HO.out, HP.out, HS2.out, HU.out, HG.out⟩
    have hki : (k : Int) < (b : Int) := by omega
    obtain ⟨g, off, rfl⟩ : ∃ g off, A = some ⟨g, off, none⟩ := by
      obtain ⟨b', o, he, _⟩ := HO.out.2.resolve_left (by omega)
      exact ⟨b', o, he⟩
    obtain ⟨w2, hw2⟩ : ∃ w2, w2 = wr := ⟨wr, rfl⟩
    subst hw2
    go_wp2
    go_loopw [9] (fun i wr => ∃ (j : Nat) (es2 : List (Nat → Int)), a ≤ j ∧ j ≤ k ∧ i = .int .i64 j ∧ Hid (Own B wr 2 (some ⟨g, off, none⟩) n es2) ∧ Hid (Stb es2 es) ∧ Hid (MidR es2 a k j) ∧ Hid (OutR es2 es a b) ∧ Hid (Below B w wr)) (fun i _ => (intOf i).toNat)
    case atStart => exact ⟨k, es1, by omega, Nat.le_refl _, rfl, HO, HP, Lib.hid (MidR.start HS.out), HU, HG⟩
    case round =>
      obtain ⟨j, es2, hja, hj, rfl, HO2, HP2, HM2, HU2, HG2⟩ := hrel
      have hBr : B ≤ wr.heap.size := Nat.le_trans hBw HG2.out.size
      have hkw : IntKind.i64.wrap ((k : Int) + 1) = ((k + 1 : Nat) : Int) := by rw [IntKind.wrap_i64]; omega
      by_cases hj0 : j ≤ a
      · have HS3 : Hid (SrtR es2 a (k + 1)) := Lib.hid (HM2.out.stop (.inl hj0))
        have hjai : ¬ (a : Int) < (j : Int) := by omega
        have hjad : decide ((a : Int) < (j : Int)) = false := by simpa using hjai
        have hjad2 : decide (a < j) = false := by simp; omega
        go_wp2
        refine wp_region_bw (by kernel_rfl) (by kernel_rfl) (fun W hW => ?_)
        have hbW : Below wr.heap.size wr W := by rw [hW]; (repeat (first | with_reducible exact Below.refl _ _ | with_reducible refine Below.drew ?_ | with_reducible refine below_drewN ?_ _ | (with_reducible refine bel_alloc ?_ ?_ _; (first | omega | (simp; omega) | simp)) | (with_reducible refine bel_set ?_ ?_ _; (first | omega | (simp; omega) | simp)) | (with_reducible refine bel_tr (by assumption) ?_ ?_; (first | omega | (simp; omega) | simp))))
        have HW := Lib.hid hW
        clear hW
        repeat (go_big_quiet_step (fail))
        refine wpQuiet_nil ?_
        intro wq hq
        have hbq : Below W.heap.size W wq := by (obtain ⟨p, hp⟩ := hq; rw [hp]; exact p.below)
        clear hq
        have hbel4 : Below wr.heap.size wr wq := hbW.trans (hbq.mono hbW.size)
        have sq := hbel4.size
        clear hbW hbq HW 
        have hbB := hbel4.mono hBr
        go_wp2
        go_roundw
        case rel => exact ⟨k + 1, es2, by omega, by go_num, .inl (by omega), Lib.hid (HO2.out.below hbel4), HP2, HS3, HU2, Lib.hid (HG2.out.trans hbB)⟩
        case measure => simp [intOf]; omega
      obtain ⟨m, hm⟩ : ∃ m, j = m + 1 := ⟨j - 1, by omega⟩
      have hjm : IntKind.i64.wrap ((j : Int) - 1) = (m : Int) := by rw [IntKind.wrap_i64]; omega
      have hm0 : (0 : Int) ≤ (m : Int) := by omega
      have hj1 : (0 : Int) ≤ (j : Int) := by omega
      have hmn : (m : Int) < (n : Int) := by omega
      have hjn : (j : Int) < (n : Int) := by omega
      have hmn2 : m < n := by omega
      have hjn2 : j < n := by omega
      have hjp : (a : Int) < (j : Int) := by omega
      have hjp2 : a < j := by omega
      have hjd : decide ((a : Int) < (j : Int)) = true := by simpa using hjp
      have hjd2 : decide (a < j) = true := by simpa using hjp2
      obtain ⟨hgl, hB, hfz, hc⟩ : g < wr.heap.size ∧ B ≤ g ∧ (∀ o, wr.frozen? ⟨g, o, none⟩ = false) ∧ Hid (∀ i, i < n → ∀ q, q < 2 → wr.cell? ⟨g, off + i * 2 + q, none⟩ = some (.int .i64 (fld es2 i q))) := by
        obtain ⟨b', o, he, h1, h2, h3, h4⟩ := HO2.out.2.resolve_left (by omega)
        injection he with he
        injection he with hb ho
        subst hb ho
        exact ⟨h1, h2, h3, h4⟩
      have c0 : wr.cell? ⟨g, off + j * 2, none⟩ = some (.int .i64 (fld es2 j 0)) := hc.out j (by omega) 0 (by omega)
      have c1 : wr.cell? ⟨g, off + j * 2 + 1, none⟩ = some (.int .i64 (fld es2 j 1)) := hc.out j (by omega) 1 (by omega)
      have d0 : wr.cell? ⟨g, off + m * 2, none⟩ = some (.int .i64 (fld es2 m 0)) := hc.out m (by omega) 0 (by omega)
      have d1 : wr.cell? ⟨g, off + m * 2 + 1, none⟩ = some (.int .i64 (fld es2 m 1)) := hc.out m (by omega) 1 (by omega)
      have HMM := Lib.hid hm
      clear hc hm
      by_cases hL : ltP (fld es2 j) (fld es2 m)
      case neg =>
        have HS3 : Hid (SrtR es2 a (k + 1)) := Lib.hid (HM2.out.stop (.inr (by rw [show j - 1 = m by have := HMM.out; omega]; exact hL)))
        have hcp : ¬ cmpP (fld es2 j) (fld es2 m) < 0 := fun h => hL (cmpP_neg.1 h)
        have hcd : decide (cmpP (fld es2 j) (fld es2 m) < 0) = false := by simpa using hcp
        go_wp2
        refine wp_region_bw (by kernel_rfl) (by kernel_rfl) (fun W hW => ?_)
        have q0 : ∀ pq : BW W, pq.w.cell? ⟨g, off + j * 2, none⟩ = some (.int .i64 (fld es2 j 0)) := fun pq => pq.cell (by rw [hW]; (first | omega | (simp; omega) | simp)) (by rw [hW]; (first | (go_keep; done) | (go_simp; done)))
        have q1 : ∀ pq : BW W, pq.w.cell? ⟨g, off + j * 2 + 1, none⟩ = some (.int .i64 (fld es2 j 1)) := fun pq => pq.cell (by rw [hW]; (first | omega | (simp; omega) | simp)) (by rw [hW]; (first | (go_keep; done) | (go_simp; done)))
        have q2 : ∀ pq : BW W, pq.w.cell? ⟨g, off + m * 2, none⟩ = some (.int .i64 (fld es2 m 0)) := fun pq => pq.cell (by rw [hW]; (first | omega | (simp; omega) | simp)) (by rw [hW]; (first | (go_keep; done) | (go_simp; done)))
        have q3 : ∀ pq : BW W, pq.w.cell? ⟨g, off + m * 2 + 1, none⟩ = some (.int .i64 (fld es2 m 1)) := fun pq => pq.cell (by rw [hW]; (first | omega | (simp; omega) | simp)) (by rw [hW]; (first | (go_keep; done) | (go_simp; done)))
        have hbW : Below wr.heap.size wr W := by rw [hW]; (repeat (first | with_reducible exact Below.refl _ _ | with_reducible refine Below.drew ?_ | with_reducible refine below_drewN ?_ _ | (with_reducible refine bel_alloc ?_ ?_ _; (first | omega | (simp; omega) | simp)) | (with_reducible refine bel_set ?_ ?_ _; (first | omega | (simp; omega) | simp)) | (with_reducible refine bel_tr (by assumption) ?_ ?_; (first | omega | (simp; omega) | simp))))
        have HW := Lib.hid hW
        clear hW
        repeat (go_big_quiet_step ((go_at_call 81; exact bw_of (comparePins_any (fld es2 j) (fld es2 m) _))))
        refine wpQuiet_nil ?_
        intro wq hq
        have hbq : Below W.heap.size W wq := by (obtain ⟨p, hp⟩ := hq; rw [hp]; exact p.below)
        clear hq
        have hbel4 : Below wr.heap.size wr wq := hbW.trans (hbq.mono hbW.size)
        have sq := hbel4.size
        clear hbW hbq HW q0 q1 q2 q3
        have hbB := hbel4.mono hBr
        go_wp2
        go_roundw
        case rel => exact ⟨k + 1, es2, by omega, by go_num, .inl (by omega), Lib.hid (HO2.out.below hbel4), HP2, HS3, HU2, Lib.hid (HG2.out.trans hbB)⟩
        case measure => simp [intOf]; omega
      have hcp : cmpP (fld es2 j) (fld es2 m) < 0 := cmpP_neg.2 hL
      have hcd : decide (cmpP (fld es2 j) (fld es2 m) < 0) = true := by simpa using hcp
      have HL := Lib.hid hL
      clear hL
      go_wp2
      refine wp_region_bw (by kernel_rfl) (by kernel_rfl) (fun W hW => ?_)
      have q0 : ∀ pq : BW W, pq.w.cell? ⟨g, off + j * 2, none⟩ = some (.int .i64 (fld es2 j 0)) := fun pq => pq.cell (by rw [hW]; (first | omega | (simp; omega) | simp)) (by rw [hW]; (first | (go_keep; done) | (go_simp; done)))
      have q1 : ∀ pq : BW W, pq.w.cell? ⟨g, off + j * 2 + 1, none⟩ = some (.int .i64 (fld es2 j 1)) := fun pq => pq.cell (by rw [hW]; (first | omega | (simp; omega) | simp)) (by rw [hW]; (first | (go_keep; done) | (go_simp; done)))
      have q2 : ∀ pq : BW W, pq.w.cell? ⟨g, off + m * 2, none⟩ = some (.int .i64 (fld es2 m 0)) := fun pq => pq.cell (by rw [hW]; (first | omega | (simp; omega) | simp)) (by rw [hW]; (first | (go_keep; done) | (go_simp; done)))
      have q3 : ∀ pq : BW W, pq.w.cell? ⟨g, off + m * 2 + 1, none⟩ = some (.int .i64 (fld es2 m 1)) := fun pq => pq.cell (by rw [hW]; (first | omega | (simp; omega) | simp)) (by rw [hW]; (first | (go_keep; done) | (go_simp; done)))
      have hbW : Below wr.heap.size wr W := by rw [hW]; (repeat (first | with_reducible exact Below.refl _ _ | with_reducible refine Below.drew ?_ | with_reducible refine below_drewN ?_ _ | (with_reducible refine bel_alloc ?_ ?_ _; (first | omega | (simp; omega) | simp)) | (with_reducible refine bel_set ?_ ?_ _; (first | omega | (simp; omega) | simp)) | (with_reducible refine bel_tr (by assumption) ?_ ?_; (first | omega | (simp; omega) | simp))))
      have HW := Lib.hid hW
      clear hW
      repeat (go_big_quiet_step ((go_at_call 81; exact bw_of (comparePins_any (fld es2 j) (fld es2 m) _))))
      refine wpQuiet_nil ?_
      intro wq hq
      have hbq : Below W.heap.size W wq := by (obtain ⟨p, hp⟩ := hq; rw [hp]; exact p.below)
      clear hq
      have hbel4 : Below wr.heap.size wr wq := hbW.trans (hbq.mono hbW.size)
      have sq := hbel4.size
      clear hbW hbq HW q0 q1 q2 q3
      have hbB := hbel4.mono hBr
      have HO3 : Hid (Own B wq 2 (some ⟨g, off, none⟩) n es2) := Lib.hid (HO2.out.below hbel4)
      have HG3 : Hid (Below B w wq) := Lib.hid (HG2.out.trans hbB)
      have e0 : wq.cell? ⟨g, off + j * 2, none⟩ = some (.int .i64 (fld es2 j 0)) := (hbel4.cell (p := ⟨g, off + j * 2, none⟩) hgl).trans c0
      have e1 : wq.cell? ⟨g, off + j * 2 + 1, none⟩ = some (.int .i64 (fld es2 j 1)) := (hbel4.cell (p := ⟨g, off + j * 2 + 1, none⟩) hgl).trans c1
      have f0 : wq.cell? ⟨g, off + m * 2, none⟩ = some (.int .i64 (fld es2 m 0)) := (hbel4.cell (p := ⟨g, off + m * 2, none⟩) hgl).trans d0
      have f1 : wq.cell? ⟨g, off + m * 2 + 1, none⟩ = some (.int .i64 (fld es2 m 1)) := (hbel4.cell (p := ⟨g, off + m * 2 + 1, none⟩) hgl).trans d1
      have k0 : ∀ o, wq.frozen? ⟨g, o, none⟩ = false := fun o => (hbel4.frozen (p := ⟨g, o, none⟩) hgl).trans (hfz o)
      have k1 := k0 (off + j * 2)
      have k2 := k0 (off + m * 2)
      have k3 := k0 (off + j * 2 + 1)
      have k4 := k0 (off + m * 2 + 1)
      have h1 : (wq.setCell ⟨g, off + j * 2, none⟩ (.int .i64 (fld es2 m 0))).cell? ⟨g, off + j * 2 + 1, none⟩ = some (.int .i64 (fld es2 j 1)) := (World.cell?_setCells_out g [.int .i64 (fld es2 m 0)] (off + j * 2) wq ⟨g, off + j * 2 + 1, none⟩ (fun _ _ => .inr (by simp only [List.length_cons, List.length_nil]; omega))).trans e1
      have g0 : ((wq.setCell ⟨g, off + j * 2, none⟩ (.int .i64 (fld es2 m 0))).setCell ⟨g, off + j * 2 + 1, none⟩ (.int .i64 (fld es2 m 1))).cell? ⟨g, off + m * 2, none⟩ = some (.int .i64 (fld es2 m 0)) := (World.cell?_setCells_out g [.int .i64 (fld es2 m 0), .int .i64 (fld es2 m 1)] (off + j * 2) wq ⟨g, off + m * 2, none⟩ (fun _ _ => .inl (by have := HMM.out; simp only []; omega))).trans f0
      have g1 : (((wq.setCell ⟨g, off + j * 2, none⟩ (.int .i64 (fld es2 m 0))).setCell ⟨g, off + j * 2 + 1, none⟩ (.int .i64 (fld es2 m 1))).setCell ⟨g, off + m * 2, none⟩ (.int .i64 (fld es2 j 0))).cell? ⟨g, off + m * 2 + 1, none⟩ = some (.int .i64 (fld es2 m 1)) := (World.cell?_setCells_out g [.int .i64 (fld es2 j 0)] (off + m * 2) _ ⟨g, off + m * 2 + 1, none⟩ (fun _ _ => .inr (by simp only [List.length_cons, List.length_nil]; omega))).trans ((World.cell?_setCells_out g [.int .i64 (fld es2 m 0), .int .i64 (fld es2 m 1)] (off + j * 2) wq ⟨g, off + m * 2 + 1, none⟩ (fun _ _ => .inl (by have := HMM.out; simp only []; omega))).trans f1)
      have hgq : g < wq.heap.size := Nat.lt_of_lt_of_le hgl sq
      clear c0 d0 c1 d1 hfz hbel4 hbB k0
      have HO4 := Lib.hid (HO3.out.swpP HMM.out hjn2)
      have HG4 := below_setCells hB [.int .i64 (fld es2 j 0), .int .i64 (fld es2 j 1)] (off + m * 2) _ (below_setCells hB [.int .i64 (fld es2 m 0), .int .i64 (fld es2 m 1)] (off + j * 2) wq HG3.out)
      have E4 : (wq.setCells g (off + j * 2) [.int .i64 (fld es2 m 0), .int .i64 (fld es2 m 1)]).setCells g (off + m * 2) [.int .i64 (fld es2 j 0), .int .i64 (fld es2 j 1)] = ((((wq.setCell ⟨g, off + j * 2, none⟩ (.int .i64 (fld es2 m 0))).setCell ⟨g, off + j * 2 + 1, none⟩ (.int .i64 (fld es2 m 1))).setCell ⟨g, off + m * 2, none⟩ (.int .i64 (fld es2 j 0))).setCell ⟨g, off + m * 2 + 1, none⟩ (.int .i64 (fld es2 j 1))) := by simp only [World.setCells, Nat.add_assoc]
      rw [E4] at HO4 HG4
      have HO5 := Lib.hid (Own.drew_ HO4.out)
      have HG5 := Lib.hid (Below.drew HG4)
      clear E4 HO4 HG4
      have HM4 : Hid (MidR (swp es2 j) a k m) := Lib.hid (by
        have h := HM2.out.step (by omega) hj (by rw [HO3.out.1]; omega) (by rw [show j - 1 = m by have := HMM.out; omega]; exact HL.out)
        rw [show j - 1 = m by have := HMM.out; omega] at h
        exact h)
      have HP4 : Hid (Stb (swp es2 j) es) := Lib.hid ((Stb.swp (by omega) (by rw [HO3.out.1]; exact hjn2) (by rw [show j - 1 = m by have := HMM.out; omega]; exact HL.out)).trans HP2.out)
      have HU4 : Hid (OutR (swp es2 j) es a b) := Lib.hid ((OutR.swp (by omega) (by omega)).trans HU2.out)
      go_wp2
      go_region
      go_wp2
      go_roundw
      case rel => exact ⟨m, swp es2 j, by have := HMM.out; omega, by have := HMM.out; omega, by go_num, by with_reducible exact HO5, HP4, HM4, HU4, by with_reducible exact HG5⟩
      case measure => have := HMM.out; simp [intOf]; omega
end Go.Proofs.YtjlmcppkafjniaaGreat

namespace Go.Proofs.YtjlmcppkafjniaaGreat
open Go.RowKit

theorem Own.swxP {B n g off j m : Nat} {w : World} {es : List (Nat → Int)} (h : Own B w 2 (some ⟨g, off, none⟩) n es) (hm : m < j) (hj : j < n) :
    Own B ((w.setCells g (off + m * 2) [.int .i64 (fld es (j) 0), .int .i64 (fld es (j) 1)]).setCells g (off + j * 2) [.int .i64 (fld es (m) 0), .int .i64 (fld es (m) 1)]) 2 (some ⟨g, off, none⟩) n (swx es m j) := by
  obtain ⟨hl, h2⟩ := h
  obtain ⟨b, o, he, hlt, hB, hf, hc⟩ := h2.resolve_left (by omega)
  injection he with he
  injection he with hb ho
  subst hb ho
  refine ⟨by rw [swx_len]; exact hl, .inr ⟨g, off, rfl, by rw [size_setCells, size_setCells]; exact hlt, hB, fun o => ?_, fun i hi q hq => ?_⟩⟩
  · rw [World.frozen?_setCells, World.frozen?_setCells]
    exact hf o
  have hsome : ∀ i q, i < n → q < 2 → (w.cell? ⟨g, off + i * 2 + q, none⟩).isSome = true := fun i q hi hq => by rw [hc i hi q hq]; rfl
  have hin1 := World.cell?_setCells_in g [.int .i64 (fld es (j) 0), .int .i64 (fld es (j) 1)] (off + m * 2) w (fun q hq => hsome m q (by omega) hq)
  have hin2 := World.cell?_setCells_in g [.int .i64 (fld es (m) 0), .int .i64 (fld es (m) 1)] (off + j * 2) (w.setCells g (off + m * 2) [.int .i64 (fld es (j) 0), .int .i64 (fld es (j) 1)]) (fun q hq => World.isSome_setCells g _ _ _ ⟨g, _, none⟩ (hsome j q hj hq))
  by_cases h4 : i = j
  · subst h4
    rw [hin2 q hq, swx_j (by omega)]
    match q, hq with
    | 0, _ => rfl
    | 1, _ => rfl
  have hout : (off + i * 2 + q < off + j * 2) ∨ (off + j * 2 + 2 ≤ off + i * 2 + q) := by rcases Nat.lt_or_ge i j with h | h <;> omega
  rw [World.cell?_setCells_out g _ _ _ ⟨g, off + i * 2 + q, none⟩ (fun _ _ => by simp only [List.length_cons, List.length_nil]; omega)]
  by_cases h5 : i = m
  · subst h5
    rw [hin1 q hq, swx_m (by omega) (by omega)]
    match q, hq with
    | 0, _ => rfl
    | 1, _ => rfl
  have hout2 : (off + i * 2 + q < off + m * 2) ∨ (off + m * 2 + 2 ≤ off + i * 2 + q) := by rcases Nat.lt_or_ge i m with h | h <;> omega
  rw [World.cell?_setCells_out g _ _ _ ⟨g, off + i * 2 + q, none⟩ (fun _ _ => by simp only [List.length_cons, List.length_nil]; omega), swx_other h5 h4]
  exact hc i hi q hq

set_option maxRecDepth 100000 in
set_option maxHeartbeats 8000000 in
theorem swapP_any (B : Nat) (A : Option Addr) (cap n a b k : Nat) (es : List (Nat → Int)) (w : World) (hn : n ≤ 4194304) (hnc : n ≤ cap) (hcm : cap ≤ 9223372036854775807) (_hBw : B ≤ w.heap.size) (hab : a + k ≤ b) (hbn : b + k ≤ n) (h : Own B w 2 A n es) :
    Calls Tryz.prog 149 #[.slice A n cap, .int .i64 a, .int .i64 b, .int .i64 k, .func (.func 81) #[] #[]] w fun y w' => y = .returned (.tuple #[]) ∧ ∃ es', Own B w' 2 A n es' ∧ SwR es' es a b k ∧ Below B w w' := by
  have H := Lib.hid h
  clear h
  go_enter Tryz.func149, Tryz.ntmps149
  go_wp2
  go_loopw [10] (fun s wr => ∃ (i : Nat) (es2 : List (Nat → Int)), i ≤ k ∧ s = .int .i64 i ∧ Hid (Own B wr 2 A n es2) ∧ Hid (SwR es2 es a b i) ∧ Hid (Below B w wr)) (fun s _ => k - (intOf s).toNat)
  case atStart => exact ⟨0, es, Nat.zero_le _, rfl, H, Lib.hid (SwR.zero _ _ _), Lib.hid (Below.refl _ _)⟩
  case round =>
    obtain ⟨i, es2, hi, rfl, HO, HS, HG⟩ := hrel
    by_cases hlt : i < k
    case neg =>
      have hik : i = k := by omega
      subst hik
      have hki : ¬ (i : Int) < (i : Int) := by omega
      go_wp2
      exact bodyPost_end (results_none rfl _ _ _) rfl ⟨rfl, es2, HO.out, HS.out, HG.out⟩
    have hki : (i : Int) < (k : Int) := by omega
    have ha1 : IntKind.i64.wrap ((a : Int) + (i : Int)) = ((a + i : Nat) : Int) := by rw [IntKind.wrap_i64]; omega
    have hb1 : IntKind.i64.wrap ((b : Int) + (i : Int)) = ((b + i : Nat) : Int) := by rw [IntKind.wrap_i64]; omega
    obtain ⟨g, off, rfl⟩ : ∃ g off, A = some ⟨g, off, none⟩ := by
      obtain ⟨b', o, he, _⟩ := HO.out.2.resolve_left (by omega)
      exact ⟨b', o, he⟩
    obtain ⟨hgl, hB, hfz, hc⟩ : g < wr.heap.size ∧ B ≤ g ∧ (∀ o, wr.frozen? ⟨g, o, none⟩ = false) ∧ Hid (∀ i, i < n → ∀ q, q < 2 → wr.cell? ⟨g, off + i * 2 + q, none⟩ = some (.int .i64 (fld es2 i q))) := by
      obtain ⟨b', o, he, h1, h2, h3, h4⟩ := HO.out.2.resolve_left (by omega)
      injection he with he
      injection he with hb ho
      subst hb ho
      exact ⟨h1, h2, h3, h4⟩
    have e0 : wr.cell? ⟨g, off + (a + i) * 2, none⟩ = some (.int .i64 (fld es2 (a + i) 0)) := hc.out (a + i) (by omega) 0 (by omega)
    have e1 : wr.cell? ⟨g, off + (a + i) * 2 + 1, none⟩ = some (.int .i64 (fld es2 (a + i) 1)) := hc.out (a + i) (by omega) 1 (by omega)
    have f0 : wr.cell? ⟨g, off + (b + i) * 2, none⟩ = some (.int .i64 (fld es2 (b + i) 0)) := hc.out (b + i) (by omega) 0 (by omega)
    have f1 : wr.cell? ⟨g, off + (b + i) * 2 + 1, none⟩ = some (.int .i64 (fld es2 (b + i) 1)) := hc.out (b + i) (by omega) 1 (by omega)
    have ka0 := hfz (off + (a + i) * 2)
    have ka1 := hfz (off + (a + i) * 2 + 1)
    have kb0 := hfz (off + (b + i) * 2)
    have kb1 := hfz (off + (b + i) * 2 + 1)
    have h1 : (wr.setCell ⟨g, off + (a + i) * 2, none⟩ (.int .i64 (fld es2 (b + i) 0))).cell? ⟨g, off + (a + i) * 2 + 1, none⟩ = some (.int .i64 (fld es2 (a + i) 1)) := (World.cell?_setCells_out g [.int .i64 (fld es2 (b + i) 0)] (off + (a + i) * 2) wr ⟨g, off + (a + i) * 2 + 1, none⟩ (fun _ _ => .inr (by simp only [List.length_cons, List.length_nil]; omega))).trans e1
    have g0 : ((wr.setCell ⟨g, off + (a + i) * 2, none⟩ (.int .i64 (fld es2 (b + i) 0))).setCell ⟨g, off + (a + i) * 2 + 1, none⟩ (.int .i64 (fld es2 (b + i) 1))).cell? ⟨g, off + (b + i) * 2, none⟩ = some (.int .i64 (fld es2 (b + i) 0)) := (World.cell?_setCells_out g [.int .i64 (fld es2 (b + i) 0), .int .i64 (fld es2 (b + i) 1)] (off + (a + i) * 2) wr ⟨g, off + (b + i) * 2, none⟩ (fun _ _ => .inr (by simp only [List.length_cons, List.length_nil]; omega))).trans f0
    have g1 : (((wr.setCell ⟨g, off + (a + i) * 2, none⟩ (.int .i64 (fld es2 (b + i) 0))).setCell ⟨g, off + (a + i) * 2 + 1, none⟩ (.int .i64 (fld es2 (b + i) 1))).setCell ⟨g, off + (b + i) * 2, none⟩ (.int .i64 (fld es2 (a + i) 0))).cell? ⟨g, off + (b + i) * 2 + 1, none⟩ = some (.int .i64 (fld es2 (b + i) 1)) := (World.cell?_setCells_out g [.int .i64 (fld es2 (a + i) 0)] (off + (b + i) * 2) _ ⟨g, off + (b + i) * 2 + 1, none⟩ (fun _ _ => .inr (by simp only [List.length_cons, List.length_nil]; omega))).trans ((World.cell?_setCells_out g [.int .i64 (fld es2 (b + i) 0), .int .i64 (fld es2 (b + i) 1)] (off + (a + i) * 2) wr ⟨g, off + (b + i) * 2 + 1, none⟩ (fun _ _ => .inr (by simp only [List.length_cons, List.length_nil]; omega))).trans f1)
    have hA0 : (0 : Int) ≤ ((a + i : Nat) : Int) := by omega
    have hAn : ((a + i : Nat) : Int) < (n : Int) := by omega
    have hB0 : (0 : Int) ≤ ((b + i : Nat) : Int) := by omega
    have hBn : ((b + i : Nat) : Int) < (n : Int) := by omega
    have hAn2 : a + i < n := by omega
    have hBn2 : b + i < n := by omega
    have HO4 := Lib.hid (HO.out.swxP (show a + i < b + i by omega) (by omega))
    have HG4 := below_setCells hB [.int .i64 (fld es2 (a + i) 0), .int .i64 (fld es2 (a + i) 1)] (off + (b + i) * 2) _ (below_setCells hB [.int .i64 (fld es2 (b + i) 0), .int .i64 (fld es2 (b + i) 1)] (off + (a + i) * 2) wr HG.out)
    have E4 : (wr.setCells g (off + (a + i) * 2) [.int .i64 (fld es2 (b + i) 0), .int .i64 (fld es2 (b + i) 1)]).setCells g (off + (b + i) * 2) [.int .i64 (fld es2 (a + i) 0), .int .i64 (fld es2 (a + i) 1)] = ((((wr.setCell ⟨g, off + (a + i) * 2, none⟩ (.int .i64 (fld es2 (b + i) 0))).setCell ⟨g, off + (a + i) * 2 + 1, none⟩ (.int .i64 (fld es2 (b + i) 1))).setCell ⟨g, off + (b + i) * 2, none⟩ (.int .i64 (fld es2 (a + i) 0))).setCell ⟨g, off + (b + i) * 2 + 1, none⟩ (.int .i64 (fld es2 (a + i) 1))) := by simp only [World.setCells, Nat.add_assoc]
    rw [E4] at HO4 HG4
    have HO5 := Lib.hid (Own.drew_ HO4.out)
    have HG5 := Lib.hid (Below.drew HG4)
    have HS5 := Lib.hid (HS.out.step (by omega) (by have := HO.out.1; have := HS.out.1; omega))
    clear E4 HO4 HG4 hfz hc
    go_wp2
    go_region
    all_goals
      go_wp2
      go_roundw
      case rel => exact ⟨i + 1, swx es2 (a + i) (b + i), by omega, by go_num, by with_reducible exact HO5, HS5, by with_reducible exact HG5⟩
      case measure => simp [intOf]; omega
end Go.Proofs.YtjlmcppkafjniaaGreat
