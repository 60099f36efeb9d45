/-
  Two ranges of a row are exchanged element by element, plain. No conditions.
-/
import Derived.Test.YtjlmcppkafjniaaGreatCe
import Derived.Test.YtjlmcppkafjniaaGreatBw
import Derived.Test.YtjlmcppkafjniaaGreatEs
import Derived.Great.Walk
import Derived.Test.YtjlmcppkafjniaaGreatIs
namespace Go.Proofs.YtjlmcppkafjniaaGreat
open Go.RowKit

theorem Own.swpE {B n g off j m : Nat} {w : World} {es : List (Nat → Int)} (h : Own B w 4 (some ⟨g, off, none⟩) n es) (hm : j = m + 1) (hj : j < n) :
    Own B ((w.setCells g (off + j * 4) [.int .i64 (fld es m 0), .int .i64 (fld es m 1), .int .i64 (fld es m 2), .int .i64 (fld es m 3)]).setCells g (off + m * 4) [.int .i64 (fld es j 0), .int .i64 (fld es j 1), .int .i64 (fld es j 2), .int .i64 (fld es j 3)]) 4 (some ⟨g, off, none⟩) n (swp es j) := by
  obtain ⟨hl, h2⟩ := h
  obtain ⟨b, o, he, hlt, hB, hf, hc⟩ := h2.resolve_left (by omega)
  injection he with he
  injection he with hb ho
  subst hb ho
  refine ⟨by rw [swp_len]; exact hl, .inr ⟨g, off, rfl, by rw [size_setCells, size_setCells]; exact hlt, hB, fun o => ?_, fun i hi q hq => ?_⟩⟩
  · rw [World.frozen?_setCells, World.frozen?_setCells]
    exact hf o
  have hsome : ∀ i q, i < n → q < 4 → (w.cell? ⟨g, off + i * 4 + q, none⟩).isSome = true := fun i q hi hq => by rw [hc i hi q hq]; rfl
  have hs1 : ∀ q, q < 4 → (w.cell? ⟨g, off + j * 4 + q, none⟩).isSome = true := fun q hq => hsome j q hj hq
  have hin1 := World.cell?_setCells_in g [.int .i64 (fld es m 0), .int .i64 (fld es m 1), .int .i64 (fld es m 2), .int .i64 (fld es m 3)] (off + j * 4) w hs1
  have hin2 := World.cell?_setCells_in g [.int .i64 (fld es j 0), .int .i64 (fld es j 1), .int .i64 (fld es j 2), .int .i64 (fld es j 3)] (off + m * 4) (w.setCells g (off + j * 4) [.int .i64 (fld es m 0), .int .i64 (fld es m 1), .int .i64 (fld es m 2), .int .i64 (fld es m 3)]) (fun q hq => World.isSome_setCells g _ _ _ ⟨g, _, none⟩ (hsome m q (by omega) hq))
  have hmj : m = j - 1 := by omega
  rcases Nat.lt_trichotomy i m with h3 | h3 | h3
  · rw [World.cell?_setCells_out g _ _ _ ⟨g, off + i * 4 + q, none⟩ (fun _ _ => .inl (by simp only []; omega)), World.cell?_setCells_out g _ _ _ ⟨g, off + i * 4 + q, none⟩ (fun _ _ => .inl (by simp only []; omega)), swp_other (by omega) (by omega)]
    exact hc i hi q hq
  · subst h3
    rw [hin2 q hq]
    subst hmj
    rw [swp_pred (by omega)]
    match q, hq with
    | 0, _ => rfl
    | 1, _ => rfl
    | 2, _ => rfl
    | 3, _ => rfl
  · rw [World.cell?_setCells_out g _ _ _ ⟨g, off + i * 4 + q, none⟩ (fun _ _ => .inr (by simp only [List.length_cons, List.length_nil]; omega))]
    by_cases h4 : i = j
    · subst h4
      rw [hin1 q hq, swp_at (by omega) (by omega), ← hmj]
      match q, hq with
      | 0, _ => rfl
      | 1, _ => rfl
      | 2, _ => rfl
      | 3, _ => rfl
    · rw [World.cell?_setCells_out g _ _ _ ⟨g, off + i * 4 + q, none⟩ (fun _ _ => .inr (by simp only [List.length_cons, List.length_nil]; omega)), swp_other h4 (by omega)]
      exact hc i hi q hq

set_option maxRecDepth 100000 in
set_option maxHeartbeats 8000000 in
theorem insE_any (B : Nat) (A : Option Addr) (cap n a b : Nat) (es : List (Nat → Int)) (w : World) (hn : n ≤ 4194304) (hnc : n ≤ cap) (hcm : cap ≤ 9223372036854775807) (hBw : B ≤ w.heap.size) (hbn : b ≤ n) (han : a ≤ n) (h : Own B w 4 A n es) :
    Calls Tryz.prog 122 #[.slice A n cap, .int .i64 a, .int .i64 b, .func (.func 84) #[] #[]] w (InsD B 4 n a b A es w) := by
  have H := Lib.hid h
  clear h
  have ha0 : (0 : Int) ≤ (a : Int) := by omega
  have haw : IntKind.i64.wrap ((a : Int) + 1) = ((a + 1 : Nat) : Int) := by rw [IntKind.wrap_i64]; omega
  go_enter Tryz.func122, Tryz.ntmps122
  go_wp2
  go_loopw [8] (fun i wr => ∃ (k : Nat) (es1 : List (Nat → Int)), a + 1 ≤ k ∧ i = .int .i64 k ∧ (k ≤ b ∨ k = a + 1) ∧ Hid (Own B wr 4 A n es1) ∧ Hid (Stb es1 es) ∧ Hid (SrtR es1 a k) ∧ Hid (OutR es1 es a b) ∧ Hid (Below B w wr)) (fun i _ => b - (intOf i).toNat)
  case atStart => exact ⟨a + 1, es, by omega, by go_num, .inr rfl, H, Lib.hid (Stb.refl _), Lib.hid (fun q h0 hq => absurd hq (by omega)), Lib.hid (OutR.refl _ _ _), Lib.hid (Below.refl _ _)⟩
  case round =>
    obtain ⟨k, es1, hk1, rfl, hk, HO, HP, HS, HU, HG⟩ := hrel
    by_cases hlt : k < b
    case neg =>
      have hki : ¬ (k : Int) < (b : Int) := by omega
      have HS2 : Hid (SrtR es1 a b) := Lib.hid fun q h0 hq => HS.out q h0 (by omega)
      go_wp2
      exact bodyPost_end (results_none rfl _ _ _) rfl ⟨rfl, es1, HO.out, HP.out, HS2.out, HU.out, HG.out⟩
    have hki : (k : Int) < (b : Int) := by omega
    obtain ⟨g, off, rfl⟩ : ∃ g off, A = some ⟨g, off, none⟩ := by
      obtain ⟨b', o, he, _⟩ := HO.out.2.resolve_left (by omega)
      exact ⟨b', o, he⟩
    obtain ⟨w2, hw2⟩ : ∃ w2, w2 = wr := ⟨wr, rfl⟩
    subst hw2
    go_wp2
    go_loopw [9] (fun i wr => ∃ (j : Nat) (es2 : List (Nat → Int)), a ≤ j ∧ j ≤ k ∧ i = .int .i64 j ∧ Hid (Own B wr 4 (some ⟨g, off, none⟩) n es2) ∧ Hid (Stb es2 es) ∧ Hid (MidR es2 a k j) ∧ Hid (OutR es2 es a b) ∧ Hid (Below B w wr)) (fun i _ => (intOf i).toNat)
    case atStart => exact ⟨k, es1, by omega, Nat.le_refl _, rfl, HO, HP, Lib.hid (MidR.start HS.out), HU, HG⟩
    case round =>
      obtain ⟨j, es2, hja, hj, rfl, HO2, HP2, HM2, HU2, HG2⟩ := hrel
      have hBr : B ≤ wr.heap.size := Nat.le_trans hBw HG2.out.size
      have hkw : IntKind.i64.wrap ((k : Int) + 1) = ((k + 1 : Nat) : Int) := by rw [IntKind.wrap_i64]; omega
      by_cases hj0 : j ≤ a
      · have HS3 : Hid (SrtR es2 a (k + 1)) := Lib.hid (HM2.out.stop (.inl hj0))
        have hjai : ¬ (a : Int) < (j : Int) := by omega
        have hjad : decide ((a : Int) < (j : Int)) = false := by simpa using hjai
        have hjad2 : decide (a < j) = false := by simp; omega
        go_wp2
        refine wp_region_bw (by kernel_rfl) (by kernel_rfl) (fun W hW => ?_)
        have hbW : Below wr.heap.size wr W := by rw [hW]; (repeat (first | with_reducible exact Below.refl _ _ | with_reducible refine Below.drew ?_ | with_reducible refine below_drewN ?_ _ | (with_reducible refine bel_alloc ?_ ?_ _; (first | omega | (simp; omega) | simp)) | (with_reducible refine bel_set ?_ ?_ _; (first | omega | (simp; omega) | simp)) | (with_reducible refine bel_tr (by assumption) ?_ ?_; (first | omega | (simp; omega) | simp))))
        have HW := Lib.hid hW
        clear hW
        repeat (go_big_quiet_step (fail))
        refine wpQuiet_nil ?_
        intro wq hq
        have hbq : Below W.heap.size W wq := by (obtain ⟨p, hp⟩ := hq; rw [hp]; exact p.below)
        clear hq
        have hbel4 : Below wr.heap.size wr wq := hbW.trans (hbq.mono hbW.size)
        have sq := hbel4.size
        clear hbW hbq HW 
        have hbB := hbel4.mono hBr
        go_wp2
        go_roundw
        case rel => exact ⟨k + 1, es2, by omega, by go_num, .inl (by omega), Lib.hid (HO2.out.below hbel4), HP2, HS3, HU2, Lib.hid (HG2.out.trans hbB)⟩
        case measure => simp [intOf]; omega
      obtain ⟨m, hm⟩ : ∃ m, j = m + 1 := ⟨j - 1, by omega⟩
      have hjm : IntKind.i64.wrap ((j : Int) - 1) = (m : Int) := by rw [IntKind.wrap_i64]; omega
      have hm0 : (0 : Int) ≤ (m : Int) := by omega
      have hj1 : (0 : Int) ≤ (j : Int) := by omega
      have hmn : (m : Int) < (n : Int) := by omega
      have hjn : (j : Int) < (n : Int) := by omega
      have hmn2 : m < n := by omega
      have hjn2 : j < n := by omega
      have hjp : (a : Int) < (j : Int) := by omega
      have hjp2 : a < j := by omega
      have hjd : decide ((a : Int) < (j : Int)) = true := by simpa using hjp
      have hjd2 : decide (a < j) = true := by simpa using hjp2
      obtain ⟨hgl, hB, hfz, hc⟩ : g < wr.heap.size ∧ B ≤ g ∧ (∀ o, wr.frozen? ⟨g, o, none⟩ = false) ∧ Hid (∀ i, i < n → ∀ q, q < 4 → wr.cell? ⟨g, off + i * 4 + q, none⟩ = some (.int .i64 (fld es2 i q))) := by
        obtain ⟨b', o, he, h1, h2, h3, h4⟩ := HO2.out.2.resolve_left (by omega)
        injection he with he
        injection he with hb ho
        subst hb ho
        exact ⟨h1, h2, h3, h4⟩
      have c0 : wr.cell? ⟨g, off + j * 4, none⟩ = some (.int .i64 (fld es2 j 0)) := hc.out j (by omega) 0 (by omega)
      have c1 : wr.cell? ⟨g, off + j * 4 + 1, none⟩ = some (.int .i64 (fld es2 j 1)) := hc.out j (by omega) 1 (by omega)
      have c2 : wr.cell? ⟨g, off + j * 4 + 2, none⟩ = some (.int .i64 (fld es2 j 2)) := hc.out j (by omega) 2 (by omega)
      have c3 : wr.cell? ⟨g, off + j * 4 + 3, none⟩ = some (.int .i64 (fld es2 j 3)) := hc.out j (by omega) 3 (by omega)
      have d0 : wr.cell? ⟨g, off + m * 4, none⟩ = some (.int .i64 (fld es2 m 0)) := hc.out m (by omega) 0 (by omega)
      have d1 : wr.cell? ⟨g, off + m * 4 + 1, none⟩ = some (.int .i64 (fld es2 m 1)) := hc.out m (by omega) 1 (by omega)
      have d2 : wr.cell? ⟨g, off + m * 4 + 2, none⟩ = some (.int .i64 (fld es2 m 2)) := hc.out m (by omega) 2 (by omega)
      have d3 : wr.cell? ⟨g, off + m * 4 + 3, none⟩ = some (.int .i64 (fld es2 m 3)) := hc.out m (by omega) 3 (by omega)
      have HMM := Lib.hid hm
      clear hc hm
      by_cases hL : ltP (fld es2 j) (fld es2 m)
      case neg =>
        have HS3 : Hid (SrtR es2 a (k + 1)) := Lib.hid (HM2.out.stop (.inr (by rw [show j - 1 = m by have := HMM.out; omega]; exact hL)))
        have hcp : ¬ cmpP (fld es2 j) (fld es2 m) < 0 := fun h => hL (cmpP_neg.1 h)
        have hcd : decide (cmpP (fld es2 j) (fld es2 m) < 0) = false := by simpa using hcp
        go_wp2
        refine wp_region_bw (by kernel_rfl) (by kernel_rfl) (fun W hW => ?_)
        have q0 : ∀ pq : BW W, pq.w.cell? ⟨g, off + j * 4, none⟩ = some (.int .i64 (fld es2 j 0)) := fun pq => pq.cell (by rw [hW]; (first | omega | (simp; omega) | simp)) (by rw [hW]; (first | (go_keep; done) | (go_simp; done)))
        have q1 : ∀ pq : BW W, pq.w.cell? ⟨g, off + j * 4 + 1, none⟩ = some (.int .i64 (fld es2 j 1)) := fun pq => pq.cell (by rw [hW]; (first | omega | (simp; omega) | simp)) (by rw [hW]; (first | (go_keep; done) | (go_simp; done)))
        have q2 : ∀ pq : BW W, pq.w.cell? ⟨g, off + j * 4 + 2, none⟩ = some (.int .i64 (fld es2 j 2)) := fun pq => pq.cell (by rw [hW]; (first | omega | (simp; omega) | simp)) (by rw [hW]; (first | (go_keep; done) | (go_simp; done)))
        have q3 : ∀ pq : BW W, pq.w.cell? ⟨g, off + j * 4 + 3, none⟩ = some (.int .i64 (fld es2 j 3)) := fun pq => pq.cell (by rw [hW]; (first | omega | (simp; omega) | simp)) (by rw [hW]; (first | (go_keep; done) | (go_simp; done)))
        have q4 : ∀ pq : BW W, pq.w.cell? ⟨g, off + m * 4, none⟩ = some (.int .i64 (fld es2 m 0)) := fun pq => pq.cell (by rw [hW]; (first | omega | (simp; omega) | simp)) (by rw [hW]; (first | (go_keep; done) | (go_simp; done)))
        have q5 : ∀ pq : BW W, pq.w.cell? ⟨g, off + m * 4 + 1, none⟩ = some (.int .i64 (fld es2 m 1)) := fun pq => pq.cell (by rw [hW]; (first | omega | (simp; omega) | simp)) (by rw [hW]; (first | (go_keep; done) | (go_simp; done)))
        have q6 : ∀ pq : BW W, pq.w.cell? ⟨g, off + m * 4 + 2, none⟩ = some (.int .i64 (fld es2 m 2)) := fun pq => pq.cell (by rw [hW]; (first | omega | (simp; omega) | simp)) (by rw [hW]; (first | (go_keep; done) | (go_simp; done)))
        have q7 : ∀ pq : BW W, pq.w.cell? ⟨g, off + m * 4 + 3, none⟩ = some (.int .i64 (fld es2 m 3)) := fun pq => pq.cell (by rw [hW]; (first | omega | (simp; omega) | simp)) (by rw [hW]; (first | (go_keep; done) | (go_simp; done)))
        have hbW : Below wr.heap.size wr W := by rw [hW]; (repeat (first | with_reducible exact Below.refl _ _ | with_reducible refine Below.drew ?_ | with_reducible refine below_drewN ?_ _ | (with_reducible refine bel_alloc ?_ ?_ _; (first | omega | (simp; omega) | simp)) | (with_reducible refine bel_set ?_ ?_ _; (first | omega | (simp; omega) | simp)) | (with_reducible refine bel_tr (by assumption) ?_ ?_; (first | omega | (simp; omega) | simp))))
        have HW := Lib.hid hW
        clear hW
        repeat (go_big_quiet_step ((go_at_call 84; exact bw_of (compareE_any (fld es2 j) (fld es2 m) _))))
        refine wpQuiet_nil ?_
        intro wq hq
        have hbq : Below W.heap.size W wq := by (obtain ⟨p, hp⟩ := hq; rw [hp]; exact p.below)
        clear hq
        have hbel4 : Below wr.heap.size wr wq := hbW.trans (hbq.mono hbW.size)
        have sq := hbel4.size
        clear hbW hbq HW q0 q1 q2 q3 q4 q5 q6 q7
        have hbB := hbel4.mono hBr
        go_wp2
        go_roundw
        case rel => exact ⟨k + 1, es2, by omega, by go_num, .inl (by omega), Lib.hid (HO2.out.below hbel4), HP2, HS3, HU2, Lib.hid (HG2.out.trans hbB)⟩
        case measure => simp [intOf]; omega
      have hcp : cmpP (fld es2 j) (fld es2 m) < 0 := cmpP_neg.2 hL
      have hcd : decide (cmpP (fld es2 j) (fld es2 m) < 0) = true := by simpa using hcp
      have HL := Lib.hid hL
      clear hL
      go_wp2
      refine wp_region_bw (by kernel_rfl) (by kernel_rfl) (fun W hW => ?_)
      have q0 : ∀ pq : BW W, pq.w.cell? ⟨g, off + j * 4, none⟩ = some (.int .i64 (fld es2 j 0)) := fun pq => pq.cell (by rw [hW]; (first | omega | (simp; omega) | simp)) (by rw [hW]; (first | (go_keep; done) | (go_simp; done)))
      have q1 : ∀ pq : BW W, pq.w.cell? ⟨g, off + j * 4 + 1, none⟩ = some (.int .i64 (fld es2 j 1)) := fun pq => pq.cell (by rw [hW]; (first | omega | (simp; omega) | simp)) (by rw [hW]; (first | (go_keep; done) | (go_simp; done)))
      have q2 : ∀ pq : BW W, pq.w.cell? ⟨g, off + j * 4 + 2, none⟩ = some (.int .i64 (fld es2 j 2)) := fun pq => pq.cell (by rw [hW]; (first | omega | (simp; omega) | simp)) (by rw [hW]; (first | (go_keep; done) | (go_simp; done)))
      have q3 : ∀ pq : BW W, pq.w.cell? ⟨g, off + j * 4 + 3, none⟩ = some (.int .i64 (fld es2 j 3)) := fun pq => pq.cell (by rw [hW]; (first | omega | (simp; omega) | simp)) (by rw [hW]; (first | (go_keep; done) | (go_simp; done)))
      have q4 : ∀ pq : BW W, pq.w.cell? ⟨g, off + m * 4, none⟩ = some (.int .i64 (fld es2 m 0)) := fun pq => pq.cell (by rw [hW]; (first | omega | (simp; omega) | simp)) (by rw [hW]; (first | (go_keep; done) | (go_simp; done)))
      have q5 : ∀ pq : BW W, pq.w.cell? ⟨g, off + m * 4 + 1, none⟩ = some (.int .i64 (fld es2 m 1)) := fun pq => pq.cell (by rw [hW]; (first | omega | (simp; omega) | simp)) (by rw [hW]; (first | (go_keep; done) | (go_simp; done)))
      have q6 : ∀ pq : BW W, pq.w.cell? ⟨g, off + m * 4 + 2, none⟩ = some (.int .i64 (fld es2 m 2)) := fun pq => pq.cell (by rw [hW]; (first | omega | (simp; omega) | simp)) (by rw [hW]; (first | (go_keep; done) | (go_simp; done)))
      have q7 : ∀ pq : BW W, pq.w.cell? ⟨g, off + m * 4 + 3, none⟩ = some (.int .i64 (fld es2 m 3)) := fun pq => pq.cell (by rw [hW]; (first | omega | (simp; omega) | simp)) (by rw [hW]; (first | (go_keep; done) | (go_simp; done)))
      have hbW : Below wr.heap.size wr W := by rw [hW]; (repeat (first | with_reducible exact Below.refl _ _ | with_reducible refine Below.drew ?_ | with_reducible refine below_drewN ?_ _ | (with_reducible refine bel_alloc ?_ ?_ _; (first | omega | (simp; omega) | simp)) | (with_reducible refine bel_set ?_ ?_ _; (first | omega | (simp; omega) | simp)) | (with_reducible refine bel_tr (by assumption) ?_ ?_; (first | omega | (simp; omega) | simp))))
      have HW := Lib.hid hW
      clear hW
      repeat (go_big_quiet_step ((go_at_call 84; exact bw_of (compareE_any (fld es2 j) (fld es2 m) _))))
      refine wpQuiet_nil ?_
      intro wq hq
      have hbq : Below W.heap.size W wq := by (obtain ⟨p, hp⟩ := hq; rw [hp]; exact p.below)
      clear hq
      have hbel4 : Below wr.heap.size wr wq := hbW.trans (hbq.mono hbW.size)
      have sq := hbel4.size
      clear hbW hbq HW q0 q1 q2 q3 q4 q5 q6 q7
      have hbB := hbel4.mono hBr
      have HO3 : Hid (Own B wq 4 (some ⟨g, off, none⟩) n es2) := Lib.hid (HO2.out.below hbel4)
      have HG3 : Hid (Below B w wq) := Lib.hid (HG2.out.trans hbB)
      have e0 : wq.cell? ⟨g, off + j * 4, none⟩ = some (.int .i64 (fld es2 j 0)) := (hbel4.cell (p := ⟨g, off + j * 4, none⟩) hgl).trans c0
      have e1 : wq.cell? ⟨g, off + j * 4 + 1, none⟩ = some (.int .i64 (fld es2 j 1)) := (hbel4.cell (p := ⟨g, off + j * 4 + 1, none⟩) hgl).trans c1
      have e2 : wq.cell? ⟨g, off + j * 4 + 2, none⟩ = some (.int .i64 (fld es2 j 2)) := (hbel4.cell (p := ⟨g, off + j * 4 + 2, none⟩) hgl).trans c2
      have e3 : wq.cell? ⟨g, off + j * 4 + 3, none⟩ = some (.int .i64 (fld es2 j 3)) := (hbel4.cell (p := ⟨g, off + j * 4 + 3, none⟩) hgl).trans c3
      have f0 : wq.cell? ⟨g, off + m * 4, none⟩ = some (.int .i64 (fld es2 m 0)) := (hbel4.cell (p := ⟨g, off + m * 4, none⟩) hgl).trans d0
      have f1 : wq.cell? ⟨g, off + m * 4 + 1, none⟩ = some (.int .i64 (fld es2 m 1)) := (hbel4.cell (p := ⟨g, off + m * 4 + 1, none⟩) hgl).trans d1
      have f2 : wq.cell? ⟨g, off + m * 4 + 2, none⟩ = some (.int .i64 (fld es2 m 2)) := (hbel4.cell (p := ⟨g, off + m * 4 + 2, none⟩) hgl).trans d2
      have f3 : wq.cell? ⟨g, off + m * 4 + 3, none⟩ = some (.int .i64 (fld es2 m 3)) := (hbel4.cell (p := ⟨g, off + m * 4 + 3, none⟩) hgl).trans d3
      have k0 : ∀ o, wq.frozen? ⟨g, o, none⟩ = false := fun o => (hbel4.frozen (p := ⟨g, o, none⟩) hgl).trans (hfz o)
      have k1 := k0 (off + j * 4)
      have k2 := k0 (off + m * 4)
      have k3 := k0 (off + j * 4 + 1)
      have k4 := k0 (off + m * 4 + 1)
      have k5 := k0 (off + j * 4 + 2)
      have k6 := k0 (off + m * 4 + 2)
      have k7 := k0 (off + j * 4 + 3)
      have k8 := k0 (off + m * 4 + 3)
      have h1 : (wq.setCell ⟨g, off + j * 4, none⟩ (.int .i64 (fld es2 m 0))).cell? ⟨g, off + j * 4 + 1, none⟩ = some (.int .i64 (fld es2 j 1)) := (World.cell?_setCells_out g [.int .i64 (fld es2 m 0)] (off + j * 4) wq ⟨g, off + j * 4 + 1, none⟩ (fun _ _ => .inr (by simp only [List.length_cons, List.length_nil]; omega))).trans e1
      have h2 : ((wq.setCell ⟨g, off + j * 4, none⟩ (.int .i64 (fld es2 m 0))).setCell ⟨g, off + j * 4 + 1, none⟩ (.int .i64 (fld es2 m 1))).cell? ⟨g, off + j * 4 + 2, none⟩ = some (.int .i64 (fld es2 j 2)) := (World.cell?_setCells_out g [.int .i64 (fld es2 m 0), .int .i64 (fld es2 m 1)] (off + j * 4) wq ⟨g, off + j * 4 + 2, none⟩ (fun _ _ => .inr (by simp only [List.length_cons, List.length_nil]; omega))).trans e2
      have h3 : (((wq.setCell ⟨g, off + j * 4, none⟩ (.int .i64 (fld es2 m 0))).setCell ⟨g, off + j * 4 + 1, none⟩ (.int .i64 (fld es2 m 1))).setCell ⟨g, off + j * 4 + 2, none⟩ (.int .i64 (fld es2 m 2))).cell? ⟨g, off + j * 4 + 3, none⟩ = some (.int .i64 (fld es2 j 3)) := (World.cell?_setCells_out g [.int .i64 (fld es2 m 0), .int .i64 (fld es2 m 1), .int .i64 (fld es2 m 2)] (off + j * 4) wq ⟨g, off + j * 4 + 3, none⟩ (fun _ _ => .inr (by simp only [List.length_cons, List.length_nil]; omega))).trans e3
      have g0 : ((((wq.setCell ⟨g, off + j * 4, none⟩ (.int .i64 (fld es2 m 0))).setCell ⟨g, off + j * 4 + 1, none⟩ (.int .i64 (fld es2 m 1))).setCell ⟨g, off + j * 4 + 2, none⟩ (.int .i64 (fld es2 m 2))).setCell ⟨g, off + j * 4 + 3, none⟩ (.int .i64 (fld es2 m 3))).cell? ⟨g, off + m * 4, none⟩ = some (.int .i64 (fld es2 m 0)) := (World.cell?_setCells_out g [.int .i64 (fld es2 m 0), .int .i64 (fld es2 m 1), .int .i64 (fld es2 m 2), .int .i64 (fld es2 m 3)] (off + j * 4) wq ⟨g, off + m * 4, none⟩ (fun _ _ => .inl (by have := HMM.out; simp only []; omega))).trans f0
      have g1 : (((((wq.setCell ⟨g, off + j * 4, none⟩ (.int .i64 (fld es2 m 0))).setCell ⟨g, off + j * 4 + 1, none⟩ (.int .i64 (fld es2 m 1))).setCell ⟨g, off + j * 4 + 2, none⟩ (.int .i64 (fld es2 m 2))).setCell ⟨g, off + j * 4 + 3, none⟩ (.int .i64 (fld es2 m 3))).setCell ⟨g, off + m * 4, none⟩ (.int .i64 (fld es2 j 0))).cell? ⟨g, off + m * 4 + 1, none⟩ = some (.int .i64 (fld es2 m 1)) := (World.cell?_setCells_out g [.int .i64 (fld es2 j 0)] (off + m * 4) _ ⟨g, off + m * 4 + 1, none⟩ (fun _ _ => .inr (by simp only [List.length_cons, List.length_nil]; omega))).trans ((World.cell?_setCells_out g [.int .i64 (fld es2 m 0), .int .i64 (fld es2 m 1), .int .i64 (fld es2 m 2), .int .i64 (fld es2 m 3)] (off + j * 4) wq ⟨g, off + m * 4 + 1, none⟩ (fun _ _ => .inl (by have := HMM.out; simp only []; omega))).trans f1)
      have g2 : ((((((wq.setCell ⟨g, off + j * 4, none⟩ (.int .i64 (fld es2 m 0))).setCell ⟨g, off + j * 4 + 1, none⟩ (.int .i64 (fld es2 m 1))).setCell ⟨g, off + j * 4 + 2, none⟩ (.int .i64 (fld es2 m 2))).setCell ⟨g, off + j * 4 + 3, none⟩ (.int .i64 (fld es2 m 3))).setCell ⟨g, off + m * 4, none⟩ (.int .i64 (fld es2 j 0))).setCell ⟨g, off + m * 4 + 1, none⟩ (.int .i64 (fld es2 j 1))).cell? ⟨g, off + m * 4 + 2, none⟩ = some (.int .i64 (fld es2 m 2)) := (World.cell?_setCells_out g [.int .i64 (fld es2 j 0), .int .i64 (fld es2 j 1)] (off + m * 4) _ ⟨g, off + m * 4 + 2, none⟩ (fun _ _ => .inr (by simp only [List.length_cons, List.length_nil]; omega))).trans ((World.cell?_setCells_out g [.int .i64 (fld es2 m 0), .int .i64 (fld es2 m 1), .int .i64 (fld es2 m 2), .int .i64 (fld es2 m 3)] (off + j * 4) wq ⟨g, off + m * 4 + 2, none⟩ (fun _ _ => .inl (by have := HMM.out; simp only []; omega))).trans f2)
      have g3 : (((((((wq.setCell ⟨g, off + j * 4, none⟩ (.int .i64 (fld es2 m 0))).setCell ⟨g, off + j * 4 + 1, none⟩ (.int .i64 (fld es2 m 1))).setCell ⟨g, off + j * 4 + 2, none⟩ (.int .i64 (fld es2 m 2))).setCell ⟨g, off + j * 4 + 3, none⟩ (.int .i64 (fld es2 m 3))).setCell ⟨g, off + m * 4, none⟩ (.int .i64 (fld es2 j 0))).setCell ⟨g, off + m * 4 + 1, none⟩ (.int .i64 (fld es2 j 1))).setCell ⟨g, off + m * 4 + 2, none⟩ (.int .i64 (fld es2 j 2))).cell? ⟨g, off + m * 4 + 3, none⟩ = some (.int .i64 (fld es2 m 3)) := (World.cell?_setCells_out g [.int .i64 (fld es2 j 0), .int .i64 (fld es2 j 1), .int .i64 (fld es2 j 2)] (off + m * 4) _ ⟨g, off + m * 4 + 3, none⟩ (fun _ _ => .inr (by simp only [List.length_cons, List.length_nil]; omega))).trans ((World.cell?_setCells_out g [.int .i64 (fld es2 m 0), .int .i64 (fld es2 m 1), .int .i64 (fld es2 m 2), .int .i64 (fld es2 m 3)] (off + j * 4) wq ⟨g, off + m * 4 + 3, none⟩ (fun _ _ => .inl (by have := HMM.out; simp only []; omega))).trans f3)
      have hgq : g < wq.heap.size := Nat.lt_of_lt_of_le hgl sq
      clear c0 d0 c1 d1 c2 d2 c3 d3 hfz hbel4 hbB k0
      have HO4 := Lib.hid (HO3.out.swpE HMM.out hjn2)
      have HG4 := below_setCells hB [.int .i64 (fld es2 j 0), .int .i64 (fld es2 j 1), .int .i64 (fld es2 j 2), .int .i64 (fld es2 j 3)] (off + m * 4) _ (below_setCells hB [.int .i64 (fld es2 m 0), .int .i64 (fld es2 m 1), .int .i64 (fld es2 m 2), .int .i64 (fld es2 m 3)] (off + j * 4) wq HG3.out)
      have E4 : (wq.setCells g (off + j * 4) [.int .i64 (fld es2 m 0), .int .i64 (fld es2 m 1), .int .i64 (fld es2 m 2), .int .i64 (fld es2 m 3)]).setCells g (off + m * 4) [.int .i64 (fld es2 j 0), .int .i64 (fld es2 j 1), .int .i64 (fld es2 j 2), .int .i64 (fld es2 j 3)] = ((((((((wq.setCell ⟨g, off + j * 4, none⟩ (.int .i64 (fld es2 m 0))).setCell ⟨g, off + j * 4 + 1, none⟩ (.int .i64 (fld es2 m 1))).setCell ⟨g, off + j * 4 + 2, none⟩ (.int .i64 (fld es2 m 2))).setCell ⟨g, off + j * 4 + 3, none⟩ (.int .i64 (fld es2 m 3))).setCell ⟨g, off + m * 4, none⟩ (.int .i64 (fld es2 j 0))).setCell ⟨g, off + m * 4 + 1, none⟩ (.int .i64 (fld es2 j 1))).setCell ⟨g, off + m * 4 + 2, none⟩ (.int .i64 (fld es2 j 2))).setCell ⟨g, off + m * 4 + 3, none⟩ (.int .i64 (fld es2 j 3))) := by simp only [World.setCells, Nat.add_assoc, Nat.reduceAdd]
      rw [E4] at HO4 HG4
      have HO5 := Lib.hid (Own.drew_ HO4.out)
      have HG5 := Lib.hid (Below.drew HG4)
      clear E4 HO4 HG4
      have HM4 : Hid (MidR (swp es2 j) a k m) := Lib.hid (by
        have h := HM2.out.step (by omega) hj (by rw [HO3.out.1]; omega) (by rw [show j - 1 = m by have := HMM.out; omega]; exact HL.out)
        rw [show j - 1 = m by have := HMM.out; omega] at h
        exact h)
      have HP4 : Hid (Stb (swp es2 j) es) := Lib.hid ((Stb.swp (by omega) (by rw [HO3.out.1]; exact hjn2) (by rw [show j - 1 = m by have := HMM.out; omega]; exact HL.out)).trans HP2.out)
      have HU4 : Hid (OutR (swp es2 j) es a b) := Lib.hid ((OutR.swp (by omega) (by omega)).trans HU2.out)
      go_wp2
      go_region
      go_wp2
      go_roundw
      case rel => exact ⟨m, swp es2 j, by have := HMM.out; omega, by have := HMM.out; omega, by go_num, by with_reducible exact HO5, HP4, HM4, HU4, by with_reducible exact HG5⟩
      case measure => have := HMM.out; simp [intOf]; omega
end Go.Proofs.YtjlmcppkafjniaaGreat

namespace Go.Proofs.YtjlmcppkafjniaaGreat
open Go.RowKit

/-- The elements from a to b. -/
def blk (es : List (Nat → Int)) (a b : Nat) : List (Nat → Int) := (es.drop a).take (b - a)
theorem blk_len {es : List (Nat → Int)} {a b : Nat} (hb : b ≤ es.length) : (blk es a b).length = b - a := by
  unfold blk
  rw [List.length_take, List.length_drop]
  omega
theorem blk_fld {es : List (Nat → Int)} {a b i : Nat} (h : i < b - a) : fld (blk es a b) i = fld es (a + i) := by
  unfold blk
  rw [fld_takeF h, fld_dropF]
theorem blk_mem {es : List (Nat → Int)} {a b : Nat} {x : Nat → Int} (hb : b ≤ es.length) (h : x ∈ blk es a b) : ∃ i, a ≤ i ∧ i < b ∧ fld es i = x := by
  obtain ⟨i, hi, rfl⟩ := List.mem_iff_getElem.1 h
  rw [blk_len hb] at hi
  refine ⟨a + i, by omega, by omega, ?_⟩
  rw [← fld_get (by rw [blk_len hb]; exact hi), blk_fld hi]
/-- The blocks from a to m and from m to b change places. -/
def rotL (es : List (Nat → Int)) (a m b : Nat) : List (Nat → Int) := es.take a ++ (blk es m b ++ (blk es a m ++ es.drop b))
theorem split_blk {es : List (Nat → Int)} {a m b : Nat} (h1 : a ≤ m) (h2 : m ≤ b) (h3 : b ≤ es.length) : es = es.take a ++ (blk es a m ++ (blk es m b ++ es.drop b)) := by
  refine ext_fld (by simp only [List.length_append, List.length_take, List.length_drop, blk_len h3, blk_len (Nat.le_trans h2 h3)]; omega) (fun i hi => ?_)
  have ht : (es.take a).length = a := by rw [List.length_take]; omega
  by_cases c1 : i < a
  · rw [fld_app_lt (by omega), fld_takeF c1]
  rw [fld_app_ge (by omega), ht]
  have hl1 := blk_len (es := es) (a := a) (b := m) (by omega)
  by_cases c2 : i < m
  · rw [fld_app_lt (by omega), blk_fld (by omega), show a + (i - a) = i by omega]
  rw [fld_app_ge (by omega), hl1]
  have hl2 := blk_len (es := es) (a := m) (b := b) h3
  by_cases c3 : i < b
  · rw [fld_app_lt (by omega), blk_fld (by omega), show m + (i - a - (m - a)) = i by omega]
  rw [fld_app_ge (by omega), hl2, fld_dropF, show b + (i - a - (m - a) - (b - m)) = i by omega]
theorem rotL_len {es : List (Nat → Int)} {a m b : Nat} (h1 : a ≤ m) (h2 : m ≤ b) (h3 : b ≤ es.length) : (rotL es a m b).length = es.length := by
  unfold rotL
  simp only [List.length_append, List.length_take, List.length_drop, blk_len h3, blk_len (Nat.le_trans h2 h3)]
  omega
theorem filter_blocks {p : (Nat → Int) → Bool} {P X Y S : List (Nat → Int)} (h : ∀ x, x ∈ X → ∀ y, y ∈ Y → ¬ (p x = true ∧ p y = true)) : (P ++ (Y ++ (X ++ S))).filter p = (P ++ (X ++ (Y ++ S))).filter p := by
  simp only [List.filter_append]
  by_cases hx : X.filter p = []
  · rw [hx]
    simp
  · have hy : Y.filter p = [] := by
      obtain ⟨x, hx⟩ := List.exists_mem_of_ne_nil _ hx
      rw [List.mem_filter] at hx
      rw [List.filter_eq_nil_iff]
      intro y hy hp
      exact h x hx.1 y hy ⟨hx.2, hp⟩
    rw [hy]
    simp
/-- All of the second block belong ahead of all of the first: stable. -/
theorem rotL_stb {es : List (Nat → Int)} {a m b : Nat} (h1 : a ≤ m) (h2 : m ≤ b) (h3 : b ≤ es.length) (h : ∀ i j, a ≤ i → i < m → m ≤ j → j < b → ltP (fld es j) (fld es i)) : Stb (rotL es a m b) es := fun u v => by
  unfold rotL
  rw [filter_blocks (p := keyB u v) (X := blk es a m) (Y := blk es m b) (fun x hx y hy => ?_), ← split_blk h1 h2 h3]
  obtain ⟨i, i1, i2, rfl⟩ := blk_mem (by omega) hx
  obtain ⟨j, j1, j2, rfl⟩ := blk_mem h3 hy
  have hl := h i j i1 i2 j1 j2
  rintro ⟨e1, e2⟩
  rw [keyB_iff] at e1 e2
  unfold ltP at hl
  omega
/-- The elements of a row whose blocks have changed places. -/
theorem rotL_lo {es : List (Nat → Int)} {a m b i : Nat} (h1 : a ≤ m) (h2 : m ≤ b) (h3 : b ≤ es.length) (hi : i < a) : fld (rotL es a m b) i = fld es i := by
  unfold rotL
  rw [fld_app_lt (by rw [List.length_take]; omega), fld_takeF hi]
theorem rotL_fst {es : List (Nat → Int)} {a m b i : Nat} (h1 : a ≤ m) (h2 : m ≤ b) (h3 : b ≤ es.length) (hi : i < b - m) : fld (rotL es a m b) (a + i) = fld es (m + i) := by
  unfold rotL
  have ht : (es.take a).length = a := by rw [List.length_take]; omega
  rw [fld_app_ge (by omega), ht, fld_app_lt (by rw [blk_len h3]; omega), show a + i - a = i by omega, blk_fld hi]
theorem rotL_snd {es : List (Nat → Int)} {a m b i : Nat} (h1 : a ≤ m) (h2 : m ≤ b) (h3 : b ≤ es.length) (hi : i < m - a) : fld (rotL es a m b) (a + (b - m) + i) = fld es (a + i) := by
  unfold rotL
  have ht : (es.take a).length = a := by rw [List.length_take]; omega
  rw [fld_app_ge (by omega), ht, fld_app_ge (by rw [blk_len h3]; omega), blk_len h3, fld_app_lt (by rw [blk_len (by omega)]; omega), show a + (b - m) + i - a - (b - m) = i by omega, blk_fld hi]
theorem rotL_hi {es : List (Nat → Int)} {a m b i : Nat} (h1 : a ≤ m) (h2 : m ≤ b) (h3 : b ≤ es.length) (hi : b ≤ i) : fld (rotL es a m b) i = fld es i := by
  unfold rotL
  have ht : (es.take a).length = a := by rw [List.length_take]; omega
  rw [fld_app_ge (by omega), ht, fld_app_ge (by rw [blk_len h3]; omega), blk_len h3, fld_app_ge (by rw [blk_len (by omega)]; omega), blk_len (by omega), fld_dropF, show b + (i - a - (b - m) - (m - a)) = i by omega]
end Go.Proofs.YtjlmcppkafjniaaGreat

namespace Go.Proofs.YtjlmcppkafjniaaGreat
open Go.RowKit

def swx (es : List (Nat → Int)) (m j : Nat) : List (Nat → Int) := (es.set m (fld es j)).set j (fld es m)
theorem swx_len (es : List (Nat → Int)) (m j : Nat) : (swx es m j).length = es.length := by simp [swx]
theorem swx_j {es : List (Nat → Int)} {m j : Nat} (h : j < es.length) : fld (swx es m j) j = fld es m := by
  unfold swx
  rw [fld_set_same (by simpa using h)]
theorem swx_m {es : List (Nat → Int)} {m j : Nat} (h : m < es.length) (hne : m ≠ j) : fld (swx es m j) m = fld es j := by
  unfold swx
  rw [fld_set_other hne, fld_set_same h]
theorem swx_other {es : List (Nat → Int)} {m j k : Nat} (h1 : k ≠ m) (h2 : k ≠ j) : fld (swx es m j) k = fld es k := by
  unfold swx
  rw [fld_set_other h2, fld_set_other h1]
/-- k elements from a on and k from b on are exchanged. -/
def SwR (es' es : List (Nat → Int)) (a b k : Nat) : Prop := es'.length = es.length ∧ (∀ q, q < k → fld es' (a + q) = fld es (b + q)) ∧ (∀ q, q < k → fld es' (b + q) = fld es (a + q)) ∧ ∀ q, (q < a ∨ a + k ≤ q) → (q < b ∨ b + k ≤ q) → fld es' q = fld es q
theorem SwR.zero (es : List (Nat → Int)) (a b : Nat) : SwR es es a b 0 := ⟨rfl, fun _ h => absurd h (by omega), fun _ h => absurd h (by omega), fun _ _ _ => rfl⟩
theorem SwR.step {es' es : List (Nat → Int)} {a b k : Nat} (h : SwR es' es a b k) (hab : a + k < b) (hb : b + k < es.length) : SwR (swx es' (a + k) (b + k)) es a b (k + 1) := by
  obtain ⟨hl, h1, h2, h3⟩ := h
  refine ⟨by rw [swx_len, hl], fun q hq => ?_, fun q hq => ?_, fun q ha hb' => ?_⟩
  · by_cases e : q = k
    · subst e
      rw [swx_m (by omega) (by omega), h3 (b + q) (by omega) (by omega)]
    · rw [swx_other (by omega) (by omega), h1 q (by omega)]
  · by_cases e : q = k
    · subst e
      rw [swx_j (by omega), h3 (a + q) (by omega) (by omega)]
    · rw [swx_other (by omega) (by omega), h2 q (by omega)]
  · rw [swx_other (by omega) (by omega), h3 q (by omega) (by omega)]
end Go.Proofs.YtjlmcppkafjniaaGreat
