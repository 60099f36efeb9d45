/-
  The contract of the reference's PinsOf. No conditions beyond those stated.
-/
import Derived.Test.YtjlmcppkafjniaaGreatSo
import Derived.Test.YtjlmcppkafjniaaGreatBw
import Derived.Test.YtjlmcppkafjniaaGreatEs
import Derived.Great.Walk
import Derived.Test.YtjlmcppkafjniaaGreatSl
import Derived.Test.YtjlmcppkafjniaaGreatPo
import Derived.Test.YtjlmcppkafjniaaGreatKo
import Derived.Test.YtjlmcppkafjniaaGreatWs
namespace Go.Proofs.YtjlmcppkafjniaaGreat
open Go.RowKit

theorem Own.swp {B n g off j m : Nat} {w : World} {es : List (Nat → Int)} (h : Own B w 2 (some ⟨g, off, none⟩) n es) (hm : j = m + 1) (hj : j < n) :
    Own B ((w.setCells g (off + j * 2) [.int .i64 (fld es m 0), .int .i64 (fld es m 1)]).setCells g (off + m * 2) [.int .i64 (fld es j 0), .int .i64 (fld es j 1)]) 2 (some ⟨g, off, none⟩) n (swp es j) := by
  obtain ⟨hl, h2⟩ := h
  obtain ⟨b, o, he, hlt, hB, hf, hc⟩ := h2.resolve_left (by omega)
  injection he with he
  injection he with hb ho
  subst hb ho
  refine ⟨by rw [swp_len]; exact hl, .inr ⟨g, off, rfl, by rw [size_setCells, size_setCells]; exact hlt, hB, fun o => ?_, fun i hi q hq => ?_⟩⟩
  · rw [World.frozen?_setCells, World.frozen?_setCells]
    exact hf o
  have hsome : ∀ i q, i < n → q < 2 → (w.cell? ⟨g, off + i * 2 + q, none⟩).isSome = true := fun i q hi hq => by rw [hc i hi q hq]; rfl
  have hs1 : ∀ q, q < 2 → (w.cell? ⟨g, off + j * 2 + q, none⟩).isSome = true := fun q hq => hsome j q hj hq
  have hin1 := World.cell?_setCells_in g [.int .i64 (fld es m 0), .int .i64 (fld es m 1)] (off + j * 2) w hs1
  have hin2 := World.cell?_setCells_in g [.int .i64 (fld es j 0), .int .i64 (fld es j 1)] (off + m * 2) (w.setCells g (off + j * 2) [.int .i64 (fld es m 0), .int .i64 (fld es m 1)]) (fun q hq => World.isSome_setCells g _ _ _ ⟨g, _, none⟩ (hsome m q (by omega) hq))
  have hmj : m = j - 1 := by omega
  rcases Nat.lt_trichotomy i m with h3 | h3 | h3
  · rw [World.cell?_setCells_out g _ _ _ ⟨g, off + i * 2 + q, none⟩ (fun _ _ => .inl (by simp only []; omega)), World.cell?_setCells_out g _ _ _ ⟨g, off + i * 2 + q, none⟩ (fun _ _ => .inl (by simp only []; omega)), swp_other (by omega) (by omega)]
    exact hc i hi q hq
  · subst h3
    rw [hin2 q hq]
    subst hmj
    rw [swp_pred (by omega)]
    match q, hq with
    | 0, _ => rfl
    | 1, _ => rfl
  · rw [World.cell?_setCells_out g _ _ _ ⟨g, off + i * 2 + q, none⟩ (fun _ _ => .inr (by simp only [List.length_cons, List.length_nil]; omega))]
    by_cases h4 : i = j
    · subst h4
      rw [hin1 q hq, swp_at (by omega) (by omega), ← hmj]
      match q, hq with
      | 0, _ => rfl
      | 1, _ => rfl
    · rw [World.cell?_setCells_out g _ _ _ ⟨g, off + i * 2 + q, none⟩ (fun _ _ => .inr (by simp only [List.length_cons, List.length_nil]; omega)), swp_other h4 (by omega)]
      exact hc i hi q hq

set_option maxRecDepth 100000 in
set_option maxHeartbeats 8000000 in
theorem insSort_any (B : Nat) (A : Option Addr) (cap n : Nat) (es : List (Nat → Int)) (w : World) (hn : n ≤ 4194304) (hnc : n ≤ cap) (hcm : cap ≤ 9223372036854775807) (hBw : B ≤ w.heap.size) (h : Own B w 2 A n es) :
    Calls Tryz.prog 124 #[.slice A n cap, .int .i64 0, .int .i64 n, .func (.func 81) #[] #[]] w fun y w' => y = .returned (.tuple #[]) ∧ ∃ es', Own B w' 2 A n es' ∧ es'.Perm es ∧ Srt es' n ∧ Below B w w' := by
  have H := Lib.hid h
  clear h
  go_enter Tryz.func124, Tryz.ntmps124
  go_wp2
  go_loopw [8] (fun i wr => ∃ (k : Nat) (es1 : List (Nat → Int)), 1 ≤ k ∧ i = .int .i64 k ∧ (k ≤ n ∨ k = 1) ∧ Hid (Own B wr 2 A n es1) ∧ Hid (es1.Perm es) ∧ Hid (Srt es1 k) ∧ Hid (Below B w wr)) (fun i _ => n - (intOf i).toNat)
  case atStart => exact ⟨1, es, by omega, rfl, .inr rfl, H, Lib.hid (List.Perm.refl _), Lib.hid (fun q hq => absurd hq (by omega)), Lib.hid (Below.refl _ _)⟩
  case round =>
    obtain ⟨k, es1, hk1, rfl, hk, HO, HP, HS, HG⟩ := hrel
    by_cases hlt : k < n
    case neg =>
      have hki : ¬ (k : Int) < (n : Int) := by omega
      have HS2 : Hid (Srt es1 n) := Lib.hid fun q hq => HS.out q (by omega)
      go_wp2
      exact bodyPost_end (results_none rfl _ _ _) rfl ⟨rfl, es1, HO.out, HP.out, HS2.out, HG.out⟩
    have hki : (k : Int) < (n : Int) := by omega
    obtain ⟨g, off, rfl⟩ : ∃ g off, A = some ⟨g, off, none⟩ := by
      obtain ⟨b, o, he, _⟩ := HO.out.2.resolve_left (by omega)
      exact ⟨b, o, he⟩
    obtain ⟨w2, hw2⟩ : ∃ w2, w2 = wr := ⟨wr, rfl⟩
    subst hw2
    go_wp2
    go_loopw [9] (fun i wr => ∃ (j : Nat) (es2 : List (Nat → Int)), j ≤ k ∧ i = .int .i64 j ∧ Hid (Own B wr 2 (some ⟨g, off, none⟩) n es2) ∧ Hid (es2.Perm es) ∧ Hid (Mid es2 k j) ∧ Hid (Below B w wr)) (fun i _ => (intOf i).toNat)
    case atStart => exact ⟨k, es1, Nat.le_refl _, rfl, HO, HP, Lib.hid (Mid.start HS.out), HG⟩
    case round =>
      obtain ⟨j, es2, hj, rfl, HO2, HP2, HM2, HG2⟩ := hrel
      have hBr : B ≤ wr.heap.size := Nat.le_trans hBw HG2.out.size
      have hkw : IntKind.i64.wrap ((k : Int) + 1) = ((k + 1 : Nat) : Int) := by rw [IntKind.wrap_i64]; omega
      by_cases hj0 : j = 0
      · subst hj0
        have HS3 : Hid (Srt es2 (k + 1)) := Lib.hid (HM2.out.stop (.inl rfl))
        go_wp2
        refine wp_region_bw (by kernel_rfl) (by kernel_rfl) (fun W hW => ?_)
        have hbW : Below wr.heap.size wr W := by rw [hW]; (repeat (first | with_reducible exact Below.refl _ _ | with_reducible refine Below.drew ?_ | with_reducible refine below_drewN ?_ _ | (with_reducible refine bel_alloc ?_ ?_ _; (first | omega | (simp; omega) | simp)) | (with_reducible refine bel_set ?_ ?_ _; (first | omega | (simp; omega) | simp)) | (with_reducible refine bel_tr (by assumption) ?_ ?_; (first | omega | (simp; omega) | simp))))
        have HW := Lib.hid hW
        clear hW
        repeat (go_big_quiet_step (fail))
        refine wpQuiet_nil ?_
        intro wq hq
        have hbq : Below W.heap.size W wq := by (obtain ⟨p, hp⟩ := hq; rw [hp]; exact p.below)
        clear hq
        have hbel4 : Below wr.heap.size wr wq := hbW.trans (hbq.mono hbW.size)
        have sq := hbel4.size
        clear hbW hbq HW 
        have hbB := hbel4.mono hBr
        go_wp2
        go_roundw
        case rel => exact ⟨k + 1, es2, by omega, by go_num, .inl (by omega), Lib.hid (HO2.out.below hbel4), HP2, HS3, Lib.hid (HG2.out.trans hbB)⟩
        case measure => simp [intOf]; omega
      obtain ⟨m, hm⟩ : ∃ m, j = m + 1 := ⟨j - 1, by omega⟩
      have hjm : IntKind.i64.wrap ((j : Int) - 1) = (m : Int) := by rw [IntKind.wrap_i64]; omega
      have hm0 : (0 : Int) ≤ (m : Int) := by omega
      have hj1 : (0 : Int) ≤ (j : Int) := by omega
      have hmn : (m : Int) < (n : Int) := by omega
      have hjn : (j : Int) < (n : Int) := by omega
      have hmn2 : m < n := by omega
      have hjn2 : j < n := by omega
      have hjp : (0 : Int) < (j : Int) := by omega
      have hjd : decide ((0 : Int) < (j : Int)) = true := by simpa using hjp
      have hjd2 : decide (0 < j) = true := by simpa using hjp
      obtain ⟨hgl, hB, hfz, hc⟩ : g < wr.heap.size ∧ B ≤ g ∧ (∀ o, wr.frozen? ⟨g, o, none⟩ = false) ∧ Hid (∀ i, i < n → ∀ q, q < 2 → wr.cell? ⟨g, off + i * 2 + q, none⟩ = some (.int .i64 (fld es2 i q))) := by
        obtain ⟨b, o, he, h1, h2, h3, h4⟩ := HO2.out.2.resolve_left (by omega)
        injection he with he
        injection he with hb ho
        subst hb ho
        exact ⟨h1, h2, h3, h4⟩
      have c0 : wr.cell? ⟨g, off + j * 2, none⟩ = some (.int .i64 (fld es2 j 0)) := hc.out j (by omega) 0 (by omega)
      have c1 : wr.cell? ⟨g, off + j * 2 + 1, none⟩ = some (.int .i64 (fld es2 j 1)) := hc.out j (by omega) 1 (by omega)
      have d0 : wr.cell? ⟨g, off + m * 2, none⟩ = some (.int .i64 (fld es2 m 0)) := hc.out m (by omega) 0 (by omega)
      have d1 : wr.cell? ⟨g, off + m * 2 + 1, none⟩ = some (.int .i64 (fld es2 m 1)) := hc.out m (by omega) 1 (by omega)
      have HMM := Lib.hid hm
      clear hc hm
      by_cases hL : ltP (fld es2 j) (fld es2 m)
      case neg =>
        have HS3 : Hid (Srt es2 (k + 1)) := Lib.hid (HM2.out.stop (.inr (by rw [show j - 1 = m by have := HMM.out; omega]; exact hL)))
        have hcp : ¬ cmpP (fld es2 j) (fld es2 m) < 0 := fun h => hL (cmpP_neg.1 h)
        have hcd : decide (cmpP (fld es2 j) (fld es2 m) < 0) = false := by simpa using hcp
        go_wp2
        refine wp_region_bw (by kernel_rfl) (by kernel_rfl) (fun W hW => ?_)
        have q0 : ∀ pq : BW W, pq.w.cell? ⟨g, off + j * 2, none⟩ = some (.int .i64 (fld es2 j 0)) := fun pq => pq.cell (by rw [hW]; (first | omega | (simp; omega) | simp)) (by rw [hW]; (first | (go_keep; done) | (go_simp; done)))
        have q1 : ∀ pq : BW W, pq.w.cell? ⟨g, off + j * 2 + 1, none⟩ = some (.int .i64 (fld es2 j 1)) := fun pq => pq.cell (by rw [hW]; (first | omega | (simp; omega) | simp)) (by rw [hW]; (first | (go_keep; done) | (go_simp; done)))
        have q2 : ∀ pq : BW W, pq.w.cell? ⟨g, off + m * 2, none⟩ = some (.int .i64 (fld es2 m 0)) := fun pq => pq.cell (by rw [hW]; (first | omega | (simp; omega) | simp)) (by rw [hW]; (first | (go_keep; done) | (go_simp; done)))
        have q3 : ∀ pq : BW W, pq.w.cell? ⟨g, off + m * 2 + 1, none⟩ = some (.int .i64 (fld es2 m 1)) := fun pq => pq.cell (by rw [hW]; (first | omega | (simp; omega) | simp)) (by rw [hW]; (first | (go_keep; done) | (go_simp; done)))
        have hbW : Below wr.heap.size wr W := by rw [hW]; (repeat (first | with_reducible exact Below.refl _ _ | with_reducible refine Below.drew ?_ | with_reducible refine below_drewN ?_ _ | (with_reducible refine bel_alloc ?_ ?_ _; (first | omega | (simp; omega) | simp)) | (with_reducible refine bel_set ?_ ?_ _; (first | omega | (simp; omega) | simp)) | (with_reducible refine bel_tr (by assumption) ?_ ?_; (first | omega | (simp; omega) | simp))))
        have HW := Lib.hid hW
        clear hW
        repeat (go_big_quiet_step ((go_at_call 81; exact bw_of (comparePins_any (fld es2 j) (fld es2 m) _))))
        refine wpQuiet_nil ?_
        intro wq hq
        have hbq : Below W.heap.size W wq := by (obtain ⟨p, hp⟩ := hq; rw [hp]; exact p.below)
        clear hq
        have hbel4 : Below wr.heap.size wr wq := hbW.trans (hbq.mono hbW.size)
        have sq := hbel4.size
        clear hbW hbq HW q0 q1 q2 q3
        have hbB := hbel4.mono hBr
        go_wp2
        go_roundw
        case rel => exact ⟨k + 1, es2, by omega, by go_num, .inl (by omega), Lib.hid (HO2.out.below hbel4), HP2, HS3, Lib.hid (HG2.out.trans hbB)⟩
        case measure => simp [intOf]; omega
      have hcp : cmpP (fld es2 j) (fld es2 m) < 0 := cmpP_neg.2 hL
      have hcd : decide (cmpP (fld es2 j) (fld es2 m) < 0) = true := by simpa using hcp
      have HL := Lib.hid hL
      clear hL
      go_wp2
      refine wp_region_bw (by kernel_rfl) (by kernel_rfl) (fun W hW => ?_)
      have q0 : ∀ pq : BW W, pq.w.cell? ⟨g, off + j * 2, none⟩ = some (.int .i64 (fld es2 j 0)) := fun pq => pq.cell (by rw [hW]; (first | omega | (simp; omega) | simp)) (by rw [hW]; (first | (go_keep; done) | (go_simp; done)))
      have q1 : ∀ pq : BW W, pq.w.cell? ⟨g, off + j * 2 + 1, none⟩ = some (.int .i64 (fld es2 j 1)) := fun pq => pq.cell (by rw [hW]; (first | omega | (simp; omega) | simp)) (by rw [hW]; (first | (go_keep; done) | (go_simp; done)))
      have q2 : ∀ pq : BW W, pq.w.cell? ⟨g, off + m * 2, none⟩ = some (.int .i64 (fld es2 m 0)) := fun pq => pq.cell (by rw [hW]; (first | omega | (simp; omega) | simp)) (by rw [hW]; (first | (go_keep; done) | (go_simp; done)))
      have q3 : ∀ pq : BW W, pq.w.cell? ⟨g, off + m * 2 + 1, none⟩ = some (.int .i64 (fld es2 m 1)) := fun pq => pq.cell (by rw [hW]; (first | omega | (simp; omega) | simp)) (by rw [hW]; (first | (go_keep; done) | (go_simp; done)))
      have hbW : Below wr.heap.size wr W := by rw [hW]; (repeat (first | with_reducible exact Below.refl _ _ | with_reducible refine Below.drew ?_ | with_reducible refine below_drewN ?_ _ | (with_reducible refine bel_alloc ?_ ?_ _; (first | omega | (simp; omega) | simp)) | (with_reducible refine bel_set ?_ ?_ _; (first | omega | (simp; omega) | simp)) | (with_reducible refine bel_tr (by assumption) ?_ ?_; (first | omega | (simp; omega) | simp))))
      have HW := Lib.hid hW
      clear hW
      repeat (go_big_quiet_step ((go_at_call 81; exact bw_of (comparePins_any (fld es2 j) (fld es2 m) _))))
      refine wpQuiet_nil ?_
      intro wq hq
      have hbq : Below W.heap.size W wq := by (obtain ⟨p, hp⟩ := hq; rw [hp]; exact p.below)
      clear hq
      have hbel4 : Below wr.heap.size wr wq := hbW.trans (hbq.mono hbW.size)
      have sq := hbel4.size
      clear hbW hbq HW q0 q1 q2 q3
      have hbB := hbel4.mono hBr
      have HO3 : Hid (Own B wq 2 (some ⟨g, off, none⟩) n es2) := Lib.hid (HO2.out.below hbel4)
      have HG3 : Hid (Below B w wq) := Lib.hid (HG2.out.trans hbB)
      have e0 : wq.cell? ⟨g, off + j * 2, none⟩ = some (.int .i64 (fld es2 j 0)) := (hbel4.cell (p := ⟨g, off + j * 2, none⟩) hgl).trans c0
      have e1 : wq.cell? ⟨g, off + j * 2 + 1, none⟩ = some (.int .i64 (fld es2 j 1)) := (hbel4.cell (p := ⟨g, off + j * 2 + 1, none⟩) hgl).trans c1
      have f0 : wq.cell? ⟨g, off + m * 2, none⟩ = some (.int .i64 (fld es2 m 0)) := (hbel4.cell (p := ⟨g, off + m * 2, none⟩) hgl).trans d0
      have f1 : wq.cell? ⟨g, off + m * 2 + 1, none⟩ = some (.int .i64 (fld es2 m 1)) := (hbel4.cell (p := ⟨g, off + m * 2 + 1, none⟩) hgl).trans d1
      have k0 : ∀ o, wq.frozen? ⟨g, o, none⟩ = false := fun o => (hbel4.frozen (p := ⟨g, o, none⟩) hgl).trans (hfz o)
      have k1 := k0 (off + j * 2)
      have k2 := k0 (off + m * 2)
      have k3 := k0 (off + j * 2 + 1)
      have k4 := k0 (off + m * 2 + 1)
      have f2 : ((wq.setCell ⟨g, off + j * 2, none⟩ (.int .i64 (fld es2 m 0))).setCell ⟨g, off + j * 2 + 1, none⟩ (.int .i64 (fld es2 m 1))).cell? ⟨g, off + m * 2, none⟩ = some (.int .i64 (fld es2 m 0)) :=
        (World.cell?_setCells_out g [.int .i64 (fld es2 m 0), .int .i64 (fld es2 m 1)] (off + j * 2) wq ⟨g, off + m * 2, none⟩ (fun _ _ => .inl (by have := HMM.out; simp only []; omega))).trans f0
      have f3 : (((wq.setCell ⟨g, off + j * 2, none⟩ (.int .i64 (fld es2 m 0))).setCell ⟨g, off + j * 2 + 1, none⟩ (.int .i64 (fld es2 m 1))).setCell ⟨g, off + m * 2, none⟩ (.int .i64 (fld es2 j 0))).cell? ⟨g, off + m * 2 + 1, none⟩ = some (.int .i64 (fld es2 m 1)) :=
        (World.cell?_setCells_out g [.int .i64 (fld es2 j 0)] (off + m * 2) _ ⟨g, off + m * 2 + 1, none⟩ (fun _ _ => .inr (by simp only [List.length_cons, List.length_nil]; omega))).trans ((World.cell?_setCells_out g [.int .i64 (fld es2 m 0), .int .i64 (fld es2 m 1)] (off + j * 2) wq ⟨g, off + m * 2 + 1, none⟩ (fun _ _ => .inl (by have := HMM.out; simp only []; omega))).trans f1)
      have hgq : g < wq.heap.size := Nat.lt_of_lt_of_le hgl sq
      clear c0 c1 d0 d1 hfz hbel4 hbB k0
      have HO4 := Lib.hid (HO3.out.swp HMM.out hjn2)
      have HG4 := below_setCells hB [.int .i64 (fld es2 j 0), .int .i64 (fld es2 j 1)] (off + m * 2) _ (below_setCells hB [.int .i64 (fld es2 m 0), .int .i64 (fld es2 m 1)] (off + j * 2) wq HG3.out)
      have HM4 : Hid (Mid (swp es2 j) k m) := Lib.hid (by
        have h := HM2.out.step (by omega) hj (by rw [HO3.out.1]; exact hlt) (by rw [show j - 1 = m by have := HMM.out; omega]; exact HL.out)
        rw [show j - 1 = m by have := HMM.out; omega] at h
        exact h)
      have HP4 : Hid ((swp es2 j).Perm es) := Lib.hid ((swp_perm (by omega) (by rw [HO3.out.1]; exact hjn2)).trans HP2.out)
      go_wp2
      go_region
      go_wp2
      go_roundw
      case rel => exact ⟨m, swp es2 j, by have := HMM.out; omega, by go_num, HO4, HP4, HM4, Lib.hid (Below.drew HG4)⟩
      case measure => have := HMM.out; simp [intOf]; omega
end Go.Proofs.YtjlmcppkafjniaaGreat

namespace Go.Proofs.YtjlmcppkafjniaaGreat
open Go.RowKit

set_option maxRecDepth 100000 in
set_option maxHeartbeats 8000000 in
theorem len12_any (w : World) : ∀ n : Nat, n ≤ 12 → Calls Tryz.prog 109 #[.int .u64 ((n : Nat) : Int)] w fun y w' => w = w' ∧ ∃ z, y = .returned (.int .i64 z)
  | 0, _ => by
    go_enter Tryz.func109, Tryz.ntmps109
    go_wp2
    go_ret
    exact ⟨rfl, ⟨_, rfl⟩⟩
  | 1, _ => by
    go_enter Tryz.func109, Tryz.ntmps109
    go_wp2
    go_ret
    exact ⟨rfl, ⟨_, rfl⟩⟩
  | 2, _ => by
    go_enter Tryz.func109, Tryz.ntmps109
    go_wp2
    go_ret
    exact ⟨rfl, ⟨_, rfl⟩⟩
  | 3, _ => by
    go_enter Tryz.func109, Tryz.ntmps109
    go_wp2
    go_ret
    exact ⟨rfl, ⟨_, rfl⟩⟩
  | 4, _ => by
    go_enter Tryz.func109, Tryz.ntmps109
    go_wp2
    go_ret
    exact ⟨rfl, ⟨_, rfl⟩⟩
  | 5, _ => by
    go_enter Tryz.func109, Tryz.ntmps109
    go_wp2
    go_ret
    exact ⟨rfl, ⟨_, rfl⟩⟩
  | 6, _ => by
    go_enter Tryz.func109, Tryz.ntmps109
    go_wp2
    go_ret
    exact ⟨rfl, ⟨_, rfl⟩⟩
  | 7, _ => by
    go_enter Tryz.func109, Tryz.ntmps109
    go_wp2
    go_ret
    exact ⟨rfl, ⟨_, rfl⟩⟩
  | 8, _ => by
    go_enter Tryz.func109, Tryz.ntmps109
    go_wp2
    go_ret
    exact ⟨rfl, ⟨_, rfl⟩⟩
  | 9, _ => by
    go_enter Tryz.func109, Tryz.ntmps109
    go_wp2
    go_ret
    exact ⟨rfl, ⟨_, rfl⟩⟩
  | 10, _ => by
    go_enter Tryz.func109, Tryz.ntmps109
    go_wp2
    go_ret
    exact ⟨rfl, ⟨_, rfl⟩⟩
  | 11, _ => by
    go_enter Tryz.func109, Tryz.ntmps109
    go_wp2
    go_ret
    exact ⟨rfl, ⟨_, rfl⟩⟩
  | 12, _ => by
    go_enter Tryz.func109, Tryz.ntmps109
    go_wp2
    go_ret
    exact ⟨rfl, ⟨_, rfl⟩⟩
  | n + 13, h => absurd h (by omega)
end Go.Proofs.YtjlmcppkafjniaaGreat

namespace Go.Proofs.YtjlmcppkafjniaaGreat
open Go.RowKit

set_option maxRecDepth 100000 in
set_option maxHeartbeats 8000000 in
theorem pdq_any (B : Nat) (A : Option Addr) (cap n : Nat) (z : Int) (es : List (Nat → Int)) (w : World) (hn : n ≤ 12) (hnc : n ≤ cap) (hcm : cap ≤ 9223372036854775807) (hBw : B ≤ w.heap.size) (h : Own B w 2 A n es) :
    Calls Tryz.prog 108 #[.slice A n cap, .int .i64 0, .int .i64 n, .int .i64 z, .func (.func 81) #[] #[]] w fun y w' => y = .returned (.tuple #[]) ∧ ∃ es', Own B w' 2 A n es' ∧ es'.Perm es ∧ Srt es' n ∧ Below B w w' := by
  have H := Lib.hid h
  clear h
  have hni : (n : Int) ≤ 12 := by omega
  have hn0 : IntKind.i64.wrap ((n : Int) - 0) = (n : Int) := by rw [IntKind.wrap_i64]; omega
  go_enter Tryz.func108, Tryz.ntmps108
  go_wp2
  go_loopw [1, 2, 3] (fun s1 s2 s3 wr => s1 = .int .i64 0 ∧ s2 = .int .i64 n ∧ s3 = .int .i64 z ∧ w = wr) (fun _ _ _ _ => 0)
  case atStart => exact ⟨rfl, rfl, rfl, rfl⟩
  case round =>
    obtain ⟨rfl, rfl, rfl, rfl⟩ := hrel
    go_wp2_with (go_at_call 124; refine (insSort_any B A cap n es _ (by omega) hnc hcm hBw H.out).mono ?_; rintro y w3 ⟨rfl, es3, o3, p3, s3, b3⟩)
    exact bodyPost_ret (results_none rfl _ _ _) rfl ⟨rfl, es3, o3, p3, s3, b3⟩

set_option maxRecDepth 100000 in
set_option maxHeartbeats 8000000 in
theorem sortPins_any (B : Nat) (A : Option Addr) (cap n : Nat) (es : List (Nat → Int)) (w : World) (hn : n ≤ 12) (hnc : n ≤ cap) (hcm : cap ≤ 9223372036854775807) (hBw : B ≤ w.heap.size) (h : Own B w 2 A n es) :
    Calls Tryz.prog 85 #[.slice A n cap, .func (.func 81) #[] #[]] w fun y w' => y = .returned (.tuple #[]) ∧ ∃ es', Own B w' 2 A n es' ∧ es'.Perm es ∧ Srt es' n ∧ Below B w w' := by
  have H := Lib.hid h
  clear h
  have hnu : IntKind.u64.wrap (n : Int) = (n : Int) := by rw [IntKind.wrap_u64]; omega
  go_enter Tryz.func85, Tryz.ntmps85
  go_wp2_with (first
    | (go_at_call 109; refine (len12_any _ n hn).mono ?_; rintro y w3 ⟨rfl, z, rfl⟩)
    | (go_at_call 108; refine (pdq_any B A cap n z es _ hn hnc hcm hBw H.out).mono ?_; rintro y w3 ⟨rfl, es3, o3, p3, s3, b3⟩))
  exact bodyPost_end (results_none rfl _ _ _) rfl ⟨rfl, es3, o3, p3, s3, b3⟩
end Go.Proofs.YtjlmcppkafjniaaGreat

namespace Go.Proofs.YtjlmcppkafjniaaGreat
open Go.RowKit

set_option maxRecDepth 100000 in
set_option maxHeartbeats 8000000 in
theorem iPinsOf_any (A : Option Addr) (N c : Nat) (S : Nat → Sp) (w : World) (hN : N ≤ 4194304) (hT : tot S N ≤ 4194304) (h : RdW w A N S) :
    Calls Tryz.prog 40 #[.agg #[.slice A N c]] w fun y w' => ∃ (A' : Option Addr) (n' c' : Nat), y = .returned (.slice A' n' c') ∧ Own w.heap.size w' 2 A' n' (pinsL N S) ∧ (n' ≤ c' ∧ c' ≤ 9223372036854775807) ∧ Below w.heap.size w w' := by
  obtain ⟨i0, hi0, hz0, hz1, hz2⟩ := info_parts copyPin_info
  have H := Lib.hid h
  have HLen := Lib.hid h.lens
  clear h
  by_cases hW : WOK N S
  case neg =>
    go_enter Tryz.func40, Tryz.ntmps40
    go_wp2_with fail
    refine (tn (iWheelOk_any A N c S _ hN hT (H.out.below (by (repeat (first | with_reducible exact Below.refl _ _ | with_reducible refine Below.drew ?_ | with_reducible refine below_drewN ?_ _ | (with_reducible refine bel_alloc ?_ ?_ _; (first | omega | (simp; omega) | simp)) | (with_reducible refine bel_set ?_ ?_ _; (first | omega | (simp; omega) | simp)) | (with_reducible refine bel_tr (by assumption) ?_ ?_; (first | omega | (simp; omega) | simp))))))) hW).mono ?_
    rintro y w1 ⟨rfl, hb1⟩
    have bc1 := bcell hb1; obtain ⟨hc1, hf1⟩ := bc1; have ks1 := hb1.size; (try simp at ks1); have kc10 : ∀ o, w1.cell? ⟨w.heap.size, o, none⟩ = _ := (fun o => hb1.cell (p := ⟨w.heap.size, o, none⟩) (by (first | omega | (simp; omega) | simp))); have kf10 : ∀ o, w1.frozen? ⟨w.heap.size, o, none⟩ = _ := (fun o => hb1.frozen (p := ⟨w.heap.size, o, none⟩) (by (first | omega | (simp; omega) | simp))); have kz10 : w.heap.size < w1.heap.size := (by have hh := hb1.size; (try simp at hh); omega)
    go_wp2
    go_ret
    exact ⟨none, 0, 0, rfl, by rw [pinsL_no hW]; exact ⟨rfl, .inl rfl⟩, ⟨Nat.le_refl _, by omega⟩, by (repeat (first | with_reducible exact Below.refl _ _ | with_reducible refine Below.drew ?_ | with_reducible refine below_drewN ?_ _ | (with_reducible refine bel_alloc ?_ ?_ _; (first | omega | (simp; omega) | simp)) | (with_reducible refine bel_set ?_ ?_ _; (first | omega | (simp; omega) | simp)) | (with_reducible refine bel_tr (by assumption) ?_ ?_; (first | omega | (simp; omega) | simp))))⟩
  go_enter Tryz.func40, Tryz.ntmps40
  go_wp2_with fail
  refine (ty (iWheelOk_any A N c S _ hN hT (H.out.below (by (repeat (first | with_reducible exact Below.refl _ _ | with_reducible refine Below.drew ?_ | with_reducible refine below_drewN ?_ _ | (with_reducible refine bel_alloc ?_ ?_ _; (first | omega | (simp; omega) | simp)) | (with_reducible refine bel_set ?_ ?_ _; (first | omega | (simp; omega) | simp)) | (with_reducible refine bel_tr (by assumption) ?_ ?_; (first | omega | (simp; omega) | simp))))))) hW).mono ?_
  rintro y w1 ⟨rfl, hb1⟩
  have bc1 := bcell hb1; obtain ⟨hc1, hf1⟩ := bc1; have ks1 := hb1.size; (try simp at ks1); have kc10 : ∀ o, w1.cell? ⟨w.heap.size, o, none⟩ = _ := (fun o => hb1.cell (p := ⟨w.heap.size, o, none⟩) (by (first | omega | (simp; omega) | simp))); have kf10 : ∀ o, w1.frozen? ⟨w.heap.size, o, none⟩ = _ := (fun o => hb1.frozen (p := ⟨w.heap.size, o, none⟩) (by (first | omega | (simp; omega) | simp))); have kz10 : w.heap.size < w1.heap.size := (by have hh := hb1.size; (try simp at hh); omega)
  have B1 : Hid (Below w.heap.size w w1) := Lib.hid (by (repeat (first | with_reducible exact Below.refl _ _ | with_reducible refine Below.drew ?_ | with_reducible refine below_drewN ?_ _ | (with_reducible refine bel_alloc ?_ ?_ _; (first | omega | (simp; omega) | simp)) | (with_reducible refine bel_set ?_ ?_ _; (first | omega | (simp; omega) | simp)) | (with_reducible refine bel_tr (by assumption) ?_ ?_; (first | omega | (simp; omega) | simp)))))
  have R1 : Hid (RdW w1 A N S) := Lib.hid (H.out.below B1.out)
  go_wp2
  go_loopw [3, 12] (fun v i wr => ∃ k : Nat, k ≤ N ∧ i = .int .i64 k ∧ Hid (wr.ownsRow (w.heap.size + 1) 87 2 v (tot S k) (flat 2 (allS S k))) ∧ Hid (Below (w.heap.size + 1) w1 wr)) (fun _ i _ => N - (intOf i).toNat)
  case atStart => exact ⟨0, Nat.zero_le _, rfl, Lib.hid (World.ownsRow_nil _ _ _ _), Lib.hid (Below.refl _ _)⟩
  case round =>
    obtain ⟨k, hk, rfl, HR, HB⟩ := hrel
    have sB := HB.out.size
    have hw1 : w.heap.size + 1 ≤ w1.heap.size := by (first | omega | (simp; omega) | simp)
    by_cases hlt : k < N
    · have hr : RdW wr A N S := H.out.below (B1.out.trans (HB.out.mono (by omega)))
      obtain ⟨b, off, rfl⟩ := hr.addr (by omega)
      have hb := hr.lt (by omega)
      have c0 := hr.cell hlt
      have HX := Lib.hid (hr.rd k hlt)
      have htk := tot_one (S := S) hlt
      have hki : (k : Int) < (N : Int) := by omega
      have hk0 : (0 : Int) ≤ (k : Int) := by omega
      clear hr
      go_wp2_with (at_builtin; go_must (refine wpList_append_rd _ rfl _ _ 85 rfl (w.heap.size + 1) 87 i0 _ 2 16 Tryz.underlying85 hi0 hz0 hz1 hz2 rfl (by omega) _ (tot S k) (allS S k) rfl HR.out (S k).A (S k).n (S k).c (S k).es rfl HX.out (by unfold maxLen; omega) (by omega) (by omega) ?_); intro v2 w2 hown2 hg2 hat2; have b2 : Below (w.heap.size + 1) wr w2 := (Below.refl _ wr).grown hg2 (by omega) (row_ge HR.out (Nat.le_refl _)); have s2 := b2.size)
      have H2 := Lib.hid hown2
      have HB2 := Lib.hid (HB.out.trans b2)
      clear hown2 hg2 hat2 HR HX
      go_wp2
      go_roundw
      case rel => exact ⟨k + 1, by omega, by go_num, H2, HB2⟩
      case measure => simp [intOf]; omega
    · have hkn : k = N := by omega
      subst hkn
      have hki : ¬ (k : Int) < (k : Int) := by omega
      have hlen := allS_len HLen.out
      have hT10 := hW.2.1
      obtain ⟨A3, c3, rfl, hc1, hc2, o3⟩ := own_of_row_cap hlen HR.out
      have O3 := Lib.hid o3
      clear o3
      go_wp2_with (go_at_call 85; refine (sortPins_any (w.heap.size + 1) A3 c3 (tot S k) (allS S k) _ (by omega) hc1 hc2 (by (first | omega | (simp; omega) | simp)) O3.out).mono ?_; rintro y w4 ⟨rfl, es4, o4, p4, s4, b4⟩)
      have e4 : es4 = pinsL k S := pinsL_of HLen.out hW p4 (by rw [o4.1]; exact s4)
      rw [e4] at o4
      go_ret
      exact ⟨A3, _, c3, rfl, o4.mono (by omega), ⟨hc1, hc2⟩, B1.out.trans ((HB.out.trans b4).mono (by omega))⟩
end Go.Proofs.YtjlmcppkafjniaaGreat

namespace Go.Proofs.YtjlmcppkafjniaaGreat
open Go.RowKit

end Go.Proofs.YtjlmcppkafjniaaGreat
