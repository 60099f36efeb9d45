/-
  The contract of slices.symMergeCmpFunc (impl.Pin). Conditions: the row may be written; both blocks are sorted, neither is empty.
-/
import Derived.Test.YtjlmcppkafjniaaGreatSm
import Derived.Test.YtjlmcppkafjniaaGreatRop
import Derived.Test.YtjlmcppkafjniaaGreatBw
import Derived.Deep.DeepCutAuto
import Derived.Test.YtjlmcppkafjniaaGreatWa
namespace Go.Proofs.YtjlmcppkafjniaaGreat
open Go.RowKit

theorem Own.swyP {B n g off j m : Nat} {w : World} {es : List (Nat → Int)} (h : Own B w 2 (some ⟨g, off, none⟩) n es) (hne : m ≠ j) (hj : j < n) (hm : m < n) :
    Own B ((w.setCells g (off + m * 2) [.int .i64 (fld es j 0), .int .i64 (fld es j 1)]).setCells g (off + j * 2) [.int .i64 (fld es m 0), .int .i64 (fld es m 1)]) 2 (some ⟨g, off, none⟩) n (swx es m j) := by
  obtain ⟨hl, h2⟩ := h
  obtain ⟨b, o, he, hlt, hB, hf, hc⟩ := h2.resolve_left (by omega)
  injection he with he
  injection he with hb ho
  subst hb ho
  refine ⟨by rw [swx_len]; exact hl, .inr ⟨g, off, rfl, by rw [size_setCells, size_setCells]; exact hlt, hB, fun o => ?_, fun i hi q hq => ?_⟩⟩
  · rw [World.frozen?_setCells, World.frozen?_setCells]
    exact hf o
  have hsome : ∀ i q, i < n → q < 2 → (w.cell? ⟨g, off + i * 2 + q, none⟩).isSome = true := fun i q hi hq => by rw [hc i hi q hq]; rfl
  have hin1 := World.cell?_setCells_in g [.int .i64 (fld es j 0), .int .i64 (fld es j 1)] (off + m * 2) w (fun q hq => hsome m q hm hq)
  have hin2 := World.cell?_setCells_in g [.int .i64 (fld es m 0), .int .i64 (fld es m 1)] (off + j * 2) (w.setCells g (off + m * 2) [.int .i64 (fld es j 0), .int .i64 (fld es j 1)]) (fun q hq => World.isSome_setCells g _ _ _ ⟨g, _, none⟩ (hsome j q hj hq))
  by_cases h4 : i = j
  · subst h4
    rw [hin2 q hq, swx_j (by omega)]
    match q, hq with
    | 0, _ => rfl
    | 1, _ => rfl
  have hout : (off + i * 2 + q < off + j * 2) ∨ (off + j * 2 + 2 ≤ off + i * 2 + q) := by rcases Nat.lt_or_ge i j with h | h <;> omega
  rw [World.cell?_setCells_out g _ _ _ ⟨g, off + i * 2 + q, none⟩ (fun _ _ => by simp only [List.length_cons, List.length_nil]; omega)]
  by_cases h5 : i = m
  · subst h5
    rw [hin1 q hq, swx_m (by omega) (by omega)]
    match q, hq with
    | 0, _ => rfl
    | 1, _ => rfl
  have hout2 : (off + i * 2 + q < off + m * 2) ∨ (off + m * 2 + 2 ≤ off + i * 2 + q) := by rcases Nat.lt_or_ge i m with h | h <;> omega
  rw [World.cell?_setCells_out g _ _ _ ⟨g, off + i * 2 + q, none⟩ (fun _ _ => by simp only [List.length_cons, List.length_nil]; omega), swx_other h5 h4]
  exact hc i hi q hq

set_option maxRecDepth 100000 in
set_option maxHeartbeats 8000000 in
theorem sm1P_any (B : Nat) (A : Option Addr) (cap n a m b : Nat) (es : List (Nat → Int)) (w : World) (hn : n ≤ 4194304) (_hnc : n ≤ cap) (_hcm : cap ≤ 9223372036854775807) (hBw : B ≤ w.heap.size) (ham : a < m) (hmb : m < b) (hbn : b ≤ n) (hm : m = a + 1) (hs1 : SrtR es a m) (hs2 : SrtR es m b) (h : Own B w 2 A n es) :
    Calls Tryz.prog 134 #[.slice A n cap, .int .i64 a, .int .i64 m, .int .i64 b, .func (.func 81) #[] #[]] w (SymD B 2 n a b A es w) := by
  have H := Lib.hid h
  have S1 := Lib.hid hs1
  have S2 := Lib.hid hs2
  have hlen := h.1
  clear h hs1 hs2
  have hma : (m : Int) - (a : Int) = 1 := by omega
  have hmw : IntKind.i64.wrap ((m : Int) - (a : Int)) = 1 := by rw [IntKind.wrap_i64]; omega
  have HM := Lib.hid hm
  clear hm
  go_enter Tryz.func134, Tryz.ntmps134
  go_wp2
  clear hma hmw
  go_loopw [10, 11] (fun s t wr => ∃ (i j : Nat), m ≤ i ∧ i ≤ j ∧ j ≤ b ∧ s = .int .i64 i ∧ t = .int .i64 j ∧ Hid (i = m ∨ ltP (fld es ((i - 1))) (fld es (a))) ∧ Hid (j = b ∨ ¬ ltP (fld es (j)) (fld es (a))) ∧ Hid (Own B wr 2 A n es) ∧ Hid (Below B w wr)) (fun s t _ => (intOf t - intOf s).toNat)
  case atStart => exact ⟨m, b, by omega, by omega, by omega, by go_num, by go_num, Lib.hid (.inl rfl), Lib.hid (.inl rfl), H, Lib.hid (Below.refl _ _)⟩
  case round =>
    obtain ⟨i, j, hi0, hij, hj0, rfl, rfl, HL, HR, HO, HG⟩ := hrel
    by_cases hlt : i < j
    case pos =>
      have hlti : (i : Int) < (j : Int) := by omega
      have hBr : B ≤ wr.heap.size := Nat.le_trans hBw HG.out.size
      obtain ⟨c, hce⟩ : ∃ c, (i + j) / 2 = c := ⟨_, rfl⟩
      have hc1 : i ≤ c := by omega
      have hc2 : c < j := by omega
      have hw1 : IntKind.i64.wrap ((i : Int) + (j : Int)) = (i : Int) + (j : Int) := by rw [IntKind.wrap_i64]; omega
      have hw2 : IntKind.u64.wrap ((i : Int) + (j : Int)) = (i : Int) + (j : Int) := by rw [IntKind.wrap_u64]; omega
      have hw3 : ((i : Int) + (j : Int)) / 2 = (c : Int) := by omega
      have hw4 : IntKind.i64.wrap (c : Int) = (c : Int) := by rw [IntKind.wrap_i64]; omega
      have hw5 : IntKind.i64.wrap ((c : Int) + 1) = ((c + 1 : Nat) : Int) := by rw [IntKind.wrap_i64]; omega
      have hce2 := Lib.hid hce
      clear hce
      obtain ⟨g, off, rfl⟩ : ∃ g off, A = some ⟨g, off, none⟩ := by
        obtain ⟨b', o, he, _⟩ := HO.out.2.resolve_left (by omega)
        exact ⟨b', o, he⟩
      obtain ⟨hgl, hB, hfz, hc⟩ : g < wr.heap.size ∧ B ≤ g ∧ (∀ o, wr.frozen? ⟨g, o, none⟩ = false) ∧ Hid (∀ i, i < n → ∀ q, q < 2 → wr.cell? ⟨g, off + i * 2 + q, none⟩ = some (.int .i64 (fld es i q))) := by
        obtain ⟨b', o, he, h1, h2, h3, h4⟩ := HO.out.2.resolve_left (by omega)
        injection he with he
        injection he with hb ho
        subst hb ho
        exact ⟨h1, h2, h3, h4⟩
      have c0 : wr.cell? ⟨g, off + c * 2, none⟩ = some (.int .i64 (fld es c 0)) := hc.out c (by omega) 0 (by omega)
      have c1 : wr.cell? ⟨g, off + c * 2 + 1, none⟩ = some (.int .i64 (fld es c 1)) := hc.out c (by omega) 1 (by omega)
      have d0 : wr.cell? ⟨g, off + a * 2, none⟩ = some (.int .i64 (fld es a 0)) := hc.out a (by omega) 0 (by omega)
      have d1 : wr.cell? ⟨g, off + a * 2 + 1, none⟩ = some (.int .i64 (fld es a 1)) := hc.out a (by omega) 1 (by omega)
      have hX0 : (0 : Int) ≤ (c : Int) := by omega
      have hXn : (c : Int) < (n : Int) := by omega
      have hY0 : (0 : Int) ≤ (a : Int) := by omega
      have hYn : (a : Int) < (n : Int) := by omega
      have hXn2 : c < n := by omega
      have hYn2 : a < n := by omega
      clear hc
      by_cases hL : ltP (fld es c) (fld es a)
      case pos =>
        have hcp : cmpP (fld es c) (fld es a) < 0 := cmpP_neg.2 hL
        have hcd : decide (cmpP (fld es c) (fld es a) < 0) = true := by simpa using hcp
        have HLL := Lib.hid hL
        clear hL
        go_wp2
        refine wp_region_bw (by kernel_rfl) (by kernel_rfl) (fun W hW => ?_)
        have q0 : ∀ pq : BW W, pq.w.cell? ⟨g, off + c * 2, none⟩ = some (.int .i64 (fld es c 0)) := fun pq => pq.cell (by rw [hW]; (first | omega | (simp; omega) | simp)) (by rw [hW]; (first | (go_keep; done) | (go_simp; done)))
        have q1 : ∀ pq : BW W, pq.w.cell? ⟨g, off + c * 2 + 1, none⟩ = some (.int .i64 (fld es c 1)) := fun pq => pq.cell (by rw [hW]; (first | omega | (simp; omega) | simp)) (by rw [hW]; (first | (go_keep; done) | (go_simp; done)))
        have q2 : ∀ pq : BW W, pq.w.cell? ⟨g, off + a * 2, none⟩ = some (.int .i64 (fld es a 0)) := fun pq => pq.cell (by rw [hW]; (first | omega | (simp; omega) | simp)) (by rw [hW]; (first | (go_keep; done) | (go_simp; done)))
        have q3 : ∀ pq : BW W, pq.w.cell? ⟨g, off + a * 2 + 1, none⟩ = some (.int .i64 (fld es a 1)) := fun pq => pq.cell (by rw [hW]; (first | omega | (simp; omega) | simp)) (by rw [hW]; (first | (go_keep; done) | (go_simp; done)))
        have hbW : Below wr.heap.size wr W := by rw [hW]; (repeat (first | with_reducible exact Below.refl _ _ | with_reducible refine Below.drew ?_ | with_reducible refine below_drewN ?_ _ | (with_reducible refine bel_alloc ?_ ?_ _; (first | omega | (simp; omega) | simp)) | (with_reducible refine bel_set ?_ ?_ _; (first | omega | (simp; omega) | simp)) | (with_reducible refine bel_tr (by assumption) ?_ ?_; (first | omega | (simp; omega) | simp))))
        have HW := Lib.hid hW
        clear hW
        repeat (go_big_quiet_step ((go_at_call 81; exact bw_of (comparePins_any (fld es c) (fld es a) _))))
        refine wpQuiet_nil ?_
        intro wq hq
        have hbq : Below W.heap.size W wq := by (obtain ⟨p, hp⟩ := hq; rw [hp]; exact p.below)
        clear hq
        have hbel4 : Below wr.heap.size wr wq := hbW.trans (hbq.mono hbW.size)
        have sq := hbel4.size
        clear hbW hbq HW q0 q1 q2 q3
        have hbB := hbel4.mono hBr
        go_wp2
        go_roundw
        case rel => clear hw1 hw2 hw3 hw4 hw5; exact ⟨c + 1, j, by omega, by omega, hj0, by go_num, rfl, Lib.hid (.inr (by rw [show c + 1 - 1 = c by omega]; exact HLL.out)), HR, Lib.hid (HO.out.below hbel4), Lib.hid (HG.out.trans hbB)⟩
        case measure => clear hw1 hw2 hw3 hw4 hw5; simp [intOf]; omega
      have hcp : ¬ cmpP (fld es c) (fld es a) < 0 := fun h => hL (cmpP_neg.1 h)
      have hcd : decide (cmpP (fld es c) (fld es a) < 0) = false := by simpa using hcp
      have HLL := Lib.hid hL
      clear hL
      go_wp2
      refine wp_region_bw (by kernel_rfl) (by kernel_rfl) (fun W hW => ?_)
      have q0 : ∀ pq : BW W, pq.w.cell? ⟨g, off + c * 2, none⟩ = some (.int .i64 (fld es c 0)) := fun pq => pq.cell (by rw [hW]; (first | omega | (simp; omega) | simp)) (by rw [hW]; (first | (go_keep; done) | (go_simp; done)))
      have q1 : ∀ pq : BW W, pq.w.cell? ⟨g, off + c * 2 + 1, none⟩ = some (.int .i64 (fld es c 1)) := fun pq => pq.cell (by rw [hW]; (first | omega | (simp; omega) | simp)) (by rw [hW]; (first | (go_keep; done) | (go_simp; done)))
      have q2 : ∀ pq : BW W, pq.w.cell? ⟨g, off + a * 2, none⟩ = some (.int .i64 (fld es a 0)) := fun pq => pq.cell (by rw [hW]; (first | omega | (simp; omega) | simp)) (by rw [hW]; (first | (go_keep; done) | (go_simp; done)))
      have q3 : ∀ pq : BW W, pq.w.cell? ⟨g, off + a * 2 + 1, none⟩ = some (.int .i64 (fld es a 1)) := fun pq => pq.cell (by rw [hW]; (first | omega | (simp; omega) | simp)) (by rw [hW]; (first | (go_keep; done) | (go_simp; done)))
      have hbW : Below wr.heap.size wr W := by rw [hW]; (repeat (first | with_reducible exact Below.refl _ _ | with_reducible refine Below.drew ?_ | with_reducible refine below_drewN ?_ _ | (with_reducible refine bel_alloc ?_ ?_ _; (first | omega | (simp; omega) | simp)) | (with_reducible refine bel_set ?_ ?_ _; (first | omega | (simp; omega) | simp)) | (with_reducible refine bel_tr (by assumption) ?_ ?_; (first | omega | (simp; omega) | simp))))
      have HW := Lib.hid hW
      clear hW
      repeat (go_big_quiet_step ((go_at_call 81; exact bw_of (comparePins_any (fld es c) (fld es a) _))))
      refine wpQuiet_nil ?_
      intro wq hq
      have hbq : Below W.heap.size W wq := by (obtain ⟨p, hp⟩ := hq; rw [hp]; exact p.below)
      clear hq
      have hbel4 : Below wr.heap.size wr wq := hbW.trans (hbq.mono hbW.size)
      have sq := hbel4.size
      clear hbW hbq HW q0 q1 q2 q3
      have hbB := hbel4.mono hBr
      go_wp2
      go_roundw
      case rel => clear hw1 hw2 hw3 hw4 hw5; exact ⟨i, c, hi0, hc1, by omega, rfl, by go_num, HL, Lib.hid (.inr (by exact HLL.out)), Lib.hid (HO.out.below hbel4), Lib.hid (HG.out.trans hbB)⟩
      case measure => clear hw1 hw2 hw3 hw4 hw5; simp [intOf]; omega
    have hij2 : i = j := by omega
    subst hij2
    have hlti : ¬ (i : Int) < (i : Int) := by omega
    clear hlt
    obtain ⟨u, hu⟩ : ∃ u, i = u + 1 := ⟨i - 1, by omega⟩
    have HU := Lib.hid hu
    have hiw : IntKind.i64.wrap ((i : Int) - 1) = (u : Int) := by rw [IntKind.wrap_i64]; omega
    have hiw2 : (i : Int) - 1 = (u : Int) := by omega
    have hau : a ≤ u := by have := HM.out; omega
    have hub : u < b := by omega
    clear hu
    obtain ⟨wq, hwq⟩ : ∃ wq, wq = wr := ⟨wr, rfl⟩
    subst hwq
    go_wp2
    go_loopw [13] (fun s wr => ∃ k : Nat, a ≤ k ∧ k ≤ u ∧ s = .int .i64 k ∧ Hid (Own B wr 2 A n (rotL es a (a + 1) (k + 1))) ∧ Hid (Below B w wr)) (fun s _ => u - (intOf s).toNat)
    case atStart => exact ⟨a, Nat.le_refl _, hau, rfl, Lib.hid (by rw [← HM.out, rotL_nil (by omega) (by omega)]; exact HO.out), HG⟩
    case round =>
      obtain ⟨k, hk1, hk2, rfl, HO, HG⟩ := hrel
      by_cases hku : k < u
      case neg =>
        have hku2 : k = u := by omega
        subst hku2
        have hkk : ¬ (k : Int) < (k : Int) := by omega
        go_wp2
        exact bodyPost_end (results_none rfl _ _ _) rfl ⟨rfl, _, HO.out, mrg_one (HM.out ▸ S2.out) (by omega) (by omega) (by have := HU.out; omega) (by rw [← HU.out, ← HM.out]; exact HL.out) (by rw [← HU.out]; exact HR.out), HG.out⟩
      have hkk : (k : Int) < (u : Int) := by omega
      obtain ⟨y, hy⟩ : ∃ y, k + 1 = y := ⟨_, rfl⟩
      have hyw : IntKind.i64.wrap ((k : Int) + 1) = (y : Int) := by rw [IntKind.wrap_i64]; omega
      have hyw2 : (k : Int) + 1 = (y : Int) := by omega
      obtain ⟨es2, he2⟩ : ∃ es2, es2 = rotL es a (a + 1) y := ⟨_, rfl⟩
      rw [hy, ← he2] at HO
      obtain ⟨g, off, rfl⟩ : ∃ g off, A = some ⟨g, off, none⟩ := by
        obtain ⟨b', o, he, _⟩ := HO.out.2.resolve_left (by omega)
        exact ⟨b', o, he⟩
      obtain ⟨hgl, hB, hfz, hc⟩ : g < wr.heap.size ∧ B ≤ g ∧ (∀ o, wr.frozen? ⟨g, o, none⟩ = false) ∧ Hid (∀ i, i < n → ∀ q, q < 2 → wr.cell? ⟨g, off + i * 2 + q, none⟩ = some (.int .i64 (fld es2 i q))) := by
        obtain ⟨b', o, he, h1, h2, h3, h4⟩ := HO.out.2.resolve_left (by omega)
        injection he with he
        injection he with hb ho
        subst hb ho
        exact ⟨h1, h2, h3, h4⟩
      have e0 : wr.cell? ⟨g, off + k * 2, none⟩ = some (.int .i64 (fld es2 k 0)) := hc.out k (by omega) 0 (by omega)
      have e1 : wr.cell? ⟨g, off + k * 2 + 1, none⟩ = some (.int .i64 (fld es2 k 1)) := hc.out k (by omega) 1 (by omega)
      have f0 : wr.cell? ⟨g, off + y * 2, none⟩ = some (.int .i64 (fld es2 y 0)) := hc.out y (by omega) 0 (by omega)
      have f1 : wr.cell? ⟨g, off + y * 2 + 1, none⟩ = some (.int .i64 (fld es2 y 1)) := hc.out y (by omega) 1 (by omega)
      have kx0 := hfz (off + k * 2)
      have kx1 := hfz (off + k * 2 + 1)
      have ky0 := hfz (off + y * 2)
      have ky1 := hfz (off + y * 2 + 1)
      have h1 : (wr.setCell ⟨g, off + k * 2, none⟩ (.int .i64 (fld es2 y 0))).cell? ⟨g, off + k * 2 + 1, none⟩ = some (.int .i64 (fld es2 k 1)) := (World.cell?_setCells_out g [.int .i64 (fld es2 y 0)] (off + k * 2) wr ⟨g, off + k * 2 + 1, none⟩ (fun _ _ => .inr (by simp only [List.length_cons, List.length_nil]; omega))).trans e1
      have g0 : ((wr.setCell ⟨g, off + k * 2, none⟩ (.int .i64 (fld es2 y 0))).setCell ⟨g, off + k * 2 + 1, none⟩ (.int .i64 (fld es2 y 1))).cell? ⟨g, off + y * 2, none⟩ = some (.int .i64 (fld es2 y 0)) := (World.cell?_setCells_out g [.int .i64 (fld es2 y 0), .int .i64 (fld es2 y 1)] (off + k * 2) wr ⟨g, off + y * 2, none⟩ (fun _ _ => .inr (by simp only [List.length_cons, List.length_nil]; omega))).trans f0
      have g1 : (((wr.setCell ⟨g, off + k * 2, none⟩ (.int .i64 (fld es2 y 0))).setCell ⟨g, off + k * 2 + 1, none⟩ (.int .i64 (fld es2 y 1))).setCell ⟨g, off + y * 2, none⟩ (.int .i64 (fld es2 k 0))).cell? ⟨g, off + y * 2 + 1, none⟩ = some (.int .i64 (fld es2 y 1)) := (World.cell?_setCells_out g [.int .i64 (fld es2 k 0)] (off + y * 2) _ ⟨g, off + y * 2 + 1, none⟩ (fun _ _ => .inr (by simp only [List.length_cons, List.length_nil]; omega))).trans ((World.cell?_setCells_out g [.int .i64 (fld es2 y 0), .int .i64 (fld es2 y 1)] (off + k * 2) wr ⟨g, off + y * 2 + 1, none⟩ (fun _ _ => .inr (by simp only [List.length_cons, List.length_nil]; omega))).trans f1)
      have hX0 : (0 : Int) ≤ (k : Int) := by omega
      have hXn : (k : Int) < (n : Int) := by omega
      have hY0 : (0 : Int) ≤ (y : Int) := by omega
      have hYn : (y : Int) < (n : Int) := by omega
      have hXn2 : k < n := by omega
      have hYn2 : y < n := by omega
      have HO4 := Lib.hid (HO.out.swyP (show k ≠ y by omega) (by omega) (by omega))
      have HG4 := below_setCells hB [.int .i64 (fld es2 k 0), .int .i64 (fld es2 k 1)] (off + y * 2) _ (below_setCells hB [.int .i64 (fld es2 y 0), .int .i64 (fld es2 y 1)] (off + k * 2) wr HG.out)
      have E4 : (wr.setCells g (off + k * 2) [.int .i64 (fld es2 y 0), .int .i64 (fld es2 y 1)]).setCells g (off + y * 2) [.int .i64 (fld es2 k 0), .int .i64 (fld es2 k 1)] = ((((wr.setCell ⟨g, off + k * 2, none⟩ (.int .i64 (fld es2 y 0))).setCell ⟨g, off + k * 2 + 1, none⟩ (.int .i64 (fld es2 y 1))).setCell ⟨g, off + y * 2, none⟩ (.int .i64 (fld es2 k 0))).setCell ⟨g, off + y * 2 + 1, none⟩ (.int .i64 (fld es2 k 1))) := by simp only [World.setCells, Nat.add_assoc]
      rw [E4] at HO4 HG4
      have HO5 := Lib.hid (Own.drew_ HO4.out)
      have HG5 := Lib.hid (Below.drew HG4)
      have hsw : swx es2 k y = rotL es a (a + 1) (y + 1) := by rw [← rotL_up (by omega) (by omega), ← he2, ← hy]; exact swx_up _ _
      rw [hsw] at HO5
      have HY := Lib.hid hy
      clear E4 HO4 HG4 hfz hc hy he2 hsw
      go_wp2
      go_region
      all_goals
        go_wp2
        go_roundw
        case rel => exact ⟨y, by have := HY.out; omega, by have := HY.out; omega, by go_num, by with_reducible exact HO5, by with_reducible exact HG5⟩
        case measure => have := HY.out; simp [intOf]; omega

set_option maxRecDepth 100000 in
set_option maxHeartbeats 8000000 in
theorem sm2P_any (B : Nat) (A : Option Addr) (cap n a m b : Nat) (es : List (Nat → Int)) (w : World) (hn : n ≤ 4194304) (_hnc : n ≤ cap) (_hcm : cap ≤ 9223372036854775807) (hBw : B ≤ w.heap.size) (_ham : a < m) (hmb : m < b) (hbn : b ≤ n) (hm0 : a + 1 < m) (hm : b = m + 1) (hs1 : SrtR es a m) (hs2 : SrtR es m b) (h : Own B w 2 A n es) :
    Calls Tryz.prog 134 #[.slice A n cap, .int .i64 a, .int .i64 m, .int .i64 b, .func (.func 81) #[] #[]] w (SymD B 2 n a b A es w) := by
  have H := Lib.hid h
  have S1 := Lib.hid hs1
  have S2 := Lib.hid hs2
  have hlen := h.1
  clear h hs1 hs2
  have hma : ¬ (m : Int) - (a : Int) = 1 := by omega
  have hmq : (((m : Int) - (a : Int)) == 1) = false := by simpa using hma
  have hmw : ¬ IntKind.i64.wrap ((m : Int) - (a : Int)) = 1 := by rw [IntKind.wrap_i64]; omega
  have hmw0 : IntKind.i64.wrap ((m : Int) - (a : Int)) = (m : Int) - (a : Int) := by rw [IntKind.wrap_i64]; omega
  have hbm : (b : Int) - (m : Int) = 1 := by omega
  have hbw : IntKind.i64.wrap ((b : Int) - (m : Int)) = 1 := by rw [IntKind.wrap_i64]; omega
  have HM := Lib.hid hm
  clear hm
  go_enter Tryz.func134, Tryz.ntmps134
  go_wp2
  clear hma hmw hmw0 hbm hbw
  go_loopw [14, 15] (fun s t wr => ∃ (i j : Nat), a ≤ i ∧ i ≤ j ∧ j ≤ m ∧ s = .int .i64 i ∧ t = .int .i64 j ∧ Hid (i = a ∨ ¬ ltP (fld es (m)) (fld es ((i - 1)))) ∧ Hid (j = m ∨ ltP (fld es (m)) (fld es (j))) ∧ Hid (Own B wr 2 A n es) ∧ Hid (Below B w wr)) (fun s t _ => (intOf t - intOf s).toNat)
  case atStart => exact ⟨a, m, by omega, by omega, by omega, by go_num, by go_num, Lib.hid (.inl rfl), Lib.hid (.inl rfl), H, Lib.hid (Below.refl _ _)⟩
  case round =>
    obtain ⟨i, j, hi0, hij, hj0, rfl, rfl, HL, HR, HO, HG⟩ := hrel
    by_cases hlt : i < j
    case pos =>
      have hlti : (i : Int) < (j : Int) := by omega
      have hBr : B ≤ wr.heap.size := Nat.le_trans hBw HG.out.size
      obtain ⟨c, hce⟩ : ∃ c, (i + j) / 2 = c := ⟨_, rfl⟩
      have hc1 : i ≤ c := by omega
      have hc2 : c < j := by omega
      have hw1 : IntKind.i64.wrap ((i : Int) + (j : Int)) = (i : Int) + (j : Int) := by rw [IntKind.wrap_i64]; omega
      have hw2 : IntKind.u64.wrap ((i : Int) + (j : Int)) = (i : Int) + (j : Int) := by rw [IntKind.wrap_u64]; omega
      have hw3 : ((i : Int) + (j : Int)) / 2 = (c : Int) := by omega
      have hw4 : IntKind.i64.wrap (c : Int) = (c : Int) := by rw [IntKind.wrap_i64]; omega
      have hw5 : IntKind.i64.wrap ((c : Int) + 1) = ((c + 1 : Nat) : Int) := by rw [IntKind.wrap_i64]; omega
      have hce2 := Lib.hid hce
      clear hce
      obtain ⟨g, off, rfl⟩ : ∃ g off, A = some ⟨g, off, none⟩ := by
        obtain ⟨b', o, he, _⟩ := HO.out.2.resolve_left (by omega)
        exact ⟨b', o, he⟩
      obtain ⟨hgl, hB, hfz, hc⟩ : g < wr.heap.size ∧ B ≤ g ∧ (∀ o, wr.frozen? ⟨g, o, none⟩ = false) ∧ Hid (∀ i, i < n → ∀ q, q < 2 → wr.cell? ⟨g, off + i * 2 + q, none⟩ = some (.int .i64 (fld es i q))) := by
        obtain ⟨b', o, he, h1, h2, h3, h4⟩ := HO.out.2.resolve_left (by omega)
        injection he with he
        injection he with hb ho
        subst hb ho
        exact ⟨h1, h2, h3, h4⟩
      have c0 : wr.cell? ⟨g, off + m * 2, none⟩ = some (.int .i64 (fld es m 0)) := hc.out m (by omega) 0 (by omega)
      have c1 : wr.cell? ⟨g, off + m * 2 + 1, none⟩ = some (.int .i64 (fld es m 1)) := hc.out m (by omega) 1 (by omega)
      have d0 : wr.cell? ⟨g, off + c * 2, none⟩ = some (.int .i64 (fld es c 0)) := hc.out c (by omega) 0 (by omega)
      have d1 : wr.cell? ⟨g, off + c * 2 + 1, none⟩ = some (.int .i64 (fld es c 1)) := hc.out c (by omega) 1 (by omega)
      have hX0 : (0 : Int) ≤ (m : Int) := by omega
      have hXn : (m : Int) < (n : Int) := by omega
      have hY0 : (0 : Int) ≤ (c : Int) := by omega
      have hYn : (c : Int) < (n : Int) := by omega
      have hXn2 : m < n := by omega
      have hYn2 : c < n := by omega
      clear hc
      by_cases hL : ltP (fld es m) (fld es c)
      case pos =>
        have hcp : cmpP (fld es m) (fld es c) < 0 := cmpP_neg.2 hL
        have hcd : decide (cmpP (fld es m) (fld es c) < 0) = true := by simpa using hcp
        have HLL := Lib.hid hL
        clear hL
        go_wp2
        refine wp_region_bw (by kernel_rfl) (by kernel_rfl) (fun W hW => ?_)
        have q0 : ∀ pq : BW W, pq.w.cell? ⟨g, off + m * 2, none⟩ = some (.int .i64 (fld es m 0)) := fun pq => pq.cell (by rw [hW]; (first | omega | (simp; omega) | simp)) (by rw [hW]; (first | (go_keep; done) | (go_simp; done)))
        have q1 : ∀ pq : BW W, pq.w.cell? ⟨g, off + m * 2 + 1, none⟩ = some (.int .i64 (fld es m 1)) := fun pq => pq.cell (by rw [hW]; (first | omega | (simp; omega) | simp)) (by rw [hW]; (first | (go_keep; done) | (go_simp; done)))
        have q2 : ∀ pq : BW W, pq.w.cell? ⟨g, off + c * 2, none⟩ = some (.int .i64 (fld es c 0)) := fun pq => pq.cell (by rw [hW]; (first | omega | (simp; omega) | simp)) (by rw [hW]; (first | (go_keep; done) | (go_simp; done)))
        have q3 : ∀ pq : BW W, pq.w.cell? ⟨g, off + c * 2 + 1, none⟩ = some (.int .i64 (fld es c 1)) := fun pq => pq.cell (by rw [hW]; (first | omega | (simp; omega) | simp)) (by rw [hW]; (first | (go_keep; done) | (go_simp; done)))
        have hbW : Below wr.heap.size wr W := by rw [hW]; (repeat (first | with_reducible exact Below.refl _ _ | with_reducible refine Below.drew ?_ | with_reducible refine below_drewN ?_ _ | (with_reducible refine bel_alloc ?_ ?_ _; (first | omega | (simp; omega) | simp)) | (with_reducible refine bel_set ?_ ?_ _; (first | omega | (simp; omega) | simp)) | (with_reducible refine bel_tr (by assumption) ?_ ?_; (first | omega | (simp; omega) | simp))))
        have HW := Lib.hid hW
        clear hW
        repeat (go_big_quiet_step ((go_at_call 81; exact bw_of (comparePins_any (fld es m) (fld es c) _))))
        refine wpQuiet_nil ?_
        intro wq hq
        have hbq : Below W.heap.size W wq := by (obtain ⟨p, hp⟩ := hq; rw [hp]; exact p.below)
        clear hq
        have hbel4 : Below wr.heap.size wr wq := hbW.trans (hbq.mono hbW.size)
        have sq := hbel4.size
        clear hbW hbq HW q0 q1 q2 q3
        have hbB := hbel4.mono hBr
        go_wp2
        go_roundw
        case rel => clear hw1 hw2 hw3 hw4 hw5; exact ⟨i, c, hi0, hc1, by omega, rfl, by go_num, HL, Lib.hid (.inr (by exact HLL.out)), Lib.hid (HO.out.below hbel4), Lib.hid (HG.out.trans hbB)⟩
        case measure => clear hw1 hw2 hw3 hw4 hw5; simp [intOf]; omega
      have hcp : ¬ cmpP (fld es m) (fld es c) < 0 := fun h => hL (cmpP_neg.1 h)
      have hcd : decide (cmpP (fld es m) (fld es c) < 0) = false := by simpa using hcp
      have HLL := Lib.hid hL
      clear hL
      go_wp2
      refine wp_region_bw (by kernel_rfl) (by kernel_rfl) (fun W hW => ?_)
      have q0 : ∀ pq : BW W, pq.w.cell? ⟨g, off + m * 2, none⟩ = some (.int .i64 (fld es m 0)) := fun pq => pq.cell (by rw [hW]; (first | omega | (simp; omega) | simp)) (by rw [hW]; (first | (go_keep; done) | (go_simp; done)))
      have q1 : ∀ pq : BW W, pq.w.cell? ⟨g, off + m * 2 + 1, none⟩ = some (.int .i64 (fld es m 1)) := fun pq => pq.cell (by rw [hW]; (first | omega | (simp; omega) | simp)) (by rw [hW]; (first | (go_keep; done) | (go_simp; done)))
      have q2 : ∀ pq : BW W, pq.w.cell? ⟨g, off + c * 2, none⟩ = some (.int .i64 (fld es c 0)) := fun pq => pq.cell (by rw [hW]; (first | omega | (simp; omega) | simp)) (by rw [hW]; (first | (go_keep; done) | (go_simp; done)))
      have q3 : ∀ pq : BW W, pq.w.cell? ⟨g, off + c * 2 + 1, none⟩ = some (.int .i64 (fld es c 1)) := fun pq => pq.cell (by rw [hW]; (first | omega | (simp; omega) | simp)) (by rw [hW]; (first | (go_keep; done) | (go_simp; done)))
      have hbW : Below wr.heap.size wr W := by rw [hW]; (repeat (first | with_reducible exact Below.refl _ _ | with_reducible refine Below.drew ?_ | with_reducible refine below_drewN ?_ _ | (with_reducible refine bel_alloc ?_ ?_ _; (first | omega | (simp; omega) | simp)) | (with_reducible refine bel_set ?_ ?_ _; (first | omega | (simp; omega) | simp)) | (with_reducible refine bel_tr (by assumption) ?_ ?_; (first | omega | (simp; omega) | simp))))
      have HW := Lib.hid hW
      clear hW
      repeat (go_big_quiet_step ((go_at_call 81; exact bw_of (comparePins_any (fld es m) (fld es c) _))))
      refine wpQuiet_nil ?_
      intro wq hq
      have hbq : Below W.heap.size W wq := by (obtain ⟨p, hp⟩ := hq; rw [hp]; exact p.below)
      clear hq
      have hbel4 : Below wr.heap.size wr wq := hbW.trans (hbq.mono hbW.size)
      have sq := hbel4.size
      clear hbW hbq HW q0 q1 q2 q3
      have hbB := hbel4.mono hBr
      go_wp2
      go_roundw
      case rel => clear hw1 hw2 hw3 hw4 hw5; exact ⟨c + 1, j, by omega, by omega, hj0, by go_num, rfl, Lib.hid (.inr (by rw [show c + 1 - 1 = c by omega]; exact HLL.out)), HR, Lib.hid (HO.out.below hbel4), Lib.hid (HG.out.trans hbB)⟩
      case measure => clear hw1 hw2 hw3 hw4 hw5; simp [intOf]; omega
    have hij2 : i = j := by omega
    subst hij2
    have hlti : ¬ (i : Int) < (i : Int) := by omega
    clear hlt
    obtain ⟨wq, hwq⟩ : ∃ wq, wq = wr := ⟨wr, rfl⟩
    subst hwq
    go_wp2
    go_loopw [17] (fun s wr => ∃ k : Nat, i ≤ k ∧ k ≤ m ∧ s = .int .i64 k ∧ Hid (Own B wr 2 A n (rotL es k m b)) ∧ Hid (Below B w wr)) (fun s _ => (intOf s).toNat)
    case atStart => exact ⟨m, hj0, Nat.le_refl _, rfl, Lib.hid (by rw [rotL_nil2 (by omega) (by omega)]; exact HO.out), HG⟩
    case round =>
      obtain ⟨k, hk1, hk2, rfl, HO, HG⟩ := hrel
      by_cases hku : i < k
      case neg =>
        have hku2 : k = i := by omega
        subst hku2
        have hkk : ¬ (k : Int) < (k : Int) := by omega
        go_wp2
        exact bodyPost_end (results_none rfl _ _ _) rfl ⟨rfl, _, HO.out, (by rw [HM.out]; exact mrg_last S1.out (by have := HM.out; omega) hi0 hj0 HL.out HR.out), HG.out⟩
      have hkk : (i : Int) < (k : Int) := by omega
      obtain ⟨y, hy⟩ : ∃ y, k = y + 1 := ⟨k - 1, by omega⟩
      have hyw : IntKind.i64.wrap ((k : Int) - 1) = (y : Int) := by rw [IntKind.wrap_i64]; omega
      have hyw2 : (k : Int) - 1 = (y : Int) := by omega
      obtain ⟨es2, he2⟩ : ∃ es2, es2 = rotL es k m b := ⟨_, rfl⟩
      rw [← he2] at HO
      obtain ⟨g, off, rfl⟩ : ∃ g off, A = some ⟨g, off, none⟩ := by
        obtain ⟨b', o, he, _⟩ := HO.out.2.resolve_left (by omega)
        exact ⟨b', o, he⟩
      obtain ⟨hgl, hB, hfz, hc⟩ : g < wr.heap.size ∧ B ≤ g ∧ (∀ o, wr.frozen? ⟨g, o, none⟩ = false) ∧ Hid (∀ i, i < n → ∀ q, q < 2 → wr.cell? ⟨g, off + i * 2 + q, none⟩ = some (.int .i64 (fld es2 i q))) := by
        obtain ⟨b', o, he, h1, h2, h3, h4⟩ := HO.out.2.resolve_left (by omega)
        injection he with he
        injection he with hb ho
        subst hb ho
        exact ⟨h1, h2, h3, h4⟩
      have e0 : wr.cell? ⟨g, off + k * 2, none⟩ = some (.int .i64 (fld es2 k 0)) := hc.out k (by omega) 0 (by omega)
      have e1 : wr.cell? ⟨g, off + k * 2 + 1, none⟩ = some (.int .i64 (fld es2 k 1)) := hc.out k (by omega) 1 (by omega)
      have f0 : wr.cell? ⟨g, off + y * 2, none⟩ = some (.int .i64 (fld es2 y 0)) := hc.out y (by omega) 0 (by omega)
      have f1 : wr.cell? ⟨g, off + y * 2 + 1, none⟩ = some (.int .i64 (fld es2 y 1)) := hc.out y (by omega) 1 (by omega)
      have kx0 := hfz (off + k * 2)
      have kx1 := hfz (off + k * 2 + 1)
      have ky0 := hfz (off + y * 2)
      have ky1 := hfz (off + y * 2 + 1)
      have h1 : (wr.setCell ⟨g, off + k * 2, none⟩ (.int .i64 (fld es2 y 0))).cell? ⟨g, off + k * 2 + 1, none⟩ = some (.int .i64 (fld es2 k 1)) := (World.cell?_setCells_out g [.int .i64 (fld es2 y 0)] (off + k * 2) wr ⟨g, off + k * 2 + 1, none⟩ (fun _ _ => .inr (by simp only [List.length_cons, List.length_nil]; omega))).trans e1
      have g0 : ((wr.setCell ⟨g, off + k * 2, none⟩ (.int .i64 (fld es2 y 0))).setCell ⟨g, off + k * 2 + 1, none⟩ (.int .i64 (fld es2 y 1))).cell? ⟨g, off + y * 2, none⟩ = some (.int .i64 (fld es2 y 0)) := (World.cell?_setCells_out g [.int .i64 (fld es2 y 0), .int .i64 (fld es2 y 1)] (off + k * 2) wr ⟨g, off + y * 2, none⟩ (fun _ _ => .inl (by simp only []; omega))).trans f0
      have g1 : (((wr.setCell ⟨g, off + k * 2, none⟩ (.int .i64 (fld es2 y 0))).setCell ⟨g, off + k * 2 + 1, none⟩ (.int .i64 (fld es2 y 1))).setCell ⟨g, off + y * 2, none⟩ (.int .i64 (fld es2 k 0))).cell? ⟨g, off + y * 2 + 1, none⟩ = some (.int .i64 (fld es2 y 1)) := (World.cell?_setCells_out g [.int .i64 (fld es2 k 0)] (off + y * 2) _ ⟨g, off + y * 2 + 1, none⟩ (fun _ _ => .inr (by simp only [List.length_cons, List.length_nil]; omega))).trans ((World.cell?_setCells_out g [.int .i64 (fld es2 y 0), .int .i64 (fld es2 y 1)] (off + k * 2) wr ⟨g, off + y * 2 + 1, none⟩ (fun _ _ => .inl (by simp only []; omega))).trans f1)
      have hX0 : (0 : Int) ≤ (k : Int) := by omega
      have hXn : (k : Int) < (n : Int) := by omega
      have hY0 : (0 : Int) ≤ (y : Int) := by omega
      have hYn : (y : Int) < (n : Int) := by omega
      have hXn2 : k < n := by omega
      have hYn2 : y < n := by omega
      have HO4 := Lib.hid (HO.out.swyP (show k ≠ y by omega) (by omega) (by omega))
      have HG4 := below_setCells hB [.int .i64 (fld es2 k 0), .int .i64 (fld es2 k 1)] (off + y * 2) _ (below_setCells hB [.int .i64 (fld es2 y 0), .int .i64 (fld es2 y 1)] (off + k * 2) wr HG.out)
      have E4 : (wr.setCells g (off + k * 2) [.int .i64 (fld es2 y 0), .int .i64 (fld es2 y 1)]).setCells g (off + y * 2) [.int .i64 (fld es2 k 0), .int .i64 (fld es2 k 1)] = ((((wr.setCell ⟨g, off + k * 2, none⟩ (.int .i64 (fld es2 y 0))).setCell ⟨g, off + k * 2 + 1, none⟩ (.int .i64 (fld es2 y 1))).setCell ⟨g, off + y * 2, none⟩ (.int .i64 (fld es2 k 0))).setCell ⟨g, off + y * 2 + 1, none⟩ (.int .i64 (fld es2 k 1))) := by simp only [World.setCells, Nat.add_assoc]
      rw [E4] at HO4 HG4
      have HO5 := Lib.hid (Own.drew_ HO4.out)
      have HG5 := Lib.hid (Below.drew HG4)
      have hsw : swx es2 k y = rotL es y m b := by rw [show y = k - 1 by omega, HM.out, ← rotL_down (by omega) (by omega) (by have := HM.out; omega), ← HM.out, ← he2]; rfl
      rw [hsw] at HO5
      have HY := Lib.hid hy
      clear E4 HO4 HG4 hfz hc hy he2 hsw
      go_wp2
      go_region
      all_goals
        go_wp2
        go_roundw
        case rel => exact ⟨y, by have := HY.out; omega, by have := HY.out; omega, by go_num, by with_reducible exact HO5, by with_reducible exact HG5⟩
        case measure => have := HY.out; simp [intOf]; omega

set_option maxRecDepth 100000 in
set_option maxHeartbeats 8000000 in
theorem sm3aP_any (B : Nat) (A : Option Addr) (cap n a m b : Nat) (es : List (Nat → Int)) (w : World) (hn : n ≤ 4194304) (hnc : n ≤ cap) (hcm : cap ≤ 9223372036854775807) (hBw : B ≤ w.heap.size) (_ham : a < m) (_hmb : m < b) (hbn : b ≤ n) (hmd : (a + b) / 2 < m) (hm0 : a + 1 < m) (hm : m + 1 < b) (ih : ∀ (a2 m2 b2 : Nat) (es2 : List (Nat → Int)) (w2 : World), b2 - a2 < b - a → B ≤ w2.heap.size → a2 < m2 → m2 < b2 → b2 ≤ n → SrtR es2 a2 m2 → SrtR es2 m2 b2 → Own B w2 2 A n es2 → Calls Tryz.prog 134 #[.slice A n cap, .int .i64 a2, .int .i64 m2, .int .i64 b2, .func (.func 81) #[] #[]] w2 (SymD B 2 n a2 b2 A es2 w2)) (hs1 : SrtR es a m) (hs2 : SrtR es m b) (h : Own B w 2 A n es) :
    Calls Tryz.prog 134 #[.slice A n cap, .int .i64 a, .int .i64 m, .int .i64 b, .func (.func 81) #[] #[]] w (SymD B 2 n a b A es w) := by
  have H := Lib.hid h
  have S1 := Lib.hid hs1
  have S2 := Lib.hid hs2
  have hlen := h.1
  clear h hs1 hs2
  have hma : ¬ (m : Int) - (a : Int) = 1 := by omega
  have hmq : (((m : Int) - (a : Int)) == 1) = false := by simpa using hma
  have hmw0 : IntKind.i64.wrap ((m : Int) - (a : Int)) = (m : Int) - (a : Int) := by rw [IntKind.wrap_i64]; omega
  have hmw : ¬ IntKind.i64.wrap ((m : Int) - (a : Int)) = 1 := by rw [IntKind.wrap_i64]; omega
  have hbm : ¬ (b : Int) - (m : Int) = 1 := by omega
  have hbq : (((b : Int) - (m : Int)) == 1) = false := by simpa using hbm
  have hbw0 : IntKind.i64.wrap ((b : Int) - (m : Int)) = (b : Int) - (m : Int) := by rw [IntKind.wrap_i64]; omega
  have hbw : ¬ IntKind.i64.wrap ((b : Int) - (m : Int)) = 1 := by rw [IntKind.wrap_i64]; omega
  obtain ⟨d, hd⟩ : ∃ d, (a + b) / 2 = d := ⟨_, rfl⟩
  have had : a + 1 < d := by omega
  have hdb : d < b := by omega
  have hv1 : IntKind.i64.wrap ((a : Int) + (b : Int)) = (a : Int) + (b : Int) := by rw [IntKind.wrap_i64]; omega
  have hv2 : IntKind.u64.wrap ((a : Int) + (b : Int)) = (a : Int) + (b : Int) := by rw [IntKind.wrap_u64]; omega
  have hv3 : ((a : Int) + (b : Int)) / 2 = (d : Int) := by omega
  have hv4 : IntKind.i64.wrap (d : Int) = (d : Int) := by rw [IntKind.wrap_i64]; omega
  obtain ⟨N, hN⟩ : ∃ N, d + m = N := ⟨_, rfl⟩
  have hN1 : IntKind.i64.wrap ((d : Int) + (m : Int)) = (N : Int) := by rw [IntKind.wrap_i64]; omega
  have hN2 : (d : Int) + (m : Int) = (N : Int) := by omega
  obtain ⟨p, hp⟩ : ∃ p, N = p + 1 := ⟨N - 1, by omega⟩
  have hp1 : IntKind.i64.wrap ((N : Int) - 1) = (p : Int) := by rw [IntKind.wrap_i64]; omega
  have hp2 : (N : Int) - 1 = (p : Int) := by omega
  have HN := Lib.hid (And.intro hd (And.intro hN hp))
  rw [hd] at hmd
  go_enter Tryz.func134, Tryz.ntmps134
  have hmdi : (d : Int) < (m : Int) := by omega
  clear hd hN hp
  obtain ⟨s0, hs0⟩ : ∃ s0, d + m = s0 + b := ⟨d + m - b, by omega⟩
  have hs0w : IntKind.i64.wrap ((N : Int) - (b : Int)) = (s0 : Int) := by rw [IntKind.wrap_i64]; omega
  have hs0w2 : (N : Int) - (b : Int) = (s0 : Int) := by omega
  have HS0 := Lib.hid hs0
  have has0 : a ≤ s0 := by omega
  have hs0d : s0 ≤ d := by omega
  have hs0m : s0 < m := by omega
  clear hs0
  go_wp2
  clear hma hmq hmw0 hmw hbm hbq hbw0 hbw hv1 hv2 hv3 hv4 hN1 hN2 hp1 hp2 hmdi hs0w hs0w2
  go_loopw [20, 21] (fun s t wr => ∃ (i j : Nat), s0 ≤ i ∧ i ≤ j ∧ j ≤ d ∧ s = .int .i64 i ∧ t = .int .i64 j ∧ Hid (i = s0 ∨ ¬ ltP (fld es (p - (i - 1))) (fld es ((i - 1)))) ∧ Hid (j = d ∨ ltP (fld es (p - j)) (fld es (j))) ∧ Hid (Own B wr 2 A n es) ∧ Hid (Below B w wr)) (fun s t _ => (intOf t - intOf s).toNat)
  case atStart => exact ⟨s0, d, by omega, by omega, by omega, by go_num, by go_num, Lib.hid (.inl rfl), Lib.hid (.inl rfl), H, Lib.hid (Below.refl _ _)⟩
  case round =>
    obtain ⟨i, j, hi0, hij, hj0, rfl, rfl, HL, HR, HO, HG⟩ := hrel
    by_cases hlt : i < j
    case pos =>
      have hlti : (i : Int) < (j : Int) := by omega
      have hBr : B ≤ wr.heap.size := Nat.le_trans hBw HG.out.size
      obtain ⟨c, hce⟩ : ∃ c, (i + j) / 2 = c := ⟨_, rfl⟩
      have hc1 : i ≤ c := by omega
      have hc2 : c < j := by omega
      have hw1 : IntKind.i64.wrap ((i : Int) + (j : Int)) = (i : Int) + (j : Int) := by rw [IntKind.wrap_i64]; omega
      have hw2 : IntKind.u64.wrap ((i : Int) + (j : Int)) = (i : Int) + (j : Int) := by rw [IntKind.wrap_u64]; omega
      have hw3 : ((i : Int) + (j : Int)) / 2 = (c : Int) := by omega
      have hw4 : IntKind.i64.wrap (c : Int) = (c : Int) := by rw [IntKind.wrap_i64]; omega
      have hw5 : IntKind.i64.wrap ((c : Int) + 1) = ((c + 1 : Nat) : Int) := by rw [IntKind.wrap_i64]; omega
      have hce2 := Lib.hid hce
      clear hce
      obtain ⟨z, hz⟩ : ∃ z, z + c = p := ⟨p - c, by have := HN.out; have := HS0.out; omega⟩
      have hzw : IntKind.i64.wrap ((p : Int) - (c : Int)) = (z : Int) := by have := HN.out; rw [IntKind.wrap_i64]; omega
      have hzw2 : (p : Int) - (c : Int) = (z : Int) := by omega
      have hzp := Lib.hid hz
      have hzb : z < b := by have := HN.out; have := HS0.out; omega
      clear hz
      obtain ⟨g, off, rfl⟩ : ∃ g off, A = some ⟨g, off, none⟩ := by
        obtain ⟨b', o, he, _⟩ := HO.out.2.resolve_left (by omega)
        exact ⟨b', o, he⟩
      obtain ⟨hgl, hB, hfz, hc⟩ : g < wr.heap.size ∧ B ≤ g ∧ (∀ o, wr.frozen? ⟨g, o, none⟩ = false) ∧ Hid (∀ i, i < n → ∀ q, q < 2 → wr.cell? ⟨g, off + i * 2 + q, none⟩ = some (.int .i64 (fld es i q))) := by
        obtain ⟨b', o, he, h1, h2, h3, h4⟩ := HO.out.2.resolve_left (by omega)
        injection he with he
        injection he with hb ho
        subst hb ho
        exact ⟨h1, h2, h3, h4⟩
      have c0 : wr.cell? ⟨g, off + z * 2, none⟩ = some (.int .i64 (fld es z 0)) := hc.out z (by omega) 0 (by omega)
      have c1 : wr.cell? ⟨g, off + z * 2 + 1, none⟩ = some (.int .i64 (fld es z 1)) := hc.out z (by omega) 1 (by omega)
      have d0 : wr.cell? ⟨g, off + c * 2, none⟩ = some (.int .i64 (fld es c 0)) := hc.out c (by omega) 0 (by omega)
      have d1 : wr.cell? ⟨g, off + c * 2 + 1, none⟩ = some (.int .i64 (fld es c 1)) := hc.out c (by omega) 1 (by omega)
      have hX0 : (0 : Int) ≤ (z : Int) := by omega
      have hXn : (z : Int) < (n : Int) := by omega
      have hY0 : (0 : Int) ≤ (c : Int) := by omega
      have hYn : (c : Int) < (n : Int) := by omega
      have hXn2 : z < n := by omega
      have hYn2 : c < n := by omega
      clear hc
      by_cases hL : ltP (fld es z) (fld es c)
      case pos =>
        have hcp : cmpP (fld es z) (fld es c) < 0 := cmpP_neg.2 hL
        have hcd : decide (cmpP (fld es z) (fld es c) < 0) = true := by simpa using hcp
        have HLL := Lib.hid hL
        clear hL
        go_wp2
        refine wp_region_bw (by kernel_rfl) (by kernel_rfl) (fun W hW => ?_)
        have q0 : ∀ pq : BW W, pq.w.cell? ⟨g, off + z * 2, none⟩ = some (.int .i64 (fld es z 0)) := fun pq => pq.cell (by rw [hW]; (first | omega | (simp; omega) | simp)) (by rw [hW]; (first | (go_keep; done) | (go_simp; done)))
        have q1 : ∀ pq : BW W, pq.w.cell? ⟨g, off + z * 2 + 1, none⟩ = some (.int .i64 (fld es z 1)) := fun pq => pq.cell (by rw [hW]; (first | omega | (simp; omega) | simp)) (by rw [hW]; (first | (go_keep; done) | (go_simp; done)))
        have q2 : ∀ pq : BW W, pq.w.cell? ⟨g, off + c * 2, none⟩ = some (.int .i64 (fld es c 0)) := fun pq => pq.cell (by rw [hW]; (first | omega | (simp; omega) | simp)) (by rw [hW]; (first | (go_keep; done) | (go_simp; done)))
        have q3 : ∀ pq : BW W, pq.w.cell? ⟨g, off + c * 2 + 1, none⟩ = some (.int .i64 (fld es c 1)) := fun pq => pq.cell (by rw [hW]; (first | omega | (simp; omega) | simp)) (by rw [hW]; (first | (go_keep; done) | (go_simp; done)))
        have hbW : Below wr.heap.size wr W := by rw [hW]; (repeat (first | with_reducible exact Below.refl _ _ | with_reducible refine Below.drew ?_ | with_reducible refine below_drewN ?_ _ | (with_reducible refine bel_alloc ?_ ?_ _; (first | omega | (simp; omega) | simp)) | (with_reducible refine bel_set ?_ ?_ _; (first | omega | (simp; omega) | simp)) | (with_reducible refine bel_tr (by assumption) ?_ ?_; (first | omega | (simp; omega) | simp))))
        have HW := Lib.hid hW
        clear hW
        repeat (go_big_quiet_step ((go_at_call 81; exact bw_of (comparePins_any (fld es z) (fld es c) _))))
        refine wpQuiet_nil ?_
        intro wq hq
        have hbq : Below W.heap.size W wq := by (obtain ⟨p, hp⟩ := hq; rw [hp]; exact p.below)
        clear hq
        have hbel4 : Below wr.heap.size wr wq := hbW.trans (hbq.mono hbW.size)
        have sq := hbel4.size
        clear hbW hbq HW q0 q1 q2 q3
        have hbB := hbel4.mono hBr
        go_wp2
        go_roundw
        case rel => clear hw1 hw2 hw3 hw4 hw5 hzw hzw2; exact ⟨i, c, hi0, hc1, by omega, rfl, by go_num, HL, Lib.hid (.inr (by rw [show p - c = z by have := hzp.out; omega]; exact HLL.out)), Lib.hid (HO.out.below hbel4), Lib.hid (HG.out.trans hbB)⟩
        case measure => clear hw1 hw2 hw3 hw4 hw5 hzw hzw2; simp [intOf]; omega
      have hcp : ¬ cmpP (fld es z) (fld es c) < 0 := fun h => hL (cmpP_neg.1 h)
      have hcd : decide (cmpP (fld es z) (fld es c) < 0) = false := by simpa using hcp
      have HLL := Lib.hid hL
      clear hL
      go_wp2
      refine wp_region_bw (by kernel_rfl) (by kernel_rfl) (fun W hW => ?_)
      have q0 : ∀ pq : BW W, pq.w.cell? ⟨g, off + z * 2, none⟩ = some (.int .i64 (fld es z 0)) := fun pq => pq.cell (by rw [hW]; (first | omega | (simp; omega) | simp)) (by rw [hW]; (first | (go_keep; done) | (go_simp; done)))
      have q1 : ∀ pq : BW W, pq.w.cell? ⟨g, off + z * 2 + 1, none⟩ = some (.int .i64 (fld es z 1)) := fun pq => pq.cell (by rw [hW]; (first | omega | (simp; omega) | simp)) (by rw [hW]; (first | (go_keep; done) | (go_simp; done)))
      have q2 : ∀ pq : BW W, pq.w.cell? ⟨g, off + c * 2, none⟩ = some (.int .i64 (fld es c 0)) := fun pq => pq.cell (by rw [hW]; (first | omega | (simp; omega) | simp)) (by rw [hW]; (first | (go_keep; done) | (go_simp; done)))
      have q3 : ∀ pq : BW W, pq.w.cell? ⟨g, off + c * 2 + 1, none⟩ = some (.int .i64 (fld es c 1)) := fun pq => pq.cell (by rw [hW]; (first | omega | (simp; omega) | simp)) (by rw [hW]; (first | (go_keep; done) | (go_simp; done)))
      have hbW : Below wr.heap.size wr W := by rw [hW]; (repeat (first | with_reducible exact Below.refl _ _ | with_reducible refine Below.drew ?_ | with_reducible refine below_drewN ?_ _ | (with_reducible refine bel_alloc ?_ ?_ _; (first | omega | (simp; omega) | simp)) | (with_reducible refine bel_set ?_ ?_ _; (first | omega | (simp; omega) | simp)) | (with_reducible refine bel_tr (by assumption) ?_ ?_; (first | omega | (simp; omega) | simp))))
      have HW := Lib.hid hW
      clear hW
      repeat (go_big_quiet_step ((go_at_call 81; exact bw_of (comparePins_any (fld es z) (fld es c) _))))
      refine wpQuiet_nil ?_
      intro wq hq
      have hbq : Below W.heap.size W wq := by (obtain ⟨p, hp⟩ := hq; rw [hp]; exact p.below)
      clear hq
      have hbel4 : Below wr.heap.size wr wq := hbW.trans (hbq.mono hbW.size)
      have sq := hbel4.size
      clear hbW hbq HW q0 q1 q2 q3
      have hbB := hbel4.mono hBr
      go_wp2
      go_roundw
      case rel => clear hw1 hw2 hw3 hw4 hw5 hzw hzw2; exact ⟨c + 1, j, by omega, by omega, hj0, by go_num, rfl, Lib.hid (.inr (by rw [show c + 1 - 1 = c by omega]; rw [show p - c = z by have := hzp.out; omega]; exact HLL.out)), HR, Lib.hid (HO.out.below hbel4), Lib.hid (HG.out.trans hbB)⟩
      case measure => clear hw1 hw2 hw3 hw4 hw5 hzw hzw2; simp [intOf]; omega
    have hij2 : i = j := by omega
    subst hij2
    have hlti : ¬ (i : Int) < (i : Int) := by omega
    clear hlt
    obtain ⟨e, he⟩ : ∃ e, e + i = N := ⟨N - i, by have := HN.out; omega⟩
    have hew : IntKind.i64.wrap ((N : Int) - (i : Int)) = (e : Int) := by have := HN.out; rw [IntKind.wrap_i64]; omega
    have hew2 : (N : Int) - (i : Int) = (e : Int) := by omega
    have hme : m ≤ e := by have := HN.out; omega
    have heb : e ≤ b := by have := HN.out; have := HS0.out; omega
    have him : i ≤ m := by omega
    have hid : i ≤ d := by omega
    have hai : a ≤ i := by omega
    have hde : d ≤ e := by have := HN.out; omega
    have HE := Lib.hid he
    clear he
    have HP : Hid (ParD (rotL es i m e) es a i d e b) := Lib.hid (mrg_mid S1.out S2.out (by omega) hai him hme heb (by have := HN.out; have := HE.out; omega) (if h0 : i = s0 then (.inr (.inl (by have := HN.out; have := HE.out; have := HS0.out; omega))) else .inr (.inr (by have h := HL.out.resolve_left h0; rw [show p - (i - 1) = e by have := HN.out; have := HE.out; omega] at h; exact h))) (HR.out.elim (fun h => .inr (.inl (by have := HN.out; have := HE.out; omega))) (fun h => .inr (.inr (by rw [show p - i = e - 1 by have := HN.out; have := HE.out; omega] at h; exact h)))))
    by_cases c1 : m < e
    case pos =>
      have t11 : (i : Int) < (m : Int) := (by have := HN.out; have := HE.out; omega)
      have t12 : (m : Int) < (e : Int) := (by have := HN.out; have := HE.out; omega)
      go_upto_region 41 with (go_at_call 145; refine (rotP_any B A cap n i m e es _ hn hnc hcm (Nat.le_trans hBw HG.out.size) (by have := HN.out; have := HE.out; omega) (by have := HN.out; have := HE.out; omega) (by omega) HO.out).mono ?_; rintro y w3 ⟨rfl, o3, b3⟩)
      have HO1 := Lib.hid o3
      have HG1 := Lib.hid (HG.out.trans b3)
      clear o3 b3
      by_cases c2 : a < i
      case pos =>
        have t21 : (a : Int) < (i : Int) := (by have := HN.out; have := HE.out; omega)
        have t22 : (i : Int) < (d : Int) := (by have := HN.out; have := HE.out; omega)
        go_upto_region 43 with (go_at_call 134; refine (ih a i d _ _ (by omega) (Nat.le_trans hBw HG1.out.size) (by have := HN.out; have := HE.out; omega) (by have := HN.out; have := HE.out; omega) (by omega) HP.out.2.2.2.1 HP.out.2.2.2.2.1 HO1.out).mono ?_; rintro y w4 ⟨rfl, es4, o4, m4, b4⟩)
        have HO2 := Lib.hid o4
        have HG2 := Lib.hid (HG1.out.trans b4)
        have HM2 := Lib.hid m4
        clear o4 b4 m4
        by_cases c3 : e < b
        case pos =>
          have t31 : (d : Int) < (e : Int) := (by have := HN.out; have := HE.out; omega)
          have t32 : (e : Int) < (b : Int) := (by have := HN.out; have := HE.out; omega)
          have M2 := HM2.out
          have P := HP.out
          have s4 := P.2.2.2.2.2.1.out M2.2.2.2 (.inr (Nat.le_refl _))
          have s5 := P.2.2.2.2.2.2.1.out M2.2.2.2 (.inr hde)
          have hlen2 := HO1.out.1
          go_wp2_with (go_at_call 134; refine (ih d e b _ _ (by omega) (Nat.le_trans hBw HG2.out.size) (by have := HN.out; have := HE.out; omega) (by have := HN.out; have := HE.out; omega) hbn s4 s5 HO2.out).mono ?_; rintro y w5 ⟨rfl, es5, o5, m5, b5⟩)
          exact bodyPost_end (results_none rfl _ _ _) rfl ⟨rfl, es5, o5, P.done (by omega) (by omega) (by omega) M2 m5, HG2.out.trans b5⟩
        case neg =>
          have t31 : (d : Int) < (e : Int) := (by have := HN.out; have := HE.out; omega)
          have t32 : ¬ (e : Int) < (b : Int) := (by have := HN.out; have := HE.out; omega)
          have M2 := HM2.out
          have P := HP.out
          have s4 := P.2.2.2.2.2.1.out M2.2.2.2 (.inr (Nat.le_refl _))
          have s5 := P.2.2.2.2.2.2.1.out M2.2.2.2 (.inr hde)
          have hlen2 := HO1.out.1
          go_wp2
          exact bodyPost_end (results_none rfl _ _ _) rfl ⟨rfl, _, HO2.out, P.done (by omega) (by omega) (by omega) M2 (MrgD.refl (by exact s4.sub (Nat.le_refl _) (by have := HN.out; have := HE.out; omega))), HG2.out⟩
      case neg =>
        have t21 : ¬ (a : Int) < (i : Int) := (by have := HN.out; have := HE.out; omega)
        go_upto_region 43 with fail
        have HO2 := HO1
        have HG2 := HG1
        have HM2 : Hid (MrgD (rotL es i m e) (rotL es i m e) a d) := Lib.hid (MrgD.refl (by have P := HP.out; exact P.2.2.2.2.1.sub (by have := HN.out; have := HE.out; omega) (Nat.le_refl _)))
        by_cases c3 : e < b
        case pos =>
          have t31 : (d : Int) < (e : Int) := (by have := HN.out; have := HE.out; omega)
          have t32 : (e : Int) < (b : Int) := (by have := HN.out; have := HE.out; omega)
          have M2 := HM2.out
          have P := HP.out
          have s4 := P.2.2.2.2.2.1.out M2.2.2.2 (.inr (Nat.le_refl _))
          have s5 := P.2.2.2.2.2.2.1.out M2.2.2.2 (.inr hde)
          have hlen2 := HO1.out.1
          go_wp2_with (go_at_call 134; refine (ih d e b _ _ (by omega) (Nat.le_trans hBw HG2.out.size) (by have := HN.out; have := HE.out; omega) (by have := HN.out; have := HE.out; omega) hbn s4 s5 HO2.out).mono ?_; rintro y w5 ⟨rfl, es5, o5, m5, b5⟩)
          exact bodyPost_end (results_none rfl _ _ _) rfl ⟨rfl, es5, o5, P.done (by omega) (by omega) (by omega) M2 m5, HG2.out.trans b5⟩
        case neg =>
          have t31 : (d : Int) < (e : Int) := (by have := HN.out; have := HE.out; omega)
          have t32 : ¬ (e : Int) < (b : Int) := (by have := HN.out; have := HE.out; omega)
          have M2 := HM2.out
          have P := HP.out
          have s4 := P.2.2.2.2.2.1.out M2.2.2.2 (.inr (Nat.le_refl _))
          have s5 := P.2.2.2.2.2.2.1.out M2.2.2.2 (.inr hde)
          have hlen2 := HO1.out.1
          go_wp2
          exact bodyPost_end (results_none rfl _ _ _) rfl ⟨rfl, _, HO2.out, P.done (by omega) (by omega) (by omega) M2 (MrgD.refl (by exact s4.sub (Nat.le_refl _) (by have := HN.out; have := HE.out; omega))), HG2.out⟩
    case neg =>
      have t11 : (i : Int) < (m : Int) := (by have := HN.out; have := HE.out; omega)
      have t12 : ¬ (m : Int) < (e : Int) := (by have := HN.out; have := HE.out; omega)
      go_upto_region 41 with fail
      have HO1 : Hid (Own B wr 2 A n (rotL es i m e)) := Lib.hid (by rw [show e = m from (by have := HN.out; have := HE.out; omega), rotL_nil him (by omega)]; exact HO.out)
      have HG1 := HG
      have t21 : (a : Int) < (i : Int) := (by have := HN.out; have := HE.out; omega)
      have t22 : ¬ (i : Int) < (d : Int) := (by have := HN.out; have := HE.out; omega)
      go_upto_region 43 with fail
      have HO2 := HO1
      have HG2 := HG1
      have HM2 : Hid (MrgD (rotL es i m e) (rotL es i m e) a d) := Lib.hid (MrgD.refl (by have P := HP.out; exact P.2.2.2.1.sub (Nat.le_refl _) (by have := HN.out; have := HE.out; omega)))
      have t31 : (d : Int) < (e : Int) := (by have := HN.out; have := HE.out; omega)
      have t32 : (e : Int) < (b : Int) := (by have := HN.out; have := HE.out; omega)
      have M2 := HM2.out
      have P := HP.out
      have s4 := P.2.2.2.2.2.1.out M2.2.2.2 (.inr (Nat.le_refl _))
      have s5 := P.2.2.2.2.2.2.1.out M2.2.2.2 (.inr hde)
      have hlen2 := HO1.out.1
      go_wp2_with (go_at_call 134; refine (ih d e b _ _ (by omega) (Nat.le_trans hBw HG2.out.size) (by have := HN.out; have := HE.out; omega) (by have := HN.out; have := HE.out; omega) hbn s4 s5 HO2.out).mono ?_; rintro y w5 ⟨rfl, es5, o5, m5, b5⟩)
      exact bodyPost_end (results_none rfl _ _ _) rfl ⟨rfl, es5, o5, P.done (by omega) (by omega) (by omega) M2 m5, HG2.out.trans b5⟩

set_option maxRecDepth 100000 in
set_option maxHeartbeats 8000000 in
theorem sm3bP_any (B : Nat) (A : Option Addr) (cap n a m b : Nat) (es : List (Nat → Int)) (w : World) (hn : n ≤ 4194304) (hnc : n ≤ cap) (hcm : cap ≤ 9223372036854775807) (hBw : B ≤ w.heap.size) (_ham : a < m) (_hmb : m < b) (hbn : b ≤ n) (hmd : ¬ (a + b) / 2 < m) (hm0 : a + 1 < m) (hm : m + 1 < b) (ih : ∀ (a2 m2 b2 : Nat) (es2 : List (Nat → Int)) (w2 : World), b2 - a2 < b - a → B ≤ w2.heap.size → a2 < m2 → m2 < b2 → b2 ≤ n → SrtR es2 a2 m2 → SrtR es2 m2 b2 → Own B w2 2 A n es2 → Calls Tryz.prog 134 #[.slice A n cap, .int .i64 a2, .int .i64 m2, .int .i64 b2, .func (.func 81) #[] #[]] w2 (SymD B 2 n a2 b2 A es2 w2)) (hs1 : SrtR es a m) (hs2 : SrtR es m b) (h : Own B w 2 A n es) :
    Calls Tryz.prog 134 #[.slice A n cap, .int .i64 a, .int .i64 m, .int .i64 b, .func (.func 81) #[] #[]] w (SymD B 2 n a b A es w) := by
  have H := Lib.hid h
  have S1 := Lib.hid hs1
  have S2 := Lib.hid hs2
  have hlen := h.1
  clear h hs1 hs2
  have hma : ¬ (m : Int) - (a : Int) = 1 := by omega
  have hmq : (((m : Int) - (a : Int)) == 1) = false := by simpa using hma
  have hmw0 : IntKind.i64.wrap ((m : Int) - (a : Int)) = (m : Int) - (a : Int) := by rw [IntKind.wrap_i64]; omega
  have hmw : ¬ IntKind.i64.wrap ((m : Int) - (a : Int)) = 1 := by rw [IntKind.wrap_i64]; omega
  have hbm : ¬ (b : Int) - (m : Int) = 1 := by omega
  have hbq : (((b : Int) - (m : Int)) == 1) = false := by simpa using hbm
  have hbw0 : IntKind.i64.wrap ((b : Int) - (m : Int)) = (b : Int) - (m : Int) := by rw [IntKind.wrap_i64]; omega
  have hbw : ¬ IntKind.i64.wrap ((b : Int) - (m : Int)) = 1 := by rw [IntKind.wrap_i64]; omega
  obtain ⟨d, hd⟩ : ∃ d, (a + b) / 2 = d := ⟨_, rfl⟩
  have had : a + 1 < d := by omega
  have hdb : d < b := by omega
  have hv1 : IntKind.i64.wrap ((a : Int) + (b : Int)) = (a : Int) + (b : Int) := by rw [IntKind.wrap_i64]; omega
  have hv2 : IntKind.u64.wrap ((a : Int) + (b : Int)) = (a : Int) + (b : Int) := by rw [IntKind.wrap_u64]; omega
  have hv3 : ((a : Int) + (b : Int)) / 2 = (d : Int) := by omega
  have hv4 : IntKind.i64.wrap (d : Int) = (d : Int) := by rw [IntKind.wrap_i64]; omega
  obtain ⟨N, hN⟩ : ∃ N, d + m = N := ⟨_, rfl⟩
  have hN1 : IntKind.i64.wrap ((d : Int) + (m : Int)) = (N : Int) := by rw [IntKind.wrap_i64]; omega
  have hN2 : (d : Int) + (m : Int) = (N : Int) := by omega
  obtain ⟨p, hp⟩ : ∃ p, N = p + 1 := ⟨N - 1, by omega⟩
  have hp1 : IntKind.i64.wrap ((N : Int) - 1) = (p : Int) := by rw [IntKind.wrap_i64]; omega
  have hp2 : (N : Int) - 1 = (p : Int) := by omega
  have HN := Lib.hid (And.intro hd (And.intro hN hp))
  rw [hd] at hmd
  go_enter Tryz.func134, Tryz.ntmps134
  have hmdi : ¬ (d : Int) < (m : Int) := by omega
  clear hd hN hp
  go_wp2
  clear hma hmq hmw0 hmw hbm hbq hbw0 hbw hv1 hv2 hv3 hv4 hN1 hN2 hp1 hp2 hmdi
  go_loopw [20, 21] (fun s t wr => ∃ (i j : Nat), a ≤ i ∧ i ≤ j ∧ j ≤ m ∧ s = .int .i64 i ∧ t = .int .i64 j ∧ Hid (i = a ∨ ¬ ltP (fld es (p - (i - 1))) (fld es ((i - 1)))) ∧ Hid (j = m ∨ ltP (fld es (p - j)) (fld es (j))) ∧ Hid (Own B wr 2 A n es) ∧ Hid (Below B w wr)) (fun s t _ => (intOf t - intOf s).toNat)
  case atStart => exact ⟨a, m, by omega, by omega, by omega, by go_num, by go_num, Lib.hid (.inl rfl), Lib.hid (.inl rfl), H, Lib.hid (Below.refl _ _)⟩
  case round =>
    obtain ⟨i, j, hi0, hij, hj0, rfl, rfl, HL, HR, HO, HG⟩ := hrel
    by_cases hlt : i < j
    case pos =>
      have hlti : (i : Int) < (j : Int) := by omega
      have hBr : B ≤ wr.heap.size := Nat.le_trans hBw HG.out.size
      obtain ⟨c, hce⟩ : ∃ c, (i + j) / 2 = c := ⟨_, rfl⟩
      have hc1 : i ≤ c := by omega
      have hc2 : c < j := by omega
      have hw1 : IntKind.i64.wrap ((i : Int) + (j : Int)) = (i : Int) + (j : Int) := by rw [IntKind.wrap_i64]; omega
      have hw2 : IntKind.u64.wrap ((i : Int) + (j : Int)) = (i : Int) + (j : Int) := by rw [IntKind.wrap_u64]; omega
      have hw3 : ((i : Int) + (j : Int)) / 2 = (c : Int) := by omega
      have hw4 : IntKind.i64.wrap (c : Int) = (c : Int) := by rw [IntKind.wrap_i64]; omega
      have hw5 : IntKind.i64.wrap ((c : Int) + 1) = ((c + 1 : Nat) : Int) := by rw [IntKind.wrap_i64]; omega
      have hce2 := Lib.hid hce
      clear hce
      obtain ⟨z, hz⟩ : ∃ z, z + c = p := ⟨p - c, by have := HN.out; omega⟩
      have hzw : IntKind.i64.wrap ((p : Int) - (c : Int)) = (z : Int) := by have := HN.out; rw [IntKind.wrap_i64]; omega
      have hzw2 : (p : Int) - (c : Int) = (z : Int) := by omega
      have hzp := Lib.hid hz
      have hzb : z < b := by have := HN.out; omega
      clear hz
      obtain ⟨g, off, rfl⟩ : ∃ g off, A = some ⟨g, off, none⟩ := by
        obtain ⟨b', o, he, _⟩ := HO.out.2.resolve_left (by omega)
        exact ⟨b', o, he⟩
      obtain ⟨hgl, hB, hfz, hc⟩ : g < wr.heap.size ∧ B ≤ g ∧ (∀ o, wr.frozen? ⟨g, o, none⟩ = false) ∧ Hid (∀ i, i < n → ∀ q, q < 2 → wr.cell? ⟨g, off + i * 2 + q, none⟩ = some (.int .i64 (fld es i q))) := by
        obtain ⟨b', o, he, h1, h2, h3, h4⟩ := HO.out.2.resolve_left (by omega)
        injection he with he
        injection he with hb ho
        subst hb ho
        exact ⟨h1, h2, h3, h4⟩
      have c0 : wr.cell? ⟨g, off + z * 2, none⟩ = some (.int .i64 (fld es z 0)) := hc.out z (by omega) 0 (by omega)
      have c1 : wr.cell? ⟨g, off + z * 2 + 1, none⟩ = some (.int .i64 (fld es z 1)) := hc.out z (by omega) 1 (by omega)
      have d0 : wr.cell? ⟨g, off + c * 2, none⟩ = some (.int .i64 (fld es c 0)) := hc.out c (by omega) 0 (by omega)
      have d1 : wr.cell? ⟨g, off + c * 2 + 1, none⟩ = some (.int .i64 (fld es c 1)) := hc.out c (by omega) 1 (by omega)
      have hX0 : (0 : Int) ≤ (z : Int) := by omega
      have hXn : (z : Int) < (n : Int) := by omega
      have hY0 : (0 : Int) ≤ (c : Int) := by omega
      have hYn : (c : Int) < (n : Int) := by omega
      have hXn2 : z < n := by omega
      have hYn2 : c < n := by omega
      clear hc
      by_cases hL : ltP (fld es z) (fld es c)
      case pos =>
        have hcp : cmpP (fld es z) (fld es c) < 0 := cmpP_neg.2 hL
        have hcd : decide (cmpP (fld es z) (fld es c) < 0) = true := by simpa using hcp
        have HLL := Lib.hid hL
        clear hL
        go_wp2
        refine wp_region_bw (by kernel_rfl) (by kernel_rfl) (fun W hW => ?_)
        have q0 : ∀ pq : BW W, pq.w.cell? ⟨g, off + z * 2, none⟩ = some (.int .i64 (fld es z 0)) := fun pq => pq.cell (by rw [hW]; (first | omega | (simp; omega) | simp)) (by rw [hW]; (first | (go_keep; done) | (go_simp; done)))
        have q1 : ∀ pq : BW W, pq.w.cell? ⟨g, off + z * 2 + 1, none⟩ = some (.int .i64 (fld es z 1)) := fun pq => pq.cell (by rw [hW]; (first | omega | (simp; omega) | simp)) (by rw [hW]; (first | (go_keep; done) | (go_simp; done)))
        have q2 : ∀ pq : BW W, pq.w.cell? ⟨g, off + c * 2, none⟩ = some (.int .i64 (fld es c 0)) := fun pq => pq.cell (by rw [hW]; (first | omega | (simp; omega) | simp)) (by rw [hW]; (first | (go_keep; done) | (go_simp; done)))
        have q3 : ∀ pq : BW W, pq.w.cell? ⟨g, off + c * 2 + 1, none⟩ = some (.int .i64 (fld es c 1)) := fun pq => pq.cell (by rw [hW]; (first | omega | (simp; omega) | simp)) (by rw [hW]; (first | (go_keep; done) | (go_simp; done)))
        have hbW : Below wr.heap.size wr W := by rw [hW]; (repeat (first | with_reducible exact Below.refl _ _ | with_reducible refine Below.drew ?_ | with_reducible refine below_drewN ?_ _ | (with_reducible refine bel_alloc ?_ ?_ _; (first | omega | (simp; omega) | simp)) | (with_reducible refine bel_set ?_ ?_ _; (first | omega | (simp; omega) | simp)) | (with_reducible refine bel_tr (by assumption) ?_ ?_; (first | omega | (simp; omega) | simp))))
        have HW := Lib.hid hW
        clear hW
        repeat (go_big_quiet_step ((go_at_call 81; exact bw_of (comparePins_any (fld es z) (fld es c) _))))
        refine wpQuiet_nil ?_
        intro wq hq
        have hbq : Below W.heap.size W wq := by (obtain ⟨p, hp⟩ := hq; rw [hp]; exact p.below)
        clear hq
        have hbel4 : Below wr.heap.size wr wq := hbW.trans (hbq.mono hbW.size)
        have sq := hbel4.size
        clear hbW hbq HW q0 q1 q2 q3
        have hbB := hbel4.mono hBr
        go_wp2
        go_roundw
        case rel => clear hw1 hw2 hw3 hw4 hw5 hzw hzw2; exact ⟨i, c, hi0, hc1, by omega, rfl, by go_num, HL, Lib.hid (.inr (by rw [show p - c = z by have := hzp.out; omega]; exact HLL.out)), Lib.hid (HO.out.below hbel4), Lib.hid (HG.out.trans hbB)⟩
        case measure => clear hw1 hw2 hw3 hw4 hw5 hzw hzw2; simp [intOf]; omega
      have hcp : ¬ cmpP (fld es z) (fld es c) < 0 := fun h => hL (cmpP_neg.1 h)
      have hcd : decide (cmpP (fld es z) (fld es c) < 0) = false := by simpa using hcp
      have HLL := Lib.hid hL
      clear hL
      go_wp2
      refine wp_region_bw (by kernel_rfl) (by kernel_rfl) (fun W hW => ?_)
      have q0 : ∀ pq : BW W, pq.w.cell? ⟨g, off + z * 2, none⟩ = some (.int .i64 (fld es z 0)) := fun pq => pq.cell (by rw [hW]; (first | omega | (simp; omega) | simp)) (by rw [hW]; (first | (go_keep; done) | (go_simp; done)))
      have q1 : ∀ pq : BW W, pq.w.cell? ⟨g, off + z * 2 + 1, none⟩ = some (.int .i64 (fld es z 1)) := fun pq => pq.cell (by rw [hW]; (first | omega | (simp; omega) | simp)) (by rw [hW]; (first | (go_keep; done) | (go_simp; done)))
      have q2 : ∀ pq : BW W, pq.w.cell? ⟨g, off + c * 2, none⟩ = some (.int .i64 (fld es c 0)) := fun pq => pq.cell (by rw [hW]; (first | omega | (simp; omega) | simp)) (by rw [hW]; (first | (go_keep; done) | (go_simp; done)))
      have q3 : ∀ pq : BW W, pq.w.cell? ⟨g, off + c * 2 + 1, none⟩ = some (.int .i64 (fld es c 1)) := fun pq => pq.cell (by rw [hW]; (first | omega | (simp; omega) | simp)) (by rw [hW]; (first | (go_keep; done) | (go_simp; done)))
      have hbW : Below wr.heap.size wr W := by rw [hW]; (repeat (first | with_reducible exact Below.refl _ _ | with_reducible refine Below.drew ?_ | with_reducible refine below_drewN ?_ _ | (with_reducible refine bel_alloc ?_ ?_ _; (first | omega | (simp; omega) | simp)) | (with_reducible refine bel_set ?_ ?_ _; (first | omega | (simp; omega) | simp)) | (with_reducible refine bel_tr (by assumption) ?_ ?_; (first | omega | (simp; omega) | simp))))
      have HW := Lib.hid hW
      clear hW
      repeat (go_big_quiet_step ((go_at_call 81; exact bw_of (comparePins_any (fld es z) (fld es c) _))))
      refine wpQuiet_nil ?_
      intro wq hq
      have hbq : Below W.heap.size W wq := by (obtain ⟨p, hp⟩ := hq; rw [hp]; exact p.below)
      clear hq
      have hbel4 : Below wr.heap.size wr wq := hbW.trans (hbq.mono hbW.size)
      have sq := hbel4.size
      clear hbW hbq HW q0 q1 q2 q3
      have hbB := hbel4.mono hBr
      go_wp2
      go_roundw
      case rel => clear hw1 hw2 hw3 hw4 hw5 hzw hzw2; exact ⟨c + 1, j, by omega, by omega, hj0, by go_num, rfl, Lib.hid (.inr (by rw [show c + 1 - 1 = c by omega]; rw [show p - c = z by have := hzp.out; omega]; exact HLL.out)), HR, Lib.hid (HO.out.below hbel4), Lib.hid (HG.out.trans hbB)⟩
      case measure => clear hw1 hw2 hw3 hw4 hw5 hzw hzw2; simp [intOf]; omega
    have hij2 : i = j := by omega
    subst hij2
    have hlti : ¬ (i : Int) < (i : Int) := by omega
    clear hlt
    obtain ⟨e, he⟩ : ∃ e, e + i = N := ⟨N - i, by have := HN.out; omega⟩
    have hew : IntKind.i64.wrap ((N : Int) - (i : Int)) = (e : Int) := by have := HN.out; rw [IntKind.wrap_i64]; omega
    have hew2 : (N : Int) - (i : Int) = (e : Int) := by omega
    have hme : m ≤ e := by have := HN.out; omega
    have heb : e ≤ b := by have := HN.out; omega
    have him : i ≤ m := by omega
    have hid : i ≤ d := by omega
    have hai : a ≤ i := by omega
    have hde : d ≤ e := by have := HN.out; omega
    have HE := Lib.hid he
    clear he
    have HP : Hid (ParD (rotL es i m e) es a i d e b) := Lib.hid (mrg_mid S1.out S2.out (by omega) hai him hme heb (by have := HN.out; have := HE.out; omega) (if h0 : i = a then (.inl h0) else .inr (.inr (by have h := HL.out.resolve_left h0; rw [show p - (i - 1) = e by have := HN.out; have := HE.out; omega] at h; exact h))) (HR.out.elim (fun h => .inl h) (fun h => .inr (.inr (by rw [show p - i = e - 1 by have := HN.out; have := HE.out; omega] at h; exact h)))))
    by_cases c1 : i < m
    case pos =>
      have t11 : (i : Int) < (m : Int) := (by have := HN.out; have := HE.out; omega)
      have t12 : (m : Int) < (e : Int) := (by have := HN.out; have := HE.out; omega)
      go_upto_region 41 with (go_at_call 145; refine (rotP_any B A cap n i m e es _ hn hnc hcm (Nat.le_trans hBw HG.out.size) (by have := HN.out; have := HE.out; omega) (by have := HN.out; have := HE.out; omega) (by omega) HO.out).mono ?_; rintro y w3 ⟨rfl, o3, b3⟩)
      have HO1 := Lib.hid o3
      have HG1 := Lib.hid (HG.out.trans b3)
      clear o3 b3
      by_cases c2 : a < i
      case pos =>
        have t21 : (a : Int) < (i : Int) := (by have := HN.out; have := HE.out; omega)
        have t22 : (i : Int) < (d : Int) := (by have := HN.out; have := HE.out; omega)
        go_upto_region 43 with (go_at_call 134; refine (ih a i d _ _ (by omega) (Nat.le_trans hBw HG1.out.size) (by have := HN.out; have := HE.out; omega) (by have := HN.out; have := HE.out; omega) (by omega) HP.out.2.2.2.1 HP.out.2.2.2.2.1 HO1.out).mono ?_; rintro y w4 ⟨rfl, es4, o4, m4, b4⟩)
        have HO2 := Lib.hid o4
        have HG2 := Lib.hid (HG1.out.trans b4)
        have HM2 := Lib.hid m4
        clear o4 b4 m4
        by_cases c3 : e < b
        case pos =>
          have t31 : (d : Int) < (e : Int) := (by have := HN.out; have := HE.out; omega)
          have t32 : (e : Int) < (b : Int) := (by have := HN.out; have := HE.out; omega)
          have M2 := HM2.out
          have P := HP.out
          have s4 := P.2.2.2.2.2.1.out M2.2.2.2 (.inr (Nat.le_refl _))
          have s5 := P.2.2.2.2.2.2.1.out M2.2.2.2 (.inr hde)
          have hlen2 := HO1.out.1
          go_wp2_with (go_at_call 134; refine (ih d e b _ _ (by omega) (Nat.le_trans hBw HG2.out.size) (by have := HN.out; have := HE.out; omega) (by have := HN.out; have := HE.out; omega) hbn s4 s5 HO2.out).mono ?_; rintro y w5 ⟨rfl, es5, o5, m5, b5⟩)
          exact bodyPost_end (results_none rfl _ _ _) rfl ⟨rfl, es5, o5, P.done (by omega) (by omega) (by omega) M2 m5, HG2.out.trans b5⟩
        case neg =>
          have t31 : (d : Int) < (e : Int) := (by have := HN.out; have := HE.out; omega)
          have t32 : ¬ (e : Int) < (b : Int) := (by have := HN.out; have := HE.out; omega)
          have M2 := HM2.out
          have P := HP.out
          have s4 := P.2.2.2.2.2.1.out M2.2.2.2 (.inr (Nat.le_refl _))
          have s5 := P.2.2.2.2.2.2.1.out M2.2.2.2 (.inr hde)
          have hlen2 := HO1.out.1
          go_wp2
          exact bodyPost_end (results_none rfl _ _ _) rfl ⟨rfl, _, HO2.out, P.done (by omega) (by omega) (by omega) M2 (MrgD.refl (by exact s4.sub (Nat.le_refl _) (by have := HN.out; have := HE.out; omega))), HG2.out⟩
      case neg =>
        have t21 : ¬ (a : Int) < (i : Int) := (by have := HN.out; have := HE.out; omega)
        go_upto_region 43 with fail
        have HO2 := HO1
        have HG2 := HG1
        have HM2 : Hid (MrgD (rotL es i m e) (rotL es i m e) a d) := Lib.hid (MrgD.refl (by have P := HP.out; exact P.2.2.2.2.1.sub (by have := HN.out; have := HE.out; omega) (Nat.le_refl _)))
        by_cases c3 : e < b
        case pos =>
          have t31 : (d : Int) < (e : Int) := (by have := HN.out; have := HE.out; omega)
          have t32 : (e : Int) < (b : Int) := (by have := HN.out; have := HE.out; omega)
          have M2 := HM2.out
          have P := HP.out
          have s4 := P.2.2.2.2.2.1.out M2.2.2.2 (.inr (Nat.le_refl _))
          have s5 := P.2.2.2.2.2.2.1.out M2.2.2.2 (.inr hde)
          have hlen2 := HO1.out.1
          go_wp2_with (go_at_call 134; refine (ih d e b _ _ (by omega) (Nat.le_trans hBw HG2.out.size) (by have := HN.out; have := HE.out; omega) (by have := HN.out; have := HE.out; omega) hbn s4 s5 HO2.out).mono ?_; rintro y w5 ⟨rfl, es5, o5, m5, b5⟩)
          exact bodyPost_end (results_none rfl _ _ _) rfl ⟨rfl, es5, o5, P.done (by omega) (by omega) (by omega) M2 m5, HG2.out.trans b5⟩
        case neg =>
          have t31 : (d : Int) < (e : Int) := (by have := HN.out; have := HE.out; omega)
          have t32 : ¬ (e : Int) < (b : Int) := (by have := HN.out; have := HE.out; omega)
          have M2 := HM2.out
          have P := HP.out
          have s4 := P.2.2.2.2.2.1.out M2.2.2.2 (.inr (Nat.le_refl _))
          have s5 := P.2.2.2.2.2.2.1.out M2.2.2.2 (.inr hde)
          have hlen2 := HO1.out.1
          go_wp2
          exact bodyPost_end (results_none rfl _ _ _) rfl ⟨rfl, _, HO2.out, P.done (by omega) (by omega) (by omega) M2 (MrgD.refl (by exact s4.sub (Nat.le_refl _) (by have := HN.out; have := HE.out; omega))), HG2.out⟩
    case neg =>
      have t11 : ¬ (i : Int) < (m : Int) := (by have := HN.out; have := HE.out; omega)
      go_upto_region 41 with fail
      have HO1 : Hid (Own B wr 2 A n (rotL es i m e)) := Lib.hid (by rw [show i = m from (by have := HN.out; have := HE.out; omega), rotL_nil2 hme (by omega)]; exact HO.out)
      have HG1 := HG
      by_cases c2 : m < d
      case pos =>
        have t21 : (a : Int) < (i : Int) := (by have := HN.out; have := HE.out; omega)
        have t22 : (i : Int) < (d : Int) := (by have := HN.out; have := HE.out; omega)
        go_upto_region 43 with (go_at_call 134; refine (ih a i d _ _ (by omega) (Nat.le_trans hBw HG1.out.size) (by have := HN.out; have := HE.out; omega) (by have := HN.out; have := HE.out; omega) (by omega) HP.out.2.2.2.1 HP.out.2.2.2.2.1 HO1.out).mono ?_; rintro y w4 ⟨rfl, es4, o4, m4, b4⟩)
        have HO2 := Lib.hid o4
        have HG2 := Lib.hid (HG1.out.trans b4)
        have HM2 := Lib.hid m4
        clear o4 b4 m4
        have t31 : ¬ (d : Int) < (e : Int) := (by have := HN.out; have := HE.out; omega)
        have M2 := HM2.out
        have P := HP.out
        have s4 := P.2.2.2.2.2.1.out M2.2.2.2 (.inr (Nat.le_refl _))
        have s5 := P.2.2.2.2.2.2.1.out M2.2.2.2 (.inr hde)
        have hlen2 := HO1.out.1
        go_wp2
        exact bodyPost_end (results_none rfl _ _ _) rfl ⟨rfl, _, HO2.out, P.done (by omega) (by omega) (by omega) M2 (MrgD.refl (by exact s5.sub (by have := HN.out; have := HE.out; omega) (Nat.le_refl _))), HG2.out⟩
      case neg =>
        have t21 : (a : Int) < (i : Int) := (by have := HN.out; have := HE.out; omega)
        have t22 : ¬ (i : Int) < (d : Int) := (by have := HN.out; have := HE.out; omega)
        go_upto_region 43 with fail
        have HO2 := HO1
        have HG2 := HG1
        have HM2 : Hid (MrgD (rotL es i m e) (rotL es i m e) a d) := Lib.hid (MrgD.refl (by have P := HP.out; exact P.2.2.2.1.sub (Nat.le_refl _) (by have := HN.out; have := HE.out; omega)))
        have t31 : ¬ (d : Int) < (e : Int) := (by have := HN.out; have := HE.out; omega)
        have M2 := HM2.out
        have P := HP.out
        have s4 := P.2.2.2.2.2.1.out M2.2.2.2 (.inr (Nat.le_refl _))
        have s5 := P.2.2.2.2.2.2.1.out M2.2.2.2 (.inr hde)
        have hlen2 := HO1.out.1
        go_wp2
        exact bodyPost_end (results_none rfl _ _ _) rfl ⟨rfl, _, HO2.out, P.done (by omega) (by omega) (by omega) M2 (MrgD.refl (by exact s5.sub (by have := HN.out; have := HE.out; omega) (Nat.le_refl _))), HG2.out⟩

theorem smP_ih (B : Nat) (A : Option Addr) (cap n : Nat) (hn : n ≤ 4194304) (hnc : n ≤ cap) (hcm : cap ≤ 9223372036854775807) : ∀ (k a m b : Nat) (es : List (Nat → Int)) (w : World), b - a < k → B ≤ w.heap.size → a < m → m < b → b ≤ n → SrtR es a m → SrtR es m b → Own B w 2 A n es → Calls Tryz.prog 134 #[.slice A n cap, .int .i64 a, .int .i64 m, .int .i64 b, .func (.func 81) #[] #[]] w (SymD B 2 n a b A es w)
  | 0, _, _, _, _, _, hk, _, _, _, _, _, _, _ => absurd hk (Nat.not_lt_zero _)
  | k + 1, a, m, b, es, w, hk, hB, ham, hmb, hbn, s1, s2, h => by
    by_cases h1 : m = a + 1
    · exact sm1P_any B A cap n a m b es w hn hnc hcm hB ham hmb hbn h1 s1 s2 h
    by_cases h2 : b = m + 1
    · exact sm2P_any B A cap n a m b es w hn hnc hcm hB ham hmb hbn (by omega) h2 s1 s2 h
    by_cases h3 : (a + b) / 2 < m
    · exact sm3aP_any B A cap n a m b es w hn hnc hcm hB ham hmb hbn h3 (by omega) (by omega) (fun a2 m2 b2 es2 w2 hk2 hB2 ha2 hm2 hb2 t1 t2 h2 => smP_ih B A cap n hn hnc hcm k a2 m2 b2 es2 w2 (by omega) hB2 ha2 hm2 hb2 t1 t2 h2) s1 s2 h
    · exact sm3bP_any B A cap n a m b es w hn hnc hcm hB ham hmb hbn h3 (by omega) (by omega) (fun a2 m2 b2 es2 w2 hk2 hB2 ha2 hm2 hb2 t1 t2 h2 => smP_ih B A cap n hn hnc hcm k a2 m2 b2 es2 w2 (by omega) hB2 ha2 hm2 hb2 t1 t2 h2) s1 s2 h
theorem smP_any (B : Nat) (A : Option Addr) (cap n a m b : Nat) (es : List (Nat → Int)) (w : World) (hn : n ≤ 4194304) (hnc : n ≤ cap) (hcm : cap ≤ 9223372036854775807) (hBw : B ≤ w.heap.size) (ham : a < m) (hmb : m < b) (hbn : b ≤ n) (hs1 : SrtR es a m) (hs2 : SrtR es m b) (h : Own B w 2 A n es) :
    Calls Tryz.prog 134 #[.slice A n cap, .int .i64 a, .int .i64 m, .int .i64 b, .func (.func 81) #[] #[]] w (SymD B 2 n a b A es w) :=
  smP_ih B A cap n hn hnc hcm (b - a + 1) a m b es w (by omega) hBw ham hmb hbn hs1 hs2 h
end Go.Proofs.YtjlmcppkafjniaaGreat
