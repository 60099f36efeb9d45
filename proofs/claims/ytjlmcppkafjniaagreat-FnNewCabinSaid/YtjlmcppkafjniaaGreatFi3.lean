/-
  Weak contracts of l7Draw and DrawFirstFit. No conditions beyond those stated.
-/
import Derived.Test.YtjlmcppkafjniaaGreatCo
import Derived.Test.YtjlmcppkafjniaaGreatFf
namespace Go.Proofs.YtjlmcppkafjniaaGreat
open Go.RowKit

theorem own_ge {base : Nat} {w : World} {e : TypeId} {K n : Nat} {v : Value} {xs : List Value} (h : w.ownsRow base e K v n xs) : ∀ k, v.ownBlock = some k → base ≤ k := by
  intro k hk
  rcases h.2 with ⟨rfl, _⟩ | ⟨g, cap, cur, rfl, hg, _⟩
  · simp [Value.ownBlock] at hk
  · have : g = k := by simpa [Value.ownBlock] using hk
    omega
def one (x : Int) : Nat → Int := fun _ => x
theorem rd_one (w : World) (t : TypeId) (x : Int) : Rd (w.alloc (.cells #[.int .i64 x] t)) 1 (some ⟨w.heap.size, 0, none⟩) 1 [one x] :=
  ⟨rfl, .inr ⟨w.heap.size, 0, rfl, by simp, fun i hi j hj => by
    obtain rfl : i = 0 := by omega
    obtain rfl : j = 0 := by omega
    simp [fld, one]⟩⟩
/-- TodoPut: x behind the list, unless it is there. -/
def todo (es : List (Nat → Int)) (n : Nat) (x : Int) : List (Nat → Int) := if hasN es n x = true then es else es ++ [one x]

end Go.Proofs.YtjlmcppkafjniaaGreat

namespace Go.Proofs.YtjlmcppkafjniaaGreat
open Go.RowKit

set_option maxRecDepth 100000 in
set_option maxHeartbeats 4000000 in
theorem l7Right_any (cb : Nat) (w : World) (h : Cur w cb) :
    Calls Tryz.prog 72 #[.pointer (some ⟨cb, 0, none⟩)] w fun y w' => ∃ v, y = .returned v ∧ ∃ n, n ≤ 14 ∧ (∃ es : List (Nat → Int), es.length = n ∧ w'.ownsRow w.heap.size 82 4 v n (flat 4 es)) ∧ Drew w cb w' := by
  have hlt := h.lt
  have HC := Lib.hid h
  clear h
  go_enter Tryz.func72, Tryz.ntmps72
  go_wp2_with fail
  refine (l1Below_any cb 9 _ (by first | with_reducible exact HC.out | (with_reducible refine HC.out.below ?_; (repeat (first | with_reducible exact Below.refl _ _ | with_reducible refine Below.drew ?_ | with_reducible refine below_drewN ?_ _ | (with_reducible refine bel_alloc ?_ ?_ _; (first | omega | (simp; omega) | simp)) | (with_reducible refine bel_set ?_ ?_ _; (first | omega | (simp; omega) | simp)) | (with_reducible refine bel_tr (by assumption) ?_ ?_; (first | omega | (simp; omega) | simp))))))).mono ?_
  rintro y w1 ⟨x, rfl, ⟨hx0, hx1, _⟩, d1⟩
  have hx9 := hx1 (by omega)
  have s1 := d1.2.size
  (try simp at s1)
  have row0 : w1.ownsRow w.heap.size 82 4 (.slice (some ⟨w.heap.size, 0, none⟩) 0 0) 0 (flat 4 []) := row_drew (row_empty w _ 4) d1 hlt
  have D1 : Hid (Drew w cb w1) := Drew.trans (by (repeat (first | with_reducible assumption | (with_reducible refine Drew.set hlt ?_ ?_; (first | omega | (simp; omega) | simp)) | with_reducible refine Drew.alloc _ ?_ | with_reducible refine Drew.drewN _ ?_ | with_reducible exact Cur.drew_below HC.out (Below.refl _ _)))) d1
  have R1 := Lib.hid row0
  have C1 := Lib.hid d1.1
  clear d1 row0 hx1
  go_wp2_with fail
  refine (l1Once_any cb 12 _ C1.out).mono ?_
  rintro y w2 ⟨b, rfl, d2⟩
  have s2 := d2.2.size
  have D2 : Hid (Drew w cb w2) := D1.out.trans d2
  have R2 := Lib.hid (row_drew R1.out d2 hlt)
  have C2 := Lib.hid d2.1
  clear d2
  cases b
  · go_wp2
    go_loopw [3, 5] (fun v i wr => ∃ (k N : Nat) (es : List (Nat → Int)), (k : Int) ≤ x ∧ i = .int .i64 k ∧ N ≤ k ∧ es.length = N ∧ Hid (wr.ownsRow w.heap.size 82 4 v N (flat 4 es)) ∧ Hid (Drew w cb wr) ∧ w.heap.size ≤ wr.heap.size) (fun _ i _ => 14 - (intOf i).toNat)
    case atStart => exact ⟨0, 0, [], by omega, rfl, by omega, rfl, R2, D2, by omega⟩
    case round =>
      obtain ⟨k, N, es, hk, rfl, hNk, hl, HO, HD, hs⟩ := hrel
      obtain ⟨A, c, rfl, h1, h2, ho⟩ := own_of_row_cap hl HO.out
      have HX := Lib.hid ho
      clear ho
      by_cases hlt2 : (k : Int) < x
      · go_wp2_with fail
        refine (l7Entry_any cb _ HD.out.1).mono ?_
        rintro y w4 ⟨e, rfl, d4⟩
        have D4 : Hid (Drew w cb w4) := HD.out.trans d4
        have s4 := d4.2.size
        have RD4 : Hid (Rd w4 4 A N es) := (HX.out.drew_c d4 hlt).rd
        clear d4
        have h9 : ¬ 9 < x := by omega
        go_wp2_with fail
        obtain ⟨T', N', bv, hR, hN, hlen⟩ := putRq_ex es e N hl
        have HR := Lib.hid hR
        clear hR
        refine (sQueuePut_row A N c N' es T' e bv _ (by omega) h1 h2 HR.out (RD4.out.below (by (repeat (first | with_reducible exact Below.refl _ _ | with_reducible refine Below.drew ?_ | with_reducible refine below_drewN ?_ _ | (with_reducible refine bel_alloc ?_ ?_ _; (first | omega | (simp; omega) | simp)) | (with_reducible refine bel_set ?_ ?_ _; (first | omega | (simp; omega) | simp)) | (with_reducible refine bel_tr (by assumption) ?_ ?_; (first | omega | (simp; omega) | simp))))))).mono ?_
        rintro y w5 ⟨v5, rfl, r5, b5⟩
        have s5 := b5.size
        (try simp at s5)
        have D5 : Hid (Drew w cb w5) := Drew.below hlt (show Drew w cb _ by (have D4' := D4.out; (repeat (first | with_reducible assumption | (with_reducible refine Drew.set hlt ?_ ?_; (first | omega | (simp; omega) | simp)) | with_reducible refine Drew.alloc _ ?_ | with_reducible refine Drew.drewN _ ?_ | with_reducible exact Cur.drew_below HC.out (Below.refl _ _))))) (b5.mono (by (first | omega | (simp; omega) | simp)))
        have R5 : Hid (w5.ownsRow w.heap.size 82 4 v5 N' (flat 4 T')) := World.ownsRow.lower r5 (by (first | omega | (simp; omega) | simp))
        clear r5
        go_wp2
        go_roundw
        case rel => exact ⟨k + 1, N', T', by omega, by go_num, by omega, hN, R5, D5, by omega⟩
        case measure => simp [intOf]; omega
      · go_wp2
        go_ret
        exact ⟨.slice A N c, rfl, N, by omega, ⟨es, hl, HO.out⟩, HD.out⟩
  · go_wp2_with fail
    refine (l1Below_any cb 4 _ C2.out).mono ?_
    rintro y w3 ⟨x3, rfl, ⟨hy0, hy1, _⟩, d3⟩
    have hy4 := hy1 (by omega)
    have s3 := d3.2.size
    have D3 : Hid (Drew w cb w3) := D2.out.trans d3
    have R3 := Lib.hid (row_drew R2.out d3 hlt)
    clear d3 hy1
    go_wp2
    go_loopw [3, 5] (fun v i wr => ∃ (k N : Nat) (es : List (Nat → Int)), (k : Int) ≤ 10 + x3 ∧ i = .int .i64 k ∧ N ≤ k ∧ es.length = N ∧ Hid (wr.ownsRow w.heap.size 82 4 v N (flat 4 es)) ∧ Hid (Drew w cb wr) ∧ w.heap.size ≤ wr.heap.size) (fun _ i _ => 14 - (intOf i).toNat)
    case atStart => exact ⟨0, 0, [], by omega, rfl, by omega, rfl, R3, D3, by omega⟩
    case round =>
      obtain ⟨k, N, es, hk, rfl, hNk, hl, HO, HD, hs⟩ := hrel
      obtain ⟨A, c, rfl, h1, h2, ho⟩ := own_of_row_cap hl HO.out
      have HX := Lib.hid ho
      clear ho
      by_cases hlt2 : (k : Int) < 10 + x3
      · go_wp2_with fail
        refine (l7Entry_any cb _ HD.out.1).mono ?_
        rintro y w4 ⟨e, rfl, d4⟩
        have D4 : Hid (Drew w cb w4) := HD.out.trans d4
        have s4 := d4.2.size
        have RD4 : Hid (Rd w4 4 A N es) := (HX.out.drew_c d4 hlt).rd
        clear d4
        have h9 : 9 < 10 + x3 := by omega
        go_wp2_with fail
        obtain ⟨T', N', bv, hR, hN, hlen⟩ := putRq_ex es (fun j => [e 0, e 1, 100 + (k : Int), e 3].getD j 0) N hl
        have HR := Lib.hid hR
        clear hR
        refine (sQueuePut_row A N c N' es T' (fun j => [e 0, e 1, 100 + (k : Int), e 3].getD j 0) bv _ (by omega) h1 h2 HR.out (RD4.out.below (by (repeat (first | with_reducible exact Below.refl _ _ | with_reducible refine Below.drew ?_ | with_reducible refine below_drewN ?_ _ | (with_reducible refine bel_alloc ?_ ?_ _; (first | omega | (simp; omega) | simp)) | (with_reducible refine bel_set ?_ ?_ _; (first | omega | (simp; omega) | simp)) | (with_reducible refine bel_tr (by assumption) ?_ ?_; (first | omega | (simp; omega) | simp))))))).mono ?_
        rintro y w5 ⟨v5, rfl, r5, b5⟩
        have s5 := b5.size
        (try simp at s5)
        have D5 : Hid (Drew w cb w5) := Drew.below hlt (show Drew w cb _ by (have D4' := D4.out; (repeat (first | with_reducible assumption | (with_reducible refine Drew.set hlt ?_ ?_; (first | omega | (simp; omega) | simp)) | with_reducible refine Drew.alloc _ ?_ | with_reducible refine Drew.drewN _ ?_ | with_reducible exact Cur.drew_below HC.out (Below.refl _ _))))) (b5.mono (by (first | omega | (simp; omega) | simp)))
        have R5 : Hid (w5.ownsRow w.heap.size 82 4 v5 N' (flat 4 T')) := World.ownsRow.lower r5 (by (first | omega | (simp; omega) | simp))
        clear r5
        go_wp2
        go_roundw
        case rel => exact ⟨k + 1, N', T', by omega, by go_num, by omega, hN, R5, D5, by omega⟩
        case measure => simp [intOf]; omega
      · go_wp2
        go_ret
        exact ⟨.slice A N c, rfl, N, by omega, ⟨es, hl, HO.out⟩, HD.out⟩
end Go.Proofs.YtjlmcppkafjniaaGreat

namespace Go.Proofs.YtjlmcppkafjniaaGreat
open Go.RowKit

theorem fld_set {es : List (Nat → Int)} {k i j : Nat} {p : Nat → Int} (hk : k < es.length) : fld (es.set k p) i j = if i = k then p j else fld es i j := by
  unfold fld
  rw [List.getD_eq_getElem?_getD, List.getD_eq_getElem?_getD, List.getElem?_set]
  split
  · subst_vars
    simp
  · rw [if_neg (by omega)]
theorem own_set {B : Nat} {w : World} {K g n k : Nat} {es : List (Nat → Int)} {p : Nat → Int} {vs : List Value} (h : Own B w K (some ⟨g, 0, none⟩) n es) (hk : k < n) (hl : vs.length = K) (hv : ∀ j, j < K → vs[j]? = some (.int .i64 (p j))) :
    Own B (w.setCells g (k * K) vs) K (some ⟨g, 0, none⟩) n (es.set k p) := by
  obtain ⟨h1, h2⟩ := h
  obtain ⟨b, off, he, hlt, hB, hfz, hc⟩ := h2.resolve_left (by omega)
  injection he with he
  injection he with he1 he2
  subst he1 he2
  refine ⟨by rw [List.length_set]; exact h1, .inr ⟨g, 0, rfl, by rw [size_setCells]; exact hlt, hB, fun o => by rw [World.frozen?_setCells]; exact hfz o, fun i hi j hj => ?_⟩⟩
  have hin := World.cell?_setCells_in g vs (k * K) w (fun j hj => by
    have h3 := hc k hk j (by omega)
    rw [Nat.zero_add] at h3
    rw [h3]
    rfl)
  rw [fld_set (by omega), Nat.zero_add]
  rcases Nat.lt_trichotomy i k with hik | hik | hik
  · rw [if_neg (by omega), World.cell?_setCells_out g vs (k * K) w ⟨g, i * K + j, none⟩ (fun _ _ => .inl (idx_lt hik hj))]
    have h3 := hc i hi j hj
    rwa [Nat.zero_add] at h3
  · subst hik
    rw [if_pos rfl, hin j (by omega)]
    have := hv j hj
    rw [List.getElem?_eq_getElem (by omega)] at this
    exact this
  · have h4 : k * K + K ≤ i * K := by
      have := Nat.mul_le_mul_right K (show k + 1 ≤ i by omega)
      rwa [Nat.succ_mul] at this
    rw [if_neg (by omega), World.cell?_setCells_out g vs (k * K) w ⟨g, i * K + j, none⟩ (fun _ _ => .inr (by show k * K + vs.length ≤ i * K + j; omega))]
    have h3 := hc i hi j hj
    rwa [Nat.zero_add] at h3
theorem own_cell {B : Nat} {w : World} {K g n k j : Nat} {es : List (Nat → Int)} (h : Own B w K (some ⟨g, 0, none⟩) n es) (hk : k < n) (hj : j < K) : w.cell? ⟨g, k * K + j, none⟩ = some (.int .i64 (fld es k j)) := by
  obtain ⟨b, off, he, _, _, _, hc⟩ := h.2.resolve_left (by omega)
  injection he with he
  injection he with he1 he2
  subst he1 he2
  have := hc k hk j hj
  rwa [Nat.zero_add] at this
theorem own_fz {B : Nat} {w : World} {K g n k : Nat} {es : List (Nat → Int)} (h : Own B w K (some ⟨g, 0, none⟩) n es) (hk : k < n) (o : Nat) : w.frozen? ⟨g, o, none⟩ = false := by
  obtain ⟨b, off, he, _, _, hf, _⟩ := h.2.resolve_left (by omega)
  injection he with he
  injection he with he1 he2
  subst he1 he2
  exact hf o
theorem own_blk {B : Nat} {w : World} {K g n : Nat} {es : List (Nat → Int)} (h : Own B w K (some ⟨g, 0, none⟩) n es) (hk : 0 < n) : B ≤ g := by
  obtain ⟨b, off, he, _, hB, _, _⟩ := h.2.resolve_left (by omega)
  injection he with he
  injection he with he1 he2
  subst he1 he2
  exact hB
theorem rd_box4 {w : World} {h : Nat} {e : Nat → Int} (hh : w.heap[h]? = some (.cells #[.int .i64 (e 0), .int .i64 (e 1), .int .i64 (e 2), .int .i64 (e 3)] 82 (0, 0))) : Rd w 4 (some ⟨h, 0, none⟩) 1 [e] :=
  rd_one4 (Array.getElem?_eq_some_iff.1 hh).1 (cell_of_heap hh) (cell_of_heap hh) (cell_of_heap hh) (cell_of_heap hh)

set_option maxRecDepth 100000 in
set_option maxHeartbeats 4000000 in
theorem l7Draw_any (cb : Nat) (w : World) (h : Cur w cb) :
    Calls Tryz.prog 32 #[.pointer (some ⟨cb, 0, none⟩)] w fun y w' => ∃ A n c, y = .returned (.slice A n c) ∧ n ≤ 15 ∧ n ≤ c ∧ c ≤ 9223372036854775807 ∧ (∃ es, Own w.heap.size w' 4 A n es) ∧ Drew w cb w' := by
  obtain ⟨i0, hi0, hz0, hz1, hz2⟩ := info_parts copyEntries_info
  have hlt := h.lt
  have HC := Lib.hid h
  clear h
  go_enter Tryz.func32, Tryz.ntmps32
  go_wp2_with fail
  refine (l7Right_any cb _ HC.out).mono ?_
  rintro y w1 ⟨v, rfl, N, hN, ⟨es, hl, r1⟩, d1⟩
  have s1 := d1.2.size
  have D1 := Lib.hid d1
  have R1 := Lib.hid r1
  clear d1 r1
  go_wp2_with fail
  refine (l1Below_any cb 10 _ D1.out.1).mono ?_
  rintro y w2 ⟨z, rfl, _, d2⟩
  have s2 := d2.2.size
  have D2 : Hid (Drew w cb w2) := D1.out.trans d2
  have O2 := Lib.hid (row_drew R1.out d2 hlt)
  clear d2
  by_cases hN1 : 1 < N
  · obtain ⟨gb, c, rfl, h1, h2, ho⟩ := row_pos (by omega) (by omega) hl O2.out
    have X2 := Lib.hid ho
    have hgb := own_blk ho (by omega)
    have hgl : gb < w2.heap.size := row_ltq O2.out gb (by simp [Value.ownBlock])
    clear ho
    by_cases z0 : z = 0
    · subst z0
      go_wp2_with fail
      refine (l7Entry_any cb _ D2.out.1).mono ?_
      rintro y w3 ⟨e, rfl, d3⟩
      have s3 := d3.2.size
      have D3 : Hid (Drew w cb w3) := D2.out.trans d3
      have O3 := Lib.hid (row_drew O2.out d3 hlt)
      clear d3
      go_wp2_with (at_builtin; go_must (refine wpList_append_rd _ rfl _ _ 27 rfl w.heap.size 82 i0 _ 4 32 Tryz.underlying27 hi0 hz0 hz1 hz2 rfl (by omega) _ N es rfl (World.ownsRow.alloc O3.out _) (some ⟨w3.heap.size, 0, none⟩) 1 1 [e] rfl (rd_box4 (alloc_heap _ _)) (by unfold maxLen; omega) (by omega) (by simp; omega) ?_); intro v4 w4 hown4 hg4 hat4)
      have D4 : Drew w cb w4 := Drew.grow hlt (by simp; omega) (Drew.alloc _ D3.out) hg4 (row_ge O3.out (Nat.le_refl _))
      obtain ⟨A4, c4, rfl, h3, h4, o4⟩ := own_of_row_cap (by simp [hl]) hown4
      go_ret
      exact ⟨A4, N + 1, c4, rfl, by omega, h3, h4, ⟨_, o4⟩, D4⟩
    by_cases z1 : z = 1
    · subst z1
      have hNi : (1 : Int) < (N : Int) := by omega
      have hN0 : (0 : Int) < (N : Int) := by omega
      have c00 : w2.cell? ⟨gb, 0, none⟩ = some (.int .i64 (fld es 0 0)) := own_cell X2.out (k := 0) (by omega) (j := 0) (by omega)
      have c01 : w2.cell? ⟨gb, 1, none⟩ = some (.int .i64 (fld es 0 1)) := own_cell X2.out (k := 0) (by omega) (j := 1) (by omega)
      have c02 : w2.cell? ⟨gb, 2, none⟩ = some (.int .i64 (fld es 0 2)) := own_cell X2.out (k := 0) (by omega) (j := 2) (by omega)
      have c03 : w2.cell? ⟨gb, 3, none⟩ = some (.int .i64 (fld es 0 3)) := own_cell X2.out (k := 0) (by omega) (j := 3) (by omega)
      have c10 : w2.cell? ⟨gb, 4, none⟩ = some (.int .i64 (fld es 1 0)) := own_cell X2.out (k := 1) (by omega) (j := 0) (by omega)
      have c11 : w2.cell? ⟨gb, 5, none⟩ = some (.int .i64 (fld es 1 1)) := own_cell X2.out (k := 1) (by omega) (j := 1) (by omega)
      have c12 : w2.cell? ⟨gb, 6, none⟩ = some (.int .i64 (fld es 1 2)) := own_cell X2.out (k := 1) (by omega) (j := 2) (by omega)
      have c13 : w2.cell? ⟨gb, 7, none⟩ = some (.int .i64 (fld es 1 3)) := own_cell X2.out (k := 1) (by omega) (j := 3) (by omega)
      have f0 : w2.frozen? ⟨gb, 0, none⟩ = false := own_fz X2.out (k := 0) (by omega) 0
      have f1 : w2.frozen? ⟨gb, 1, none⟩ = false := own_fz X2.out (k := 0) (by omega) 1
      have f2 : w2.frozen? ⟨gb, 2, none⟩ = false := own_fz X2.out (k := 0) (by omega) 2
      have f3 : w2.frozen? ⟨gb, 3, none⟩ = false := own_fz X2.out (k := 0) (by omega) 3
      have f4 : w2.frozen? ⟨gb, 4, none⟩ = false := own_fz X2.out (k := 0) (by omega) 4
      have f5 : w2.frozen? ⟨gb, 5, none⟩ = false := own_fz X2.out (k := 0) (by omega) 5
      have f6 : w2.frozen? ⟨gb, 6, none⟩ = false := own_fz X2.out (k := 0) (by omega) 6
      have f7 : w2.frozen? ⟨gb, 7, none⟩ = false := own_fz X2.out (k := 0) (by omega) 7
      have hne1 : ¬ gb = w2.heap.size := by omega
      have hne2 : ¬ w2.heap.size = gb := by omega
      go_wp2
      go_ret
      refine ⟨some ⟨gb, 0, none⟩, N, c, rfl, by omega, h1, h2, ⟨_, Own.alloc_ (own_set (k := 1) (p := fld es 0) (vs := [.int .i64 (fld es 0 0), .int .i64 (fld es 0 1), .int .i64 (fld es 0 2), .int .i64 (fld es 0 3)]) (own_set (k := 0) (p := fld es 1) (vs := [.int .i64 (fld es 1 0), .int .i64 (fld es 1 1), .int .i64 (fld es 1 2), .int .i64 (fld es 1 3)]) X2.out (by omega) rfl (by intro j hj; match j, hj with | 0, _ => rfl | 1, _ => rfl | 2, _ => rfl | 3, _ => rfl)) (by omega) rfl (by intro j hj; match j, hj with | 0, _ => rfl | 1, _ => rfl | 2, _ => rfl | 3, _ => rfl)) _⟩, ?_⟩
      have D2' := D2.out
      (repeat (first | with_reducible assumption | (with_reducible refine Drew.set hlt ?_ ?_; (first | omega | (simp; omega) | simp)) | with_reducible refine Drew.alloc _ ?_ | with_reducible refine Drew.drewN _ ?_ | with_reducible exact Cur.drew_below HC.out (Below.refl _ _)))
    · skip
      have A : True := trivial
      go_wp2
      go_ret
      exact ⟨some ⟨gb, 0, none⟩, N, c, rfl, by omega, h1, h2, ⟨es, X2.out⟩, D2.out⟩
  · obtain ⟨A, c, rfl, h1, h2, ho⟩ := own_of_row_cap hl O2.out
    have X2 := Lib.hid ho
    clear ho
    have hNi : ¬ (1 : Int) < (N : Int) := by omega
    by_cases z0 : z = 0
    · subst z0
      go_wp2_with fail
      refine (l7Entry_any cb _ D2.out.1).mono ?_
      rintro y w3 ⟨e, rfl, d3⟩
      have s3 := d3.2.size
      have D3 : Hid (Drew w cb w3) := D2.out.trans d3
      have O3 := Lib.hid (row_drew O2.out d3 hlt)
      clear d3
      go_wp2_with (at_builtin; go_must (refine wpList_append_rd _ rfl _ _ 27 rfl w.heap.size 82 i0 _ 4 32 Tryz.underlying27 hi0 hz0 hz1 hz2 rfl (by omega) _ N es rfl (World.ownsRow.alloc O3.out _) (some ⟨w3.heap.size, 0, none⟩) 1 1 [e] rfl (rd_box4 (alloc_heap _ _)) (by unfold maxLen; omega) (by omega) (by simp; omega) ?_); intro v4 w4 hown4 hg4 hat4)
      have D4 : Drew w cb w4 := Drew.grow hlt (by simp; omega) (Drew.alloc _ D3.out) hg4 (row_ge O3.out (Nat.le_refl _))
      obtain ⟨A4, c4, rfl, h3, h4, o4⟩ := own_of_row_cap (by simp [hl]) hown4
      go_ret
      exact ⟨A4, N + 1, c4, rfl, by omega, h3, h4, ⟨_, o4⟩, D4⟩
    by_cases z1 : z = 1
    · subst z1
      go_wp2
      go_ret
      exact ⟨A, N, c, rfl, by omega, h1, h2, ⟨es, X2.out⟩, D2.out⟩
    · skip
      go_wp2
      go_ret
      exact ⟨A, N, c, rfl, by omega, h1, h2, ⟨es, X2.out⟩, D2.out⟩
end Go.Proofs.YtjlmcppkafjniaaGreat
