/-
  Contracts of QueuePut of the program and of the reference. No conditions beyond those stated.
-/
import Derived.Test.YtjlmcppkafjniaaGreatPl
namespace Go.Proofs.YtjlmcppkafjniaaGreat
open Go.RowKit

/-- What QueuePut returns. -/
def PutRq (es : List (Nat → Int)) (e : Nat → Int) (n : Nat) (T : List (Nat → Int)) (N : Nat) (bv : Bool) : Prop :=
  ((QOk es n ∧ QOk (insL es (plc es e n) e) (n + 1)) ∧ T = (insL es (plc es e n) e) ∧ N = n + 1 ∧ bv = true) ∨ (¬ (QOk es n ∧ QOk (insL es (plc es e n) e) (n + 1)) ∧ T = es ∧ N = n ∧ bv = false)
theorem putRq_ex (es : List (Nat → Int)) (e : Nat → Int) (n : Nat) (hl : es.length = n) : ∃ T N bv, PutRq es e n T N bv ∧ T.length = N ∧ N ≤ n + 1 := by
  by_cases h : QOk es n ∧ QOk (insL es (plc es e n) e) (n + 1)
  · exact ⟨_, _, _, .inl ⟨h, rfl, rfl, rfl⟩, insL_len hl plc_le, Nat.le_refl _⟩
  · exact ⟨_, _, _, .inr ⟨h, rfl, rfl, rfl⟩, hl, by omega⟩
theorem row_ltq {base : Nat} {w : World} {e : TypeId} {K n : Nat} {v : Value} {xs : List Value} (h : w.ownsRow base e K v n xs) : ∀ k, v.ownBlock = some k → k < w.heap.size := by
  intro k hk
  rcases h.2 with ⟨rfl, _⟩ | ⟨g, cap, cur, rfl, hg, hh, _⟩
  · simp [Value.ownBlock] at hk
  · obtain rfl : g = k := by simpa [Value.ownBlock] using hk
    exact (Array.getElem?_eq_some_iff.1 hh).1
theorem alloc_heap (w : World) (o : Obj) : (w.alloc o).heap[w.heap.size]? = some o := by
  unfold World.alloc
  exact Array.getElem?_push_size
theorem box_heap (w : World) (e : Nat → Int) : (w.alloc (.cells #[.int .i64 (e 0), .int .i64 (e 1), .int .i64 (e 2), .int .i64 (e 3)] 82)).heap[w.heap.size]? = some (.cells (ecells 4 e).toArray 82 (0, 0)) :=
  alloc_heap w _

theorem Own.lower_ {B B' : Nat} {w : World} {K n : Nat} {A : Option Addr} {es : List (Nat → Int)} (h : Own B w K A n es) (hB : B' ≤ B) : Own B' w K A n es := h.mono hB
set_option maxRecDepth 100000 in
set_option maxHeartbeats 4000000 in
theorem sQueuePut_any (A : Option Addr) (n c N : Nat) (es T : List (Nat → Int)) (e : Nat → Int) (bv : Bool) (w : World) (hn : n ≤ 4194303) (hnc : n ≤ c) (hcm : c ≤ 9223372036854775807) (hR : PutRq es e n T N bv) (h : Rd w 4 A n es) :
    Calls Tryz.prog 100 #[.slice A n c, .agg #[.int .i64 (e 0), .int .i64 (e 1), .int .i64 (e 2), .int .i64 (e 3)]] w fun y w' => ∃ A' c', y = .returned (.tuple #[.slice A' N c', .bool bv]) ∧ Own w.heap.size w' 4 A' N T ∧ Below w.heap.size w w' := by
  have HL := Lib.hid h.1
  have H := Lib.hid h
  clear h
  go_enter Tryz.func100, Tryz.ntmps100
  go_wp2_with fail
  refine (l7Put_any A n c es e _ hn hnc hcm (H.out.below (by (repeat (first | with_reducible exact Below.refl _ _ | with_reducible refine Below.drew ?_ | with_reducible refine below_drewN ?_ _ | (with_reducible refine bel_alloc ?_ ?_ _; (first | omega | (simp; omega) | simp)) | (with_reducible refine bel_set ?_ ?_ _; (first | omega | (simp; omega) | simp)) | (with_reducible refine bel_tr (by assumption) ?_ ?_; (first | omega | (simp; omega) | simp))))))).mono ?_
  rintro y w3 ⟨A3, c3, rfl, hc3, hc4, o3, b3⟩
  have s3 := b3.size
  (try simp at s3)
  have O3 := Lib.hid (o3.lower_ (B' := w.heap.size) (by (first | omega | (simp; omega) | simp)))
  clear o3
  go_wp2_with fail
  by_cases h1 : QOk es n
  · refine (ty (sQueueOk_any _ n c es _ (by omega) hnc (H.out.below (by (repeat (first | with_reducible exact Below.refl _ _ | with_reducible refine Below.drew ?_ | with_reducible refine below_drewN ?_ _ | (with_reducible refine bel_alloc ?_ ?_ _; (first | omega | (simp; omega) | simp)) | (with_reducible refine bel_set ?_ ?_ _; (first | omega | (simp; omega) | simp)) | (with_reducible refine bel_tr (by assumption) ?_ ?_; (first | omega | (simp; omega) | simp))))))) h1).mono ?_
    rintro y w4 ⟨rfl, b4⟩
    have s4 := b4.size
    go_wp2_with fail
    by_cases h2 : QOk (insL es (plc es e n) e) (n + 1)
    · refine (ty (sQueueOk_any A3 (n + 1) c3 (insL es (plc es e n) e) _ (by omega) hc3 (O3.out.rd.below (by (repeat (first | with_reducible exact Below.refl _ _ | with_reducible refine Below.drew ?_ | with_reducible refine below_drewN ?_ _ | (with_reducible refine bel_alloc ?_ ?_ _; (first | omega | (simp; omega) | simp)) | (with_reducible refine bel_set ?_ ?_ _; (first | omega | (simp; omega) | simp)) | (with_reducible refine bel_tr (by assumption) ?_ ?_; (first | omega | (simp; omega) | simp))))))) h2).mono ?_
      rintro y w5 ⟨rfl, b5⟩
      have s5 := b5.size
      go_wp2
      go_ret2
      rcases hR with ⟨_, rfl, rfl, rfl⟩ | ⟨h3, _⟩
      · exact ⟨A3, c3, rfl, O3.out.below (by (repeat (first | with_reducible exact Below.refl _ _ | with_reducible refine Below.drew ?_ | with_reducible refine below_drewN ?_ _ | (with_reducible refine bel_alloc ?_ ?_ _; (first | omega | (simp; omega) | simp)) | (with_reducible refine bel_set ?_ ?_ _; (first | omega | (simp; omega) | simp)) | (with_reducible refine bel_tr (by assumption) ?_ ?_; (first | omega | (simp; omega) | simp))))), by (repeat (first | with_reducible exact Below.refl _ _ | with_reducible refine Below.drew ?_ | with_reducible refine below_drewN ?_ _ | (with_reducible refine bel_alloc ?_ ?_ _; (first | omega | (simp; omega) | simp)) | (with_reducible refine bel_set ?_ ?_ _; (first | omega | (simp; omega) | simp)) | (with_reducible refine bel_tr (by assumption) ?_ ?_; (first | omega | (simp; omega) | simp))))⟩
      · exact absurd ⟨h1, h2⟩ h3
    · refine (tn (sQueueOk_any A3 (n + 1) c3 (insL es (plc es e n) e) _ (by omega) hc3 (O3.out.rd.below (by (repeat (first | with_reducible exact Below.refl _ _ | with_reducible refine Below.drew ?_ | with_reducible refine below_drewN ?_ _ | (with_reducible refine bel_alloc ?_ ?_ _; (first | omega | (simp; omega) | simp)) | (with_reducible refine bel_set ?_ ?_ _; (first | omega | (simp; omega) | simp)) | (with_reducible refine bel_tr (by assumption) ?_ ?_; (first | omega | (simp; omega) | simp))))))) h2).mono ?_
      rintro y w5 ⟨rfl, b5⟩
      have s5 := b5.size
      go_wp2_with fail
      refine (l7Copy_any _ n c es _ (by omega) (H.out.below (by (repeat (first | with_reducible exact Below.refl _ _ | with_reducible refine Below.drew ?_ | with_reducible refine below_drewN ?_ _ | (with_reducible refine bel_alloc ?_ ?_ _; (first | omega | (simp; omega) | simp)) | (with_reducible refine bel_set ?_ ?_ _; (first | omega | (simp; omega) | simp)) | (with_reducible refine bel_tr (by assumption) ?_ ?_; (first | omega | (simp; omega) | simp))))))).mono ?_
      rintro y w6 ⟨v, rfl, o6, b6⟩
      have s6 := b6.size
      obtain ⟨A6, c6, rfl, q6⟩ := own_of_row HL.out o6
      have O6 := Lib.hid (q6.lower_ (B' := w.heap.size) (by (first | omega | (simp; omega) | simp)))
      clear o6 q6
      go_wp2
      go_ret2
      rcases hR with ⟨h3, _⟩ | ⟨_, rfl, rfl, rfl⟩
      · exact absurd h3 (fun h3 => h2 h3.2)
      · exact ⟨A6, c6, rfl, O6.out, by (repeat (first | with_reducible exact Below.refl _ _ | with_reducible refine Below.drew ?_ | with_reducible refine below_drewN ?_ _ | (with_reducible refine bel_alloc ?_ ?_ _; (first | omega | (simp; omega) | simp)) | (with_reducible refine bel_set ?_ ?_ _; (first | omega | (simp; omega) | simp)) | (with_reducible refine bel_tr (by assumption) ?_ ?_; (first | omega | (simp; omega) | simp))))⟩
  · refine (tn (sQueueOk_any _ n c es _ (by omega) hnc (H.out.below (by (repeat (first | with_reducible exact Below.refl _ _ | with_reducible refine Below.drew ?_ | with_reducible refine below_drewN ?_ _ | (with_reducible refine bel_alloc ?_ ?_ _; (first | omega | (simp; omega) | simp)) | (with_reducible refine bel_set ?_ ?_ _; (first | omega | (simp; omega) | simp)) | (with_reducible refine bel_tr (by assumption) ?_ ?_; (first | omega | (simp; omega) | simp))))))) h1).mono ?_
    rintro y w5 ⟨rfl, b5⟩
    have s5 := b5.size
    go_wp2_with fail
    refine (l7Copy_any _ n c es _ (by omega) (H.out.below (by (repeat (first | with_reducible exact Below.refl _ _ | with_reducible refine Below.drew ?_ | with_reducible refine below_drewN ?_ _ | (with_reducible refine bel_alloc ?_ ?_ _; (first | omega | (simp; omega) | simp)) | (with_reducible refine bel_set ?_ ?_ _; (first | omega | (simp; omega) | simp)) | (with_reducible refine bel_tr (by assumption) ?_ ?_; (first | omega | (simp; omega) | simp))))))).mono ?_
    rintro y w6 ⟨v, rfl, o6, b6⟩
    have s6 := b6.size
    obtain ⟨A6, c6, rfl, q6⟩ := own_of_row HL.out o6
    have O6 := Lib.hid (q6.lower_ (B' := w.heap.size) (by (first | omega | (simp; omega) | simp)))
    clear o6 q6
    go_wp2
    go_ret2
    rcases hR with ⟨h3, _⟩ | ⟨_, rfl, rfl, rfl⟩
    · exact absurd h3 (fun h3 => h1 h3.1)
    · exact ⟨A6, c6, rfl, O6.out, by (repeat (first | with_reducible exact Below.refl _ _ | with_reducible refine Below.drew ?_ | with_reducible refine below_drewN ?_ _ | (with_reducible refine bel_alloc ?_ ?_ _; (first | omega | (simp; omega) | simp)) | (with_reducible refine bel_set ?_ ?_ _; (first | omega | (simp; omega) | simp)) | (with_reducible refine bel_tr (by assumption) ?_ ?_; (first | omega | (simp; omega) | simp))))⟩

end Go.Proofs.YtjlmcppkafjniaaGreat
