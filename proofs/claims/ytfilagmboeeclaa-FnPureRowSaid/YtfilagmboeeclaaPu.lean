/-
  Contracts of QueuePut of the program and of the reference. No conditions beyond those stated.
-/
import Derived.Test.YtfilagmboeeclaaPl
namespace Go.Proofs.Ytfilagmboeeclaa
open Go.RowKit

/-- What QueuePut returns. -/
def PutR (es : List (Nat → Int)) (e : Nat → Int) (n : Nat) (T : List (Nat → Int)) (N : Nat) (bv : Bool) : Prop :=
  ((QOk es n ∧ QOk (insL es (plc es e n) e) (n + 1)) ∧ T = (insL es (plc es e n) e) ∧ N = n + 1 ∧ bv = true) ∨ (¬ (QOk es n ∧ QOk (insL es (plc es e n) e) (n + 1)) ∧ T = es ∧ N = n ∧ bv = false)
theorem putR_ex (es : List (Nat → Int)) (e : Nat → Int) (n : Nat) (hl : es.length = n) : ∃ T N bv, PutR es e n T N bv ∧ T.length = N ∧ N ≤ n + 1 := by
  by_cases h : QOk es n ∧ QOk (insL es (plc es e n) e) (n + 1)
  · exact ⟨_, _, _, .inl ⟨h, rfl, rfl, rfl⟩, insL_len hl plc_le, Nat.le_refl _⟩
  · exact ⟨_, _, _, .inr ⟨h, rfl, rfl, rfl⟩, hl, by omega⟩
theorem row_lt {base : Nat} {w : World} {e : TypeId} {K n : Nat} {v : Value} {xs : List Value} (h : w.ownsRow base e K v n xs) : ∀ k, v.ownBlock = some k → k < w.heap.size := by
  intro k hk
  rcases h.2 with ⟨rfl, _⟩ | ⟨g, cap, cur, rfl, hg, hh, _⟩
  · simp [Value.ownBlock] at hk
  · obtain rfl : g = k := by simpa [Value.ownBlock] using hk
    exact (Array.getElem?_eq_some_iff.1 hh).1
theorem alloc_heap (w : World) (o : Obj) : (w.alloc o).heap[w.heap.size]? = some o := by
  unfold World.alloc
  exact Array.getElem?_push_size
theorem box_heap (w : World) (e : Nat → Int) : (w.alloc (.cells #[.int .i64 (e 0), .int .i64 (e 1), .int .i64 (e 2), .int .i64 (e 3)] 26)).heap[w.heap.size]? = some (.cells (ecells 4 e).toArray 26 (0, 0)) :=
  alloc_heap w _

theorem Own.lower_ {B B' : Nat} {w : World} {K n : Nat} {A : Option Addr} {es : List (Nat → Int)} (h : Own B w K A n es) (hB : B' ≤ B) : Own B' w K A n es := h.mono hB
set_option maxRecDepth 100000 in
set_option maxHeartbeats 4000000 in
theorem sQueuePut_any (A : Option Addr) (n c N : Nat) (es T : List (Nat → Int)) (e : Nat → Int) (bv : Bool) (w : World) (hn : n ≤ 4194303) (hnc : n ≤ c) (hcm : c ≤ 9223372036854775807) (hR : PutR es e n T N bv) (h : Rd w 4 A n es) :
    Calls Try.prog 7 #[.slice A n c, .agg #[.int .i64 (e 0), .int .i64 (e 1), .int .i64 (e 2), .int .i64 (e 3)]] w fun y w' => ∃ A' c', y = .returned (.tuple #[.slice A' N c', .bool bv]) ∧ Own w.heap.size w' 4 A' N T ∧ Below w.heap.size w w' := by
  have HL := Lib.hid h.1
  have H := Lib.hid h
  clear h
  go_enter Try.func7, Try.ntmps7
  go_wp2_with fail
  refine (l7Put_any A n c es e _ hn hnc hcm (H.out.below (by (repeat (first | with_reducible exact Below.refl _ _ | with_reducible refine Below.drew ?_ | with_reducible refine below_drewN ?_ _ | (with_reducible refine bel_alloc ?_ ?_ _; (first | omega | (simp; omega) | simp)) | (with_reducible refine bel_set ?_ ?_ _; (first | omega | (simp; omega) | simp)) | (with_reducible refine bel_tr (by assumption) ?_ ?_; (first | omega | (simp; omega) | simp))))))).mono ?_
  rintro y w3 ⟨A3, c3, rfl, hc3, hc4, o3, b3⟩
  have s3 := b3.size
  (try simp at s3)
  have O3 := Lib.hid (o3.lower_ (B' := w.heap.size) (by (first | omega | (simp; omega) | simp)))
  clear o3
  go_wp2_with fail
  by_cases h1 : QOk es n
  · refine (ty (sQueueOk_any _ n c es _ (by omega) hnc (H.out.below (by (repeat (first | with_reducible exact Below.refl _ _ | with_reducible refine Below.drew ?_ | with_reducible refine below_drewN ?_ _ | (with_reducible refine bel_alloc ?_ ?_ _; (first | omega | (simp; omega) | simp)) | (with_reducible refine bel_set ?_ ?_ _; (first | omega | (simp; omega) | simp)) | (with_reducible refine bel_tr (by assumption) ?_ ?_; (first | omega | (simp; omega) | simp))))))) h1).mono ?_
    rintro y w4 ⟨rfl, b4⟩
    have s4 := b4.size
    go_wp2_with fail
    by_cases h2 : QOk (insL es (plc es e n) e) (n + 1)
    · refine (ty (sQueueOk_any A3 (n + 1) c3 (insL es (plc es e n) e) _ (by omega) hc3 (O3.out.rd.below (by (repeat (first | with_reducible exact Below.refl _ _ | with_reducible refine Below.drew ?_ | with_reducible refine below_drewN ?_ _ | (with_reducible refine bel_alloc ?_ ?_ _; (first | omega | (simp; omega) | simp)) | (with_reducible refine bel_set ?_ ?_ _; (first | omega | (simp; omega) | simp)) | (with_reducible refine bel_tr (by assumption) ?_ ?_; (first | omega | (simp; omega) | simp))))))) h2).mono ?_
      rintro y w5 ⟨rfl, b5⟩
      have s5 := b5.size
      go_wp2
      go_ret2
      rcases hR with ⟨_, rfl, rfl, rfl⟩ | ⟨h3, _⟩
      · exact ⟨A3, c3, rfl, O3.out.below (by (repeat (first | with_reducible exact Below.refl _ _ | with_reducible refine Below.drew ?_ | with_reducible refine below_drewN ?_ _ | (with_reducible refine bel_alloc ?_ ?_ _; (first | omega | (simp; omega) | simp)) | (with_reducible refine bel_set ?_ ?_ _; (first | omega | (simp; omega) | simp)) | (with_reducible refine bel_tr (by assumption) ?_ ?_; (first | omega | (simp; omega) | simp))))), by (repeat (first | with_reducible exact Below.refl _ _ | with_reducible refine Below.drew ?_ | with_reducible refine below_drewN ?_ _ | (with_reducible refine bel_alloc ?_ ?_ _; (first | omega | (simp; omega) | simp)) | (with_reducible refine bel_set ?_ ?_ _; (first | omega | (simp; omega) | simp)) | (with_reducible refine bel_tr (by assumption) ?_ ?_; (first | omega | (simp; omega) | simp))))⟩
      · exact absurd ⟨h1, h2⟩ h3
    · refine (tn (sQueueOk_any A3 (n + 1) c3 (insL es (plc es e n) e) _ (by omega) hc3 (O3.out.rd.below (by (repeat (first | with_reducible exact Below.refl _ _ | with_reducible refine Below.drew ?_ | with_reducible refine below_drewN ?_ _ | (with_reducible refine bel_alloc ?_ ?_ _; (first | omega | (simp; omega) | simp)) | (with_reducible refine bel_set ?_ ?_ _; (first | omega | (simp; omega) | simp)) | (with_reducible refine bel_tr (by assumption) ?_ ?_; (first | omega | (simp; omega) | simp))))))) h2).mono ?_
      rintro y w5 ⟨rfl, b5⟩
      have s5 := b5.size
      go_wp2_with fail
      refine (l7Copy_any _ n c es _ (by omega) (H.out.below (by (repeat (first | with_reducible exact Below.refl _ _ | with_reducible refine Below.drew ?_ | with_reducible refine below_drewN ?_ _ | (with_reducible refine bel_alloc ?_ ?_ _; (first | omega | (simp; omega) | simp)) | (with_reducible refine bel_set ?_ ?_ _; (first | omega | (simp; omega) | simp)) | (with_reducible refine bel_tr (by assumption) ?_ ?_; (first | omega | (simp; omega) | simp))))))).mono ?_
      rintro y w6 ⟨v, rfl, o6, b6⟩
      have s6 := b6.size
      obtain ⟨A6, c6, rfl, q6⟩ := own_of_row HL.out o6
      have O6 := Lib.hid (q6.lower_ (B' := w.heap.size) (by (first | omega | (simp; omega) | simp)))
      clear o6 q6
      go_wp2
      go_ret2
      rcases hR with ⟨h3, _⟩ | ⟨_, rfl, rfl, rfl⟩
      · exact absurd h3 (fun h3 => h2 h3.2)
      · exact ⟨A6, c6, rfl, O6.out, by (repeat (first | with_reducible exact Below.refl _ _ | with_reducible refine Below.drew ?_ | with_reducible refine below_drewN ?_ _ | (with_reducible refine bel_alloc ?_ ?_ _; (first | omega | (simp; omega) | simp)) | (with_reducible refine bel_set ?_ ?_ _; (first | omega | (simp; omega) | simp)) | (with_reducible refine bel_tr (by assumption) ?_ ?_; (first | omega | (simp; omega) | simp))))⟩
  · refine (tn (sQueueOk_any _ n c es _ (by omega) hnc (H.out.below (by (repeat (first | with_reducible exact Below.refl _ _ | with_reducible refine Below.drew ?_ | with_reducible refine below_drewN ?_ _ | (with_reducible refine bel_alloc ?_ ?_ _; (first | omega | (simp; omega) | simp)) | (with_reducible refine bel_set ?_ ?_ _; (first | omega | (simp; omega) | simp)) | (with_reducible refine bel_tr (by assumption) ?_ ?_; (first | omega | (simp; omega) | simp))))))) h1).mono ?_
    rintro y w5 ⟨rfl, b5⟩
    have s5 := b5.size
    go_wp2_with fail
    refine (l7Copy_any _ n c es _ (by omega) (H.out.below (by (repeat (first | with_reducible exact Below.refl _ _ | with_reducible refine Below.drew ?_ | with_reducible refine below_drewN ?_ _ | (with_reducible refine bel_alloc ?_ ?_ _; (first | omega | (simp; omega) | simp)) | (with_reducible refine bel_set ?_ ?_ _; (first | omega | (simp; omega) | simp)) | (with_reducible refine bel_tr (by assumption) ?_ ?_; (first | omega | (simp; omega) | simp))))))).mono ?_
    rintro y w6 ⟨v, rfl, o6, b6⟩
    have s6 := b6.size
    obtain ⟨A6, c6, rfl, q6⟩ := own_of_row HL.out o6
    have O6 := Lib.hid (q6.lower_ (B' := w.heap.size) (by (first | omega | (simp; omega) | simp)))
    clear o6 q6
    go_wp2
    go_ret2
    rcases hR with ⟨h3, _⟩ | ⟨_, rfl, rfl, rfl⟩
    · exact absurd h3 (fun h3 => h1 h3.1)
    · exact ⟨A6, c6, rfl, O6.out, by (repeat (first | with_reducible exact Below.refl _ _ | with_reducible refine Below.drew ?_ | with_reducible refine below_drewN ?_ _ | (with_reducible refine bel_alloc ?_ ?_ _; (first | omega | (simp; omega) | simp)) | (with_reducible refine bel_set ?_ ?_ _; (first | omega | (simp; omega) | simp)) | (with_reducible refine bel_tr (by assumption) ?_ ?_; (first | omega | (simp; omega) | simp))))⟩

set_option maxRecDepth 100000 in
set_option maxHeartbeats 8000000 in
theorem iQueuePut_any (A : Option Addr) (n c N : Nat) (es T : List (Nat → Int)) (e : Nat → Int) (bv : Bool) (w : World) (hn : n ≤ 4194303) (hnc : n ≤ c) (hcm : c ≤ 9223372036854775807) (hR : PutR es e n T N bv) (h : Rd w 4 A n es) :
    Calls Try.prog 6 #[.slice A n c, .agg #[.int .i64 (e 0), .int .i64 (e 1), .int .i64 (e 2), .int .i64 (e 3)]] w fun y w' => ∃ A' c', y = .returned (.tuple #[.slice A' N c', .bool bv]) ∧ Own w.heap.size w' 4 A' N T ∧ Below w.heap.size w w' := by
  have HL := Lib.hid h.1
  have hcases := h.2
  have H := Lib.hid h
  clear h
  go_enter Try.func6, Try.ntmps6
  go_wp2_with fail
  refine (copyEntries_any A n c es _ (by omega) (H.out.below (by (repeat (first | with_reducible exact Below.refl _ _ | with_reducible refine Below.drew ?_ | with_reducible refine below_drewN ?_ _ | (with_reducible refine bel_alloc ?_ ?_ _; (first | omega | (simp; omega) | simp)) | (with_reducible refine bel_set ?_ ?_ _; (first | omega | (simp; omega) | simp)) | (with_reducible refine bel_tr (by assumption) ?_ ?_; (first | omega | (simp; omega) | simp))))))).mono ?_
  rintro y w1 ⟨v0, rfl, o1, b1⟩
  have s1 := b1.size
  (try simp at s1)
  have O1 := Lib.hid o1
  clear o1
  have kc1 : ∀ o, w1.cell? ⟨w.heap.size, o, none⟩ = _ := (fun o => b1.cell (p := ⟨w.heap.size, o, none⟩) (by (first | omega | (simp; omega) | simp)))
  go_wp2
  go_loopw [7] (fun i wr => ∃ k : Nat, k ≤ n ∧ i = .int .i64 k ∧ Hid (∀ i, i < k → lessE (fld es i) e = true) ∧ Below w.heap.size w wr ∧ Below w1.heap.size w1 wr ∧ w.heap.size < wr.heap.size ∧ wr.cell? ⟨w.heap.size, 0, none⟩ = some (.int .i64 (e 0)) ∧ wr.cell? ⟨w.heap.size, 1, none⟩ = some (.int .i64 (e 1)) ∧ wr.cell? ⟨w.heap.size, 2, none⟩ = some (.int .i64 (e 2)) ∧ wr.cell? ⟨w.heap.size, 3, none⟩ = some (.int .i64 (e 3))) (fun i _ => n - (intOf i).toNat)
  case atStart => exact ⟨0, Nat.zero_le _, rfl, Lib.hid (fun i hi => absurd hi (by omega)), by (repeat (first | with_reducible exact Below.refl _ _ | with_reducible refine Below.drew ?_ | with_reducible refine below_drewN ?_ _ | (with_reducible refine bel_alloc ?_ ?_ _; (first | omega | (simp; omega) | simp)) | (with_reducible refine bel_set ?_ ?_ _; (first | omega | (simp; omega) | simp)) | (with_reducible refine bel_tr (by assumption) ?_ ?_; (first | omega | (simp; omega) | simp)))), Below.refl _ _, by (first | omega | (simp; omega) | simp), by (first | (go_keep; done) | (go_simp; done)), by (first | (go_keep; done) | (go_simp; done)), by (first | (go_keep; done) | (go_simp; done)), by (first | (go_keep; done) | (go_simp; done))⟩
  case round =>
    obtain ⟨k, hk, rfl, HQ, hbel0, hbel01, hxr, x0, x1, x2, x3⟩ := hrel
    have hsz := hbel0.size
    have hkl : (k : Int) ≤ (n : Int) := by omega
    have hk0 : (0 : Int) ≤ (k : Int) := by omega
    by_cases hlt : k < n
    case neg =>
      have hkn : k = n := by omega
      have HP : Hid (k = plc es e n) := plc_of (by omega) HQ.out (.inl hkn)
      have hd : decide (k < n) = false := by simpa using hlt
      have HLT := Lib.hid hlt
      clear hlt hkn
      go_wp2
      refine wp_region_bw (by kernel_rfl) (by kernel_rfl) (fun W hW => ?_)
      have q0 : ∀ p : BW W, p.w.cell? ⟨w.heap.size, 0, none⟩ = some (.int .i64 (e 0)) := fun p => p.cell (by rw [hW]; (first | omega | (simp; omega) | simp)) (by rw [hW]; (first | (go_keep; done) | (go_simp; done)))
      have q1 : ∀ p : BW W, p.w.cell? ⟨w.heap.size, 1, none⟩ = some (.int .i64 (e 1)) := fun p => p.cell (by rw [hW]; (first | omega | (simp; omega) | simp)) (by rw [hW]; (first | (go_keep; done) | (go_simp; done)))
      have q2 : ∀ p : BW W, p.w.cell? ⟨w.heap.size, 2, none⟩ = some (.int .i64 (e 2)) := fun p => p.cell (by rw [hW]; (first | omega | (simp; omega) | simp)) (by rw [hW]; (first | (go_keep; done) | (go_simp; done)))
      have q3 : ∀ p : BW W, p.w.cell? ⟨w.heap.size, 3, none⟩ = some (.int .i64 (e 3)) := fun p => p.cell (by rw [hW]; (first | omega | (simp; omega) | simp)) (by rw [hW]; (first | (go_keep; done) | (go_simp; done)))
      have hbW : Below w.heap.size w W := by rw [hW]; (repeat (first | with_reducible exact Below.refl _ _ | with_reducible refine Below.drew ?_ | with_reducible refine below_drewN ?_ _ | (with_reducible refine bel_alloc ?_ ?_ _; (first | omega | (simp; omega) | simp)) | (with_reducible refine bel_set ?_ ?_ _; (first | omega | (simp; omega) | simp)) | (with_reducible refine bel_tr (by assumption) ?_ ?_; (first | omega | (simp; omega) | simp))))
      have hb1W : Below w1.heap.size w1 W := by rw [hW]; (repeat (first | with_reducible exact Below.refl _ _ | with_reducible refine Below.drew ?_ | with_reducible refine below_drewN ?_ _ | (with_reducible refine bel_alloc ?_ ?_ _; (first | omega | (simp; omega) | simp)) | (with_reducible refine bel_set ?_ ?_ _; (first | omega | (simp; omega) | simp)) | (with_reducible refine bel_tr (by assumption) ?_ ?_; (first | omega | (simp; omega) | simp))))
      have hxW : w.heap.size < W.heap.size := by rw [hW]; (first | omega | (simp; omega) | simp)
      have y0 : W.cell? ⟨w.heap.size, 0, none⟩ = some (.int .i64 (e 0)) := by rw [hW]; (first | (go_keep; done) | (go_simp; done))
      have y1 : W.cell? ⟨w.heap.size, 1, none⟩ = some (.int .i64 (e 1)) := by rw [hW]; (first | (go_keep; done) | (go_simp; done))
      have y2 : W.cell? ⟨w.heap.size, 2, none⟩ = some (.int .i64 (e 2)) := by rw [hW]; (first | (go_keep; done) | (go_simp; done))
      have y3 : W.cell? ⟨w.heap.size, 3, none⟩ = some (.int .i64 (e 3)) := by rw [hW]; (first | (go_keep; done) | (go_simp; done))
      have HW := Lib.hid hW
      clear hW
      repeat (go_big_quiet_step (fail))
      refine wpQuiet_nil ?_
      intro wq hq
      have hbq : Below W.heap.size W wq := by (obtain ⟨p, hp⟩ := hq; rw [hp]; exact p.below)
      clear hq HW
      have sW := hbW.size
      have hbel : Below w.heap.size w wq := hbW.trans (hbq.mono sW)
      have hbel1 : Below w1.heap.size w1 wq := hb1W.trans (hbq.mono hb1W.size)
      have hxq : w.heap.size < wq.heap.size := by have := hbq.size; omega
      have x0 : wq.cell? ⟨w.heap.size, 0, none⟩ = some (.int .i64 (e 0)) := (hbq.cell (p := ⟨w.heap.size, 0, none⟩) hxW).trans y0
      have x1 : wq.cell? ⟨w.heap.size, 1, none⟩ = some (.int .i64 (e 1)) := (hbq.cell (p := ⟨w.heap.size, 1, none⟩) hxW).trans y1
      have x2 : wq.cell? ⟨w.heap.size, 2, none⟩ = some (.int .i64 (e 2)) := (hbq.cell (p := ⟨w.heap.size, 2, none⟩) hxW).trans y2
      have x3 : wq.cell? ⟨w.heap.size, 3, none⟩ = some (.int .i64 (e 3)) := (hbq.cell (p := ⟨w.heap.size, 3, none⟩) hxW).trans y3
      clear q0 q1 q2 q3 y0 y1 y2 y3
      have hkn8 : k ≤ n := hk
      have sq0 : w1.heap.size ≤ wq.heap.size := hbel1.size
      go_upto_region 5 with fail
      go_cut [8] (fun s8 wx => ∃ A3 c3, s8 = .slice A3 (n + 1) c3 ∧ n + 1 ≤ c3 ∧ c3 ≤ 9223372036854775807 ∧ Own w.heap.size wx 4 A3 (n + 1) (insL es (plc es e n) e) ∧ Below w.heap.size w wx ∧ Below w1.heap.size w1 wx)
      case first =>
        go_region_held3 (fun w' => w'.cell? ⟨w.heap.size, 0, none⟩ = some (.int .i64 (e 0)) ∧ w'.cell? ⟨w.heap.size, 1, none⟩ = some (.int .i64 (e 1)) ∧ w'.cell? ⟨w.heap.size, 2, none⟩ = some (.int .i64 (e 2)) ∧ w'.cell? ⟨w.heap.size, 3, none⟩ = some (.int .i64 (e 3))) ((first | (go_keep; done) | (go_simp; done))) (first
          | (go_at_call 12; refine (copyEntries_any _ n c es _ (by omega) (H.out.below (by (repeat (first | with_reducible exact Below.refl _ _ | with_reducible refine Below.drew ?_ | with_reducible refine below_drewN ?_ _ | (with_reducible refine bel_alloc ?_ ?_ _; (first | omega | (simp; omega) | simp)) | (with_reducible refine bel_set ?_ ?_ _; (first | omega | (simp; omega) | simp)) | (with_reducible refine bel_tr (by assumption) ?_ ?_; (first | omega | (simp; omega) | simp))))))).mono ?_; rintro y w2 ⟨v, rfl, o2, b2⟩; have s2 := b2.size; (try simp at s2); have O2 := Lib.hid o2; clear o2; have kc2 : ∀ o, w2.cell? ⟨w.heap.size, o, none⟩ = _ := (fun o => b2.cell (p := ⟨w.heap.size, o, none⟩) (by (first | omega | (simp; omega) | (solve | simp)))); have kb2 := fun (ho : _) => b2.block wq.heap.size ho)
          | (go_at_call 14; refine (insEntry_any wq.heap.size n k _ 1 v es e _ hn hkn8 HL.out (by first | exact O2.out.lower (by (first | omega | (simp; omega) | simp)) | exact World.ownsRow.alloc (O2.out.lower (by (first | omega | (simp; omega) | simp))) _) (by (first | omega | (simp; omega) | simp)) (by first | exact box_heap _ e | exact (kb2 (by (first | omega | (simp; omega) | simp))).trans (box_heap _ e)) (by first | (intro k hk; have := row_lt O2.out k hk; omega) | (intro k hk; have := row_ge O2.out (Nat.le_refl _) k hk; (try simp at this); omega))).mono ?_; rintro y w3 ⟨A3, c3, rfl, hc3, hc4, o3, b3⟩; have s3 := b3.size; (try simp at s3); have O3 := Lib.hid (o3.lower_ (B' := w.heap.size) (by (first | omega | (simp; omega) | simp))); clear o3; have kc4 := fun (o : Nat) => b3.cell (p := ⟨w.heap.size, o, none⟩) hxq))
        all_goals (go_wp2_with fail; go_meet; rw [HP.out] at O3; exact ⟨A3, c3, rfl, hc3, hc4, O3.out, by (repeat (first | with_reducible exact Below.refl _ _ | with_reducible refine Below.drew ?_ | with_reducible refine below_drewN ?_ _ | (with_reducible refine bel_alloc ?_ ?_ _; (first | omega | (simp; omega) | simp)) | (with_reducible refine bel_set ?_ ?_ _; (first | omega | (simp; omega) | simp)) | (with_reducible refine bel_tr (by assumption) ?_ ?_; (first | omega | (simp; omega) | simp)))), by (repeat (first | with_reducible exact Below.refl _ _ | with_reducible refine Below.drew ?_ | with_reducible refine below_drewN ?_ _ | (with_reducible refine bel_alloc ?_ ?_ _; (first | omega | (simp; omega) | simp)) | (with_reducible refine bel_set ?_ ?_ _; (first | omega | (simp; omega) | simp)) | (with_reducible refine bel_tr (by assumption) ?_ ?_; (first | omega | (simp; omega) | simp))))⟩)
      case rest =>
        obtain ⟨A3, c3, rfl, hc3, hc4, o3, b3, b13⟩ := hcut
        have O3 := Lib.hid o3
        have s3 := b3.size
        have s13 := b13.size
        clear o3
        go_wp2_with fail
        by_cases h1 : QOk es n
        · refine (ty (iQueueOk_any _ n c es _ (by omega) hnc (H.out.below (by (repeat (first | with_reducible exact Below.refl _ _ | with_reducible refine Below.drew ?_ | with_reducible refine below_drewN ?_ _ | (with_reducible refine bel_alloc ?_ ?_ _; (first | omega | (simp; omega) | simp)) | (with_reducible refine bel_set ?_ ?_ _; (first | omega | (simp; omega) | simp)) | (with_reducible refine bel_tr (by assumption) ?_ ?_; (first | omega | (simp; omega) | simp))))))) h1).mono ?_
          rintro y w4 ⟨rfl, b4⟩
          have s4 := b4.size
          go_wp2_with fail
          by_cases h2 : QOk (insL es (plc es e n) e) (n + 1)
          · refine (ty (iQueueOk_any A3 (n + 1) c3 (insL es (plc es e n) e) _ (by omega) hc3 (O3.out.rd.below (by (repeat (first | with_reducible exact Below.refl _ _ | with_reducible refine Below.drew ?_ | with_reducible refine below_drewN ?_ _ | (with_reducible refine bel_alloc ?_ ?_ _; (first | omega | (simp; omega) | simp)) | (with_reducible refine bel_set ?_ ?_ _; (first | omega | (simp; omega) | simp)) | (with_reducible refine bel_tr (by assumption) ?_ ?_; (first | omega | (simp; omega) | simp))))))) h2).mono ?_
            rintro y w5 ⟨rfl, b5⟩
            have s5 := b5.size
            go_wp2
            go_ret2
            rcases hR with ⟨_, rfl, rfl, rfl⟩ | ⟨h3, _⟩
            · exact ⟨A3, c3, rfl, O3.out.below (by (repeat (first | with_reducible exact Below.refl _ _ | with_reducible refine Below.drew ?_ | with_reducible refine below_drewN ?_ _ | (with_reducible refine bel_alloc ?_ ?_ _; (first | omega | (simp; omega) | simp)) | (with_reducible refine bel_set ?_ ?_ _; (first | omega | (simp; omega) | simp)) | (with_reducible refine bel_tr (by assumption) ?_ ?_; (first | omega | (simp; omega) | simp))))), by (repeat (first | with_reducible exact Below.refl _ _ | with_reducible refine Below.drew ?_ | with_reducible refine below_drewN ?_ _ | (with_reducible refine bel_alloc ?_ ?_ _; (first | omega | (simp; omega) | simp)) | (with_reducible refine bel_set ?_ ?_ _; (first | omega | (simp; omega) | simp)) | (with_reducible refine bel_tr (by assumption) ?_ ?_; (first | omega | (simp; omega) | simp))))⟩
            · exact absurd ⟨h1, h2⟩ h3
          · refine (tn (iQueueOk_any A3 (n + 1) c3 (insL es (plc es e n) e) _ (by omega) hc3 (O3.out.rd.below (by (repeat (first | with_reducible exact Below.refl _ _ | with_reducible refine Below.drew ?_ | with_reducible refine below_drewN ?_ _ | (with_reducible refine bel_alloc ?_ ?_ _; (first | omega | (simp; omega) | simp)) | (with_reducible refine bel_set ?_ ?_ _; (first | omega | (simp; omega) | simp)) | (with_reducible refine bel_tr (by assumption) ?_ ?_; (first | omega | (simp; omega) | simp))))))) h2).mono ?_
            rintro y w5 ⟨rfl, b5⟩
            have s5 := b5.size
            go_wp2
            go_ret2
            rcases hR with ⟨h3, _⟩ | ⟨_, rfl, rfl, rfl⟩
            · exact absurd h3 (fun h3 => h2 h3.2)
            · have q6 := row_below O1.out (show Below w1.heap.size w1 w5 from by (repeat (first | with_reducible exact Below.refl _ _ | with_reducible refine Below.drew ?_ | with_reducible refine below_drewN ?_ _ | (with_reducible refine bel_alloc ?_ ?_ _; (first | omega | (simp; omega) | simp)) | (with_reducible refine bel_set ?_ ?_ _; (first | omega | (simp; omega) | simp)) | (with_reducible refine bel_tr (by assumption) ?_ ?_; (first | omega | (simp; omega) | simp)))))
              obtain ⟨A6, c6, rfl, q7⟩ := own_of_row HL.out q6
              exact ⟨A6, c6, rfl, q7.lower_ (by (first | omega | (simp; omega) | simp)), by (repeat (first | with_reducible exact Below.refl _ _ | with_reducible refine Below.drew ?_ | with_reducible refine below_drewN ?_ _ | (with_reducible refine bel_alloc ?_ ?_ _; (first | omega | (simp; omega) | simp)) | (with_reducible refine bel_set ?_ ?_ _; (first | omega | (simp; omega) | simp)) | (with_reducible refine bel_tr (by assumption) ?_ ?_; (first | omega | (simp; omega) | simp))))⟩
        · refine (tn (iQueueOk_any _ n c es _ (by omega) hnc (H.out.below (by (repeat (first | with_reducible exact Below.refl _ _ | with_reducible refine Below.drew ?_ | with_reducible refine below_drewN ?_ _ | (with_reducible refine bel_alloc ?_ ?_ _; (first | omega | (simp; omega) | simp)) | (with_reducible refine bel_set ?_ ?_ _; (first | omega | (simp; omega) | simp)) | (with_reducible refine bel_tr (by assumption) ?_ ?_; (first | omega | (simp; omega) | simp))))))) h1).mono ?_
          rintro y w5 ⟨rfl, b5⟩
          have s5 := b5.size
          go_wp2
          go_ret2
          rcases hR with ⟨h3, _⟩ | ⟨_, rfl, rfl, rfl⟩
          · exact absurd h3 (fun h3 => h1 h3.1)
          · have q6 := row_below O1.out (show Below w1.heap.size w1 w5 from by (repeat (first | with_reducible exact Below.refl _ _ | with_reducible refine Below.drew ?_ | with_reducible refine below_drewN ?_ _ | (with_reducible refine bel_alloc ?_ ?_ _; (first | omega | (simp; omega) | simp)) | (with_reducible refine bel_set ?_ ?_ _; (first | omega | (simp; omega) | simp)) | (with_reducible refine bel_tr (by assumption) ?_ ?_; (first | omega | (simp; omega) | simp)))))
            obtain ⟨A6, c6, rfl, q7⟩ := own_of_row HL.out q6
            exact ⟨A6, c6, rfl, q7.lower_ (by (first | omega | (simp; omega) | simp)), by (repeat (first | with_reducible exact Below.refl _ _ | with_reducible refine Below.drew ?_ | with_reducible refine below_drewN ?_ _ | (with_reducible refine bel_alloc ?_ ?_ _; (first | omega | (simp; omega) | simp)) | (with_reducible refine bel_set ?_ ?_ _; (first | omega | (simp; omega) | simp)) | (with_reducible refine bel_tr (by assumption) ?_ ?_; (first | omega | (simp; omega) | simp))))⟩
    obtain ⟨b, off, rfl, hb, hc⟩ := hcases.resolve_left (by omega)
    have hbr : b < wr.heap.size := by omega
    have c0 : wr.cell? ⟨b, off + k * 4, none⟩ = some (.int .i64 (fld es k 0)) := (hbel0.cell (p := ⟨b, off + k * 4, none⟩) hb).trans (hc k hlt 0 (by omega))
    have c1 : wr.cell? ⟨b, off + k * 4 + 1, none⟩ = some (.int .i64 (fld es k 1)) := (hbel0.cell (p := ⟨b, off + k * 4 + 1, none⟩) hb).trans (hc k hlt 1 (by omega))
    have c2 : wr.cell? ⟨b, off + k * 4 + 2, none⟩ = some (.int .i64 (fld es k 2)) := (hbel0.cell (p := ⟨b, off + k * 4 + 2, none⟩) hb).trans (hc k hlt 2 (by omega))
    have c3 : wr.cell? ⟨b, off + k * 4 + 3, none⟩ = some (.int .i64 (fld es k 3)) := (hbel0.cell (p := ⟨b, off + k * 4 + 3, none⟩) hb).trans (hc k hlt 3 (by omega))
    have hd : decide (k < n) = true := by simpa using hlt
    have hki : (k : Int) < (n : Int) := by omega
    rcases Bool.eq_false_or_eq_true (eLt (fld es k 0) (e 0) (fld es k 1) (e 1)) with hL | hL
    · have HQ1 : Hid (∀ i, i < k + 1 → lessE (fld es i) e = true) := fun i hi => by
        rcases Nat.lt_or_ge i k with h3 | h3
        · exact HQ.out i h3
        · obtain rfl : i = k := by omega
          exact hL
      clear hc hcases
      go_wp2
      refine wp_region_bw (by kernel_rfl) (by kernel_rfl) (fun W hW => ?_)
      have q0 : ∀ p : BW W, p.w.cell? ⟨b, off + k * 4, none⟩ = some (.int .i64 (fld es k 0)) := fun p => p.cell (by rw [hW]; (first | omega | (simp; omega) | simp)) (by rw [hW]; (first | (go_keep; done) | (go_simp; done)))
      have q1 : ∀ p : BW W, p.w.cell? ⟨b, off + k * 4 + 1, none⟩ = some (.int .i64 (fld es k 1)) := fun p => p.cell (by rw [hW]; (first | omega | (simp; omega) | simp)) (by rw [hW]; (first | (go_keep; done) | (go_simp; done)))
      have q2 : ∀ p : BW W, p.w.cell? ⟨b, off + k * 4 + 2, none⟩ = some (.int .i64 (fld es k 2)) := fun p => p.cell (by rw [hW]; (first | omega | (simp; omega) | simp)) (by rw [hW]; (first | (go_keep; done) | (go_simp; done)))
      have q3 : ∀ p : BW W, p.w.cell? ⟨b, off + k * 4 + 3, none⟩ = some (.int .i64 (fld es k 3)) := fun p => p.cell (by rw [hW]; (first | omega | (simp; omega) | simp)) (by rw [hW]; (first | (go_keep; done) | (go_simp; done)))
      have q4 : ∀ p : BW W, p.w.cell? ⟨w.heap.size, 0, none⟩ = some (.int .i64 (e 0)) := fun p => p.cell (by rw [hW]; (first | omega | (simp; omega) | simp)) (by rw [hW]; (first | (go_keep; done) | (go_simp; done)))
      have q5 : ∀ p : BW W, p.w.cell? ⟨w.heap.size, 1, none⟩ = some (.int .i64 (e 1)) := fun p => p.cell (by rw [hW]; (first | omega | (simp; omega) | simp)) (by rw [hW]; (first | (go_keep; done) | (go_simp; done)))
      have q6 : ∀ p : BW W, p.w.cell? ⟨w.heap.size, 2, none⟩ = some (.int .i64 (e 2)) := fun p => p.cell (by rw [hW]; (first | omega | (simp; omega) | simp)) (by rw [hW]; (first | (go_keep; done) | (go_simp; done)))
      have q7 : ∀ p : BW W, p.w.cell? ⟨w.heap.size, 3, none⟩ = some (.int .i64 (e 3)) := fun p => p.cell (by rw [hW]; (first | omega | (simp; omega) | simp)) (by rw [hW]; (first | (go_keep; done) | (go_simp; done)))
      have hbW : Below w.heap.size w W := by rw [hW]; (repeat (first | with_reducible exact Below.refl _ _ | with_reducible refine Below.drew ?_ | with_reducible refine below_drewN ?_ _ | (with_reducible refine bel_alloc ?_ ?_ _; (first | omega | (simp; omega) | simp)) | (with_reducible refine bel_set ?_ ?_ _; (first | omega | (simp; omega) | simp)) | (with_reducible refine bel_tr (by assumption) ?_ ?_; (first | omega | (simp; omega) | simp))))
      have hb1W : Below w1.heap.size w1 W := by rw [hW]; (repeat (first | with_reducible exact Below.refl _ _ | with_reducible refine Below.drew ?_ | with_reducible refine below_drewN ?_ _ | (with_reducible refine bel_alloc ?_ ?_ _; (first | omega | (simp; omega) | simp)) | (with_reducible refine bel_set ?_ ?_ _; (first | omega | (simp; omega) | simp)) | (with_reducible refine bel_tr (by assumption) ?_ ?_; (first | omega | (simp; omega) | simp))))
      have hxW : w.heap.size < W.heap.size := by rw [hW]; (first | omega | (simp; omega) | simp)
      have y0 : W.cell? ⟨w.heap.size, 0, none⟩ = some (.int .i64 (e 0)) := by rw [hW]; (first | (go_keep; done) | (go_simp; done))
      have y1 : W.cell? ⟨w.heap.size, 1, none⟩ = some (.int .i64 (e 1)) := by rw [hW]; (first | (go_keep; done) | (go_simp; done))
      have y2 : W.cell? ⟨w.heap.size, 2, none⟩ = some (.int .i64 (e 2)) := by rw [hW]; (first | (go_keep; done) | (go_simp; done))
      have y3 : W.cell? ⟨w.heap.size, 3, none⟩ = some (.int .i64 (e 3)) := by rw [hW]; (first | (go_keep; done) | (go_simp; done))
      have HW := Lib.hid hW
      clear hW
      repeat (go_big_quiet_step ((go_at_call 13; exact bw_of (iLess_y _ _ _ _ _ _ _ _ _ hL))))
      refine wpQuiet_nil ?_
      intro wq hq
      have hbq : Below W.heap.size W wq := by (obtain ⟨p, hp⟩ := hq; rw [hp]; exact p.below)
      clear hq HW
      have sW := hbW.size
      have hbel : Below w.heap.size w wq := hbW.trans (hbq.mono sW)
      have hbel1 : Below w1.heap.size w1 wq := hb1W.trans (hbq.mono hb1W.size)
      have hxq : w.heap.size < wq.heap.size := by have := hbq.size; omega
      have x0 : wq.cell? ⟨w.heap.size, 0, none⟩ = some (.int .i64 (e 0)) := (hbq.cell (p := ⟨w.heap.size, 0, none⟩) hxW).trans y0
      have x1 : wq.cell? ⟨w.heap.size, 1, none⟩ = some (.int .i64 (e 1)) := (hbq.cell (p := ⟨w.heap.size, 1, none⟩) hxW).trans y1
      have x2 : wq.cell? ⟨w.heap.size, 2, none⟩ = some (.int .i64 (e 2)) := (hbq.cell (p := ⟨w.heap.size, 2, none⟩) hxW).trans y2
      have x3 : wq.cell? ⟨w.heap.size, 3, none⟩ = some (.int .i64 (e 3)) := (hbq.cell (p := ⟨w.heap.size, 3, none⟩) hxW).trans y3
      clear q0 q1 q2 q3 y0 y1 y2 y3
      clear q4 q5 q6 q7
      go_wp2
      go_roundw
      case rel => exact ⟨k + 1, by omega, by go_num, HQ1, by (repeat (first | with_reducible exact Below.refl _ _ | with_reducible refine Below.drew ?_ | with_reducible refine below_drewN ?_ _ | (with_reducible refine bel_alloc ?_ ?_ _; (first | omega | (simp; omega) | simp)) | (with_reducible refine bel_set ?_ ?_ _; (first | omega | (simp; omega) | simp)) | (with_reducible refine bel_tr (by assumption) ?_ ?_; (first | omega | (simp; omega) | simp)))), by (repeat (first | with_reducible exact Below.refl _ _ | with_reducible refine Below.drew ?_ | with_reducible refine below_drewN ?_ _ | (with_reducible refine bel_alloc ?_ ?_ _; (first | omega | (simp; omega) | simp)) | (with_reducible refine bel_set ?_ ?_ _; (first | omega | (simp; omega) | simp)) | (with_reducible refine bel_tr (by assumption) ?_ ?_; (first | omega | (simp; omega) | simp)))), by omega, x0, x1, x2, x3⟩
      case measure => simp [intOf]; omega
    · have HP : Hid (k = plc es e n) := plc_of (by omega) HQ.out (.inr ⟨hlt, hL⟩)
      clear hc hcases
      go_wp2
      refine wp_region_bw (by kernel_rfl) (by kernel_rfl) (fun W hW => ?_)
      have q0 : ∀ p : BW W, p.w.cell? ⟨b, off + k * 4, none⟩ = some (.int .i64 (fld es k 0)) := fun p => p.cell (by rw [hW]; (first | omega | (simp; omega) | simp)) (by rw [hW]; (first | (go_keep; done) | (go_simp; done)))
      have q1 : ∀ p : BW W, p.w.cell? ⟨b, off + k * 4 + 1, none⟩ = some (.int .i64 (fld es k 1)) := fun p => p.cell (by rw [hW]; (first | omega | (simp; omega) | simp)) (by rw [hW]; (first | (go_keep; done) | (go_simp; done)))
      have q2 : ∀ p : BW W, p.w.cell? ⟨b, off + k * 4 + 2, none⟩ = some (.int .i64 (fld es k 2)) := fun p => p.cell (by rw [hW]; (first | omega | (simp; omega) | simp)) (by rw [hW]; (first | (go_keep; done) | (go_simp; done)))
      have q3 : ∀ p : BW W, p.w.cell? ⟨b, off + k * 4 + 3, none⟩ = some (.int .i64 (fld es k 3)) := fun p => p.cell (by rw [hW]; (first | omega | (simp; omega) | simp)) (by rw [hW]; (first | (go_keep; done) | (go_simp; done)))
      have q4 : ∀ p : BW W, p.w.cell? ⟨w.heap.size, 0, none⟩ = some (.int .i64 (e 0)) := fun p => p.cell (by rw [hW]; (first | omega | (simp; omega) | simp)) (by rw [hW]; (first | (go_keep; done) | (go_simp; done)))
      have q5 : ∀ p : BW W, p.w.cell? ⟨w.heap.size, 1, none⟩ = some (.int .i64 (e 1)) := fun p => p.cell (by rw [hW]; (first | omega | (simp; omega) | simp)) (by rw [hW]; (first | (go_keep; done) | (go_simp; done)))
      have q6 : ∀ p : BW W, p.w.cell? ⟨w.heap.size, 2, none⟩ = some (.int .i64 (e 2)) := fun p => p.cell (by rw [hW]; (first | omega | (simp; omega) | simp)) (by rw [hW]; (first | (go_keep; done) | (go_simp; done)))
      have q7 : ∀ p : BW W, p.w.cell? ⟨w.heap.size, 3, none⟩ = some (.int .i64 (e 3)) := fun p => p.cell (by rw [hW]; (first | omega | (simp; omega) | simp)) (by rw [hW]; (first | (go_keep; done) | (go_simp; done)))
      have hbW : Below w.heap.size w W := by rw [hW]; (repeat (first | with_reducible exact Below.refl _ _ | with_reducible refine Below.drew ?_ | with_reducible refine below_drewN ?_ _ | (with_reducible refine bel_alloc ?_ ?_ _; (first | omega | (simp; omega) | simp)) | (with_reducible refine bel_set ?_ ?_ _; (first | omega | (simp; omega) | simp)) | (with_reducible refine bel_tr (by assumption) ?_ ?_; (first | omega | (simp; omega) | simp))))
      have hb1W : Below w1.heap.size w1 W := by rw [hW]; (repeat (first | with_reducible exact Below.refl _ _ | with_reducible refine Below.drew ?_ | with_reducible refine below_drewN ?_ _ | (with_reducible refine bel_alloc ?_ ?_ _; (first | omega | (simp; omega) | simp)) | (with_reducible refine bel_set ?_ ?_ _; (first | omega | (simp; omega) | simp)) | (with_reducible refine bel_tr (by assumption) ?_ ?_; (first | omega | (simp; omega) | simp))))
      have hxW : w.heap.size < W.heap.size := by rw [hW]; (first | omega | (simp; omega) | simp)
      have y0 : W.cell? ⟨w.heap.size, 0, none⟩ = some (.int .i64 (e 0)) := by rw [hW]; (first | (go_keep; done) | (go_simp; done))
      have y1 : W.cell? ⟨w.heap.size, 1, none⟩ = some (.int .i64 (e 1)) := by rw [hW]; (first | (go_keep; done) | (go_simp; done))
      have y2 : W.cell? ⟨w.heap.size, 2, none⟩ = some (.int .i64 (e 2)) := by rw [hW]; (first | (go_keep; done) | (go_simp; done))
      have y3 : W.cell? ⟨w.heap.size, 3, none⟩ = some (.int .i64 (e 3)) := by rw [hW]; (first | (go_keep; done) | (go_simp; done))
      have HW := Lib.hid hW
      clear hW
      repeat (go_big_quiet_step ((go_at_call 13; exact bw_of (iLess_n _ _ _ _ _ _ _ _ _ hL))))
      refine wpQuiet_nil ?_
      intro wq hq
      have hbq : Below W.heap.size W wq := by (obtain ⟨p, hp⟩ := hq; rw [hp]; exact p.below)
      clear hq HW
      have sW := hbW.size
      have hbel : Below w.heap.size w wq := hbW.trans (hbq.mono sW)
      have hbel1 : Below w1.heap.size w1 wq := hb1W.trans (hbq.mono hb1W.size)
      have hxq : w.heap.size < wq.heap.size := by have := hbq.size; omega
      have x0 : wq.cell? ⟨w.heap.size, 0, none⟩ = some (.int .i64 (e 0)) := (hbq.cell (p := ⟨w.heap.size, 0, none⟩) hxW).trans y0
      have x1 : wq.cell? ⟨w.heap.size, 1, none⟩ = some (.int .i64 (e 1)) := (hbq.cell (p := ⟨w.heap.size, 1, none⟩) hxW).trans y1
      have x2 : wq.cell? ⟨w.heap.size, 2, none⟩ = some (.int .i64 (e 2)) := (hbq.cell (p := ⟨w.heap.size, 2, none⟩) hxW).trans y2
      have x3 : wq.cell? ⟨w.heap.size, 3, none⟩ = some (.int .i64 (e 3)) := (hbq.cell (p := ⟨w.heap.size, 3, none⟩) hxW).trans y3
      clear q0 q1 q2 q3 y0 y1 y2 y3
      clear q4 q5 q6 q7
      have hkn8 : k ≤ n := hk
      have sq0 : w1.heap.size ≤ wq.heap.size := hbel1.size
      go_upto_region 5 with fail
      go_cut [8] (fun s8 wx => ∃ A3 c3, s8 = .slice A3 (n + 1) c3 ∧ n + 1 ≤ c3 ∧ c3 ≤ 9223372036854775807 ∧ Own w.heap.size wx 4 A3 (n + 1) (insL es (plc es e n) e) ∧ Below w.heap.size w wx ∧ Below w1.heap.size w1 wx)
      case first =>
        go_region_held3 (fun w' => w'.cell? ⟨w.heap.size, 0, none⟩ = some (.int .i64 (e 0)) ∧ w'.cell? ⟨w.heap.size, 1, none⟩ = some (.int .i64 (e 1)) ∧ w'.cell? ⟨w.heap.size, 2, none⟩ = some (.int .i64 (e 2)) ∧ w'.cell? ⟨w.heap.size, 3, none⟩ = some (.int .i64 (e 3))) ((first | (go_keep; done) | (go_simp; done))) (first
          | (go_at_call 12; refine (copyEntries_any _ n c es _ (by omega) (H.out.below (by (repeat (first | with_reducible exact Below.refl _ _ | with_reducible refine Below.drew ?_ | with_reducible refine below_drewN ?_ _ | (with_reducible refine bel_alloc ?_ ?_ _; (first | omega | (simp; omega) | simp)) | (with_reducible refine bel_set ?_ ?_ _; (first | omega | (simp; omega) | simp)) | (with_reducible refine bel_tr (by assumption) ?_ ?_; (first | omega | (simp; omega) | simp))))))).mono ?_; rintro y w2 ⟨v, rfl, o2, b2⟩; have s2 := b2.size; (try simp at s2); have O2 := Lib.hid o2; clear o2; have kc2 : ∀ o, w2.cell? ⟨w.heap.size, o, none⟩ = _ := (fun o => b2.cell (p := ⟨w.heap.size, o, none⟩) (by (first | omega | (simp; omega) | (solve | simp)))); have kb2 := fun (ho : _) => b2.block wq.heap.size ho)
          | (go_at_call 14; refine (insEntry_any wq.heap.size n k _ 1 v es e _ hn hkn8 HL.out (by first | exact O2.out.lower (by (first | omega | (simp; omega) | simp)) | exact World.ownsRow.alloc (O2.out.lower (by (first | omega | (simp; omega) | simp))) _) (by (first | omega | (simp; omega) | simp)) (by first | exact box_heap _ e | exact (kb2 (by (first | omega | (simp; omega) | simp))).trans (box_heap _ e)) (by first | (intro k hk; have := row_lt O2.out k hk; omega) | (intro k hk; have := row_ge O2.out (Nat.le_refl _) k hk; (try simp at this); omega))).mono ?_; rintro y w3 ⟨A3, c3, rfl, hc3, hc4, o3, b3⟩; have s3 := b3.size; (try simp at s3); have O3 := Lib.hid (o3.lower_ (B' := w.heap.size) (by (first | omega | (simp; omega) | simp))); clear o3; have kc4 := fun (o : Nat) => b3.cell (p := ⟨w.heap.size, o, none⟩) hxq))
        all_goals (go_wp2_with fail; go_meet; rw [HP.out] at O3; exact ⟨A3, c3, rfl, hc3, hc4, O3.out, by (repeat (first | with_reducible exact Below.refl _ _ | with_reducible refine Below.drew ?_ | with_reducible refine below_drewN ?_ _ | (with_reducible refine bel_alloc ?_ ?_ _; (first | omega | (simp; omega) | simp)) | (with_reducible refine bel_set ?_ ?_ _; (first | omega | (simp; omega) | simp)) | (with_reducible refine bel_tr (by assumption) ?_ ?_; (first | omega | (simp; omega) | simp)))), by (repeat (first | with_reducible exact Below.refl _ _ | with_reducible refine Below.drew ?_ | with_reducible refine below_drewN ?_ _ | (with_reducible refine bel_alloc ?_ ?_ _; (first | omega | (simp; omega) | simp)) | (with_reducible refine bel_set ?_ ?_ _; (first | omega | (simp; omega) | simp)) | (with_reducible refine bel_tr (by assumption) ?_ ?_; (first | omega | (simp; omega) | simp))))⟩)
      case rest =>
        obtain ⟨A3, c3, rfl, hc3, hc4, o3, b3, b13⟩ := hcut
        have O3 := Lib.hid o3
        have s3 := b3.size
        have s13 := b13.size
        clear o3
        go_wp2_with fail
        by_cases h1 : QOk es n
        · refine (ty (iQueueOk_any _ n c es _ (by omega) hnc (H.out.below (by (repeat (first | with_reducible exact Below.refl _ _ | with_reducible refine Below.drew ?_ | with_reducible refine below_drewN ?_ _ | (with_reducible refine bel_alloc ?_ ?_ _; (first | omega | (simp; omega) | simp)) | (with_reducible refine bel_set ?_ ?_ _; (first | omega | (simp; omega) | simp)) | (with_reducible refine bel_tr (by assumption) ?_ ?_; (first | omega | (simp; omega) | simp))))))) h1).mono ?_
          rintro y w4 ⟨rfl, b4⟩
          have s4 := b4.size
          go_wp2_with fail
          by_cases h2 : QOk (insL es (plc es e n) e) (n + 1)
          · refine (ty (iQueueOk_any A3 (n + 1) c3 (insL es (plc es e n) e) _ (by omega) hc3 (O3.out.rd.below (by (repeat (first | with_reducible exact Below.refl _ _ | with_reducible refine Below.drew ?_ | with_reducible refine below_drewN ?_ _ | (with_reducible refine bel_alloc ?_ ?_ _; (first | omega | (simp; omega) | simp)) | (with_reducible refine bel_set ?_ ?_ _; (first | omega | (simp; omega) | simp)) | (with_reducible refine bel_tr (by assumption) ?_ ?_; (first | omega | (simp; omega) | simp))))))) h2).mono ?_
            rintro y w5 ⟨rfl, b5⟩
            have s5 := b5.size
            go_wp2
            go_ret2
            rcases hR with ⟨_, rfl, rfl, rfl⟩ | ⟨h3, _⟩
            · exact ⟨A3, c3, rfl, O3.out.below (by (repeat (first | with_reducible exact Below.refl _ _ | with_reducible refine Below.drew ?_ | with_reducible refine below_drewN ?_ _ | (with_reducible refine bel_alloc ?_ ?_ _; (first | omega | (simp; omega) | simp)) | (with_reducible refine bel_set ?_ ?_ _; (first | omega | (simp; omega) | simp)) | (with_reducible refine bel_tr (by assumption) ?_ ?_; (first | omega | (simp; omega) | simp))))), by (repeat (first | with_reducible exact Below.refl _ _ | with_reducible refine Below.drew ?_ | with_reducible refine below_drewN ?_ _ | (with_reducible refine bel_alloc ?_ ?_ _; (first | omega | (simp; omega) | simp)) | (with_reducible refine bel_set ?_ ?_ _; (first | omega | (simp; omega) | simp)) | (with_reducible refine bel_tr (by assumption) ?_ ?_; (first | omega | (simp; omega) | simp))))⟩
            · exact absurd ⟨h1, h2⟩ h3
          · refine (tn (iQueueOk_any A3 (n + 1) c3 (insL es (plc es e n) e) _ (by omega) hc3 (O3.out.rd.below (by (repeat (first | with_reducible exact Below.refl _ _ | with_reducible refine Below.drew ?_ | with_reducible refine below_drewN ?_ _ | (with_reducible refine bel_alloc ?_ ?_ _; (first | omega | (simp; omega) | simp)) | (with_reducible refine bel_set ?_ ?_ _; (first | omega | (simp; omega) | simp)) | (with_reducible refine bel_tr (by assumption) ?_ ?_; (first | omega | (simp; omega) | simp))))))) h2).mono ?_
            rintro y w5 ⟨rfl, b5⟩
            have s5 := b5.size
            go_wp2
            go_ret2
            rcases hR with ⟨h3, _⟩ | ⟨_, rfl, rfl, rfl⟩
            · exact absurd h3 (fun h3 => h2 h3.2)
            · have q6 := row_below O1.out (show Below w1.heap.size w1 w5 from by (repeat (first | with_reducible exact Below.refl _ _ | with_reducible refine Below.drew ?_ | with_reducible refine below_drewN ?_ _ | (with_reducible refine bel_alloc ?_ ?_ _; (first | omega | (simp; omega) | simp)) | (with_reducible refine bel_set ?_ ?_ _; (first | omega | (simp; omega) | simp)) | (with_reducible refine bel_tr (by assumption) ?_ ?_; (first | omega | (simp; omega) | simp)))))
              obtain ⟨A6, c6, rfl, q7⟩ := own_of_row HL.out q6
              exact ⟨A6, c6, rfl, q7.lower_ (by (first | omega | (simp; omega) | simp)), by (repeat (first | with_reducible exact Below.refl _ _ | with_reducible refine Below.drew ?_ | with_reducible refine below_drewN ?_ _ | (with_reducible refine bel_alloc ?_ ?_ _; (first | omega | (simp; omega) | simp)) | (with_reducible refine bel_set ?_ ?_ _; (first | omega | (simp; omega) | simp)) | (with_reducible refine bel_tr (by assumption) ?_ ?_; (first | omega | (simp; omega) | simp))))⟩
        · refine (tn (iQueueOk_any _ n c es _ (by omega) hnc (H.out.below (by (repeat (first | with_reducible exact Below.refl _ _ | with_reducible refine Below.drew ?_ | with_reducible refine below_drewN ?_ _ | (with_reducible refine bel_alloc ?_ ?_ _; (first | omega | (simp; omega) | simp)) | (with_reducible refine bel_set ?_ ?_ _; (first | omega | (simp; omega) | simp)) | (with_reducible refine bel_tr (by assumption) ?_ ?_; (first | omega | (simp; omega) | simp))))))) h1).mono ?_
          rintro y w5 ⟨rfl, b5⟩
          have s5 := b5.size
          go_wp2
          go_ret2
          rcases hR with ⟨h3, _⟩ | ⟨_, rfl, rfl, rfl⟩
          · exact absurd h3 (fun h3 => h1 h3.1)
          · have q6 := row_below O1.out (show Below w1.heap.size w1 w5 from by (repeat (first | with_reducible exact Below.refl _ _ | with_reducible refine Below.drew ?_ | with_reducible refine below_drewN ?_ _ | (with_reducible refine bel_alloc ?_ ?_ _; (first | omega | (simp; omega) | simp)) | (with_reducible refine bel_set ?_ ?_ _; (first | omega | (simp; omega) | simp)) | (with_reducible refine bel_tr (by assumption) ?_ ?_; (first | omega | (simp; omega) | simp)))))
            obtain ⟨A6, c6, rfl, q7⟩ := own_of_row HL.out q6
            exact ⟨A6, c6, rfl, q7.lower_ (by (first | omega | (simp; omega) | simp)), by (repeat (first | with_reducible exact Below.refl _ _ | with_reducible refine Below.drew ?_ | with_reducible refine below_drewN ?_ _ | (with_reducible refine bel_alloc ?_ ?_ _; (first | omega | (simp; omega) | simp)) | (with_reducible refine bel_set ?_ ?_ _; (first | omega | (simp; omega) | simp)) | (with_reducible refine bel_tr (by assumption) ?_ ?_; (first | omega | (simp; omega) | simp))))⟩
end Go.Proofs.Ytfilagmboeeclaa
