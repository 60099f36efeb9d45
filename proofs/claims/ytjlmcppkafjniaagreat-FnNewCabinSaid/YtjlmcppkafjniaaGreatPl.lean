/-
  Contracts of l7Put: the place of an entry in a list, and the list with the entry put in there. No conditions beyond those stated.
-/
import Derived.Test.YtjlmcppkafjniaaGreatMk
import Derived.Test.YtjlmcppkafjniaaGreatCo
import Derived.Test.YtjlmcppkafjniaaGreatIne
import Derived.Deep.DeepCutAuto
namespace Go.Proofs.YtjlmcppkafjniaaGreat
open Go.RowKit

/-- The place of e: the first element that is not less. -/
def plc (es : List (Nat → Int)) (e : Nat → Int) (n : Nat) : Nat := match ixOf (fun i => !lessE (fld es i) e) n with | none => n | some k => k
theorem plc_le {es : List (Nat → Int)} {e : Nat → Int} {n : Nat} : plc es e n ≤ n := by
  unfold plc
  split
  · omega
  · rename_i k hk
    have := ixOf_some hk
    omega
theorem plc_of {es : List (Nat → Int)} {e : Nat → Int} {n k : Nat} (_hk : k ≤ n) (h1 : ∀ i, i < k → lessE (fld es i) e = true) (h2 : k = n ∨ (k < n ∧ lessE (fld es k) e = false)) : k = plc es e n := by
  unfold plc
  split
  · rename_i hx
    rcases h2 with h2 | ⟨h2, h3⟩
    · exact h2
    · have := ixOf_none hx k h2
      simp [h3] at this
  · rename_i j hj
    obtain ⟨h4, h5, h6⟩ := ixOf_some hj
    rcases Nat.lt_trichotomy j k with h | h | h
    · have := h1 j h
      simp [this] at h5
    · exact h.symm
    · rcases h2 with h2 | ⟨h2, h3⟩
      · omega
      · have := h6 k h
        simp [h3] at this
theorem rd_one4 {w : World} {h : Nat} {e : Nat → Int} (hh : h < w.heap.size) (h0 : w.cell? ⟨h, 0, none⟩ = some (.int .i64 (e 0))) (h1 : w.cell? ⟨h, 1, none⟩ = some (.int .i64 (e 1))) (h2 : w.cell? ⟨h, 2, none⟩ = some (.int .i64 (e 2))) (h3 : w.cell? ⟨h, 3, none⟩ = some (.int .i64 (e 3))) :
    Rd w 4 (some ⟨h, 0, none⟩) 1 [e] :=
  ⟨rfl, .inr ⟨h, 0, rfl, hh, fun i hi j hj => by
    obtain rfl : i = 0 := by omega
    match j, hj with
    | 0, _ => exact h0
    | 1, _ => exact h1
    | 2, _ => exact h2
    | 3, _ => exact h3⟩⟩

set_option maxRecDepth 100000 in
set_option maxHeartbeats 8000000 in
theorem l7Put_pos (b off : Nat) (n c : Nat) (es : List (Nat → Int)) (e : Nat → Int) (w : World) (hn : n ≤ 4194303) (hnc : n ≤ c) (hcm : c ≤ 9223372036854775807) (h : Rd w 4 (some ⟨b, off, none⟩) n es) (hn0 : 0 < n) :
    Calls Tryz.prog 92 #[.slice (some ⟨b, off, none⟩) n c, .agg #[.int .i64 (e 0), .int .i64 (e 1), .int .i64 (e 2), .int .i64 (e 3)]] w fun y w' => ∃ v, y = .returned v ∧ w'.ownsRow w.heap.size 82 4 v (n + 1) (flat 4 (insL es (plc es e n) e)) ∧ Below w.heap.size w w' := by
  obtain ⟨i0, hi0, hz0, hz1, hz2⟩ := info_parts copyEntries_info
  have hb : b < w.heap.size := by
    obtain ⟨_, _, h1, h2, _⟩ := h.2.resolve_left (by omega)
    injection h1 with h1
    injection h1 with h1 _
    rw [h1]
    exact h2
  have hcc : Hid (∀ i, i < n → ∀ j, j < 4 → w.cell? ⟨b, off + i * 4 + j, none⟩ = some (.int .i64 (fld es i j))) := by
    obtain ⟨_, _, h1, h2, h3⟩ := h.2.resolve_left (by omega)
    injection h1 with h1
    injection h1 with h1 h4
    rw [h1, h4]
    exact h3
  have H := Lib.hid h
  clear h
  go_enter Tryz.func92, Tryz.ntmps92
  go_wp2
  go_loopw [5] (fun i wr => ∃ k : Nat, k ≤ n ∧ i = .int .i64 k ∧ Hid (∀ i, i < k → lessE (fld es i) e = true) ∧ Below w.heap.size w wr ∧ w.heap.size < wr.heap.size ∧ wr.cell? ⟨w.heap.size, 0, none⟩ = some (.int .i64 (e 0)) ∧ wr.cell? ⟨w.heap.size, 1, none⟩ = some (.int .i64 (e 1)) ∧ wr.cell? ⟨w.heap.size, 2, none⟩ = some (.int .i64 (e 2)) ∧ wr.cell? ⟨w.heap.size, 3, none⟩ = some (.int .i64 (e 3))) (fun i _ => n - (intOf i).toNat)
  case atStart => exact ⟨0, Nat.zero_le _, rfl, Lib.hid (fun i hi => absurd hi (by omega)), by (repeat (first | with_reducible exact Below.refl _ _ | with_reducible refine Below.drew ?_ | with_reducible refine below_drewN ?_ _ | (with_reducible refine bel_alloc ?_ ?_ _; (first | omega | (simp; omega) | simp)) | (with_reducible refine bel_set ?_ ?_ _; (first | omega | (simp; omega) | simp)) | (with_reducible refine bel_tr (by assumption) ?_ ?_; (first | omega | (simp; omega) | simp)))), by (first | omega | (simp; omega) | simp), by (first | (go_keep; done) | (go_simp; done)), by (first | (go_keep; done) | (go_simp; done)), by (first | (go_keep; done) | (go_simp; done)), by (first | (go_keep; done) | (go_simp; done))⟩
  case round =>
    obtain ⟨k, hk, rfl, HQ, hbel0, hxr, x0, x1, x2, x3⟩ := hrel
    have hsz := hbel0.size
    have hkl : (k : Int) ≤ (n : Int) := by omega
    have hk0 : (0 : Int) ≤ (k : Int) := by omega
    by_cases hlt : k < n
    case neg =>
      have hkn : k = n := by omega
      have HP : Hid (k = plc es e n) := plc_of (by omega) HQ.out (.inl hkn)
      have hd : decide (k < n) = false := by simpa using hlt
      have HLT := Lib.hid hlt
      clear hlt hkn
      go_wp2
      refine wp_region_bw (by kernel_rfl) (by kernel_rfl) (fun W hW => ?_)
      have q0 : ∀ p : BW W, p.w.cell? ⟨w.heap.size, 0, none⟩ = some (.int .i64 (e 0)) := fun p => p.cell (by rw [hW]; (first | omega | (simp; omega) | simp)) (by rw [hW]; (first | (go_keep; done) | (go_simp; done)))
      have q1 : ∀ p : BW W, p.w.cell? ⟨w.heap.size, 1, none⟩ = some (.int .i64 (e 1)) := fun p => p.cell (by rw [hW]; (first | omega | (simp; omega) | simp)) (by rw [hW]; (first | (go_keep; done) | (go_simp; done)))
      have q2 : ∀ p : BW W, p.w.cell? ⟨w.heap.size, 2, none⟩ = some (.int .i64 (e 2)) := fun p => p.cell (by rw [hW]; (first | omega | (simp; omega) | simp)) (by rw [hW]; (first | (go_keep; done) | (go_simp; done)))
      have q3 : ∀ p : BW W, p.w.cell? ⟨w.heap.size, 3, none⟩ = some (.int .i64 (e 3)) := fun p => p.cell (by rw [hW]; (first | omega | (simp; omega) | simp)) (by rw [hW]; (first | (go_keep; done) | (go_simp; done)))
      have hbW : Below w.heap.size w W := by rw [hW]; (repeat (first | with_reducible exact Below.refl _ _ | with_reducible refine Below.drew ?_ | with_reducible refine below_drewN ?_ _ | (with_reducible refine bel_alloc ?_ ?_ _; (first | omega | (simp; omega) | simp)) | (with_reducible refine bel_set ?_ ?_ _; (first | omega | (simp; omega) | simp)) | (with_reducible refine bel_tr (by assumption) ?_ ?_; (first | omega | (simp; omega) | simp))))
      have hxW : w.heap.size < W.heap.size := by rw [hW]; (first | omega | (simp; omega) | simp)
      have y0 : W.cell? ⟨w.heap.size, 0, none⟩ = some (.int .i64 (e 0)) := by rw [hW]; (first | (go_keep; done) | (go_simp; done))
      have y1 : W.cell? ⟨w.heap.size, 1, none⟩ = some (.int .i64 (e 1)) := by rw [hW]; (first | (go_keep; done) | (go_simp; done))
      have y2 : W.cell? ⟨w.heap.size, 2, none⟩ = some (.int .i64 (e 2)) := by rw [hW]; (first | (go_keep; done) | (go_simp; done))
      have y3 : W.cell? ⟨w.heap.size, 3, none⟩ = some (.int .i64 (e 3)) := by rw [hW]; (first | (go_keep; done) | (go_simp; done))
      have HW := Lib.hid hW
      clear hW
      repeat (go_big_quiet_step (fail))
      refine wpQuiet_nil ?_
      intro wq hq
      have hbq : Below W.heap.size W wq := by (obtain ⟨p, hp⟩ := hq; rw [hp]; exact p.below)
      clear hq HW
      have sW := hbW.size
      have hbel : Below w.heap.size w wq := hbW.trans (hbq.mono sW)
      have hxq : w.heap.size < wq.heap.size := by have := hbq.size; omega
      have x0 : wq.cell? ⟨w.heap.size, 0, none⟩ = some (.int .i64 (e 0)) := (hbq.cell (p := ⟨w.heap.size, 0, none⟩) hxW).trans y0
      have x1 : wq.cell? ⟨w.heap.size, 1, none⟩ = some (.int .i64 (e 1)) := (hbq.cell (p := ⟨w.heap.size, 1, none⟩) hxW).trans y1
      have x2 : wq.cell? ⟨w.heap.size, 2, none⟩ = some (.int .i64 (e 2)) := (hbq.cell (p := ⟨w.heap.size, 2, none⟩) hxW).trans y2
      have x3 : wq.cell? ⟨w.heap.size, 3, none⟩ = some (.int .i64 (e 3)) := (hbq.cell (p := ⟨w.heap.size, 3, none⟩) hxW).trans y3
      clear q0 q1 q2 q3 y0 y1 y2 y3
      obtain ⟨AD, hAD, HSRC⟩ : ∃ AD : Option Addr, (if c = k then some (⟨b, off, none⟩ : Addr) else some ⟨b, off + k * 4, none⟩) = AD ∧ Hid (∀ W : World, Below w.heap.size w W → Rd W 4 AD (n - k) (es.drop k)) := by
        by_cases hck : c = k
        · refine ⟨_, if_pos hck, fun W hW => ?_⟩
          rw [show n - k = 0 by omega]
          exact (H.out.below hW).none_left (by omega)
        · exact ⟨_, if_neg hck, fun W hW => (H.out.below hW).drop (by omega)⟩
      have hkn8 : k ≤ n := hk
      have hkc8 : k ≤ c := by omega
      have sq0 : w.heap.size ≤ wq.heap.size := by omega
      go_upto_region 4 with fail
      go_cut [6] (fun s6 wx => wx.ownsRow w.heap.size 82 4 s6 (k + 1) (flat 4 (es.take k ++ [e])) ∧ Below w.heap.size w wx)
      case first =>
        go_region_held3 (fun w' => w'.cell? ⟨w.heap.size, 0, none⟩ = some (.int .i64 (e 0)) ∧ w'.cell? ⟨w.heap.size, 1, none⟩ = some (.int .i64 (e 1)) ∧ w'.cell? ⟨w.heap.size, 2, none⟩ = some (.int .i64 (e 2)) ∧ w'.cell? ⟨w.heap.size, 3, none⟩ = some (.int .i64 (e 3))) ((first | (go_keep; done) | (go_simp; done))) (first
          | (go_at_call 116; go_must (refine (l7Copy_any _ _ _ (es.take k) _ (by omega) ((H.out.below (by (repeat (first | with_reducible exact Below.refl _ _ | with_reducible refine Below.drew ?_ | with_reducible refine below_drewN ?_ _ | (with_reducible refine bel_alloc ?_ ?_ _; (first | omega | (simp; omega) | simp)) | (with_reducible refine bel_set ?_ ?_ _; (first | omega | (simp; omega) | simp)) | (with_reducible refine bel_tr (by assumption) ?_ ?_; (first | omega | (simp; omega) | simp)))))).take hkn8)).mono ?_); rintro y w2 ⟨v, rfl, o2, b2⟩; have s2 := b2.size; (try simp at s2); have O2 := Lib.hid o2; clear o2; (have kc2 : ∀ o, w2.cell? ⟨w.heap.size, o, none⟩ = _ := (fun o => b2.cell (p := ⟨w.heap.size, o, none⟩) (by (first | omega | (simp; omega) | (solve | simp))))); have kq2 := fun (o : Nat) (ho : _) => b2.cell (p := ⟨wq.heap.size, o, none⟩) ho)
          | (refine step_append_rd _ (by rfl) (.tmp 24) (.tmp 26) 27 (by rfl) w.heap.size 82 i0 _ 4 32 Tryz.underlying27 hi0 hz0 hz1 hz2 (by rfl) (by omega) v k (es.take k) (by rfl) (by first | exact O2.out.lower (by (first | omega | (simp; omega) | simp)) | exact World.ownsRow.alloc (O2.out.lower (by (first | omega | (simp; omega) | simp))) _) (some ⟨_, 0, none⟩) 1 1 [e] (by rfl) (rd_one4 (by (first | omega | (simp; omega) | simp)) (by first | (first | (go_keep; done) | (go_simp; done)) | (refine (kq2 _ (by (first | omega | (simp; omega) | simp))).trans ?_; (first | (go_keep; done) | (go_simp; done)))) (by first | (first | (go_keep; done) | (go_simp; done)) | (refine (kq2 _ (by (first | omega | (simp; omega) | simp))).trans ?_; (first | (go_keep; done) | (go_simp; done)))) (by first | (first | (go_keep; done) | (go_simp; done)) | (refine (kq2 _ (by (first | omega | (simp; omega) | simp))).trans ?_; (first | (go_keep; done) | (go_simp; done)))) (by first | (first | (go_keep; done) | (go_simp; done)) | (refine (kq2 _ (by (first | omega | (simp; omega) | simp))).trans ?_; (first | (go_keep; done) | (go_simp; done))))) (by unfold maxLen; omega) (by omega) (by (first | omega | (simp; omega) | simp)) ?_; intro v4 w4 hown4 hg4 hat4; have kc4 := fun (o : Nat) => (Below.grown (Below.refl wq.heap.size _) hg4 (by (first | omega | (simp; omega) | simp)) (row_ge O2.out (by (first | omega | (simp; omega) | simp)))).cell (p := ⟨w.heap.size, o, none⟩) hxq))
        all_goals (go_wp2_with fail; go_meet; refine ⟨hown4, Below.grown (show Below w.heap.size w _ from by (repeat (first | with_reducible exact Below.refl _ _ | with_reducible refine Below.drew ?_ | with_reducible refine below_drewN ?_ _ | (with_reducible refine bel_alloc ?_ ?_ _; (first | omega | (simp; omega) | simp)) | (with_reducible refine bel_set ?_ ?_ _; (first | omega | (simp; omega) | simp)) | (with_reducible refine bel_tr (by assumption) ?_ ?_; (first | omega | (simp; omega) | simp))))) hg4 (by (first | omega | (simp; omega) | simp)) (row_ge O2.out (by (first | omega | (simp; omega) | simp)))⟩)
      case rest =>
        obtain ⟨hown6, hb6⟩ := hcut
        have O6 := Lib.hid hown6
        have s6 := hb6.size
        clear hown6
        go_wp2_with (at_builtin; go_must (refine wpList_append_rd _ rfl _ _ 27 rfl w.heap.size 82 i0 _ 4 32 Tryz.underlying27 hi0 hz0 hz1 hz2 rfl (by omega) _ (k + 1) (es.take k ++ [e]) rfl O6.out AD (n - k) (c - k) (es.drop k) rfl (HSRC.out _ hb6) (by unfold maxLen; omega) (by omega) s6 ?_); intro v8 w8 hown8 hg8 hat8)
        all_goals (go_ret; refine ⟨_, rfl, ?_, Below.grown hb6 hg8 s6 (row_ge O6.out (Nat.le_refl _))⟩; rw [← HP.out, show n + 1 = k + 1 + (n - k) by omega]; simpa [insL] using hown8)
    have hc := hcc.out
    have hbr : b < wr.heap.size := by omega
    have c0 : wr.cell? ⟨b, off + k * 4, none⟩ = some (.int .i64 (fld es k 0)) := (hbel0.cell (p := ⟨b, off + k * 4, none⟩) hb).trans (hc k hlt 0 (by omega))
    have c1 : wr.cell? ⟨b, off + k * 4 + 1, none⟩ = some (.int .i64 (fld es k 1)) := (hbel0.cell (p := ⟨b, off + k * 4 + 1, none⟩) hb).trans (hc k hlt 1 (by omega))
    have c2 : wr.cell? ⟨b, off + k * 4 + 2, none⟩ = some (.int .i64 (fld es k 2)) := (hbel0.cell (p := ⟨b, off + k * 4 + 2, none⟩) hb).trans (hc k hlt 2 (by omega))
    have c3 : wr.cell? ⟨b, off + k * 4 + 3, none⟩ = some (.int .i64 (fld es k 3)) := (hbel0.cell (p := ⟨b, off + k * 4 + 3, none⟩) hb).trans (hc k hlt 3 (by omega))
    have hd : decide (k < n) = true := by simpa using hlt
    have hki : (k : Int) < (n : Int) := by omega
    rcases Bool.eq_false_or_eq_true (eLt (fld es k 0) (e 0) (fld es k 1) (e 1)) with hL | hL
    · have HQ1 : Hid (∀ i, i < k + 1 → lessE (fld es i) e = true) := fun i hi => by
        rcases Nat.lt_or_ge i k with h3 | h3
        · exact HQ.out i h3
        · obtain rfl : i = k := by omega
          exact hL
      clear hc
      go_wp2
      refine wp_region_bw (by kernel_rfl) (by kernel_rfl) (fun W hW => ?_)
      have q0 : ∀ p : BW W, p.w.cell? ⟨b, off + k * 4, none⟩ = some (.int .i64 (fld es k 0)) := fun p => p.cell (by rw [hW]; (first | omega | (simp; omega) | simp)) (by rw [hW]; (first | (go_keep; done) | (go_simp; done)))
      have q1 : ∀ p : BW W, p.w.cell? ⟨b, off + k * 4 + 1, none⟩ = some (.int .i64 (fld es k 1)) := fun p => p.cell (by rw [hW]; (first | omega | (simp; omega) | simp)) (by rw [hW]; (first | (go_keep; done) | (go_simp; done)))
      have q2 : ∀ p : BW W, p.w.cell? ⟨b, off + k * 4 + 2, none⟩ = some (.int .i64 (fld es k 2)) := fun p => p.cell (by rw [hW]; (first | omega | (simp; omega) | simp)) (by rw [hW]; (first | (go_keep; done) | (go_simp; done)))
      have q3 : ∀ p : BW W, p.w.cell? ⟨b, off + k * 4 + 3, none⟩ = some (.int .i64 (fld es k 3)) := fun p => p.cell (by rw [hW]; (first | omega | (simp; omega) | simp)) (by rw [hW]; (first | (go_keep; done) | (go_simp; done)))
      have q4 : ∀ p : BW W, p.w.cell? ⟨w.heap.size, 0, none⟩ = some (.int .i64 (e 0)) := fun p => p.cell (by rw [hW]; (first | omega | (simp; omega) | simp)) (by rw [hW]; (first | (go_keep; done) | (go_simp; done)))
      have q5 : ∀ p : BW W, p.w.cell? ⟨w.heap.size, 1, none⟩ = some (.int .i64 (e 1)) := fun p => p.cell (by rw [hW]; (first | omega | (simp; omega) | simp)) (by rw [hW]; (first | (go_keep; done) | (go_simp; done)))
      have q6 : ∀ p : BW W, p.w.cell? ⟨w.heap.size, 2, none⟩ = some (.int .i64 (e 2)) := fun p => p.cell (by rw [hW]; (first | omega | (simp; omega) | simp)) (by rw [hW]; (first | (go_keep; done) | (go_simp; done)))
      have q7 : ∀ p : BW W, p.w.cell? ⟨w.heap.size, 3, none⟩ = some (.int .i64 (e 3)) := fun p => p.cell (by rw [hW]; (first | omega | (simp; omega) | simp)) (by rw [hW]; (first | (go_keep; done) | (go_simp; done)))
      have hbW : Below w.heap.size w W := by rw [hW]; (repeat (first | with_reducible exact Below.refl _ _ | with_reducible refine Below.drew ?_ | with_reducible refine below_drewN ?_ _ | (with_reducible refine bel_alloc ?_ ?_ _; (first | omega | (simp; omega) | simp)) | (with_reducible refine bel_set ?_ ?_ _; (first | omega | (simp; omega) | simp)) | (with_reducible refine bel_tr (by assumption) ?_ ?_; (first | omega | (simp; omega) | simp))))
      have hxW : w.heap.size < W.heap.size := by rw [hW]; (first | omega | (simp; omega) | simp)
      have y0 : W.cell? ⟨w.heap.size, 0, none⟩ = some (.int .i64 (e 0)) := by rw [hW]; (first | (go_keep; done) | (go_simp; done))
      have y1 : W.cell? ⟨w.heap.size, 1, none⟩ = some (.int .i64 (e 1)) := by rw [hW]; (first | (go_keep; done) | (go_simp; done))
      have y2 : W.cell? ⟨w.heap.size, 2, none⟩ = some (.int .i64 (e 2)) := by rw [hW]; (first | (go_keep; done) | (go_simp; done))
      have y3 : W.cell? ⟨w.heap.size, 3, none⟩ = some (.int .i64 (e 3)) := by rw [hW]; (first | (go_keep; done) | (go_simp; done))
      have HW := Lib.hid hW
      clear hW
      repeat (go_big_quiet_step ((go_at_call 112; exact bw_of (sLess_y _ _ _ _ _ _ _ _ _ hL))))
      refine wpQuiet_nil ?_
      intro wq hq
      have hbq : Below W.heap.size W wq := by (obtain ⟨p, hp⟩ := hq; rw [hp]; exact p.below)
      clear hq HW
      have sW := hbW.size
      have hbel : Below w.heap.size w wq := hbW.trans (hbq.mono sW)
      have hxq : w.heap.size < wq.heap.size := by have := hbq.size; omega
      have x0 : wq.cell? ⟨w.heap.size, 0, none⟩ = some (.int .i64 (e 0)) := (hbq.cell (p := ⟨w.heap.size, 0, none⟩) hxW).trans y0
      have x1 : wq.cell? ⟨w.heap.size, 1, none⟩ = some (.int .i64 (e 1)) := (hbq.cell (p := ⟨w.heap.size, 1, none⟩) hxW).trans y1
      have x2 : wq.cell? ⟨w.heap.size, 2, none⟩ = some (.int .i64 (e 2)) := (hbq.cell (p := ⟨w.heap.size, 2, none⟩) hxW).trans y2
      have x3 : wq.cell? ⟨w.heap.size, 3, none⟩ = some (.int .i64 (e 3)) := (hbq.cell (p := ⟨w.heap.size, 3, none⟩) hxW).trans y3
      clear q0 q1 q2 q3 y0 y1 y2 y3
      clear q4 q5 q6 q7
      go_wp2
      go_roundw
      case rel => exact ⟨k + 1, by omega, by go_num, HQ1, by (repeat (first | with_reducible exact Below.refl _ _ | with_reducible refine Below.drew ?_ | with_reducible refine below_drewN ?_ _ | (with_reducible refine bel_alloc ?_ ?_ _; (first | omega | (simp; omega) | simp)) | (with_reducible refine bel_set ?_ ?_ _; (first | omega | (simp; omega) | simp)) | (with_reducible refine bel_tr (by assumption) ?_ ?_; (first | omega | (simp; omega) | simp)))), by omega, x0, x1, x2, x3⟩
      case measure => simp [intOf]; omega
    · have HP : Hid (k = plc es e n) := plc_of (by omega) HQ.out (.inr ⟨hlt, hL⟩)
      clear hc
      go_wp2
      refine wp_region_bw (by kernel_rfl) (by kernel_rfl) (fun W hW => ?_)
      have q0 : ∀ p : BW W, p.w.cell? ⟨b, off + k * 4, none⟩ = some (.int .i64 (fld es k 0)) := fun p => p.cell (by rw [hW]; (first | omega | (simp; omega) | simp)) (by rw [hW]; (first | (go_keep; done) | (go_simp; done)))
      have q1 : ∀ p : BW W, p.w.cell? ⟨b, off + k * 4 + 1, none⟩ = some (.int .i64 (fld es k 1)) := fun p => p.cell (by rw [hW]; (first | omega | (simp; omega) | simp)) (by rw [hW]; (first | (go_keep; done) | (go_simp; done)))
      have q2 : ∀ p : BW W, p.w.cell? ⟨b, off + k * 4 + 2, none⟩ = some (.int .i64 (fld es k 2)) := fun p => p.cell (by rw [hW]; (first | omega | (simp; omega) | simp)) (by rw [hW]; (first | (go_keep; done) | (go_simp; done)))
      have q3 : ∀ p : BW W, p.w.cell? ⟨b, off + k * 4 + 3, none⟩ = some (.int .i64 (fld es k 3)) := fun p => p.cell (by rw [hW]; (first | omega | (simp; omega) | simp)) (by rw [hW]; (first | (go_keep; done) | (go_simp; done)))
      have q4 : ∀ p : BW W, p.w.cell? ⟨w.heap.size, 0, none⟩ = some (.int .i64 (e 0)) := fun p => p.cell (by rw [hW]; (first | omega | (simp; omega) | simp)) (by rw [hW]; (first | (go_keep; done) | (go_simp; done)))
      have q5 : ∀ p : BW W, p.w.cell? ⟨w.heap.size, 1, none⟩ = some (.int .i64 (e 1)) := fun p => p.cell (by rw [hW]; (first | omega | (simp; omega) | simp)) (by rw [hW]; (first | (go_keep; done) | (go_simp; done)))
      have q6 : ∀ p : BW W, p.w.cell? ⟨w.heap.size, 2, none⟩ = some (.int .i64 (e 2)) := fun p => p.cell (by rw [hW]; (first | omega | (simp; omega) | simp)) (by rw [hW]; (first | (go_keep; done) | (go_simp; done)))
      have q7 : ∀ p : BW W, p.w.cell? ⟨w.heap.size, 3, none⟩ = some (.int .i64 (e 3)) := fun p => p.cell (by rw [hW]; (first | omega | (simp; omega) | simp)) (by rw [hW]; (first | (go_keep; done) | (go_simp; done)))
      have hbW : Below w.heap.size w W := by rw [hW]; (repeat (first | with_reducible exact Below.refl _ _ | with_reducible refine Below.drew ?_ | with_reducible refine below_drewN ?_ _ | (with_reducible refine bel_alloc ?_ ?_ _; (first | omega | (simp; omega) | simp)) | (with_reducible refine bel_set ?_ ?_ _; (first | omega | (simp; omega) | simp)) | (with_reducible refine bel_tr (by assumption) ?_ ?_; (first | omega | (simp; omega) | simp))))
      have hxW : w.heap.size < W.heap.size := by rw [hW]; (first | omega | (simp; omega) | simp)
      have y0 : W.cell? ⟨w.heap.size, 0, none⟩ = some (.int .i64 (e 0)) := by rw [hW]; (first | (go_keep; done) | (go_simp; done))
      have y1 : W.cell? ⟨w.heap.size, 1, none⟩ = some (.int .i64 (e 1)) := by rw [hW]; (first | (go_keep; done) | (go_simp; done))
      have y2 : W.cell? ⟨w.heap.size, 2, none⟩ = some (.int .i64 (e 2)) := by rw [hW]; (first | (go_keep; done) | (go_simp; done))
      have y3 : W.cell? ⟨w.heap.size, 3, none⟩ = some (.int .i64 (e 3)) := by rw [hW]; (first | (go_keep; done) | (go_simp; done))
      have HW := Lib.hid hW
      clear hW
      repeat (go_big_quiet_step ((go_at_call 112; exact bw_of (sLess_n _ _ _ _ _ _ _ _ _ hL))))
      refine wpQuiet_nil ?_
      intro wq hq
      have hbq : Below W.heap.size W wq := by (obtain ⟨p, hp⟩ := hq; rw [hp]; exact p.below)
      clear hq HW
      have sW := hbW.size
      have hbel : Below w.heap.size w wq := hbW.trans (hbq.mono sW)
      have hxq : w.heap.size < wq.heap.size := by have := hbq.size; omega
      have x0 : wq.cell? ⟨w.heap.size, 0, none⟩ = some (.int .i64 (e 0)) := (hbq.cell (p := ⟨w.heap.size, 0, none⟩) hxW).trans y0
      have x1 : wq.cell? ⟨w.heap.size, 1, none⟩ = some (.int .i64 (e 1)) := (hbq.cell (p := ⟨w.heap.size, 1, none⟩) hxW).trans y1
      have x2 : wq.cell? ⟨w.heap.size, 2, none⟩ = some (.int .i64 (e 2)) := (hbq.cell (p := ⟨w.heap.size, 2, none⟩) hxW).trans y2
      have x3 : wq.cell? ⟨w.heap.size, 3, none⟩ = some (.int .i64 (e 3)) := (hbq.cell (p := ⟨w.heap.size, 3, none⟩) hxW).trans y3
      clear q0 q1 q2 q3 y0 y1 y2 y3
      clear q4 q5 q6 q7
      have hkn8 : k ≤ n := hk
      have hkc8 : k ≤ c := by omega
      have sq0 : w.heap.size ≤ wq.heap.size := by omega
      go_upto_region 4 with fail
      go_cut [6] (fun s6 wx => wx.ownsRow w.heap.size 82 4 s6 (k + 1) (flat 4 (es.take k ++ [e])) ∧ Below w.heap.size w wx)
      case first =>
        go_region_held3 (fun w' => w'.cell? ⟨w.heap.size, 0, none⟩ = some (.int .i64 (e 0)) ∧ w'.cell? ⟨w.heap.size, 1, none⟩ = some (.int .i64 (e 1)) ∧ w'.cell? ⟨w.heap.size, 2, none⟩ = some (.int .i64 (e 2)) ∧ w'.cell? ⟨w.heap.size, 3, none⟩ = some (.int .i64 (e 3))) ((first | (go_keep; done) | (go_simp; done))) (first
          | (go_at_call 116; go_must (refine (l7Copy_any _ _ _ (es.take k) _ (by omega) ((H.out.below (by (repeat (first | with_reducible exact Below.refl _ _ | with_reducible refine Below.drew ?_ | with_reducible refine below_drewN ?_ _ | (with_reducible refine bel_alloc ?_ ?_ _; (first | omega | (simp; omega) | simp)) | (with_reducible refine bel_set ?_ ?_ _; (first | omega | (simp; omega) | simp)) | (with_reducible refine bel_tr (by assumption) ?_ ?_; (first | omega | (simp; omega) | simp)))))).take hkn8)).mono ?_); rintro y w2 ⟨v, rfl, o2, b2⟩; have s2 := b2.size; (try simp at s2); have O2 := Lib.hid o2; clear o2; (have kc2 : ∀ o, w2.cell? ⟨w.heap.size, o, none⟩ = _ := (fun o => b2.cell (p := ⟨w.heap.size, o, none⟩) (by (first | omega | (simp; omega) | (solve | simp))))); have kq2 := fun (o : Nat) (ho : _) => b2.cell (p := ⟨wq.heap.size, o, none⟩) ho)
          | (refine step_append_rd _ (by rfl) (.tmp 24) (.tmp 26) 27 (by rfl) w.heap.size 82 i0 _ 4 32 Tryz.underlying27 hi0 hz0 hz1 hz2 (by rfl) (by omega) v k (es.take k) (by rfl) (by first | exact O2.out.lower (by (first | omega | (simp; omega) | simp)) | exact World.ownsRow.alloc (O2.out.lower (by (first | omega | (simp; omega) | simp))) _) (some ⟨_, 0, none⟩) 1 1 [e] (by rfl) (rd_one4 (by (first | omega | (simp; omega) | simp)) (by first | (first | (go_keep; done) | (go_simp; done)) | (refine (kq2 _ (by (first | omega | (simp; omega) | simp))).trans ?_; (first | (go_keep; done) | (go_simp; done)))) (by first | (first | (go_keep; done) | (go_simp; done)) | (refine (kq2 _ (by (first | omega | (simp; omega) | simp))).trans ?_; (first | (go_keep; done) | (go_simp; done)))) (by first | (first | (go_keep; done) | (go_simp; done)) | (refine (kq2 _ (by (first | omega | (simp; omega) | simp))).trans ?_; (first | (go_keep; done) | (go_simp; done)))) (by first | (first | (go_keep; done) | (go_simp; done)) | (refine (kq2 _ (by (first | omega | (simp; omega) | simp))).trans ?_; (first | (go_keep; done) | (go_simp; done))))) (by unfold maxLen; omega) (by omega) (by (first | omega | (simp; omega) | simp)) ?_; intro v4 w4 hown4 hg4 hat4; have kc4 := fun (o : Nat) => (Below.grown (Below.refl wq.heap.size _) hg4 (by (first | omega | (simp; omega) | simp)) (row_ge O2.out (by (first | omega | (simp; omega) | simp)))).cell (p := ⟨w.heap.size, o, none⟩) hxq))
        all_goals (go_wp2_with fail; go_meet; refine ⟨hown4, Below.grown (show Below w.heap.size w _ from by (repeat (first | with_reducible exact Below.refl _ _ | with_reducible refine Below.drew ?_ | with_reducible refine below_drewN ?_ _ | (with_reducible refine bel_alloc ?_ ?_ _; (first | omega | (simp; omega) | simp)) | (with_reducible refine bel_set ?_ ?_ _; (first | omega | (simp; omega) | simp)) | (with_reducible refine bel_tr (by assumption) ?_ ?_; (first | omega | (simp; omega) | simp))))) hg4 (by (first | omega | (simp; omega) | simp)) (row_ge O2.out (by (first | omega | (simp; omega) | simp)))⟩)
      case rest =>
        obtain ⟨hown6, hb6⟩ := hcut
        have O6 := Lib.hid hown6
        have s6 := hb6.size
        clear hown6
        go_wp2_with (at_builtin; go_must (refine wpList_append_rd _ rfl _ _ 27 rfl w.heap.size 82 i0 _ 4 32 Tryz.underlying27 hi0 hz0 hz1 hz2 rfl (by omega) _ (k + 1) (es.take k ++ [e]) rfl O6.out (some ⟨b, off + k * 4, none⟩) (n - k) (c - k) (es.drop k) rfl ((H.out.below hb6).drop (by omega)) (by unfold maxLen; omega) (by omega) s6 ?_); intro v8 w8 hown8 hg8 hat8)
        all_goals (go_ret; refine ⟨_, rfl, ?_, Below.grown hb6 hg8 s6 (row_ge O6.out (Nat.le_refl _))⟩; rw [← HP.out, show n + 1 = k + 1 + (n - k) by omega]; simpa [insL] using hown8)
set_option maxRecDepth 100000 in
set_option maxHeartbeats 8000000 in
theorem l7Put_zero (A : Option Addr) (n c : Nat) (es : List (Nat → Int)) (e : Nat → Int) (w : World) (hn : n ≤ 4194303) (hnc : n ≤ c) (_hcm : c ≤ 9223372036854775807) (h : Rd w 4 A n es) (hn0 : n = 0) :
    Calls Tryz.prog 92 #[.slice A n c, .agg #[.int .i64 (e 0), .int .i64 (e 1), .int .i64 (e 2), .int .i64 (e 3)]] w fun y w' => ∃ v, y = .returned v ∧ w'.ownsRow w.heap.size 82 4 v (n + 1) (flat 4 (insL es (plc es e n) e)) ∧ Below w.heap.size w w' := by
  obtain ⟨i0, hi0, hz0, hz1, hz2⟩ := info_parts copyEntries_info
  have H := Lib.hid h
  have HN0 : Hid (∀ (W : World) (A2 : Option Addr) (k : Nat), Rd W 4 A2 (n - k) (es.drop k)) := fun W A2 k => ⟨by rw [List.length_drop, h.1], .inl (by omega)⟩
  have HZ := Lib.hid hn0
  clear h hn0
  rcases A with _ | a
  · skip
    go_enter Tryz.func92, Tryz.ntmps92
    go_wp2
    go_loopw [5] (fun i wr => ∃ k : Nat, k ≤ n ∧ i = .int .i64 k ∧ Hid (∀ i, i < k → lessE (fld es i) e = true) ∧ Below w.heap.size w wr ∧ w.heap.size < wr.heap.size ∧ wr.cell? ⟨w.heap.size, 0, none⟩ = some (.int .i64 (e 0)) ∧ wr.cell? ⟨w.heap.size, 1, none⟩ = some (.int .i64 (e 1)) ∧ wr.cell? ⟨w.heap.size, 2, none⟩ = some (.int .i64 (e 2)) ∧ wr.cell? ⟨w.heap.size, 3, none⟩ = some (.int .i64 (e 3))) (fun i _ => n - (intOf i).toNat)
    case atStart => exact ⟨0, Nat.zero_le _, rfl, Lib.hid (fun i hi => absurd hi (by omega)), by (repeat (first | with_reducible exact Below.refl _ _ | with_reducible refine Below.drew ?_ | with_reducible refine below_drewN ?_ _ | (with_reducible refine bel_alloc ?_ ?_ _; (first | omega | (simp; omega) | simp)) | (with_reducible refine bel_set ?_ ?_ _; (first | omega | (simp; omega) | simp)) | (with_reducible refine bel_tr (by assumption) ?_ ?_; (first | omega | (simp; omega) | simp)))), by (first | omega | (simp; omega) | simp), by (first | (go_keep; done) | (go_simp; done)), by (first | (go_keep; done) | (go_simp; done)), by (first | (go_keep; done) | (go_simp; done)), by (first | (go_keep; done) | (go_simp; done))⟩
    case round =>
      obtain ⟨k, hk, rfl, HQ, hbel0, hxr, x0, x1, x2, x3⟩ := hrel
      have hsz := hbel0.size
      have hkl : (k : Int) ≤ (n : Int) := by omega
      have hk0 : (0 : Int) ≤ (k : Int) := by omega
      by_cases hlt : k < n
      case neg =>
        have hkn : k = n := by omega
        have HP : Hid (k = plc es e n) := plc_of (by omega) HQ.out (.inl hkn)
        have hd : decide (k < n) = false := by simpa using hlt
        have HLT := Lib.hid hlt
        clear hlt hkn
        go_wp2
        refine wp_region_bw (by kernel_rfl) (by kernel_rfl) (fun W hW => ?_)
        have q0 : ∀ p : BW W, p.w.cell? ⟨w.heap.size, 0, none⟩ = some (.int .i64 (e 0)) := fun p => p.cell (by rw [hW]; (first | omega | (simp; omega) | simp)) (by rw [hW]; (first | (go_keep; done) | (go_simp; done)))
        have q1 : ∀ p : BW W, p.w.cell? ⟨w.heap.size, 1, none⟩ = some (.int .i64 (e 1)) := fun p => p.cell (by rw [hW]; (first | omega | (simp; omega) | simp)) (by rw [hW]; (first | (go_keep; done) | (go_simp; done)))
        have q2 : ∀ p : BW W, p.w.cell? ⟨w.heap.size, 2, none⟩ = some (.int .i64 (e 2)) := fun p => p.cell (by rw [hW]; (first | omega | (simp; omega) | simp)) (by rw [hW]; (first | (go_keep; done) | (go_simp; done)))
        have q3 : ∀ p : BW W, p.w.cell? ⟨w.heap.size, 3, none⟩ = some (.int .i64 (e 3)) := fun p => p.cell (by rw [hW]; (first | omega | (simp; omega) | simp)) (by rw [hW]; (first | (go_keep; done) | (go_simp; done)))
        have hbW : Below w.heap.size w W := by rw [hW]; (repeat (first | with_reducible exact Below.refl _ _ | with_reducible refine Below.drew ?_ | with_reducible refine below_drewN ?_ _ | (with_reducible refine bel_alloc ?_ ?_ _; (first | omega | (simp; omega) | simp)) | (with_reducible refine bel_set ?_ ?_ _; (first | omega | (simp; omega) | simp)) | (with_reducible refine bel_tr (by assumption) ?_ ?_; (first | omega | (simp; omega) | simp))))
        have hxW : w.heap.size < W.heap.size := by rw [hW]; (first | omega | (simp; omega) | simp)
        have y0 : W.cell? ⟨w.heap.size, 0, none⟩ = some (.int .i64 (e 0)) := by rw [hW]; (first | (go_keep; done) | (go_simp; done))
        have y1 : W.cell? ⟨w.heap.size, 1, none⟩ = some (.int .i64 (e 1)) := by rw [hW]; (first | (go_keep; done) | (go_simp; done))
        have y2 : W.cell? ⟨w.heap.size, 2, none⟩ = some (.int .i64 (e 2)) := by rw [hW]; (first | (go_keep; done) | (go_simp; done))
        have y3 : W.cell? ⟨w.heap.size, 3, none⟩ = some (.int .i64 (e 3)) := by rw [hW]; (first | (go_keep; done) | (go_simp; done))
        have HW := Lib.hid hW
        clear hW
        repeat (go_big_quiet_step (fail))
        refine wpQuiet_nil ?_
        intro wq hq
        have hbq : Below W.heap.size W wq := by (obtain ⟨p, hp⟩ := hq; rw [hp]; exact p.below)
        clear hq HW
        have sW := hbW.size
        have hbel : Below w.heap.size w wq := hbW.trans (hbq.mono sW)
        have hxq : w.heap.size < wq.heap.size := by have := hbq.size; omega
        have x0 : wq.cell? ⟨w.heap.size, 0, none⟩ = some (.int .i64 (e 0)) := (hbq.cell (p := ⟨w.heap.size, 0, none⟩) hxW).trans y0
        have x1 : wq.cell? ⟨w.heap.size, 1, none⟩ = some (.int .i64 (e 1)) := (hbq.cell (p := ⟨w.heap.size, 1, none⟩) hxW).trans y1
        have x2 : wq.cell? ⟨w.heap.size, 2, none⟩ = some (.int .i64 (e 2)) := (hbq.cell (p := ⟨w.heap.size, 2, none⟩) hxW).trans y2
        have x3 : wq.cell? ⟨w.heap.size, 3, none⟩ = some (.int .i64 (e 3)) := (hbq.cell (p := ⟨w.heap.size, 3, none⟩) hxW).trans y3
        clear q0 q1 q2 q3 y0 y1 y2 y3
        have hkn8 : k ≤ n := hk
        have hkc8 : k ≤ c := by omega
        have sq0 : w.heap.size ≤ wq.heap.size := by omega
        go_upto_region 4 with fail
        go_cut [6] (fun s6 wx => wx.ownsRow w.heap.size 82 4 s6 (k + 1) (flat 4 (es.take k ++ [e])) ∧ Below w.heap.size w wx)
        case first =>
          go_region_held3 (fun w' => w'.cell? ⟨w.heap.size, 0, none⟩ = some (.int .i64 (e 0)) ∧ w'.cell? ⟨w.heap.size, 1, none⟩ = some (.int .i64 (e 1)) ∧ w'.cell? ⟨w.heap.size, 2, none⟩ = some (.int .i64 (e 2)) ∧ w'.cell? ⟨w.heap.size, 3, none⟩ = some (.int .i64 (e 3))) ((first | (go_keep; done) | (go_simp; done))) (first
            | (go_at_call 116; go_must (refine (l7Copy_any _ _ _ (es.take k) _ (by omega) ((H.out.below (by (repeat (first | with_reducible exact Below.refl _ _ | with_reducible refine Below.drew ?_ | with_reducible refine below_drewN ?_ _ | (with_reducible refine bel_alloc ?_ ?_ _; (first | omega | (simp; omega) | simp)) | (with_reducible refine bel_set ?_ ?_ _; (first | omega | (simp; omega) | simp)) | (with_reducible refine bel_tr (by assumption) ?_ ?_; (first | omega | (simp; omega) | simp)))))).take hkn8)).mono ?_); rintro y w2 ⟨v, rfl, o2, b2⟩; have s2 := b2.size; (try simp at s2); have O2 := Lib.hid o2; clear o2; (have kc2 : ∀ o, w2.cell? ⟨w.heap.size, o, none⟩ = _ := (fun o => b2.cell (p := ⟨w.heap.size, o, none⟩) (by (first | omega | (simp; omega) | (solve | simp))))); have kq2 := fun (o : Nat) (ho : _) => b2.cell (p := ⟨wq.heap.size, o, none⟩) ho)
            | (refine step_append_rd _ (by rfl) (.tmp 24) (.tmp 26) 27 (by rfl) w.heap.size 82 i0 _ 4 32 Tryz.underlying27 hi0 hz0 hz1 hz2 (by rfl) (by omega) v k (es.take k) (by rfl) (by first | exact O2.out.lower (by (first | omega | (simp; omega) | simp)) | exact World.ownsRow.alloc (O2.out.lower (by (first | omega | (simp; omega) | simp))) _) (some ⟨_, 0, none⟩) 1 1 [e] (by rfl) (rd_one4 (by (first | omega | (simp; omega) | simp)) (by first | (first | (go_keep; done) | (go_simp; done)) | (refine (kq2 _ (by (first | omega | (simp; omega) | simp))).trans ?_; (first | (go_keep; done) | (go_simp; done)))) (by first | (first | (go_keep; done) | (go_simp; done)) | (refine (kq2 _ (by (first | omega | (simp; omega) | simp))).trans ?_; (first | (go_keep; done) | (go_simp; done)))) (by first | (first | (go_keep; done) | (go_simp; done)) | (refine (kq2 _ (by (first | omega | (simp; omega) | simp))).trans ?_; (first | (go_keep; done) | (go_simp; done)))) (by first | (first | (go_keep; done) | (go_simp; done)) | (refine (kq2 _ (by (first | omega | (simp; omega) | simp))).trans ?_; (first | (go_keep; done) | (go_simp; done))))) (by unfold maxLen; omega) (by omega) (by (first | omega | (simp; omega) | simp)) ?_; intro v4 w4 hown4 hg4 hat4; have kc4 := fun (o : Nat) => (Below.grown (Below.refl wq.heap.size _) hg4 (by (first | omega | (simp; omega) | simp)) (row_ge O2.out (by (first | omega | (simp; omega) | simp)))).cell (p := ⟨w.heap.size, o, none⟩) hxq))
          all_goals (go_wp2_with fail; go_meet; refine ⟨hown4, Below.grown (show Below w.heap.size w _ from by (repeat (first | with_reducible exact Below.refl _ _ | with_reducible refine Below.drew ?_ | with_reducible refine below_drewN ?_ _ | (with_reducible refine bel_alloc ?_ ?_ _; (first | omega | (simp; omega) | simp)) | (with_reducible refine bel_set ?_ ?_ _; (first | omega | (simp; omega) | simp)) | (with_reducible refine bel_tr (by assumption) ?_ ?_; (first | omega | (simp; omega) | simp))))) hg4 (by (first | omega | (simp; omega) | simp)) (row_ge O2.out (by (first | omega | (simp; omega) | simp)))⟩)
        case rest =>
          obtain ⟨hown6, hb6⟩ := hcut
          have O6 := Lib.hid hown6
          have s6 := hb6.size
          clear hown6
          go_wp2_with (at_builtin; go_must (refine wpList_append_rd _ rfl _ _ 27 rfl w.heap.size 82 i0 _ 4 32 Tryz.underlying27 hi0 hz0 hz1 hz2 rfl (by omega) _ (k + 1) (es.take k ++ [e]) rfl O6.out none (n - k) (c - k) (es.drop k) rfl ((HN0.out _ _ _)) (by unfold maxLen; omega) (by omega) s6 ?_); intro v8 w8 hown8 hg8 hat8)
          all_goals (go_ret; refine ⟨_, rfl, ?_, Below.grown hb6 hg8 s6 (row_ge O6.out (Nat.le_refl _))⟩; rw [← HP.out, show n + 1 = k + 1 + (n - k) by omega]; simpa [insL] using hown8)
      exact absurd hlt (by have := HZ.out; omega)
  · skip
    go_enter Tryz.func92, Tryz.ntmps92
    go_wp2
    go_loopw [5] (fun i wr => ∃ k : Nat, k ≤ n ∧ i = .int .i64 k ∧ Hid (∀ i, i < k → lessE (fld es i) e = true) ∧ Below w.heap.size w wr ∧ w.heap.size < wr.heap.size ∧ wr.cell? ⟨w.heap.size, 0, none⟩ = some (.int .i64 (e 0)) ∧ wr.cell? ⟨w.heap.size, 1, none⟩ = some (.int .i64 (e 1)) ∧ wr.cell? ⟨w.heap.size, 2, none⟩ = some (.int .i64 (e 2)) ∧ wr.cell? ⟨w.heap.size, 3, none⟩ = some (.int .i64 (e 3))) (fun i _ => n - (intOf i).toNat)
    case atStart => exact ⟨0, Nat.zero_le _, rfl, Lib.hid (fun i hi => absurd hi (by omega)), by (repeat (first | with_reducible exact Below.refl _ _ | with_reducible refine Below.drew ?_ | with_reducible refine below_drewN ?_ _ | (with_reducible refine bel_alloc ?_ ?_ _; (first | omega | (simp; omega) | simp)) | (with_reducible refine bel_set ?_ ?_ _; (first | omega | (simp; omega) | simp)) | (with_reducible refine bel_tr (by assumption) ?_ ?_; (first | omega | (simp; omega) | simp)))), by (first | omega | (simp; omega) | simp), by (first | (go_keep; done) | (go_simp; done)), by (first | (go_keep; done) | (go_simp; done)), by (first | (go_keep; done) | (go_simp; done)), by (first | (go_keep; done) | (go_simp; done))⟩
    case round =>
      obtain ⟨k, hk, rfl, HQ, hbel0, hxr, x0, x1, x2, x3⟩ := hrel
      have hsz := hbel0.size
      have hkl : (k : Int) ≤ (n : Int) := by omega
      have hk0 : (0 : Int) ≤ (k : Int) := by omega
      by_cases hlt : k < n
      case neg =>
        have hkn : k = n := by omega
        have HP : Hid (k = plc es e n) := plc_of (by omega) HQ.out (.inl hkn)
        have hd : decide (k < n) = false := by simpa using hlt
        have HLT := Lib.hid hlt
        clear hlt hkn
        go_wp2
        refine wp_region_bw (by kernel_rfl) (by kernel_rfl) (fun W hW => ?_)
        have q0 : ∀ p : BW W, p.w.cell? ⟨w.heap.size, 0, none⟩ = some (.int .i64 (e 0)) := fun p => p.cell (by rw [hW]; (first | omega | (simp; omega) | simp)) (by rw [hW]; (first | (go_keep; done) | (go_simp; done)))
        have q1 : ∀ p : BW W, p.w.cell? ⟨w.heap.size, 1, none⟩ = some (.int .i64 (e 1)) := fun p => p.cell (by rw [hW]; (first | omega | (simp; omega) | simp)) (by rw [hW]; (first | (go_keep; done) | (go_simp; done)))
        have q2 : ∀ p : BW W, p.w.cell? ⟨w.heap.size, 2, none⟩ = some (.int .i64 (e 2)) := fun p => p.cell (by rw [hW]; (first | omega | (simp; omega) | simp)) (by rw [hW]; (first | (go_keep; done) | (go_simp; done)))
        have q3 : ∀ p : BW W, p.w.cell? ⟨w.heap.size, 3, none⟩ = some (.int .i64 (e 3)) := fun p => p.cell (by rw [hW]; (first | omega | (simp; omega) | simp)) (by rw [hW]; (first | (go_keep; done) | (go_simp; done)))
        have hbW : Below w.heap.size w W := by rw [hW]; (repeat (first | with_reducible exact Below.refl _ _ | with_reducible refine Below.drew ?_ | with_reducible refine below_drewN ?_ _ | (with_reducible refine bel_alloc ?_ ?_ _; (first | omega | (simp; omega) | simp)) | (with_reducible refine bel_set ?_ ?_ _; (first | omega | (simp; omega) | simp)) | (with_reducible refine bel_tr (by assumption) ?_ ?_; (first | omega | (simp; omega) | simp))))
        have hxW : w.heap.size < W.heap.size := by rw [hW]; (first | omega | (simp; omega) | simp)
        have y0 : W.cell? ⟨w.heap.size, 0, none⟩ = some (.int .i64 (e 0)) := by rw [hW]; (first | (go_keep; done) | (go_simp; done))
        have y1 : W.cell? ⟨w.heap.size, 1, none⟩ = some (.int .i64 (e 1)) := by rw [hW]; (first | (go_keep; done) | (go_simp; done))
        have y2 : W.cell? ⟨w.heap.size, 2, none⟩ = some (.int .i64 (e 2)) := by rw [hW]; (first | (go_keep; done) | (go_simp; done))
        have y3 : W.cell? ⟨w.heap.size, 3, none⟩ = some (.int .i64 (e 3)) := by rw [hW]; (first | (go_keep; done) | (go_simp; done))
        have HW := Lib.hid hW
        clear hW
        repeat (go_big_quiet_step (fail))
        refine wpQuiet_nil ?_
        intro wq hq
        have hbq : Below W.heap.size W wq := by (obtain ⟨p, hp⟩ := hq; rw [hp]; exact p.below)
        clear hq HW
        have sW := hbW.size
        have hbel : Below w.heap.size w wq := hbW.trans (hbq.mono sW)
        have hxq : w.heap.size < wq.heap.size := by have := hbq.size; omega
        have x0 : wq.cell? ⟨w.heap.size, 0, none⟩ = some (.int .i64 (e 0)) := (hbq.cell (p := ⟨w.heap.size, 0, none⟩) hxW).trans y0
        have x1 : wq.cell? ⟨w.heap.size, 1, none⟩ = some (.int .i64 (e 1)) := (hbq.cell (p := ⟨w.heap.size, 1, none⟩) hxW).trans y1
        have x2 : wq.cell? ⟨w.heap.size, 2, none⟩ = some (.int .i64 (e 2)) := (hbq.cell (p := ⟨w.heap.size, 2, none⟩) hxW).trans y2
        have x3 : wq.cell? ⟨w.heap.size, 3, none⟩ = some (.int .i64 (e 3)) := (hbq.cell (p := ⟨w.heap.size, 3, none⟩) hxW).trans y3
        clear q0 q1 q2 q3 y0 y1 y2 y3
        have hkn8 : k ≤ n := hk
        have hkc8 : k ≤ c := by omega
        have sq0 : w.heap.size ≤ wq.heap.size := by omega
        go_upto_region 4 with fail
        go_cut [6] (fun s6 wx => wx.ownsRow w.heap.size 82 4 s6 (k + 1) (flat 4 (es.take k ++ [e])) ∧ Below w.heap.size w wx)
        case first =>
          go_region_held3 (fun w' => w'.cell? ⟨w.heap.size, 0, none⟩ = some (.int .i64 (e 0)) ∧ w'.cell? ⟨w.heap.size, 1, none⟩ = some (.int .i64 (e 1)) ∧ w'.cell? ⟨w.heap.size, 2, none⟩ = some (.int .i64 (e 2)) ∧ w'.cell? ⟨w.heap.size, 3, none⟩ = some (.int .i64 (e 3))) ((first | (go_keep; done) | (go_simp; done))) (first
            | (go_at_call 116; go_must (refine (l7Copy_any _ _ _ (es.take k) _ (by omega) ((H.out.below (by (repeat (first | with_reducible exact Below.refl _ _ | with_reducible refine Below.drew ?_ | with_reducible refine below_drewN ?_ _ | (with_reducible refine bel_alloc ?_ ?_ _; (first | omega | (simp; omega) | simp)) | (with_reducible refine bel_set ?_ ?_ _; (first | omega | (simp; omega) | simp)) | (with_reducible refine bel_tr (by assumption) ?_ ?_; (first | omega | (simp; omega) | simp)))))).take hkn8)).mono ?_); rintro y w2 ⟨v, rfl, o2, b2⟩; have s2 := b2.size; (try simp at s2); have O2 := Lib.hid o2; clear o2; (have kc2 : ∀ o, w2.cell? ⟨w.heap.size, o, none⟩ = _ := (fun o => b2.cell (p := ⟨w.heap.size, o, none⟩) (by (first | omega | (simp; omega) | (solve | simp))))); have kq2 := fun (o : Nat) (ho : _) => b2.cell (p := ⟨wq.heap.size, o, none⟩) ho)
            | (refine step_append_rd _ (by rfl) (.tmp 24) (.tmp 26) 27 (by rfl) w.heap.size 82 i0 _ 4 32 Tryz.underlying27 hi0 hz0 hz1 hz2 (by rfl) (by omega) v k (es.take k) (by rfl) (by first | exact O2.out.lower (by (first | omega | (simp; omega) | simp)) | exact World.ownsRow.alloc (O2.out.lower (by (first | omega | (simp; omega) | simp))) _) (some ⟨_, 0, none⟩) 1 1 [e] (by rfl) (rd_one4 (by (first | omega | (simp; omega) | simp)) (by first | (first | (go_keep; done) | (go_simp; done)) | (refine (kq2 _ (by (first | omega | (simp; omega) | simp))).trans ?_; (first | (go_keep; done) | (go_simp; done)))) (by first | (first | (go_keep; done) | (go_simp; done)) | (refine (kq2 _ (by (first | omega | (simp; omega) | simp))).trans ?_; (first | (go_keep; done) | (go_simp; done)))) (by first | (first | (go_keep; done) | (go_simp; done)) | (refine (kq2 _ (by (first | omega | (simp; omega) | simp))).trans ?_; (first | (go_keep; done) | (go_simp; done)))) (by first | (first | (go_keep; done) | (go_simp; done)) | (refine (kq2 _ (by (first | omega | (simp; omega) | simp))).trans ?_; (first | (go_keep; done) | (go_simp; done))))) (by unfold maxLen; omega) (by omega) (by (first | omega | (simp; omega) | simp)) ?_; intro v4 w4 hown4 hg4 hat4; have kc4 := fun (o : Nat) => (Below.grown (Below.refl wq.heap.size _) hg4 (by (first | omega | (simp; omega) | simp)) (row_ge O2.out (by (first | omega | (simp; omega) | simp)))).cell (p := ⟨w.heap.size, o, none⟩) hxq))
          all_goals (go_wp2_with fail; go_meet; refine ⟨hown4, Below.grown (show Below w.heap.size w _ from by (repeat (first | with_reducible exact Below.refl _ _ | with_reducible refine Below.drew ?_ | with_reducible refine below_drewN ?_ _ | (with_reducible refine bel_alloc ?_ ?_ _; (first | omega | (simp; omega) | simp)) | (with_reducible refine bel_set ?_ ?_ _; (first | omega | (simp; omega) | simp)) | (with_reducible refine bel_tr (by assumption) ?_ ?_; (first | omega | (simp; omega) | simp))))) hg4 (by (first | omega | (simp; omega) | simp)) (row_ge O2.out (by (first | omega | (simp; omega) | simp)))⟩)
        case rest =>
          obtain ⟨hown6, hb6⟩ := hcut
          have O6 := Lib.hid hown6
          have s6 := hb6.size
          clear hown6
          go_wp2_with (at_builtin; go_must (refine wpList_append_rd _ rfl _ _ 27 rfl w.heap.size 82 i0 _ 4 32 Tryz.underlying27 hi0 hz0 hz1 hz2 rfl (by omega) _ (k + 1) (es.take k ++ [e]) rfl O6.out _ (n - k) (c - k) (es.drop k) rfl ((HN0.out _ _ _)) (by unfold maxLen; omega) (by omega) s6 ?_); intro v8 w8 hown8 hg8 hat8)
          all_goals (go_ret; refine ⟨_, rfl, ?_, Below.grown hb6 hg8 s6 (row_ge O6.out (Nat.le_refl _))⟩; rw [← HP.out, show n + 1 = k + 1 + (n - k) by omega]; simpa [insL] using hown8)
      exact absurd hlt (by have := HZ.out; omega)
theorem l7Put_any (A : Option Addr) (n c : Nat) (es : List (Nat → Int)) (e : Nat → Int) (w : World) (hn : n ≤ 4194303) (hnc : n ≤ c) (hcm : c ≤ 9223372036854775807) (h : Rd w 4 A n es) :
    Calls Tryz.prog 92 #[.slice A n c, .agg #[.int .i64 (e 0), .int .i64 (e 1), .int .i64 (e 2), .int .i64 (e 3)]] w fun y w' => ∃ A' c', y = .returned (.slice A' (n + 1) c') ∧ n + 1 ≤ c' ∧ c' ≤ 9223372036854775807 ∧ Own w.heap.size w' 4 A' (n + 1) (insL es (plc es e n) e) ∧ Below w.heap.size w w' := by
  have hl := insL_len (e := e) h.1 (plc_le (es := es) (e := e) (n := n))
  have fin : ∀ (y : Ending) (w' : World), (∃ v, y = .returned v ∧ w'.ownsRow w.heap.size 82 4 v (n + 1) (flat 4 (insL es (plc es e n) e)) ∧ Below w.heap.size w w') → ∃ A' c', y = .returned (.slice A' (n + 1) c') ∧ n + 1 ≤ c' ∧ c' ≤ 9223372036854775807 ∧ Own w.heap.size w' 4 A' (n + 1) (insL es (plc es e n) e) ∧ Below w.heap.size w w' := by
    rintro y w' ⟨v, rfl, h1, h2⟩
    obtain ⟨g, cap, rfl, h3, h4, h5⟩ := row_pos (by omega) (by omega) hl h1
    exact ⟨_, _, rfl, h3, h4, h5, h2⟩
  rcases Nat.eq_zero_or_pos n with h0 | h0
  · exact (l7Put_zero A n c es e w hn hnc hcm h h0).mono fun y w' h => fin y w' h
  · obtain ⟨b, off, rfl, _, _⟩ := h.2.resolve_left (by omega)
    exact (l7Put_pos b off n c es e w hn hnc hcm h h0).mono fun y w' h => fin y w' h
end Go.Proofs.YtjlmcppkafjniaaGreat
