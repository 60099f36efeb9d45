/-
  What an insertion sort of pins keeps. No conditions.
-/
import Derived.Test.YtjlmcppkafjniaaGreatWa
import Derived.Test.YtjlmcppkafjniaaGreatBw
import Derived.Test.YtjlmcppkafjniaaGreatSe
import Derived.Test.YtjlmcppkafjniaaGreatQa
import Derived.Deep.DeepCutAuto
namespace Go.Proofs.YtjlmcppkafjniaaGreat
open Go.RowKit

/-- The place of p: the first pin that is not less. -/
def plcP (es : List (Nat → Int)) (p : Nat → Int) (n : Nat) : Nat := match ixOf (fun i => !decide (ltP (fld es i) p)) n with | none => n | some k => k
theorem plcP_le {es : List (Nat → Int)} {p : Nat → Int} {n : Nat} : plcP es p n ≤ n := by
  unfold plcP
  split
  · omega
  · rename_i k hk
    have := ixOf_some hk
    omega
theorem plcP_of {es : List (Nat → Int)} {p : Nat → Int} {n k : Nat} (_hk : k ≤ n) (h1 : ∀ i, i < k → ltP (fld es i) p) (h2 : k = n ∨ (k < n ∧ ¬ ltP (fld es k) p)) : k = plcP es p n := by
  unfold plcP
  split
  · rename_i hx
    rcases h2 with h2 | ⟨h2, h3⟩
    · exact h2
    · have := ixOf_none hx k h2
      simp [h3] at this
  · rename_i j hj
    obtain ⟨h4, h5, h6⟩ := ixOf_some hj
    rcases Nat.lt_trichotomy j k with h | h | h
    · have := h1 j h
      simp [this] at h5
    · exact h.symm
    · rcases h2 with h2 | ⟨h2, h3⟩
      · omega
      · have := h6 k h
        simp [h3] at this
theorem rd_one2 (w : World) (t : TypeId) (p : Nat → Int) : Rd (w.alloc (.cells #[.int .i64 (p 0), .int .i64 (p 1)] t)) 2 (some ⟨w.heap.size, 0, none⟩) 1 [p] :=
  ⟨rfl, .inr ⟨w.heap.size, 0, rfl, by simp, fun i hi j hj => by
    obtain rfl : i = 0 := by omega
    match j, hj with
    | 0, _ => simp [fld]
    | 1, _ => simp [fld]⟩⟩

set_option maxRecDepth 100000 in
set_option maxHeartbeats 8000000 in
theorem l9Put_any (B n : Nat) (v : Value) (es : List (Nat → Int)) (p : Nat → Int) (w : World) (hn : n ≤ 4194303) (hl : es.length = n) (hown : w.ownsRow B 87 2 v n (flat 2 es)) :
    Calls Tryz.prog 94 #[v, .agg #[.int .i64 (p 0), .int .i64 (p 1)]] w fun y w' => ∃ v', y = .returned v' ∧ w'.ownsRow w.heap.size 87 2 v' (n + 1) (flat 2 (insL es (plcP es p n) p)) ∧ Below w.heap.size w w' := by
  obtain ⟨i0, hi0, hz0, hz1, hz2⟩ := info_parts copyPin_info
  rcases Nat.eq_zero_or_pos n with h0 | h0
  · subst h0
    have hes : es = [] := List.eq_nil_of_length_eq_zero hl
    subst hes
    obtain ⟨A, c, hv, hA⟩ : ∃ A c, v = .slice A 0 c ∧ (A = none ∧ c = 0 ∨ ∃ g, A = some ⟨g, 0, none⟩) := by
      rcases hown.2 with ⟨rfl, _⟩ | ⟨g, cap, cur, rfl, _⟩
      · exact ⟨none, 0, rfl, .inl ⟨rfl, rfl⟩⟩
      · exact ⟨_, cap, rfl, .inr ⟨g, rfl⟩⟩
    subst hv
    have hd : decide (0 < 0) = false := by simp
    rcases hA with ⟨rfl, rfl⟩ | ⟨g, rfl⟩
    · go_enter Tryz.func94, Tryz.ntmps94
      go_wp2
      go_loopw [5] (fun i wr => i = .int .i64 0 ∧ Below w.heap.size w wr ∧ wr.cell? ⟨w.heap.size, 0, none⟩ = some (.int .i64 (p 0)) ∧ wr.cell? ⟨w.heap.size, 1, none⟩ = some (.int .i64 (p 1))) (fun _ _ => 0)
      case atStart => exact ⟨rfl, by (repeat (first | with_reducible exact Below.refl _ _ | with_reducible refine Below.drew ?_ | with_reducible refine below_drewN ?_ _ | (with_reducible refine bel_alloc ?_ ?_ _; (first | omega | (simp; omega) | simp)) | (with_reducible refine bel_set ?_ ?_ _; (first | omega | (simp; omega) | simp)) | (with_reducible refine bel_tr (by assumption) ?_ ?_; (first | omega | (simp; omega) | simp)))), by (first | (go_keep; done) | (go_simp; done)), by (first | (go_keep; done) | (go_simp; done))⟩
      case round =>
        obtain ⟨rfl, hbel, x0, x1⟩ := hrel
        have hsz := hbel.size
        have hxl := lt_of_cell x0
        go_wp2
        refine wp_region_bw (by kernel_rfl) (by kernel_rfl) (fun W hW => ?_)
        have q0 : ∀ pq : BW W, pq.w.cell? ⟨w.heap.size, 0, none⟩ = some (.int .i64 (p 0)) := fun pq => pq.cell (by rw [hW]; (first | omega | (simp; omega) | simp)) (by rw [hW]; (first | (go_keep; done) | (go_simp; done)))
        have q1 : ∀ pq : BW W, pq.w.cell? ⟨w.heap.size, 1, none⟩ = some (.int .i64 (p 1)) := fun pq => pq.cell (by rw [hW]; (first | omega | (simp; omega) | simp)) (by rw [hW]; (first | (go_keep; done) | (go_simp; done)))
        have hbW : Below wr.heap.size wr W := by rw [hW]; (repeat (first | with_reducible exact Below.refl _ _ | with_reducible refine Below.drew ?_ | with_reducible refine below_drewN ?_ _ | (with_reducible refine bel_alloc ?_ ?_ _; (first | omega | (simp; omega) | simp)) | (with_reducible refine bel_set ?_ ?_ _; (first | omega | (simp; omega) | simp)) | (with_reducible refine bel_tr (by assumption) ?_ ?_; (first | omega | (simp; omega) | simp))))
        have HW := Lib.hid hW
        clear hW
        repeat (go_big_quiet_step (fail))
        refine wpQuiet_nil ?_
        intro wq hq
        have hbq : Below W.heap.size W wq := by (obtain ⟨p, hp⟩ := hq; rw [hp]; exact p.below)
        clear hq
        have hbel4 : Below wr.heap.size wr wq := hbW.trans (hbq.mono hbW.size)
        have sq := hbel4.size
        clear hbW hbq HW q0 q1
        have z0 : wq.cell? ⟨w.heap.size, 0, none⟩ = some (.int .i64 (p 0)) := (hbel4.cell (p := ⟨w.heap.size, 0, none⟩) hxl).trans x0
        have z1 : wq.cell? ⟨w.heap.size, 1, none⟩ = some (.int .i64 (p 1)) := (hbel4.cell (p := ⟨w.heap.size, 1, none⟩) hxl).trans x1
        have bwq : Below w.heap.size w wq := hbel.trans (hbel4.mono hsz)
        have swq := bwq.size
        have hxq : w.heap.size < wq.heap.size := by omega
        clear x0 x1 hbel hbel4
        go_wp2_with (first
          | (at_builtin; refine wpList_append_rd _ rfl (.tmp 21) (.tmp 24) 85 rfl wq.heap.size 87 i0 _ 2 16 Tryz.underlying85 hi0 hz0 hz1 hz2 rfl (by omega) (.slice (some ⟨wq.heap.size, 0, none⟩) 0 0) 0 [] rfl (rowE wq _ 2) none 0 0 [] rfl ⟨rfl, .inl rfl⟩ (by unfold maxLen; omega) (by omega) (by (first | omega | (simp; omega) | simp)) ?_; intro v1 w1 hown1 hg1 hat1; have b1 : Below wq.heap.size wq w1 := Below.grown (show Below wq.heap.size wq _ from by (repeat (first | with_reducible exact Below.refl _ _ | with_reducible refine Below.drew ?_ | with_reducible refine below_drewN ?_ _ | (with_reducible refine bel_alloc ?_ ?_ _; (first | omega | (simp; omega) | simp)) | (with_reducible refine bel_set ?_ ?_ _; (first | omega | (simp; omega) | simp)) | (with_reducible refine bel_tr (by assumption) ?_ ?_; (first | omega | (simp; omega) | simp))))) hg1 (by (first | omega | (simp; omega) | simp)) (by simp [Value.ownBlock]); have s1 := b1.size; have u0 : w1.cell? ⟨w.heap.size, 0, none⟩ = some (.int .i64 (p 0)) := (b1.cell (p := ⟨w.heap.size, 0, none⟩) (by (first | omega | (simp; omega) | simp))).trans z0; have u1 : w1.cell? ⟨w.heap.size, 1, none⟩ = some (.int .i64 (p 1)) := (b1.cell (p := ⟨w.heap.size, 1, none⟩) (by (first | omega | (simp; omega) | simp))).trans z1; have O1 := Lib.hid hown1; clear hown1 hg1 hat1)
          | (at_builtin; refine wpList_append_rd _ rfl (.tmp 26) (.tmp 28) 85 rfl wq.heap.size 87 i0 _ 2 16 Tryz.underlying85 hi0 hz0 hz1 hz2 rfl (by omega) v1 (0 + 0) ([] ++ []) rfl (World.ownsRow.alloc O1.out _) (some ⟨w1.heap.size, 0, none⟩) 1 1 [p] rfl (rd_one2 w1 _ p) (by unfold maxLen; omega) (by omega) (by (first | omega | (simp; omega) | simp)) ?_; intro v2 w2 hown2 hg2 hat2; have b2 : Below wq.heap.size wq w2 := Below.grown (show Below wq.heap.size wq _ from by (repeat (first | with_reducible exact Below.refl _ _ | with_reducible refine Below.drew ?_ | with_reducible refine below_drewN ?_ _ | (with_reducible refine bel_alloc ?_ ?_ _; (first | omega | (simp; omega) | simp)) | (with_reducible refine bel_set ?_ ?_ _; (first | omega | (simp; omega) | simp)) | (with_reducible refine bel_tr (by assumption) ?_ ?_; (first | omega | (simp; omega) | simp))))) hg2 (by (first | omega | (simp; omega) | simp)) (row_ge O1.out (Nat.le_refl _)); have s2 := b2.size; have O2 := Lib.hid hown2; clear hown2 hg2 hat2)
          | (at_builtin; refine wpList_append_rd _ rfl (.tmp 30) (.tmp 33) 85 rfl wq.heap.size 87 i0 _ 2 16 Tryz.underlying85 hi0 hz0 hz1 hz2 rfl (by omega) v2 (0 + 0 + 1) ([] ++ [] ++ [p]) rfl O2.out none 0 0 [] rfl ⟨rfl, .inl rfl⟩ (by unfold maxLen; omega) (by omega) (by (first | omega | (simp; omega) | simp)) ?_; intro v3 w3 hown3 hg3 hat3; have b3 : Below wq.heap.size wq w3 := Below.grown (show Below wq.heap.size wq _ from by (repeat (first | with_reducible exact Below.refl _ _ | with_reducible refine Below.drew ?_ | with_reducible refine below_drewN ?_ _ | (with_reducible refine bel_alloc ?_ ?_ _; (first | omega | (simp; omega) | simp)) | (with_reducible refine bel_set ?_ ?_ _; (first | omega | (simp; omega) | simp)) | (with_reducible refine bel_tr (by assumption) ?_ ?_; (first | omega | (simp; omega) | simp))))) hg3 (by (first | omega | (simp; omega) | simp)) (row_ge O2.out (Nat.le_refl _)); have s3 := b3.size; have O3 := Lib.hid hown3; clear hown3 hg3 hat3))
        go_ret
        refine ⟨_, rfl, ?_, bwq.trans (b3.mono swq)⟩
        have h9 := O3.out.lower swq
        simpa [insL] using h9
    · go_enter Tryz.func94, Tryz.ntmps94
      go_wp2
      go_loopw [5] (fun i wr => i = .int .i64 0 ∧ Below w.heap.size w wr ∧ wr.cell? ⟨w.heap.size, 0, none⟩ = some (.int .i64 (p 0)) ∧ wr.cell? ⟨w.heap.size, 1, none⟩ = some (.int .i64 (p 1))) (fun _ _ => 0)
      case atStart => exact ⟨rfl, by (repeat (first | with_reducible exact Below.refl _ _ | with_reducible refine Below.drew ?_ | with_reducible refine below_drewN ?_ _ | (with_reducible refine bel_alloc ?_ ?_ _; (first | omega | (simp; omega) | simp)) | (with_reducible refine bel_set ?_ ?_ _; (first | omega | (simp; omega) | simp)) | (with_reducible refine bel_tr (by assumption) ?_ ?_; (first | omega | (simp; omega) | simp)))), by (first | (go_keep; done) | (go_simp; done)), by (first | (go_keep; done) | (go_simp; done))⟩
      case round =>
        obtain ⟨rfl, hbel, x0, x1⟩ := hrel
        have hsz := hbel.size
        have hxl := lt_of_cell x0
        go_wp2
        refine wp_region_bw (by kernel_rfl) (by kernel_rfl) (fun W hW => ?_)
        have q0 : ∀ pq : BW W, pq.w.cell? ⟨w.heap.size, 0, none⟩ = some (.int .i64 (p 0)) := fun pq => pq.cell (by rw [hW]; (first | omega | (simp; omega) | simp)) (by rw [hW]; (first | (go_keep; done) | (go_simp; done)))
        have q1 : ∀ pq : BW W, pq.w.cell? ⟨w.heap.size, 1, none⟩ = some (.int .i64 (p 1)) := fun pq => pq.cell (by rw [hW]; (first | omega | (simp; omega) | simp)) (by rw [hW]; (first | (go_keep; done) | (go_simp; done)))
        have hbW : Below wr.heap.size wr W := by rw [hW]; (repeat (first | with_reducible exact Below.refl _ _ | with_reducible refine Below.drew ?_ | with_reducible refine below_drewN ?_ _ | (with_reducible refine bel_alloc ?_ ?_ _; (first | omega | (simp; omega) | simp)) | (with_reducible refine bel_set ?_ ?_ _; (first | omega | (simp; omega) | simp)) | (with_reducible refine bel_tr (by assumption) ?_ ?_; (first | omega | (simp; omega) | simp))))
        have HW := Lib.hid hW
        clear hW
        repeat (go_big_quiet_step (fail))
        refine wpQuiet_nil ?_
        intro wq hq
        have hbq : Below W.heap.size W wq := by (obtain ⟨p, hp⟩ := hq; rw [hp]; exact p.below)
        clear hq
        have hbel4 : Below wr.heap.size wr wq := hbW.trans (hbq.mono hbW.size)
        have sq := hbel4.size
        clear hbW hbq HW q0 q1
        have z0 : wq.cell? ⟨w.heap.size, 0, none⟩ = some (.int .i64 (p 0)) := (hbel4.cell (p := ⟨w.heap.size, 0, none⟩) hxl).trans x0
        have z1 : wq.cell? ⟨w.heap.size, 1, none⟩ = some (.int .i64 (p 1)) := (hbel4.cell (p := ⟨w.heap.size, 1, none⟩) hxl).trans x1
        have bwq : Below w.heap.size w wq := hbel.trans (hbel4.mono hsz)
        have swq := bwq.size
        have hxq : w.heap.size < wq.heap.size := by omega
        clear x0 x1 hbel hbel4
        go_wp2_with (first
          | (at_builtin; refine wpList_append_rd _ rfl (.tmp 21) (.tmp 24) 85 rfl wq.heap.size 87 i0 _ 2 16 Tryz.underlying85 hi0 hz0 hz1 hz2 rfl (by omega) (.slice (some ⟨wq.heap.size, 0, none⟩) 0 0) 0 [] rfl (rowE wq _ 2) (some ⟨g, 0, none⟩) 0 c [] rfl ⟨rfl, .inl rfl⟩ (by unfold maxLen; omega) (by omega) (by (first | omega | (simp; omega) | simp)) ?_; intro v1 w1 hown1 hg1 hat1; have b1 : Below wq.heap.size wq w1 := Below.grown (show Below wq.heap.size wq _ from by (repeat (first | with_reducible exact Below.refl _ _ | with_reducible refine Below.drew ?_ | with_reducible refine below_drewN ?_ _ | (with_reducible refine bel_alloc ?_ ?_ _; (first | omega | (simp; omega) | simp)) | (with_reducible refine bel_set ?_ ?_ _; (first | omega | (simp; omega) | simp)) | (with_reducible refine bel_tr (by assumption) ?_ ?_; (first | omega | (simp; omega) | simp))))) hg1 (by (first | omega | (simp; omega) | simp)) (by simp [Value.ownBlock]); have s1 := b1.size; have u0 : w1.cell? ⟨w.heap.size, 0, none⟩ = some (.int .i64 (p 0)) := (b1.cell (p := ⟨w.heap.size, 0, none⟩) (by (first | omega | (simp; omega) | simp))).trans z0; have u1 : w1.cell? ⟨w.heap.size, 1, none⟩ = some (.int .i64 (p 1)) := (b1.cell (p := ⟨w.heap.size, 1, none⟩) (by (first | omega | (simp; omega) | simp))).trans z1; have O1 := Lib.hid hown1; clear hown1 hg1 hat1)
          | (at_builtin; refine wpList_append_rd _ rfl (.tmp 26) (.tmp 28) 85 rfl wq.heap.size 87 i0 _ 2 16 Tryz.underlying85 hi0 hz0 hz1 hz2 rfl (by omega) v1 (0 + 0) ([] ++ []) rfl (World.ownsRow.alloc O1.out _) (some ⟨w1.heap.size, 0, none⟩) 1 1 [p] rfl (rd_one2 w1 _ p) (by unfold maxLen; omega) (by omega) (by (first | omega | (simp; omega) | simp)) ?_; intro v2 w2 hown2 hg2 hat2; have b2 : Below wq.heap.size wq w2 := Below.grown (show Below wq.heap.size wq _ from by (repeat (first | with_reducible exact Below.refl _ _ | with_reducible refine Below.drew ?_ | with_reducible refine below_drewN ?_ _ | (with_reducible refine bel_alloc ?_ ?_ _; (first | omega | (simp; omega) | simp)) | (with_reducible refine bel_set ?_ ?_ _; (first | omega | (simp; omega) | simp)) | (with_reducible refine bel_tr (by assumption) ?_ ?_; (first | omega | (simp; omega) | simp))))) hg2 (by (first | omega | (simp; omega) | simp)) (row_ge O1.out (Nat.le_refl _)); have s2 := b2.size; have O2 := Lib.hid hown2; clear hown2 hg2 hat2)
          | (at_builtin; refine wpList_append_rd _ rfl (.tmp 30) (.tmp 33) 85 rfl wq.heap.size 87 i0 _ 2 16 Tryz.underlying85 hi0 hz0 hz1 hz2 rfl (by omega) v2 (0 + 0 + 1) ([] ++ [] ++ [p]) rfl O2.out (some ⟨g, 0, none⟩) 0 c [] rfl ⟨rfl, .inl rfl⟩ (by unfold maxLen; omega) (by omega) (by (first | omega | (simp; omega) | simp)) ?_; intro v3 w3 hown3 hg3 hat3; have b3 : Below wq.heap.size wq w3 := Below.grown (show Below wq.heap.size wq _ from by (repeat (first | with_reducible exact Below.refl _ _ | with_reducible refine Below.drew ?_ | with_reducible refine below_drewN ?_ _ | (with_reducible refine bel_alloc ?_ ?_ _; (first | omega | (simp; omega) | simp)) | (with_reducible refine bel_set ?_ ?_ _; (first | omega | (simp; omega) | simp)) | (with_reducible refine bel_tr (by assumption) ?_ ?_; (first | omega | (simp; omega) | simp))))) hg3 (by (first | omega | (simp; omega) | simp)) (row_ge O2.out (Nat.le_refl _)); have s3 := b3.size; have O3 := Lib.hid hown3; clear hown3 hg3 hat3))
        go_ret
        refine ⟨_, rfl, ?_, bwq.trans (b3.mono swq)⟩
        have h9 := O3.out.lower swq
        simpa [insL] using h9
  · obtain ⟨b, c, rfl, hnc, hcm, ho⟩ := row_pos h0 (by omega) hl hown
    have H := Lib.hid ho.rd
    have HL := Lib.hid hl
    clear hown ho hl
    go_enter Tryz.func94, Tryz.ntmps94
    go_wp2
    go_loopw [5] (fun i wr => ∃ k : Nat, k ≤ n ∧ i = .int .i64 k ∧ Hid (∀ i, i < k → ltP (fld es i) p) ∧ Below w.heap.size w wr ∧ wr.cell? ⟨w.heap.size, 0, none⟩ = some (.int .i64 (p 0)) ∧ wr.cell? ⟨w.heap.size, 1, none⟩ = some (.int .i64 (p 1))) (fun i _ => n - (intOf i).toNat)
    case atStart => exact ⟨0, Nat.zero_le _, rfl, Lib.hid (fun i hi => absurd hi (by omega)), by (repeat (first | with_reducible exact Below.refl _ _ | with_reducible refine Below.drew ?_ | with_reducible refine below_drewN ?_ _ | (with_reducible refine bel_alloc ?_ ?_ _; (first | omega | (simp; omega) | simp)) | (with_reducible refine bel_set ?_ ?_ _; (first | omega | (simp; omega) | simp)) | (with_reducible refine bel_tr (by assumption) ?_ ?_; (first | omega | (simp; omega) | simp)))), by (first | (go_keep; done) | (go_simp; done)), by (first | (go_keep; done) | (go_simp; done))⟩
    case round =>
      obtain ⟨k, hk, rfl, HQ, hbel, x0, x1⟩ := hrel
      have hsz := hbel.size
      have hxl := lt_of_cell x0
      have hki : (k : Int) ≤ (n : Int) := by omega
      have hk0 : (0 : Int) ≤ (k : Int) := by omega
      obtain ⟨AD, hAD, HSRC⟩ : ∃ AD : Option Addr, (if c = k then some (⟨b, 0, none⟩ : Addr) else some ⟨b, k * 2, none⟩) = AD ∧ Hid (∀ W : World, Below w.heap.size w W → Rd W 2 AD (n - k) (es.drop k)) := by
        by_cases hck : c = k
        · refine ⟨_, if_pos hck, fun W hW => ?_⟩
          rw [show n - k = 0 by omega]
          exact (H.out.below hW).none_left (by have := HL.out; omega)
        · refine ⟨_, if_neg hck, fun W hW => ?_⟩
          have h := (H.out.below hW).drop hk
          rw [Nat.zero_add] at h
          exact h
      have hkc : k ≤ c := by omega
      have hkci : (k : Int) ≤ (c : Int) := by omega
      by_cases hlt : k < n
      case neg =>
        have hkn : k = n := by omega
        have HP : Hid (k = plcP es p n) := plcP_of (by omega) HQ.out (.inl hkn)
        have hd : decide (k < n) = false := by simpa using hlt
        have hlti : ¬ (k : Int) < (n : Int) := by omega
        have HLT := Lib.hid hlt
        clear hlt hkn
        go_wp2
        refine wp_region_bw (by kernel_rfl) (by kernel_rfl) (fun W hW => ?_)
        have q0 : ∀ pq : BW W, pq.w.cell? ⟨w.heap.size, 0, none⟩ = some (.int .i64 (p 0)) := fun pq => pq.cell (by rw [hW]; (first | omega | (simp; omega) | simp)) (by rw [hW]; (first | (go_keep; done) | (go_simp; done)))
        have q1 : ∀ pq : BW W, pq.w.cell? ⟨w.heap.size, 1, none⟩ = some (.int .i64 (p 1)) := fun pq => pq.cell (by rw [hW]; (first | omega | (simp; omega) | simp)) (by rw [hW]; (first | (go_keep; done) | (go_simp; done)))
        have hbW : Below wr.heap.size wr W := by rw [hW]; (repeat (first | with_reducible exact Below.refl _ _ | with_reducible refine Below.drew ?_ | with_reducible refine below_drewN ?_ _ | (with_reducible refine bel_alloc ?_ ?_ _; (first | omega | (simp; omega) | simp)) | (with_reducible refine bel_set ?_ ?_ _; (first | omega | (simp; omega) | simp)) | (with_reducible refine bel_tr (by assumption) ?_ ?_; (first | omega | (simp; omega) | simp))))
        have HW := Lib.hid hW
        clear hW
        repeat (go_big_quiet_step (fail))
        refine wpQuiet_nil ?_
        intro wq hq
        have hbq : Below W.heap.size W wq := by (obtain ⟨p, hp⟩ := hq; rw [hp]; exact p.below)
        clear hq
        have hbel4 : Below wr.heap.size wr wq := hbW.trans (hbq.mono hbW.size)
        have sq := hbel4.size
        clear hbW hbq HW q0 q1
        have z0 : wq.cell? ⟨w.heap.size, 0, none⟩ = some (.int .i64 (p 0)) := (hbel4.cell (p := ⟨w.heap.size, 0, none⟩) hxl).trans x0
        have z1 : wq.cell? ⟨w.heap.size, 1, none⟩ = some (.int .i64 (p 1)) := (hbel4.cell (p := ⟨w.heap.size, 1, none⟩) hxl).trans x1
        have bwq : Below w.heap.size w wq := hbel.trans (hbel4.mono hsz)
        have swq := bwq.size
        have hxq : w.heap.size < wq.heap.size := by omega
        clear x0 x1 hbel hbel4
        go_wp2_with (first
          | (at_builtin; refine wpList_append_rd _ rfl (.tmp 21) (.tmp 24) 85 rfl wq.heap.size 87 i0 _ 2 16 Tryz.underlying85 hi0 hz0 hz1 hz2 rfl (by omega) (.slice (some ⟨wq.heap.size, 0, none⟩) 0 0) 0 [] rfl (rowE wq _ 2) (some ⟨b, 0, none⟩) k c (es.take k) rfl ((H.out.below (by (repeat (first | with_reducible exact Below.refl _ _ | with_reducible refine Below.drew ?_ | with_reducible refine below_drewN ?_ _ | (with_reducible refine bel_alloc ?_ ?_ _; (first | omega | (simp; omega) | simp)) | (with_reducible refine bel_set ?_ ?_ _; (first | omega | (simp; omega) | simp)) | (with_reducible refine bel_tr (by assumption) ?_ ?_; (first | omega | (simp; omega) | simp)))))).take hk) (by unfold maxLen; omega) (by omega) (by (first | omega | (simp; omega) | simp)) ?_; intro v1 w1 hown1 hg1 hat1; have b1 : Below wq.heap.size wq w1 := Below.grown (show Below wq.heap.size wq _ from by (repeat (first | with_reducible exact Below.refl _ _ | with_reducible refine Below.drew ?_ | with_reducible refine below_drewN ?_ _ | (with_reducible refine bel_alloc ?_ ?_ _; (first | omega | (simp; omega) | simp)) | (with_reducible refine bel_set ?_ ?_ _; (first | omega | (simp; omega) | simp)) | (with_reducible refine bel_tr (by assumption) ?_ ?_; (first | omega | (simp; omega) | simp))))) hg1 (by (first | omega | (simp; omega) | simp)) (by simp [Value.ownBlock]); have s1 := b1.size; have u0 : w1.cell? ⟨w.heap.size, 0, none⟩ = some (.int .i64 (p 0)) := (b1.cell (p := ⟨w.heap.size, 0, none⟩) (by (first | omega | (simp; omega) | simp))).trans z0; have u1 : w1.cell? ⟨w.heap.size, 1, none⟩ = some (.int .i64 (p 1)) := (b1.cell (p := ⟨w.heap.size, 1, none⟩) (by (first | omega | (simp; omega) | simp))).trans z1; have O1 := Lib.hid hown1; clear hown1 hg1 hat1)
          | (at_builtin; refine wpList_append_rd _ rfl (.tmp 26) (.tmp 28) 85 rfl wq.heap.size 87 i0 _ 2 16 Tryz.underlying85 hi0 hz0 hz1 hz2 rfl (by omega) v1 (0 + k) ([] ++ (es.take k)) rfl (World.ownsRow.alloc O1.out _) (some ⟨w1.heap.size, 0, none⟩) 1 1 [p] rfl (rd_one2 w1 _ p) (by unfold maxLen; omega) (by omega) (by (first | omega | (simp; omega) | simp)) ?_; intro v2 w2 hown2 hg2 hat2; have b2 : Below wq.heap.size wq w2 := Below.grown (show Below wq.heap.size wq _ from by (repeat (first | with_reducible exact Below.refl _ _ | with_reducible refine Below.drew ?_ | with_reducible refine below_drewN ?_ _ | (with_reducible refine bel_alloc ?_ ?_ _; (first | omega | (simp; omega) | simp)) | (with_reducible refine bel_set ?_ ?_ _; (first | omega | (simp; omega) | simp)) | (with_reducible refine bel_tr (by assumption) ?_ ?_; (first | omega | (simp; omega) | simp))))) hg2 (by (first | omega | (simp; omega) | simp)) (row_ge O1.out (Nat.le_refl _)); have s2 := b2.size; have O2 := Lib.hid hown2; clear hown2 hg2 hat2)
          | (at_builtin; refine wpList_append_rd _ rfl (.tmp 30) (.tmp 33) 85 rfl wq.heap.size 87 i0 _ 2 16 Tryz.underlying85 hi0 hz0 hz1 hz2 rfl (by omega) v2 (0 + k + 1) ([] ++ (es.take k) ++ [p]) rfl O2.out AD (n - k) (c - k) (es.drop k) rfl (HSRC.out _ (by (repeat (first | with_reducible exact Below.refl _ _ | with_reducible refine Below.drew ?_ | with_reducible refine below_drewN ?_ _ | (with_reducible refine bel_alloc ?_ ?_ _; (first | omega | (simp; omega) | simp)) | (with_reducible refine bel_set ?_ ?_ _; (first | omega | (simp; omega) | simp)) | (with_reducible refine bel_tr (by assumption) ?_ ?_; (first | omega | (simp; omega) | simp)))))) (by unfold maxLen; omega) (by omega) (by (first | omega | (simp; omega) | simp)) ?_; intro v3 w3 hown3 hg3 hat3; have b3 : Below wq.heap.size wq w3 := Below.grown (show Below wq.heap.size wq _ from by (repeat (first | with_reducible exact Below.refl _ _ | with_reducible refine Below.drew ?_ | with_reducible refine below_drewN ?_ _ | (with_reducible refine bel_alloc ?_ ?_ _; (first | omega | (simp; omega) | simp)) | (with_reducible refine bel_set ?_ ?_ _; (first | omega | (simp; omega) | simp)) | (with_reducible refine bel_tr (by assumption) ?_ ?_; (first | omega | (simp; omega) | simp))))) hg3 (by (first | omega | (simp; omega) | simp)) (row_ge O2.out (Nat.le_refl _)); have s3 := b3.size; have O3 := Lib.hid hown3; clear hown3 hg3 hat3))
        go_ret
        refine ⟨_, rfl, ?_, bwq.trans (b3.mono swq)⟩
        rw [← HP.out]
        have e9 : 0 + k + 1 + (n - k) = n + 1 := by omega
        have h9 := O3.out.lower swq
        rw [e9] at h9
        simpa [insL] using h9
      obtain ⟨_, _, hbb, hb, hc⟩ := H.out.2.resolve_left (by omega)
      injection hbb with hbb
      injection hbb with hb1 hb2
      subst hb1 hb2
      have c0 : wr.cell? ⟨b, k * 2, none⟩ = some (.int .i64 (fld es k 0)) := (hbel.cell (p := ⟨b, k * 2, none⟩) hb).trans (by have h := hc k hlt 0 (by omega); rw [Nat.zero_add, Nat.add_zero] at h; exact h)
      have c1 : wr.cell? ⟨b, k * 2 + 1, none⟩ = some (.int .i64 (fld es k 1)) := (hbel.cell (p := ⟨b, k * 2 + 1, none⟩) hb).trans (by have h := hc k hlt 1 (by omega); rw [Nat.zero_add] at h; exact h)
      have hd : decide (k < n) = true := by simpa using hlt
      have hlti : (k : Int) < (n : Int) := by omega
      clear hc
      by_cases hL : ltP (fld es k) p
      · have HQ2 : Hid (∀ i, i < k + 1 → ltP (fld es i) p) := fun i hi => by
          by_cases h1 : i < k
          · exact HQ.out i h1
          · obtain rfl : i = k := by omega
            exact hL
        go_wp2
        refine wp_region_bw (by kernel_rfl) (by kernel_rfl) (fun W hW => ?_)
        have q0 : ∀ pq : BW W, pq.w.cell? ⟨b, k * 2, none⟩ = some (.int .i64 (fld es k 0)) := fun pq => pq.cell (by rw [hW]; (first | omega | (simp; omega) | simp)) (by rw [hW]; (first | (go_keep; done) | (go_simp; done)))
        have q1 : ∀ pq : BW W, pq.w.cell? ⟨b, k * 2 + 1, none⟩ = some (.int .i64 (fld es k 1)) := fun pq => pq.cell (by rw [hW]; (first | omega | (simp; omega) | simp)) (by rw [hW]; (first | (go_keep; done) | (go_simp; done)))
        have q2 : ∀ pq : BW W, pq.w.cell? ⟨w.heap.size, 0, none⟩ = some (.int .i64 (p 0)) := fun pq => pq.cell (by rw [hW]; (first | omega | (simp; omega) | simp)) (by rw [hW]; (first | (go_keep; done) | (go_simp; done)))
        have q3 : ∀ pq : BW W, pq.w.cell? ⟨w.heap.size, 1, none⟩ = some (.int .i64 (p 1)) := fun pq => pq.cell (by rw [hW]; (first | omega | (simp; omega) | simp)) (by rw [hW]; (first | (go_keep; done) | (go_simp; done)))
        have hbW : Below wr.heap.size wr W := by rw [hW]; (repeat (first | with_reducible exact Below.refl _ _ | with_reducible refine Below.drew ?_ | with_reducible refine below_drewN ?_ _ | (with_reducible refine bel_alloc ?_ ?_ _; (first | omega | (simp; omega) | simp)) | (with_reducible refine bel_set ?_ ?_ _; (first | omega | (simp; omega) | simp)) | (with_reducible refine bel_tr (by assumption) ?_ ?_; (first | omega | (simp; omega) | simp))))
        have HW := Lib.hid hW
        clear hW
        repeat (go_big_quiet_step ((first | (go_at_call 114; first | exact bw_of (ty (l9Less_any (fld es k) p _) hL) | exact bw_of (tn (l9Less_any (fld es k) p _) hL)))))
        refine wpQuiet_nil ?_
        intro wq hq
        have hbq : Below W.heap.size W wq := by (obtain ⟨p, hp⟩ := hq; rw [hp]; exact p.below)
        clear hq
        have hbel4 : Below wr.heap.size wr wq := hbW.trans (hbq.mono hbW.size)
        have sq := hbel4.size
        clear hbW hbq HW q0 q1 q2 q3
        have z0 : wq.cell? ⟨w.heap.size, 0, none⟩ = some (.int .i64 (p 0)) := (hbel4.cell (p := ⟨w.heap.size, 0, none⟩) hxl).trans x0
        have z1 : wq.cell? ⟨w.heap.size, 1, none⟩ = some (.int .i64 (p 1)) := (hbel4.cell (p := ⟨w.heap.size, 1, none⟩) hxl).trans x1
        have bwq : Below w.heap.size w wq := hbel.trans (hbel4.mono hsz)
        clear x0 x1 hbel hbel4 c0 c1
        go_wp2
        go_roundw
        case rel => exact ⟨k + 1, by omega, by go_num, HQ2, bwq, z0, z1⟩
        case measure => simp [intOf]; omega
      · have HP : Hid (k = plcP es p n) := plcP_of (by omega) HQ.out (.inr ⟨hlt, hL⟩)
        rw [if_neg (by omega)] at hAD
        subst hAD
        go_wp2
        refine wp_region_bw (by kernel_rfl) (by kernel_rfl) (fun W hW => ?_)
        have q0 : ∀ pq : BW W, pq.w.cell? ⟨b, k * 2, none⟩ = some (.int .i64 (fld es k 0)) := fun pq => pq.cell (by rw [hW]; (first | omega | (simp; omega) | simp)) (by rw [hW]; (first | (go_keep; done) | (go_simp; done)))
        have q1 : ∀ pq : BW W, pq.w.cell? ⟨b, k * 2 + 1, none⟩ = some (.int .i64 (fld es k 1)) := fun pq => pq.cell (by rw [hW]; (first | omega | (simp; omega) | simp)) (by rw [hW]; (first | (go_keep; done) | (go_simp; done)))
        have q2 : ∀ pq : BW W, pq.w.cell? ⟨w.heap.size, 0, none⟩ = some (.int .i64 (p 0)) := fun pq => pq.cell (by rw [hW]; (first | omega | (simp; omega) | simp)) (by rw [hW]; (first | (go_keep; done) | (go_simp; done)))
        have q3 : ∀ pq : BW W, pq.w.cell? ⟨w.heap.size, 1, none⟩ = some (.int .i64 (p 1)) := fun pq => pq.cell (by rw [hW]; (first | omega | (simp; omega) | simp)) (by rw [hW]; (first | (go_keep; done) | (go_simp; done)))
        have hbW : Below wr.heap.size wr W := by rw [hW]; (repeat (first | with_reducible exact Below.refl _ _ | with_reducible refine Below.drew ?_ | with_reducible refine below_drewN ?_ _ | (with_reducible refine bel_alloc ?_ ?_ _; (first | omega | (simp; omega) | simp)) | (with_reducible refine bel_set ?_ ?_ _; (first | omega | (simp; omega) | simp)) | (with_reducible refine bel_tr (by assumption) ?_ ?_; (first | omega | (simp; omega) | simp))))
        have HW := Lib.hid hW
        clear hW
        repeat (go_big_quiet_step ((first | (go_at_call 114; first | exact bw_of (ty (l9Less_any (fld es k) p _) hL) | exact bw_of (tn (l9Less_any (fld es k) p _) hL)))))
        refine wpQuiet_nil ?_
        intro wq hq
        have hbq : Below W.heap.size W wq := by (obtain ⟨p, hp⟩ := hq; rw [hp]; exact p.below)
        clear hq
        have hbel4 : Below wr.heap.size wr wq := hbW.trans (hbq.mono hbW.size)
        have sq := hbel4.size
        clear hbW hbq HW q0 q1 q2 q3
        have z0 : wq.cell? ⟨w.heap.size, 0, none⟩ = some (.int .i64 (p 0)) := (hbel4.cell (p := ⟨w.heap.size, 0, none⟩) hxl).trans x0
        have z1 : wq.cell? ⟨w.heap.size, 1, none⟩ = some (.int .i64 (p 1)) := (hbel4.cell (p := ⟨w.heap.size, 1, none⟩) hxl).trans x1
        have bwq : Below w.heap.size w wq := hbel.trans (hbel4.mono hsz)
        have swq := bwq.size
        have hxq : w.heap.size < wq.heap.size := by omega
        clear x0 x1 hbel hbel4 c0 c1
        go_wp2_with (first
          | (at_builtin; refine wpList_append_rd _ rfl (.tmp 21) (.tmp 24) 85 rfl wq.heap.size 87 i0 _ 2 16 Tryz.underlying85 hi0 hz0 hz1 hz2 rfl (by omega) (.slice (some ⟨wq.heap.size, 0, none⟩) 0 0) 0 [] rfl (rowE wq _ 2) (some ⟨b, 0, none⟩) k c (es.take k) rfl ((H.out.below (by (repeat (first | with_reducible exact Below.refl _ _ | with_reducible refine Below.drew ?_ | with_reducible refine below_drewN ?_ _ | (with_reducible refine bel_alloc ?_ ?_ _; (first | omega | (simp; omega) | simp)) | (with_reducible refine bel_set ?_ ?_ _; (first | omega | (simp; omega) | simp)) | (with_reducible refine bel_tr (by assumption) ?_ ?_; (first | omega | (simp; omega) | simp)))))).take hk) (by unfold maxLen; omega) (by omega) (by (first | omega | (simp; omega) | simp)) ?_; intro v1 w1 hown1 hg1 hat1; have b1 : Below wq.heap.size wq w1 := Below.grown (show Below wq.heap.size wq _ from by (repeat (first | with_reducible exact Below.refl _ _ | with_reducible refine Below.drew ?_ | with_reducible refine below_drewN ?_ _ | (with_reducible refine bel_alloc ?_ ?_ _; (first | omega | (simp; omega) | simp)) | (with_reducible refine bel_set ?_ ?_ _; (first | omega | (simp; omega) | simp)) | (with_reducible refine bel_tr (by assumption) ?_ ?_; (first | omega | (simp; omega) | simp))))) hg1 (by (first | omega | (simp; omega) | simp)) (by simp [Value.ownBlock]); have s1 := b1.size; have u0 : w1.cell? ⟨w.heap.size, 0, none⟩ = some (.int .i64 (p 0)) := (b1.cell (p := ⟨w.heap.size, 0, none⟩) (by (first | omega | (simp; omega) | simp))).trans z0; have u1 : w1.cell? ⟨w.heap.size, 1, none⟩ = some (.int .i64 (p 1)) := (b1.cell (p := ⟨w.heap.size, 1, none⟩) (by (first | omega | (simp; omega) | simp))).trans z1; have O1 := Lib.hid hown1; clear hown1 hg1 hat1)
          | (at_builtin; refine wpList_append_rd _ rfl (.tmp 26) (.tmp 28) 85 rfl wq.heap.size 87 i0 _ 2 16 Tryz.underlying85 hi0 hz0 hz1 hz2 rfl (by omega) v1 (0 + k) ([] ++ (es.take k)) rfl (World.ownsRow.alloc O1.out _) (some ⟨w1.heap.size, 0, none⟩) 1 1 [p] rfl (rd_one2 w1 _ p) (by unfold maxLen; omega) (by omega) (by (first | omega | (simp; omega) | simp)) ?_; intro v2 w2 hown2 hg2 hat2; have b2 : Below wq.heap.size wq w2 := Below.grown (show Below wq.heap.size wq _ from by (repeat (first | with_reducible exact Below.refl _ _ | with_reducible refine Below.drew ?_ | with_reducible refine below_drewN ?_ _ | (with_reducible refine bel_alloc ?_ ?_ _; (first | omega | (simp; omega) | simp)) | (with_reducible refine bel_set ?_ ?_ _; (first | omega | (simp; omega) | simp)) | (with_reducible refine bel_tr (by assumption) ?_ ?_; (first | omega | (simp; omega) | simp))))) hg2 (by (first | omega | (simp; omega) | simp)) (row_ge O1.out (Nat.le_refl _)); have s2 := b2.size; have O2 := Lib.hid hown2; clear hown2 hg2 hat2)
          | (at_builtin; refine wpList_append_rd _ rfl (.tmp 30) (.tmp 33) 85 rfl wq.heap.size 87 i0 _ 2 16 Tryz.underlying85 hi0 hz0 hz1 hz2 rfl (by omega) v2 (0 + k + 1) ([] ++ (es.take k) ++ [p]) rfl O2.out (some ⟨b, k * 2, none⟩) (n - k) (c - k) (es.drop k) rfl (HSRC.out _ (by (repeat (first | with_reducible exact Below.refl _ _ | with_reducible refine Below.drew ?_ | with_reducible refine below_drewN ?_ _ | (with_reducible refine bel_alloc ?_ ?_ _; (first | omega | (simp; omega) | simp)) | (with_reducible refine bel_set ?_ ?_ _; (first | omega | (simp; omega) | simp)) | (with_reducible refine bel_tr (by assumption) ?_ ?_; (first | omega | (simp; omega) | simp)))))) (by unfold maxLen; omega) (by omega) (by (first | omega | (simp; omega) | simp)) ?_; intro v3 w3 hown3 hg3 hat3; have b3 : Below wq.heap.size wq w3 := Below.grown (show Below wq.heap.size wq _ from by (repeat (first | with_reducible exact Below.refl _ _ | with_reducible refine Below.drew ?_ | with_reducible refine below_drewN ?_ _ | (with_reducible refine bel_alloc ?_ ?_ _; (first | omega | (simp; omega) | simp)) | (with_reducible refine bel_set ?_ ?_ _; (first | omega | (simp; omega) | simp)) | (with_reducible refine bel_tr (by assumption) ?_ ?_; (first | omega | (simp; omega) | simp))))) hg3 (by (first | omega | (simp; omega) | simp)) (row_ge O2.out (Nat.le_refl _)); have s3 := b3.size; have O3 := Lib.hid hown3; clear hown3 hg3 hat3))
        go_ret
        refine ⟨_, rfl, ?_, bwq.trans (b3.mono swq)⟩
        rw [← HP.out]
        have e9 : 0 + k + 1 + (n - k) = n + 1 := by omega
        have h9 := O3.out.lower swq
        rw [e9] at h9
        simpa [insL] using h9
end Go.Proofs.YtjlmcppkafjniaaGreat

namespace Go.Proofs.YtjlmcppkafjniaaGreat
end Go.Proofs.YtjlmcppkafjniaaGreat
