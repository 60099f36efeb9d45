/-
  Contracts of QueueOk of the program and of the reference. No conditions beyond those stated.
-/
import Derived.Test.YtjlmcppkafjniaaGreatQa
import Derived.Test.YtjlmcppkafjniaaGreatBw
namespace Go.Proofs.YtjlmcppkafjniaaGreat
open Go.RowKit

def eOk (e : Nat → Int) : Prop := (0 ≤ e 0 ∧ e 0 ≤ 4) ∧ (1 ≤ e 1 ∧ e 1 ≤ 1000000) ∧ (1 ≤ e 2 ∧ e 2 ≤ 999) ∧ (1 ≤ e 3 ∧ e 3 ≤ 6)
def lessE (a b : Nat → Int) : Bool := eLt (a 0) (b 0) (a 1) (b 1)
def qStep (es : List (Nat → Int)) (k : Nat) : Prop := eOk (fld es k) ∧ (0 < k → lessE (fld es (k - 1)) (fld es k) = true) ∧ ∀ i, i < k → fld es i 2 ≠ fld es k 2
def QOk (es : List (Nat → Int)) (n : Nat) : Prop := n ≤ 10 ∧ ∀ k, k < n → qStep es k

theorem sLess_y (a b c d a2 b2 c2 d2 : Int) (w : World) (h : eLt a a2 b b2 = true) :
    Calls Tryz.prog 112 #[.agg #[.int .i64 a, .int .i64 b, .int .i64 c, .int .i64 d], .agg #[.int .i64 a2, .int .i64 b2, .int .i64 c2, .int .i64 d2]] w fun e w' => e = .returned (.bool true) ∧ Below w.heap.size w w' :=
  h ▸ sEntryLess_any a b c d a2 b2 c2 d2 w
theorem sLess_n (a b c d a2 b2 c2 d2 : Int) (w : World) (h : eLt a a2 b b2 = false) :
    Calls Tryz.prog 112 #[.agg #[.int .i64 a, .int .i64 b, .int .i64 c, .int .i64 d], .agg #[.int .i64 a2, .int .i64 b2, .int .i64 c2, .int .i64 d2]] w fun e w' => e = .returned (.bool false) ∧ Below w.heap.size w w' :=
  h ▸ sEntryLess_any a b c d a2 b2 c2 d2 w
theorem iLess_y (a b c d a2 b2 c2 d2 : Int) (w : World) (h : eLt a a2 b b2 = true) :
    Calls Tryz.prog 77 #[.agg #[.int .i64 a, .int .i64 b, .int .i64 c, .int .i64 d], .agg #[.int .i64 a2, .int .i64 b2, .int .i64 c2, .int .i64 d2]] w fun e w' => e = .returned (.bool true) ∧ Below w.heap.size w w' :=
  h ▸ iEntryLess_any a b c d a2 b2 c2 d2 w
theorem iLess_n (a b c d a2 b2 c2 d2 : Int) (w : World) (h : eLt a a2 b b2 = false) :
    Calls Tryz.prog 77 #[.agg #[.int .i64 a, .int .i64 b, .int .i64 c, .int .i64 d], .agg #[.int .i64 a2, .int .i64 b2, .int .i64 c2, .int .i64 d2]] w fun e w' => e = .returned (.bool false) ∧ Below w.heap.size w w' :=
  h ▸ iEntryLess_any a b c d a2 b2 c2 d2 w
theorem sQueueAt_is (A : Option Addr) (n c : Nat) (id : Int) (es : List (Nat → Int)) (r : Int) (w : World) (hn : n ≤ 4194304) (h : Rd w 4 A n es) (hr : FirstAt (hasId es id) n r) :
    Calls Tryz.prog 113 #[.slice A n c, .int .i64 id] w fun e w' => e = .returned (.int .i64 r) ∧ Below w.heap.size w w' :=
  (sQueueAt_any A n c id es w hn h).mono fun _ _ ⟨_, h1, h2, h3⟩ => ⟨h1.uniq hr ▸ h2, h3⟩
theorem iQueueAt_is (A : Option Addr) (n c : Nat) (id : Int) (es : List (Nat → Int)) (r : Int) (w : World) (hn : n ≤ 4194304) (h : Rd w 4 A n es) (hr : FirstAt (hasId es id) n r) :
    Calls Tryz.prog 78 #[.slice A n c, .int .i64 id] w fun e w' => e = .returned (.int .i64 r) ∧ Below w.heap.size w w' :=
  (iQueueAt_any A n c id es w hn h).mono fun _ _ ⟨_, h1, h2, h3⟩ => ⟨h1.uniq hr ▸ h2, h3⟩
/-- No element ahead of k has its Id: then the first that has it is k. -/
theorem firstAt_self {es : List (Nat → Int)} {n k : Nat} (hk : k < n) (h : ∀ i, i < k → fld es i 2 ≠ fld es k 2) : FirstAt (hasId es (fld es k 2)) n (k : Int) :=
  .inl ⟨k, hk, rfl, by simp [hasId], fun i hi => by simpa [hasId] using h i hi⟩
theorem hasId_take {es : List (Nat → Int)} {k i : Nat} {id : Int} (hi : i < k) : hasId (es.take k) id i = hasId es id i := by
  unfold hasId
  rw [fld_take hi]
theorem firstAt_none {es : List (Nat → Int)} {k : Nat} (h : ∀ i, i < k → fld es i 2 ≠ fld es k 2) : FirstAt (hasId (es.take k) (fld es k 2)) k (-1) :=
  .inr ⟨rfl, fun i hi => by rw [hasId_take hi]; simpa [hasId] using h i hi⟩
/-- Some element ahead of k has its Id. -/
theorem firstAt_dup {es : List (Nat → Int)} {n k : Nat} (hk : k < n) (h : ¬ ∀ i, i < k → fld es i 2 ≠ fld es k 2) : ∃ j : Nat, j < k ∧ FirstAt (hasId es (fld es k 2)) n (j : Int) ∧ FirstAt (hasId (es.take k) (fld es k 2)) k (j : Int) := by
  rcases hx : ixOf (hasId es (fld es k 2)) k with _ | j
  · exfalso
    refine h fun i hi => ?_
    have := ixOf_none hx i hi
    simpa [hasId] using this
  · obtain ⟨h1, h2, h3⟩ := ixOf_some hx
    exact ⟨j, h1, .inl ⟨j, by omega, rfl, h2, h3⟩, .inl ⟨j, h1, rfl, by rw [hasId_take h1]; exact h2, fun i hi => by rw [hasId_take (by omega)]; exact h3 i hi⟩⟩
theorem qOk_ext {es : List (Nat → Int)} {k : Nat} (h : ∀ i, i < k → qStep es i) (h2 : qStep es k) : ∀ i, i < k + 1 → qStep es i := fun i hi => by
  rcases Nat.lt_or_ge i k with h3 | h3
  · exact h i h3
  · obtain rfl : i = k := by omega
    exact h2

set_option maxRecDepth 100000 in
set_option maxHeartbeats 8000000 in
theorem sQueueOk_any (A : Option Addr) (n c : Nat) (es : List (Nat → Int)) (w : World) (hn0 : n ≤ 9223372036854775807) (hnc : n ≤ c) (h : Rd w 4 A n es) :
    Calls Tryz.prog 89 #[.slice A n c] w (TFB (QOk es n) w) := by
  by_cases hn : n ≤ 10
  case neg =>
    have hni : (10 : Int) < (n : Int) := by omega
    go_enter Tryz.func89, Tryz.ntmps89
    go_wp2
    go_ret
    exact .inr ⟨rfl, fun hq => hn hq.1, Below.refl _ _⟩
  have hn4 : n ≤ 4194304 := by omega
  have HR := Lib.hid h
  have hcases := h.2
  clear h
  have hni : ¬ (10 : Int) < (n : Int) := by omega
  go_enter Tryz.func89, Tryz.ntmps89
  go_wp2
  go_loopw [3] (fun i wr => ∃ k : Nat, k ≤ n ∧ i = .int .i64 k ∧ Hid (∀ i, i < k → qStep es i) ∧ Below w.heap.size w wr) (fun i _ => n - (intOf i).toNat)
  case atStart => exact ⟨0, Nat.zero_le _, rfl, Lib.hid (fun i hi => absurd hi (by omega)), Below.refl _ _⟩
  case round =>
    obtain ⟨k, hk, rfl, HQ, hbel⟩ := hrel
    have hsz := hbel.size
    by_cases hlt : k < n
    case neg =>
      have hkn : k = n := by omega
      subst hkn
      go_wp2
      go_ret
      exact .inl ⟨rfl, ⟨hn, HQ.out⟩, hbel⟩
    obtain ⟨b, off, rfl, hb, hc⟩ := hcases.resolve_left (by omega)
    have hbr : b < wr.heap.size := by omega
    have c0 : wr.cell? ⟨b, off + k * 4, none⟩ = some (.int .i64 (fld es k 0)) := (hbel.cell (p := ⟨b, off + k * 4, none⟩) hb).trans (hc k hlt 0 (by omega))
    have c1 : wr.cell? ⟨b, off + k * 4 + 1, none⟩ = some (.int .i64 (fld es k 1)) := (hbel.cell (p := ⟨b, off + k * 4 + 1, none⟩) hb).trans (hc k hlt 1 (by omega))
    have c2 : wr.cell? ⟨b, off + k * 4 + 2, none⟩ = some (.int .i64 (fld es k 2)) := (hbel.cell (p := ⟨b, off + k * 4 + 2, none⟩) hb).trans (hc k hlt 2 (by omega))
    have c3 : wr.cell? ⟨b, off + k * 4 + 3, none⟩ = some (.int .i64 (fld es k 3)) := (hbel.cell (p := ⟨b, off + k * 4 + 3, none⟩) hb).trans (hc k hlt 3 (by omega))
    have hkc : k ≤ c := by omega
    have hk0 : (0 : Int) ≤ (k : Int) := by omega
    have hki : (k : Int) ≤ (n : Int) := by omega
    by_cases hbad : (¬ (0 ≤ fld es k 0 ∧ fld es k 0 ≤ 4)) ∨ ((0 ≤ fld es k 0 ∧ fld es k 0 ≤ 4) ∧ ¬ (1 ≤ fld es k 1 ∧ fld es k 1 ≤ 1000000)) ∨ ((0 ≤ fld es k 0 ∧ fld es k 0 ≤ 4) ∧ (1 ≤ fld es k 1 ∧ fld es k 1 ≤ 1000000) ∧ ¬ (1 ≤ fld es k 2 ∧ fld es k 2 ≤ 999)) ∨ ((0 ≤ fld es k 0 ∧ fld es k 0 ≤ 4) ∧ (1 ≤ fld es k 1 ∧ fld es k 1 ≤ 1000000) ∧ (1 ≤ fld es k 2 ∧ fld es k 2 ≤ 999) ∧ ¬ (1 ≤ fld es k 3 ∧ fld es k 3 ≤ 6))
    · have hno : ¬ QOk es n := fun hq => by
        have h1 := (hq.2 k hlt).1
        unfold eOk at h1
        rcases hbad with h2 | h2 | h2 | h2 <;> simp_all
      clear hcases hc
      rcases hbad with h2 | ⟨h1, h2⟩ | ⟨h0, h1, h2⟩ | ⟨h3, h0, h1, h2⟩
      all_goals
        have HNO := Lib.hid hno
        clear hno
        go_wp2_with (go_at_call 44; first | (refine (sy (l1In_any _ _ _ _) (by assumption)).mono ?_; rintro y w9 ⟨rfl, rfl⟩) | (refine (sn (l1In_any _ _ _ _) (by assumption)).mono ?_; rintro y w9 ⟨rfl, rfl⟩))
        go_ret
        exact .inr ⟨rfl, HNO.out, by (repeat (first | with_reducible exact Below.refl _ _ | with_reducible refine Below.drew ?_ | with_reducible refine below_drewN ?_ _ | (with_reducible refine bel_alloc ?_ ?_ _; (first | omega | (simp; omega) | simp)) | (with_reducible refine bel_set ?_ ?_ _; (first | omega | (simp; omega) | simp)) | (with_reducible refine bel_tr (by assumption) ?_ ?_; (first | omega | (simp; omega) | simp))))⟩
    have hgood : (0 ≤ fld es k 0 ∧ fld es k 0 ≤ 4) ∧ (1 ≤ fld es k 1 ∧ fld es k 1 ≤ 1000000) ∧ (1 ≤ fld es k 2 ∧ fld es k 2 ≤ 999) ∧ (1 ≤ fld es k 3 ∧ fld es k 3 ≤ 6) := by
      refine ⟨?_, ?_, ?_, ?_⟩ <;> (apply Classical.byContradiction; intro hx; apply hbad; simp_all)
    have HG : Hid (eOk (fld es k)) := hgood
    clear hbad
    obtain ⟨g0, g1, g2, g3⟩ := hgood
    by_cases hkz : k = 0
    · have HF : Hid (FirstAt (hasId es (fld es k 2)) n (k : Int)) := firstAt_self hlt (fun i hi => absurd hi (by omega))
      have HSS : Hid (qStep es k) := ⟨HG.out, fun hx => absurd hx (by omega), fun i hi => absurd hi (by omega)⟩
      clear hcases hc
      have hkd : ¬ (0 : Int) < (k : Int) := by omega
      have hkd2 : ¬ 0 < k := by omega
      have hkd3 : decide ((0 : Int) < (k : Int)) = false := by simpa using hkd2
      have hkd4 : decide (0 < k) = false := by simpa using hkd2
      clear hkz
      go_wp2_with (go_at_call 44; first | (refine (sy (l1In_any _ _ _ _) (by assumption)).mono ?_; rintro y w9 ⟨rfl, rfl⟩) | (refine (sn (l1In_any _ _ _ _) (by assumption)).mono ?_; rintro y w9 ⟨rfl, rfl⟩))
      refine wp_region_bw (by kernel_rfl) (by kernel_rfl) (fun W hW => ?_)
      have q0 : ∀ p : BW W, p.w.cell? ⟨wr.heap.size, 0, none⟩ = some (.int .i64 (fld es k 0)) := fun p => p.cell (by rw [hW]; (first | omega | (simp; omega) | simp)) (by rw [hW]; first | (go_keep; done) | (go_simp; done))
      have q1 : ∀ p : BW W, p.w.cell? ⟨wr.heap.size, 1, none⟩ = some (.int .i64 (fld es k 1)) := fun p => p.cell (by rw [hW]; (first | omega | (simp; omega) | simp)) (by rw [hW]; first | (go_keep; done) | (go_simp; done))
      have q2 : ∀ p : BW W, p.w.cell? ⟨wr.heap.size, 2, none⟩ = some (.int .i64 (fld es k 2)) := fun p => p.cell (by rw [hW]; (first | omega | (simp; omega) | simp)) (by rw [hW]; first | (go_keep; done) | (go_simp; done))
      have q3 : ∀ p : BW W, p.w.cell? ⟨wr.heap.size, 3, none⟩ = some (.int .i64 (fld es k 3)) := fun p => p.cell (by rw [hW]; (first | omega | (simp; omega) | simp)) (by rw [hW]; first | (go_keep; done) | (go_simp; done))
      have hbW : Below w.heap.size w W := by rw [hW]; (repeat (first | with_reducible exact Below.refl _ _ | with_reducible refine Below.drew ?_ | with_reducible refine below_drewN ?_ _ | (with_reducible refine bel_alloc ?_ ?_ _; (first | omega | (simp; omega) | simp)) | (with_reducible refine bel_set ?_ ?_ _; (first | omega | (simp; omega) | simp)) | (with_reducible refine bel_tr (by assumption) ?_ ?_; (first | omega | (simp; omega) | simp))))
      have HRW : Hid (∀ p : BW W, Rd p.w 4 (some ⟨b, off, none⟩) n es) := fun p => HR.out.below (hbW.trans (p.below.mono hbW.size))
      have HW := Lib.hid hW
      clear hW
      repeat (go_big_quiet_step ((first | (go_at_call 113; exact bw_of (sQueueAt_is _ n c _ es _ _ hn4 (HRW.out _) HF.out)))))
      refine wpQuiet_nil ?_
      intro wq hq
      have hbq : Below W.heap.size W wq := by (obtain ⟨p, hp⟩ := hq; rw [hp]; exact p.below)
      clear hq
      have sW := hbW.size
      have hbel : Below w.heap.size w wq := hbW.trans (hbq.mono sW)
      have kxq : ∀ o, wq.cell? ⟨wr.heap.size, o, none⟩ = W.cell? ⟨wr.heap.size, o, none⟩ := fun o => hbq.cell (p := ⟨wr.heap.size, o, none⟩) (by rw [HW.out]; (first | omega | (simp; omega) | simp))
      have kz0 : wq.cell? ⟨wr.heap.size, 0, none⟩ = some (.int .i64 (fld es k 0)) := (kxq 0).trans (by rw [HW.out]; first | (go_keep; done) | (go_simp; done))
      have kz1 : wq.cell? ⟨wr.heap.size, 1, none⟩ = some (.int .i64 (fld es k 1)) := (kxq 1).trans (by rw [HW.out]; first | (go_keep; done) | (go_simp; done))
      have kz2 : wq.cell? ⟨wr.heap.size, 2, none⟩ = some (.int .i64 (fld es k 2)) := (kxq 2).trans (by rw [HW.out]; first | (go_keep; done) | (go_simp; done))
      have kz3 : wq.cell? ⟨wr.heap.size, 3, none⟩ = some (.int .i64 (fld es k 3)) := (kxq 3).trans (by rw [HW.out]; first | (go_keep; done) | (go_simp; done))
      clear kxq
      go_wp2
      go_roundw
      case rel => exact ⟨k + 1, by omega, by go_num, Lib.hid (qOk_ext HQ.out HSS.out), by (repeat (first | with_reducible exact Below.refl _ _ | with_reducible refine Below.drew ?_ | with_reducible refine below_drewN ?_ _ | (with_reducible refine bel_alloc ?_ ?_ _; (first | omega | (simp; omega) | simp)) | (with_reducible refine bel_set ?_ ?_ _; (first | omega | (simp; omega) | simp)) | (with_reducible refine bel_tr (by assumption) ?_ ?_; (first | omega | (simp; omega) | simp))))⟩
      case measure => simp [intOf]; omega
    obtain ⟨m, hm⟩ : ∃ m, k = m + 1 := ⟨k - 1, by omega⟩
    have hkm : IntKind.i64.wrap ((k : Int) - 1) = (m : Int) := by rw [IntKind.wrap_i64]; omega
    have hm0 : (0 : Int) ≤ (m : Int) := by omega
    have hmn : (m : Int) < (n : Int) := by omega
    have hmn2 : m < n := by omega
    have hkp : 0 < k := by omega
    have hkp2 : (0 : Int) < (k : Int) := by omega
    have hkd3 : decide ((0 : Int) < (k : Int)) = true := by simpa using hkp
    have hkd4 : decide (0 < k) = true := by simpa using hkp
    have HM := Lib.hid hm
    clear hm hkz
    have d0 : wr.cell? ⟨b, off + m * 4, none⟩ = some (.int .i64 (fld es m 0)) := (hbel.cell (p := ⟨b, off + m * 4, none⟩) hb).trans (hc m hmn2 0 (by omega))
    have d1 : wr.cell? ⟨b, off + m * 4 + 1, none⟩ = some (.int .i64 (fld es m 1)) := (hbel.cell (p := ⟨b, off + m * 4 + 1, none⟩) hb).trans (hc m hmn2 1 (by omega))
    have d2 : wr.cell? ⟨b, off + m * 4 + 2, none⟩ = some (.int .i64 (fld es m 2)) := (hbel.cell (p := ⟨b, off + m * 4 + 2, none⟩) hb).trans (hc m hmn2 2 (by omega))
    have d3 : wr.cell? ⟨b, off + m * 4 + 3, none⟩ = some (.int .i64 (fld es m 3)) := (hbel.cell (p := ⟨b, off + m * 4 + 3, none⟩) hb).trans (hc m hmn2 3 (by omega))
    rcases Bool.eq_false_or_eq_true (eLt (fld es m 0) (fld es k 0) (fld es m 1) (fld es k 1)) with hL | hL
    case inr =>
      have HNO : Hid (¬ QOk es n) := fun hq => by
        have h1 := (hq.2 k hlt).2.1 hkp
        rw [show k - 1 = m by have := HM.out; omega] at h1
        unfold lessE at h1
        rw [hL] at h1
        cases h1
      clear hcases hc
      go_wp2_with (go_at_call 44; first | (refine (sy (l1In_any _ _ _ _) (by assumption)).mono ?_; rintro y w9 ⟨rfl, rfl⟩) | (refine (sn (l1In_any _ _ _ _) (by assumption)).mono ?_; rintro y w9 ⟨rfl, rfl⟩))
      refine wp_region_bw (by kernel_rfl) (by kernel_rfl) (fun W hW => ?_)
      have q0 : ∀ p : BW W, p.w.cell? ⟨b, off + m * 4, none⟩ = some (.int .i64 (fld es m 0)) := fun p => p.cell (by rw [hW]; (first | omega | (simp; omega) | simp)) (by rw [hW]; first | (go_keep; done) | (go_simp; done))
      have q1 : ∀ p : BW W, p.w.cell? ⟨b, off + m * 4 + 1, none⟩ = some (.int .i64 (fld es m 1)) := fun p => p.cell (by rw [hW]; (first | omega | (simp; omega) | simp)) (by rw [hW]; first | (go_keep; done) | (go_simp; done))
      have q2 : ∀ p : BW W, p.w.cell? ⟨b, off + m * 4 + 2, none⟩ = some (.int .i64 (fld es m 2)) := fun p => p.cell (by rw [hW]; (first | omega | (simp; omega) | simp)) (by rw [hW]; first | (go_keep; done) | (go_simp; done))
      have q3 : ∀ p : BW W, p.w.cell? ⟨b, off + m * 4 + 3, none⟩ = some (.int .i64 (fld es m 3)) := fun p => p.cell (by rw [hW]; (first | omega | (simp; omega) | simp)) (by rw [hW]; first | (go_keep; done) | (go_simp; done))
      have q4 : ∀ p : BW W, p.w.cell? ⟨wr.heap.size, 0, none⟩ = some (.int .i64 (fld es k 0)) := fun p => p.cell (by rw [hW]; (first | omega | (simp; omega) | simp)) (by rw [hW]; first | (go_keep; done) | (go_simp; done))
      have q5 : ∀ p : BW W, p.w.cell? ⟨wr.heap.size, 1, none⟩ = some (.int .i64 (fld es k 1)) := fun p => p.cell (by rw [hW]; (first | omega | (simp; omega) | simp)) (by rw [hW]; first | (go_keep; done) | (go_simp; done))
      have q6 : ∀ p : BW W, p.w.cell? ⟨wr.heap.size, 2, none⟩ = some (.int .i64 (fld es k 2)) := fun p => p.cell (by rw [hW]; (first | omega | (simp; omega) | simp)) (by rw [hW]; first | (go_keep; done) | (go_simp; done))
      have q7 : ∀ p : BW W, p.w.cell? ⟨wr.heap.size, 3, none⟩ = some (.int .i64 (fld es k 3)) := fun p => p.cell (by rw [hW]; (first | omega | (simp; omega) | simp)) (by rw [hW]; first | (go_keep; done) | (go_simp; done))
      have hbW : Below w.heap.size w W := by rw [hW]; (repeat (first | with_reducible exact Below.refl _ _ | with_reducible refine Below.drew ?_ | with_reducible refine below_drewN ?_ _ | (with_reducible refine bel_alloc ?_ ?_ _; (first | omega | (simp; omega) | simp)) | (with_reducible refine bel_set ?_ ?_ _; (first | omega | (simp; omega) | simp)) | (with_reducible refine bel_tr (by assumption) ?_ ?_; (first | omega | (simp; omega) | simp))))
      have HRW : Hid (∀ p : BW W, Rd p.w 4 (some ⟨b, off, none⟩) n es) := fun p => HR.out.below (hbW.trans (p.below.mono hbW.size))
      have HW := Lib.hid hW
      clear hW
      repeat (go_big_quiet_step ((first | (go_at_call 112; exact bw_of (sLess_n _ _ _ _ _ _ _ _ _ hL)))))
      refine wpQuiet_nil ?_
      intro wq hq
      have hbq : Below W.heap.size W wq := by (obtain ⟨p, hp⟩ := hq; rw [hp]; exact p.below)
      clear hq
      have sW := hbW.size
      have hbel : Below w.heap.size w wq := hbW.trans (hbq.mono sW)
      have kxq : ∀ o, wq.cell? ⟨wr.heap.size, o, none⟩ = W.cell? ⟨wr.heap.size, o, none⟩ := fun o => hbq.cell (p := ⟨wr.heap.size, o, none⟩) (by rw [HW.out]; (first | omega | (simp; omega) | simp))
      have kz0 : wq.cell? ⟨wr.heap.size, 0, none⟩ = some (.int .i64 (fld es k 0)) := (kxq 0).trans (by rw [HW.out]; first | (go_keep; done) | (go_simp; done))
      have kz1 : wq.cell? ⟨wr.heap.size, 1, none⟩ = some (.int .i64 (fld es k 1)) := (kxq 1).trans (by rw [HW.out]; first | (go_keep; done) | (go_simp; done))
      have kz2 : wq.cell? ⟨wr.heap.size, 2, none⟩ = some (.int .i64 (fld es k 2)) := (kxq 2).trans (by rw [HW.out]; first | (go_keep; done) | (go_simp; done))
      have kz3 : wq.cell? ⟨wr.heap.size, 3, none⟩ = some (.int .i64 (fld es k 3)) := (kxq 3).trans (by rw [HW.out]; first | (go_keep; done) | (go_simp; done))
      clear kxq
      go_wp2
      go_ret
      exact .inr ⟨rfl, HNO.out, by (repeat (first | with_reducible exact Below.refl _ _ | with_reducible refine Below.drew ?_ | with_reducible refine below_drewN ?_ _ | (with_reducible refine bel_alloc ?_ ?_ _; (first | omega | (simp; omega) | simp)) | (with_reducible refine bel_set ?_ ?_ _; (first | omega | (simp; omega) | simp)) | (with_reducible refine bel_tr (by assumption) ?_ ?_; (first | omega | (simp; omega) | simp))))⟩
    by_cases hD : ∀ i, i < k → fld es i 2 ≠ fld es k 2
    case neg =>
      obtain ⟨j, hj, hF1, hF2⟩ := firstAt_dup hlt hD
      have HF : Hid (FirstAt (hasId es (fld es k 2)) n (j : Int)) := hF1
      have HNO : Hid (¬ QOk es n) := fun hq => hD (hq.2 k hlt).2.2
      have hjk : ((j : Int) != (k : Int)) = true := by simp; omega
      have hjk2 : ¬ (j : Int) = (k : Int) := by omega
      have hjk3 : ¬ j = k := by omega
      have hj0 : (0 : Int) ≤ (j : Int) := by omega
      clear hcases hc hF1 hF2 hD
      go_wp2_with (go_at_call 44; first | (refine (sy (l1In_any _ _ _ _) (by assumption)).mono ?_; rintro y w9 ⟨rfl, rfl⟩) | (refine (sn (l1In_any _ _ _ _) (by assumption)).mono ?_; rintro y w9 ⟨rfl, rfl⟩))
      refine wp_region_bw (by kernel_rfl) (by kernel_rfl) (fun W hW => ?_)
      have q0 : ∀ p : BW W, p.w.cell? ⟨b, off + m * 4, none⟩ = some (.int .i64 (fld es m 0)) := fun p => p.cell (by rw [hW]; (first | omega | (simp; omega) | simp)) (by rw [hW]; first | (go_keep; done) | (go_simp; done))
      have q1 : ∀ p : BW W, p.w.cell? ⟨b, off + m * 4 + 1, none⟩ = some (.int .i64 (fld es m 1)) := fun p => p.cell (by rw [hW]; (first | omega | (simp; omega) | simp)) (by rw [hW]; first | (go_keep; done) | (go_simp; done))
      have q2 : ∀ p : BW W, p.w.cell? ⟨b, off + m * 4 + 2, none⟩ = some (.int .i64 (fld es m 2)) := fun p => p.cell (by rw [hW]; (first | omega | (simp; omega) | simp)) (by rw [hW]; first | (go_keep; done) | (go_simp; done))
      have q3 : ∀ p : BW W, p.w.cell? ⟨b, off + m * 4 + 3, none⟩ = some (.int .i64 (fld es m 3)) := fun p => p.cell (by rw [hW]; (first | omega | (simp; omega) | simp)) (by rw [hW]; first | (go_keep; done) | (go_simp; done))
      have q4 : ∀ p : BW W, p.w.cell? ⟨wr.heap.size, 0, none⟩ = some (.int .i64 (fld es k 0)) := fun p => p.cell (by rw [hW]; (first | omega | (simp; omega) | simp)) (by rw [hW]; first | (go_keep; done) | (go_simp; done))
      have q5 : ∀ p : BW W, p.w.cell? ⟨wr.heap.size, 1, none⟩ = some (.int .i64 (fld es k 1)) := fun p => p.cell (by rw [hW]; (first | omega | (simp; omega) | simp)) (by rw [hW]; first | (go_keep; done) | (go_simp; done))
      have q6 : ∀ p : BW W, p.w.cell? ⟨wr.heap.size, 2, none⟩ = some (.int .i64 (fld es k 2)) := fun p => p.cell (by rw [hW]; (first | omega | (simp; omega) | simp)) (by rw [hW]; first | (go_keep; done) | (go_simp; done))
      have q7 : ∀ p : BW W, p.w.cell? ⟨wr.heap.size, 3, none⟩ = some (.int .i64 (fld es k 3)) := fun p => p.cell (by rw [hW]; (first | omega | (simp; omega) | simp)) (by rw [hW]; first | (go_keep; done) | (go_simp; done))
      have hbW : Below w.heap.size w W := by rw [hW]; (repeat (first | with_reducible exact Below.refl _ _ | with_reducible refine Below.drew ?_ | with_reducible refine below_drewN ?_ _ | (with_reducible refine bel_alloc ?_ ?_ _; (first | omega | (simp; omega) | simp)) | (with_reducible refine bel_set ?_ ?_ _; (first | omega | (simp; omega) | simp)) | (with_reducible refine bel_tr (by assumption) ?_ ?_; (first | omega | (simp; omega) | simp))))
      have HRW : Hid (∀ p : BW W, Rd p.w 4 (some ⟨b, off, none⟩) n es) := fun p => HR.out.below (hbW.trans (p.below.mono hbW.size))
      have HW := Lib.hid hW
      clear hW
      repeat (go_big_quiet_step ((first | (go_at_call 112; exact bw_of (sLess_y _ _ _ _ _ _ _ _ _ hL)) | (go_at_call 113; exact bw_of (sQueueAt_is _ n c _ es _ _ hn4 (HRW.out _) HF.out)))))
      refine wpQuiet_nil ?_
      intro wq hq
      have hbq : Below W.heap.size W wq := by (obtain ⟨p, hp⟩ := hq; rw [hp]; exact p.below)
      clear hq
      have sW := hbW.size
      have hbel : Below w.heap.size w wq := hbW.trans (hbq.mono sW)
      have kxq : ∀ o, wq.cell? ⟨wr.heap.size, o, none⟩ = W.cell? ⟨wr.heap.size, o, none⟩ := fun o => hbq.cell (p := ⟨wr.heap.size, o, none⟩) (by rw [HW.out]; (first | omega | (simp; omega) | simp))
      have kz0 : wq.cell? ⟨wr.heap.size, 0, none⟩ = some (.int .i64 (fld es k 0)) := (kxq 0).trans (by rw [HW.out]; first | (go_keep; done) | (go_simp; done))
      have kz1 : wq.cell? ⟨wr.heap.size, 1, none⟩ = some (.int .i64 (fld es k 1)) := (kxq 1).trans (by rw [HW.out]; first | (go_keep; done) | (go_simp; done))
      have kz2 : wq.cell? ⟨wr.heap.size, 2, none⟩ = some (.int .i64 (fld es k 2)) := (kxq 2).trans (by rw [HW.out]; first | (go_keep; done) | (go_simp; done))
      have kz3 : wq.cell? ⟨wr.heap.size, 3, none⟩ = some (.int .i64 (fld es k 3)) := (kxq 3).trans (by rw [HW.out]; first | (go_keep; done) | (go_simp; done))
      clear kxq
      go_wp2
      go_ret
      exact .inr ⟨rfl, HNO.out, by (repeat (first | with_reducible exact Below.refl _ _ | with_reducible refine Below.drew ?_ | with_reducible refine below_drewN ?_ _ | (with_reducible refine bel_alloc ?_ ?_ _; (first | omega | (simp; omega) | simp)) | (with_reducible refine bel_set ?_ ?_ _; (first | omega | (simp; omega) | simp)) | (with_reducible refine bel_tr (by assumption) ?_ ?_; (first | omega | (simp; omega) | simp))))⟩
    have HF : Hid (FirstAt (hasId es (fld es k 2)) n (k : Int)) := firstAt_self hlt hD
    have HSS : Hid (qStep es k) := ⟨HG.out, fun _ => by rw [show k - 1 = m by have := HM.out; omega]; exact hL, hD⟩
    clear hcases hc hD
    go_wp2_with (go_at_call 44; first | (refine (sy (l1In_any _ _ _ _) (by assumption)).mono ?_; rintro y w9 ⟨rfl, rfl⟩) | (refine (sn (l1In_any _ _ _ _) (by assumption)).mono ?_; rintro y w9 ⟨rfl, rfl⟩))
    refine wp_region_bw (by kernel_rfl) (by kernel_rfl) (fun W hW => ?_)
    have q0 : ∀ p : BW W, p.w.cell? ⟨b, off + m * 4, none⟩ = some (.int .i64 (fld es m 0)) := fun p => p.cell (by rw [hW]; (first | omega | (simp; omega) | simp)) (by rw [hW]; first | (go_keep; done) | (go_simp; done))
    have q1 : ∀ p : BW W, p.w.cell? ⟨b, off + m * 4 + 1, none⟩ = some (.int .i64 (fld es m 1)) := fun p => p.cell (by rw [hW]; (first | omega | (simp; omega) | simp)) (by rw [hW]; first | (go_keep; done) | (go_simp; done))
    have q2 : ∀ p : BW W, p.w.cell? ⟨b, off + m * 4 + 2, none⟩ = some (.int .i64 (fld es m 2)) := fun p => p.cell (by rw [hW]; (first | omega | (simp; omega) | simp)) (by rw [hW]; first | (go_keep; done) | (go_simp; done))
    have q3 : ∀ p : BW W, p.w.cell? ⟨b, off + m * 4 + 3, none⟩ = some (.int .i64 (fld es m 3)) := fun p => p.cell (by rw [hW]; (first | omega | (simp; omega) | simp)) (by rw [hW]; first | (go_keep; done) | (go_simp; done))
    have q4 : ∀ p : BW W, p.w.cell? ⟨wr.heap.size, 0, none⟩ = some (.int .i64 (fld es k 0)) := fun p => p.cell (by rw [hW]; (first | omega | (simp; omega) | simp)) (by rw [hW]; first | (go_keep; done) | (go_simp; done))
    have q5 : ∀ p : BW W, p.w.cell? ⟨wr.heap.size, 1, none⟩ = some (.int .i64 (fld es k 1)) := fun p => p.cell (by rw [hW]; (first | omega | (simp; omega) | simp)) (by rw [hW]; first | (go_keep; done) | (go_simp; done))
    have q6 : ∀ p : BW W, p.w.cell? ⟨wr.heap.size, 2, none⟩ = some (.int .i64 (fld es k 2)) := fun p => p.cell (by rw [hW]; (first | omega | (simp; omega) | simp)) (by rw [hW]; first | (go_keep; done) | (go_simp; done))
    have q7 : ∀ p : BW W, p.w.cell? ⟨wr.heap.size, 3, none⟩ = some (.int .i64 (fld es k 3)) := fun p => p.cell (by rw [hW]; (first | omega | (simp; omega) | simp)) (by rw [hW]; first | (go_keep; done) | (go_simp; done))
    have hbW : Below w.heap.size w W := by rw [hW]; (repeat (first | with_reducible exact Below.refl _ _ | with_reducible refine Below.drew ?_ | with_reducible refine below_drewN ?_ _ | (with_reducible refine bel_alloc ?_ ?_ _; (first | omega | (simp; omega) | simp)) | (with_reducible refine bel_set ?_ ?_ _; (first | omega | (simp; omega) | simp)) | (with_reducible refine bel_tr (by assumption) ?_ ?_; (first | omega | (simp; omega) | simp))))
    have HRW : Hid (∀ p : BW W, Rd p.w 4 (some ⟨b, off, none⟩) n es) := fun p => HR.out.below (hbW.trans (p.below.mono hbW.size))
    have HW := Lib.hid hW
    clear hW
    repeat (go_big_quiet_step ((first | (go_at_call 112; exact bw_of (sLess_y _ _ _ _ _ _ _ _ _ hL)) | (go_at_call 113; exact bw_of (sQueueAt_is _ n c _ es _ _ hn4 (HRW.out _) HF.out)))))
    refine wpQuiet_nil ?_
    intro wq hq
    have hbq : Below W.heap.size W wq := by (obtain ⟨p, hp⟩ := hq; rw [hp]; exact p.below)
    clear hq
    have sW := hbW.size
    have hbel : Below w.heap.size w wq := hbW.trans (hbq.mono sW)
    have kxq : ∀ o, wq.cell? ⟨wr.heap.size, o, none⟩ = W.cell? ⟨wr.heap.size, o, none⟩ := fun o => hbq.cell (p := ⟨wr.heap.size, o, none⟩) (by rw [HW.out]; (first | omega | (simp; omega) | simp))
    have kz0 : wq.cell? ⟨wr.heap.size, 0, none⟩ = some (.int .i64 (fld es k 0)) := (kxq 0).trans (by rw [HW.out]; first | (go_keep; done) | (go_simp; done))
    have kz1 : wq.cell? ⟨wr.heap.size, 1, none⟩ = some (.int .i64 (fld es k 1)) := (kxq 1).trans (by rw [HW.out]; first | (go_keep; done) | (go_simp; done))
    have kz2 : wq.cell? ⟨wr.heap.size, 2, none⟩ = some (.int .i64 (fld es k 2)) := (kxq 2).trans (by rw [HW.out]; first | (go_keep; done) | (go_simp; done))
    have kz3 : wq.cell? ⟨wr.heap.size, 3, none⟩ = some (.int .i64 (fld es k 3)) := (kxq 3).trans (by rw [HW.out]; first | (go_keep; done) | (go_simp; done))
    clear kxq
    go_wp2
    go_roundw
    case rel => exact ⟨k + 1, by omega, by go_num, Lib.hid (qOk_ext HQ.out HSS.out), by (repeat (first | with_reducible exact Below.refl _ _ | with_reducible refine Below.drew ?_ | with_reducible refine below_drewN ?_ _ | (with_reducible refine bel_alloc ?_ ?_ _; (first | omega | (simp; omega) | simp)) | (with_reducible refine bel_set ?_ ?_ _; (first | omega | (simp; omega) | simp)) | (with_reducible refine bel_tr (by assumption) ?_ ?_; (first | omega | (simp; omega) | simp))))⟩
    case measure => simp [intOf]; omega

end Go.Proofs.YtjlmcppkafjniaaGreat
