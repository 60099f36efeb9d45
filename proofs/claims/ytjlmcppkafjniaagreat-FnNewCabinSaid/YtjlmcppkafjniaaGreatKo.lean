/-
  The contracts of CabinOk, of the program and of the reference. No conditions beyond those stated.
-/
import Derived.Test.YtjlmcppkafjniaaGreatWa
import Derived.Test.YtjlmcppkafjniaaGreatBw
import Derived.Maps.OwnSet
import Derived.Maps.OwnOps
import Derived.Test.YtjlmcppkafjniaaGreatSl
import Derived.Test.YtjlmcppkafjniaaGreatMk
import Derived.Test.YtjlmcppkafjniaaGreatWs
namespace Go.Proofs.YtjlmcppkafjniaaGreat
open Go.RowKit Go.Maps

theorem lawI : Keyed Tryz.prog 3 := int_keyed Tryz.underlying3
theorem zeroI (w : World) : (zeroValue 3).run Tryz.prog w = .ok (.int .i64 0) w := by kernel_rfl

/-- The map's keys are the numbers of the list; it has as many entries as the list has different numbers. -/
structure KeyFacts (D : DataW Unit) (ids : List Int) : Prop where
  has : ∀ z : Int, Maps.has D (.int .i64 z) = true ↔ z ∈ ids
  le : Maps.size D ≤ ids.length
  eq : Maps.size D = ids.length ↔ ids.Nodup
theorem KeyFacts.start : KeyFacts (.map []) [] := ⟨fun z => by simp [Maps.has], by simp [Maps.size], by simp [Maps.size]⟩
theorem KeyFacts.put {D : DataW Unit} {ids : List Int} {x : Int} {d : DataW Unit} (h : KeyFacts D ids) (hD : Tidy D) (hw : (Lit.int .i64 x).wf = true) : KeyFacts (D.put (.int .i64 x) d) (ids ++ [x]) := by
  have hk : WideAt.IsKeyLit (.int .i64 x) := by trivial
  have hs := size_put (k := .int .i64 x) hD d
  refine ⟨fun z => ?_, ?_, ?_⟩
  · by_cases hz : z = x
    · subst hz
      rw [has_put_same hD.isMap hk]
      simp
    · rw [has_put_other (by intro e; injection e with _ e; exact hz e), h.has]
      simp [hz]
  · rw [hs]
    have := h.le
    split <;> simp <;> omega
  · rw [hs]
    have h1 := h.le
    have h2 := h.eq
    by_cases hx : x ∈ ids
    · rw [if_pos ((h.has x).2 hx)]
      constructor
      · intro e
        simp at e
        omega
      · intro e
        exact absurd hx (by
          rw [List.nodup_append] at e
          intro hx2
          exact e.2.2 x hx2 x (by simp) rfl)
    · rw [if_neg (fun e => hx ((h.has x).1 e))]
      rw [List.length_append]
      constructor
      · intro e
        have e2 : ids.Nodup := h2.1 (by simp at e; omega)
        rw [List.nodup_append]
        exact ⟨e2, by simp, fun a ha b hb hab => hx (by simp at hb; subst hb; subst hab; exact ha)⟩
      · intro e
        rw [List.nodup_append] at e
        have := h2.2 e.1
        simp
        omega
def MapR (w : World) (b n : Nat) (ids : List Int) : Prop := ∃ D : DataW Unit, w.ownsMap Tryz.prog 3 (plainElem Tryz.prog 3) b n D ∧ KeyFacts D ids
theorem MapR.kept {w w' : World} {B b n : Nat} {ids : List Int} (h : MapR w b n ids) (hb : Below B w w') (hlt : b < B) : MapR w' b n ids := by
  obtain ⟨D, ⟨es, clock, h1, h2⟩, h3⟩ := h
  exact ⟨D, ⟨es, clock, (hb.block b hlt).trans h1, h2⟩, h3⟩
def idsS (S : Nat → Sp) (k : Nat) : List Int := (allS S k).map fun e => e 1
def okI (S : Nat → Sp) (k i : Nat) : Prop := pinR (fld (S k).es i) ∧ fld (S k).es i 0 % 9 = k ∧ (0 < i → ¬ ltP (fld (S k).es i) (fld (S k).es (i - 1)))

theorem wok_iff {S : Nat → Sp} (hl : ∀ i, i < 9 → (S i).es.length = (S i).n) (ho : ∀ k, k < 9 → ∀ i, i < (S k).n → okI S k i) : WOK 9 S ↔ tot S 9 ≤ 10 ∧ (idsS S 9).Nodup := by
  have hnod : (idsS S 9).Nodup ↔ ∀ i, i < tot S 9 → ∀ j, j < i → fld (allS S 9) j 1 ≠ fld (allS S 9) i 1 := by
    have hlen : (idsS S 9).length = tot S 9 := by rw [idsS, List.length_map, allS_len hl]
    have hget : ∀ i (h : i < tot S 9), (idsS S 9)[i]'(by omega) = fld (allS S 9) i 1 := fun i h => by
      simp [idsS, fld, List.getD_eq_getElem?_getD, List.getElem?_eq_getElem (show i < (allS S 9).length by rw [allS_len hl]; exact h)]
    unfold List.Nodup
    rw [List.pairwise_iff_getElem]
    constructor
    · intro h i hi j hj
      have := h j i (by omega) (by omega) hj
      rw [hget j (by omega), hget i hi] at this
      exact this
    · intro h i j hi hj hij
      rw [hget i (by omega), hget j (by omega)]
      exact h j (by omega) i hij
  rw [hnod]
  constructor
  · intro ⟨_, h1, h2, _⟩
    exact ⟨h1, fun i hi j hj => (h2 i hi).2 j hj⟩
  · intro ⟨h1, h2⟩
    refine ⟨rfl, h1, fun i hi => ⟨?_, h2 i hi⟩, fun k hk i hi => ⟨(ho k hk i hi).2.1, fun h0 => ?_⟩⟩
    · obtain ⟨k, i', hk, hi', rfl⟩ := tot_find hi
      rw [allS_get hl hk hi']
      exact (ho k hk i' hi').1
    · have h3 := (ho k hk i hi).2.2 h0
      have htk := tot_one (S := S) hk
      have h4 := h2 (tot S k + i) (by omega) (tot S k + (i - 1)) (by omega)
      rw [allS_get hl hk hi, allS_get hl hk (by omega)] at h4
      unfold ltP at h3 ⊢
      omega

set_option maxRecDepth 100000 in
set_option maxHeartbeats 8000000 in
theorem iWheelOk_any (A : Option Addr) (N c : Nat) (S : Nat → Sp) (w : World) (hN : N ≤ 4194304) (hT : tot S N ≤ 4194304) (h : RdW w A N S) :
    Calls Tryz.prog 36 #[.agg #[.slice A N c]] w (TFB (WOK N S) w) := by
  have H := Lib.hid h
  have HLen := Lib.hid h.lens
  clear h
  by_cases hN9 : N = 9
  case neg =>
    have hN9i : ¬ (N : Int) = 9 := by omega
    go_enter Tryz.func36, Tryz.ntmps36
    go_wp2
    go_ret
    exact .inr ⟨rfl, fun hq => hN9 hq.1, by (repeat (first | with_reducible exact Below.refl _ _ | with_reducible refine Below.drew ?_ | with_reducible refine below_drewN ?_ _ | (with_reducible refine bel_alloc ?_ ?_ _; (first | omega | (simp; omega) | simp)) | (with_reducible refine bel_set ?_ ?_ _; (first | omega | (simp; omega) | simp)) | (with_reducible refine bel_tr (by assumption) ?_ ?_; (first | omega | (simp; omega) | simp))))⟩
  subst hN9
  have hmm := @run_makeMap Tryz.prog
  go_enter Tryz.func36, Tryz.ntmps36
  go_wp2
  clear hmm
  go_loopw [4, 17] (fun n i wr => ∃ k : Nat, k ≤ 9 ∧ i = .int .i64 k ∧ n = .int .i64 (tot S k : Nat) ∧ Hid (MapR wr (w.heap.size + 1) (tot S k) (idsS S k)) ∧ Hid (∀ k', k' < k → ∀ i, i < (S k').n → okI S k' i) ∧ Below w.heap.size w wr ∧ (w.heap.size + 1) < wr.heap.size) (fun _ i _ => 9 - (intOf i).toNat)
  case atStart => exact ⟨0, Nat.zero_le _, rfl, rfl, Lib.hid (by
    have h := World.ownsMap_made (H := Unit) (w.alloc (.cells #[.slice A 9 c] 30)) Tryz.prog 3 (plainElem Tryz.prog 3)
    have e : (w.alloc (.cells #[.slice A 9 c] 30)).heap.size = w.heap.size + 1 := by simp
    rw [e] at h
    exact ⟨_, h, KeyFacts.start⟩), Lib.hid (fun i hi => absurd hi (by omega)), by (repeat (first | with_reducible exact Below.refl _ _ | with_reducible refine Below.drew ?_ | with_reducible refine below_drewN ?_ _ | (with_reducible refine bel_alloc ?_ ?_ _; (first | omega | (simp; omega) | simp)) | (with_reducible refine bel_set ?_ ?_ _; (first | omega | (simp; omega) | simp)) | (with_reducible refine bel_tr (by assumption) ?_ ?_; (first | omega | (simp; omega) | simp)))), by (first | omega | (simp; omega) | simp)⟩
  case round =>
    obtain ⟨k, hk, rfl, rfl, HM, HO, hbel, hsz⟩ := hrel
    obtain ⟨w2, rfl⟩ : ∃ w2, w2 = wr := ⟨_, rfl⟩
    by_cases hlt : k < 9
    case neg =>
      have hk9 : k = 9 := by omega
      subst hk9
      obtain ⟨D, hown, hkf⟩ := HM.out
      have hlenI : (idsS S 9).length = tot S 9 := by rw [idsS, List.length_map, allS_len HLen.out]
      obtain ⟨z, hz⟩ : ∃ z, z = Maps.size D := ⟨_, rfl⟩
      have hg := hown.len (t := 117) Tryz.underlying117 3
      rw [← hz] at hg
      have HW : Hid (WOK 9 S ↔ tot S 9 ≤ 10 ∧ z = tot S 9) := Lib.hid (by
        have hn : z = tot S 9 ↔ (idsS S 9).Nodup := by rw [hz, ← hlenI]; exact hkf.eq
        rw [hn]
        exact wok_iff HLen.out HO.out)
      clear hkf hown HM HO hlenI hz
      by_cases h10 : tot S 9 ≤ 10
      · have h10i : ((tot S 9 : Nat) : Int) ≤ 10 := by omega
        by_cases he : z = tot S 9
        · have HY := Lib.hid (HW.out.2 ⟨h10, he⟩)
          have hei : ((z : Nat) : Int) = ((tot S 9 : Nat) : Int) := by omega
          clear HW
          go_wp2
          go_ret
          exact .inl ⟨by first | rfl | (simp; omega), HY.out, hbel⟩
        · have HNO : Hid (¬ WOK 9 S) := fun h => he (HW.out.1 h).2
          have hei : ¬ ((z : Nat) : Int) = ((tot S 9 : Nat) : Int) := by omega
          clear HW
          go_wp2
          go_ret
          exact .inr ⟨by first | rfl | (simp; omega), HNO.out, hbel⟩
      · have HNO : Hid (¬ WOK 9 S) := fun h => h10 h.2.1
        have h10i : ¬ ((tot S 9 : Nat) : Int) ≤ 10 := by omega
        clear HW
        go_wp2
        go_ret
        exact .inr ⟨by first | rfl | (simp; omega), HNO.out, hbel⟩
    have R2 := Lib.hid (H.out.below hbel)
    obtain ⟨b, off, rfl⟩ := H.out.addr (by omega)
    have hb := R2.out.lt (by omega)
    have c0 := R2.out.cell hlt
    have hki : (k : Int) < 9 := by omega
    have hk0 : (0 : Int) ≤ (k : Int) := by omega
    have htk := tot_one (S := S) hlt
    have HM1 : Hid (MapR w2 (w.heap.size + 1) (tot S k + 0) (idsS S k ++ (((S k).es.take 0).map fun e => e 1))) := Lib.hid (by simpa using HM.out)
    clear HM
    go_wp2
    go_loopw [4, 24] (fun n i wr => ∃ i2 : Nat, i2 ≤ (S k).n ∧ i = .int .i64 i2 ∧ n = .int .i64 (tot S k + i2 : Nat) ∧ Hid (MapR wr (w.heap.size + 1) (tot S k + i2) (idsS S k ++ (((S k).es.take i2).map fun e => e 1))) ∧ Hid (∀ i, i < i2 → okI S k i) ∧ Below w.heap.size w wr ∧ (w.heap.size + 1) < wr.heap.size) (fun _ i _ => (S k).n - (intOf i).toNat)
    case atStart => exact ⟨0, Nat.zero_le _, rfl, rfl, HM1, Lib.hid (fun i hi => absurd hi (by omega)), hbel, hsz⟩
    case round =>
      obtain ⟨i, hi, rfl, rfl, HM2, HI, hbel3, hsz3⟩ := hrel
      clear HM1 c0
      have R3 := Lib.hid (H.out.below hbel3)
      by_cases hlt3 : i < (S k).n
      case neg =>
        have hin : i = (S k).n := by omega
        subst hin
        have HM4 : Hid (MapR wr (w.heap.size + 1) (tot S (k + 1)) (idsS S (k + 1))) := Lib.hid (by
          have h1 := HM2.out
          rw [List.take_of_length_le (by rw [HLen.out k hlt]; exact Nat.le_refl _)] at h1
          simpa [idsS, allS, tot] using h1)
        have HO2 : Hid (∀ k', k' < k + 1 → ∀ i, i < (S k').n → okI S k' i) := fun k' hk' => by
          by_cases h1 : k' < k
          · exact HO.out k' h1
          · obtain rfl : k' = k := by omega
            exact HI.out
        go_wp2
        go_roundw
        case rel => exact ⟨k + 1, by omega, by go_num, by simp only [tot], HM4, HO2, hbel3, hsz3⟩
        case measure => simp [intOf]; omega
      obtain ⟨b2, off2, hA2, hb2, hc2⟩ := (R3.out.rd k hlt).2.resolve_left (by omega)
      rw [hA2]
      have e0 := hc2 i hlt3 0 (by omega)
      have e1 := hc2 i hlt3 1 (by omega)
      rw [Nat.add_zero] at e0
      have hle := R3.out.le k hlt
      have hcap := R3.out.cap k hlt
      have HEQ : Hid (fld (allS S 9) (tot S k + i) = fld (S k).es i) := Lib.hid (allS_get HLen.out hlt hlt3)
      have hTI : tot S k + i < tot S 9 := by omega
      have hki3 : (i : Int) < ((S k).n : Int) := by omega
      have hi0 : (0 : Int) ≤ (i : Int) := by omega
      by_cases hpr : pinR (fld (S k).es i)
      case neg =>
        have HPN := Lib.hid hpr
        have HNO : Hid (¬ WOK 9 S) := fun hq => hpr (by
          have h1 := (hq.2.2.1 _ hTI).1
          rw [HEQ.out] at h1
          exact h1)
        clear hc2 hpr
        go_wp2
        refine wp_region_bw (by kernel_rfl) (by kernel_rfl) (fun W hW => ?_)
        have q0 : ∀ p : BW W, p.w.cell? ⟨wr.heap.size, 0, none⟩ = some (.int .i64 (fld (S k).es i 0)) := fun p => p.cell (by rw [hW]; (first | omega | (simp; omega) | simp)) (by rw [hW]; (first | (go_keep; done) | (go_simp; done)))
        have q1 : ∀ p : BW W, p.w.cell? ⟨wr.heap.size, 1, none⟩ = some (.int .i64 (fld (S k).es i 1)) := fun p => p.cell (by rw [hW]; (first | omega | (simp; omega) | simp)) (by rw [hW]; (first | (go_keep; done) | (go_simp; done)))
        have hbW : Below wr.heap.size wr W := by rw [hW]; (repeat (first | with_reducible exact Below.refl _ _ | with_reducible refine Below.drew ?_ | with_reducible refine below_drewN ?_ _ | (with_reducible refine bel_alloc ?_ ?_ _; (first | omega | (simp; omega) | simp)) | (with_reducible refine bel_set ?_ ?_ _; (first | omega | (simp; omega) | simp)) | (with_reducible refine bel_tr (by assumption) ?_ ?_; (first | omega | (simp; omega) | simp))))
        have HW := Lib.hid hW
        clear hW
        repeat (go_big_quiet_step ((go_at_call 80; exact bw_of (tn (pinOk_any (fld (S k).es i) _) HPN.out))))
        refine wpQuiet_nil ?_
        intro wq hq
        have hbq : Below W.heap.size W wq := by (obtain ⟨p, hp⟩ := hq; rw [hp]; exact p.below)
        clear hq
        have hbel4 : Below wr.heap.size wr wq := hbW.trans (hbq.mono hbW.size)
        have sq := hbel4.size
        clear q0 q1
        go_wp2
        go_ret
        exact .inr ⟨rfl, HNO.out, hbel3.trans (hbel4.mono (by (first | omega | (simp; omega) | simp)))⟩
      have HPR := Lib.hid hpr
      have hpos : 0 ≤ fld (S k).es i 0 := by have := hpr.1; omega
      clear hpr
      by_cases hm9 : fld (S k).es i 0 % 9 = (k : Int)
      case neg =>
        have HNO : Hid (¬ WOK 9 S) := fun hq => hm9 (hq.2.2.2 k hlt i hlt3).1
        have hq9 : (fld (S k).es i 0 % 9 != (k : Int)) = true := by simp [hm9]
        clear hc2
        go_wp2
        refine wp_region_bw (by kernel_rfl) (by kernel_rfl) (fun W hW => ?_)
        have q0 : ∀ p : BW W, p.w.cell? ⟨wr.heap.size, 0, none⟩ = some (.int .i64 (fld (S k).es i 0)) := fun p => p.cell (by rw [hW]; (first | omega | (simp; omega) | simp)) (by rw [hW]; (first | (go_keep; done) | (go_simp; done)))
        have q1 : ∀ p : BW W, p.w.cell? ⟨wr.heap.size, 1, none⟩ = some (.int .i64 (fld (S k).es i 1)) := fun p => p.cell (by rw [hW]; (first | omega | (simp; omega) | simp)) (by rw [hW]; (first | (go_keep; done) | (go_simp; done)))
        have hbW : Below wr.heap.size wr W := by rw [hW]; (repeat (first | with_reducible exact Below.refl _ _ | with_reducible refine Below.drew ?_ | with_reducible refine below_drewN ?_ _ | (with_reducible refine bel_alloc ?_ ?_ _; (first | omega | (simp; omega) | simp)) | (with_reducible refine bel_set ?_ ?_ _; (first | omega | (simp; omega) | simp)) | (with_reducible refine bel_tr (by assumption) ?_ ?_; (first | omega | (simp; omega) | simp))))
        have HW := Lib.hid hW
        clear hW
        repeat (go_big_quiet_step ((go_at_call 80; exact bw_of (ty (pinOk_any (fld (S k).es i) _) HPR.out))))
        refine wpQuiet_nil ?_
        intro wq hq
        have hbq : Below W.heap.size W wq := by (obtain ⟨p, hp⟩ := hq; rw [hp]; exact p.below)
        clear hq
        have hbel4 : Below wr.heap.size wr wq := hbW.trans (hbq.mono hbW.size)
        have sq := hbel4.size
        clear q0 q1
        go_wp2
        go_ret
        exact .inr ⟨rfl, HNO.out, hbel3.trans (hbel4.mono (by (first | omega | (simp; omega) | simp)))⟩
      have hq9 : (fld (S k).es i 0 % 9 != (k : Int)) = false := by simp [hm9]
      by_cases hi1 : i = 0
      · have HI2 : Hid (∀ i', i' < i + 1 → okI S k i') := fun i' hi' => by
          obtain rfl : i' = i := by omega
          exact ⟨HPR.out, hm9, fun h => absurd h (by omega)⟩
        have hd0 : decide (0 < i) = false := by simp [hi1]
        have hd1 : ¬ (0 : Int) < (i : Int) := by omega
        clear hc2 hi1
        go_wp2
        refine wp_region_bw (by kernel_rfl) (by kernel_rfl) (fun W hW => ?_)
        have q0 : ∀ p : BW W, p.w.cell? ⟨wr.heap.size, 0, none⟩ = some (.int .i64 (fld (S k).es i 0)) := fun p => p.cell (by rw [hW]; (first | omega | (simp; omega) | simp)) (by rw [hW]; (first | (go_keep; done) | (go_simp; done)))
        have q1 : ∀ p : BW W, p.w.cell? ⟨wr.heap.size, 1, none⟩ = some (.int .i64 (fld (S k).es i 1)) := fun p => p.cell (by rw [hW]; (first | omega | (simp; omega) | simp)) (by rw [hW]; (first | (go_keep; done) | (go_simp; done)))
        have hbW : Below wr.heap.size wr W := by rw [hW]; (repeat (first | with_reducible exact Below.refl _ _ | with_reducible refine Below.drew ?_ | with_reducible refine below_drewN ?_ _ | (with_reducible refine bel_alloc ?_ ?_ _; (first | omega | (simp; omega) | simp)) | (with_reducible refine bel_set ?_ ?_ _; (first | omega | (simp; omega) | simp)) | (with_reducible refine bel_tr (by assumption) ?_ ?_; (first | omega | (simp; omega) | simp))))
        have HW := Lib.hid hW
        clear hW
        repeat (go_big_quiet_step ((go_at_call 80; exact bw_of (ty (pinOk_any (fld (S k).es i) _) HPR.out))))
        refine wpQuiet_nil ?_
        intro wq hq
        have hbq : Below W.heap.size W wq := by (obtain ⟨p, hp⟩ := hq; rw [hp]; exact p.below)
        clear hq
        have hbel4 : Below wr.heap.size wr wq := hbW.trans (hbq.mono hbW.size)
        have sq := hbel4.size
        clear q0 q1
        have kzq : wq.cell? ⟨wr.heap.size, 1, none⟩ = some (.int .i64 (fld (S k).es i 1)) := (hbq.cell (p := ⟨wr.heap.size, 1, none⟩) (by rw [HW.out]; (first | omega | (simp; omega) | simp))).trans (by rw [HW.out]; (first | (go_keep; done) | (go_simp; done)))
        have HMQ := Lib.hid (HM2.out.kept hbel4 (by omega))
        obtain ⟨D, hown, hkf⟩ := HMQ.out
        have hkey := keyOf_int_mk (P := Tryz.prog) Tryz.underlying3 (a := fld (S k).es i 1) (WalkArith.wf_i64 (by have := HPR.out.2; omega))
        go_wp2_with (first
          | (at_lookup; refine wpList_lookup_own_int _ rfl _ _ 117 rfl 3 3 .i64 lawI Tryz.underlying117 Tryz.underlying3 (zeroI _) (w.heap.size + 1) (tot S k + i) _ rfl hown _ _ rfl hkey ?_; intro cv hat hwc)
          | (at_mapUpdate; refine wpList_mapUpdate_own _ rfl _ _ _ 117 rfl 3 3 lawI Tryz.underlying117 _ (w.heap.size + 1) (tot S k + i) _ rfl hown (by unfold maxLen; omega) _ _ _ rfl rfl hkey _ [] (plainElem_int Tryz.underlying3 (wrap64_wf _)) ?_; intro w1 hown1 hgrow1))
        have HM3 : Hid (MapR w1 (w.heap.size + 1) (tot S k + (i + 1)) (idsS S k ++ (((S k).es.take (i + 1)).map fun e => e 1))) := Lib.hid (by
          have e1 : ((S k).es.take (i + 1)).map (fun e => e 1) = ((S k).es.take i).map (fun e => e 1) ++ [fld (S k).es i 1] := by
            have hl := HLen.out k hlt
            rw [List.take_add_one, List.map_append]
            congr 1
            rw [List.getElem?_eq_getElem (by omega)]
            simp [fld, List.getD_eq_getElem?_getD, List.getElem?_eq_getElem (show i < (S k).es.length by omega)]
          rw [e1, ← List.append_assoc]
          exact ⟨_, hown1, hkf.put (hown.tidy lawI) (WalkArith.wf_i64 (by have := HPR.out.2; omega))⟩)
        have b1 : Below w.heap.size w w1 := (hbel3.trans (hbel4.mono (by (first | omega | (simp; omega) | simp)))).grown hgrow1 (by (first | omega | (simp; omega) | simp)) (fun j hj => by cases hj; omega)
        have s1 := b1.size
        have s2 := hgrow1.size
        clear hown hown1 hgrow1 hkf hkey HMQ HM2
        go_wp2
        go_roundw
        case rel => exact ⟨i + 1, by omega, by go_num, by go_num, HM3, HI2, b1, by omega⟩
        case measure => simp [intOf]; omega
      obtain ⟨m, hm⟩ : ∃ m, i = m + 1 := ⟨i - 1, by omega⟩
      have hwm : IntKind.i64.wrap ((i : Int) - 1) = (m : Int) := by rw [IntKind.wrap_i64]; omega
      have hm0 : (0 : Int) ≤ (m : Int) := by omega
      have hmn : (m : Int) < ((S k).n : Int) := by omega
      have hd0 : decide (0 < i) = true := by simp; omega
      have hd1 : (0 : Int) < (i : Int) := by omega
      have f0 := hc2 m (by omega) 0 (by omega)
      have f1 := hc2 m (by omega) 1 (by omega)
      rw [Nat.add_zero] at f0
      clear hc2
      have HM := Lib.hid hm
      clear hm
      by_cases hL : ltP (fld (S k).es i) (fld (S k).es m)
      · have HNO : Hid (¬ WOK 9 S) := fun hq => by
          have h1 := (hq.2.2.2 k hlt i hlt3).2 (by omega)
          rw [show i - 1 = m by have := HM.out; omega] at h1
          unfold ltP at h1 hL
          omega
        have hcp : 0 < cmpP (fld (S k).es m) (fld (S k).es i) := cmpP_pos.2 hL
        have hcd : decide (0 < cmpP (fld (S k).es m) (fld (S k).es i)) = true := by simpa using hcp
        clear hL
        go_wp2
        refine wp_region_bw (by kernel_rfl) (by kernel_rfl) (fun W hW => ?_)
        have q0 : ∀ p : BW W, p.w.cell? ⟨wr.heap.size, 0, none⟩ = some (.int .i64 (fld (S k).es i 0)) := fun p => p.cell (by rw [hW]; (first | omega | (simp; omega) | simp)) (by rw [hW]; (first | (go_keep; done) | (go_simp; done)))
        have q1 : ∀ p : BW W, p.w.cell? ⟨wr.heap.size, 1, none⟩ = some (.int .i64 (fld (S k).es i 1)) := fun p => p.cell (by rw [hW]; (first | omega | (simp; omega) | simp)) (by rw [hW]; (first | (go_keep; done) | (go_simp; done)))
        have q2 : ∀ p : BW W, p.w.cell? ⟨b2, off2 + m * 2, none⟩ = some (.int .i64 (fld (S k).es m 0)) := fun p => p.cell (by rw [hW]; (first | omega | (simp; omega) | simp)) (by rw [hW]; (first | (go_keep; done) | (go_simp; done)))
        have q3 : ∀ p : BW W, p.w.cell? ⟨b2, off2 + m * 2 + 1, none⟩ = some (.int .i64 (fld (S k).es m 1)) := fun p => p.cell (by rw [hW]; (first | omega | (simp; omega) | simp)) (by rw [hW]; (first | (go_keep; done) | (go_simp; done)))
        have hbW : Below wr.heap.size wr W := by rw [hW]; (repeat (first | with_reducible exact Below.refl _ _ | with_reducible refine Below.drew ?_ | with_reducible refine below_drewN ?_ _ | (with_reducible refine bel_alloc ?_ ?_ _; (first | omega | (simp; omega) | simp)) | (with_reducible refine bel_set ?_ ?_ _; (first | omega | (simp; omega) | simp)) | (with_reducible refine bel_tr (by assumption) ?_ ?_; (first | omega | (simp; omega) | simp))))
        have HW := Lib.hid hW
        clear hW
        repeat (go_big_quiet_step ((first | (go_at_call 80; exact bw_of (ty (pinOk_any (fld (S k).es i) _) HPR.out)) | (go_at_call 81; exact bw_of (comparePins_any (fld (S k).es m) (fld (S k).es i) _)))))
        refine wpQuiet_nil ?_
        intro wq hq
        have hbq : Below W.heap.size W wq := by (obtain ⟨p, hp⟩ := hq; rw [hp]; exact p.below)
        clear hq
        have hbel4 : Below wr.heap.size wr wq := hbW.trans (hbq.mono hbW.size)
        have sq := hbel4.size
        clear q0 q1 q2 q3
        go_wp2
        go_ret
        exact .inr ⟨rfl, HNO.out, hbel3.trans (hbel4.mono (by (first | omega | (simp; omega) | simp)))⟩
      · have HI2 : Hid (∀ i', i' < i + 1 → okI S k i') := fun i' hi' => by
          by_cases h1 : i' < i
          · exact HI.out i' h1
          · obtain rfl : i' = i := by omega
            exact ⟨HPR.out, hm9, fun _ => by rw [show i' - 1 = m by have := HM.out; omega]; exact hL⟩
        have hcp : ¬ 0 < cmpP (fld (S k).es m) (fld (S k).es i) := fun h => hL (cmpP_pos.1 h)
        have hcd : decide (0 < cmpP (fld (S k).es m) (fld (S k).es i)) = false := by simpa using hcp
        clear hL
        go_wp2
        refine wp_region_bw (by kernel_rfl) (by kernel_rfl) (fun W hW => ?_)
        have q0 : ∀ p : BW W, p.w.cell? ⟨wr.heap.size, 0, none⟩ = some (.int .i64 (fld (S k).es i 0)) := fun p => p.cell (by rw [hW]; (first | omega | (simp; omega) | simp)) (by rw [hW]; (first | (go_keep; done) | (go_simp; done)))
        have q1 : ∀ p : BW W, p.w.cell? ⟨wr.heap.size, 1, none⟩ = some (.int .i64 (fld (S k).es i 1)) := fun p => p.cell (by rw [hW]; (first | omega | (simp; omega) | simp)) (by rw [hW]; (first | (go_keep; done) | (go_simp; done)))
        have q2 : ∀ p : BW W, p.w.cell? ⟨b2, off2 + m * 2, none⟩ = some (.int .i64 (fld (S k).es m 0)) := fun p => p.cell (by rw [hW]; (first | omega | (simp; omega) | simp)) (by rw [hW]; (first | (go_keep; done) | (go_simp; done)))
        have q3 : ∀ p : BW W, p.w.cell? ⟨b2, off2 + m * 2 + 1, none⟩ = some (.int .i64 (fld (S k).es m 1)) := fun p => p.cell (by rw [hW]; (first | omega | (simp; omega) | simp)) (by rw [hW]; (first | (go_keep; done) | (go_simp; done)))
        have hbW : Below wr.heap.size wr W := by rw [hW]; (repeat (first | with_reducible exact Below.refl _ _ | with_reducible refine Below.drew ?_ | with_reducible refine below_drewN ?_ _ | (with_reducible refine bel_alloc ?_ ?_ _; (first | omega | (simp; omega) | simp)) | (with_reducible refine bel_set ?_ ?_ _; (first | omega | (simp; omega) | simp)) | (with_reducible refine bel_tr (by assumption) ?_ ?_; (first | omega | (simp; omega) | simp))))
        have HW := Lib.hid hW
        clear hW
        repeat (go_big_quiet_step ((first | (go_at_call 80; exact bw_of (ty (pinOk_any (fld (S k).es i) _) HPR.out)) | (go_at_call 81; exact bw_of (comparePins_any (fld (S k).es m) (fld (S k).es i) _)))))
        refine wpQuiet_nil ?_
        intro wq hq
        have hbq : Below W.heap.size W wq := by (obtain ⟨p, hp⟩ := hq; rw [hp]; exact p.below)
        clear hq
        have hbel4 : Below wr.heap.size wr wq := hbW.trans (hbq.mono hbW.size)
        have sq := hbel4.size
        clear q0 q1 q2 q3
        have kzq : wq.cell? ⟨wr.heap.size, 1, none⟩ = some (.int .i64 (fld (S k).es i 1)) := (hbq.cell (p := ⟨wr.heap.size, 1, none⟩) (by rw [HW.out]; (first | omega | (simp; omega) | simp))).trans (by rw [HW.out]; (first | (go_keep; done) | (go_simp; done)))
        have HMQ := Lib.hid (HM2.out.kept hbel4 (by omega))
        obtain ⟨D, hown, hkf⟩ := HMQ.out
        have hkey := keyOf_int_mk (P := Tryz.prog) Tryz.underlying3 (a := fld (S k).es i 1) (WalkArith.wf_i64 (by have := HPR.out.2; omega))
        go_wp2_with (first
          | (at_lookup; refine wpList_lookup_own_int _ rfl _ _ 117 rfl 3 3 .i64 lawI Tryz.underlying117 Tryz.underlying3 (zeroI _) (w.heap.size + 1) (tot S k + i) _ rfl hown _ _ rfl hkey ?_; intro cv hat hwc)
          | (at_mapUpdate; refine wpList_mapUpdate_own _ rfl _ _ _ 117 rfl 3 3 lawI Tryz.underlying117 _ (w.heap.size + 1) (tot S k + i) _ rfl hown (by unfold maxLen; omega) _ _ _ rfl rfl hkey _ [] (plainElem_int Tryz.underlying3 (wrap64_wf _)) ?_; intro w1 hown1 hgrow1))
        have HM3 : Hid (MapR w1 (w.heap.size + 1) (tot S k + (i + 1)) (idsS S k ++ (((S k).es.take (i + 1)).map fun e => e 1))) := Lib.hid (by
          have e1 : ((S k).es.take (i + 1)).map (fun e => e 1) = ((S k).es.take i).map (fun e => e 1) ++ [fld (S k).es i 1] := by
            have hl := HLen.out k hlt
            rw [List.take_add_one, List.map_append]
            congr 1
            rw [List.getElem?_eq_getElem (by omega)]
            simp [fld, List.getD_eq_getElem?_getD, List.getElem?_eq_getElem (show i < (S k).es.length by omega)]
          rw [e1, ← List.append_assoc]
          exact ⟨_, hown1, hkf.put (hown.tidy lawI) (WalkArith.wf_i64 (by have := HPR.out.2; omega))⟩)
        have b1 : Below w.heap.size w w1 := (hbel3.trans (hbel4.mono (by (first | omega | (simp; omega) | simp)))).grown hgrow1 (by (first | omega | (simp; omega) | simp)) (fun j hj => by cases hj; omega)
        have s1 := b1.size
        have s2 := hgrow1.size
        clear hown hown1 hgrow1 hkf hkey HMQ HM2
        go_wp2
        go_roundw
        case rel => exact ⟨i + 1, by omega, by go_num, by go_num, HM3, HI2, b1, by omega⟩
        case measure => simp [intOf]; omega
end Go.Proofs.YtjlmcppkafjniaaGreat

namespace Go.Proofs.YtjlmcppkafjniaaGreat
open Go.RowKit

/-- What a good cabin is. -/
def COK (x0 x1 x2 x3 x4 : Int) (n : Nat) (es : List (Nat → Int)) (N : Nat) (S : Nat → Sp) : Prop := LOk x0 x1 x2 x3 x4 ∧ QOk es n ∧ WOK N S
theorem COK.sam {x0 x1 x2 x3 x4 : Int} {n : Nat} {es : List (Nat → Int)} {N : Nat} {S S' : Nat → Sp} (hs : Sam N S S') (h : COK x0 x1 x2 x3 x4 n es N S) : COK x0 x1 x2 x3 x4 n es N S' := ⟨h.1, h.2.1, h.2.2.sam hs⟩

set_option maxRecDepth 100000 in
set_option maxHeartbeats 8000000 in
theorem iCabinOk_any (x0 x1 x2 x3 x4 : Int) (AE : Option Addr) (n c : Nat) (es : List (Nat → Int)) (A : Option Addr) (N cw : Nat) (S : Nat → Sp) (w : World) (hn : n ≤ 9223372036854775807) (hnc : n ≤ c) (hN : N ≤ 4194304) (hT : tot S N ≤ 4194304) (hE : Rd w 4 AE n es) (h : RdW w A N S) :
    Calls Tryz.prog 9 #[.agg #[.int .i64 x0, .int .i64 x1, .int .i64 x2, .int .i64 x3, .int .i64 x4, .slice AE n c, .slice A N cw]] w (TFB (COK x0 x1 x2 x3 x4 n es N S) w) := by
  have H := Lib.hid h
  have HE := Lib.hid hE
  clear h hE
  by_cases hL : LOk x0 x1 x2 x3 x4
  case neg =>
    have hR : Hid (¬ COK x0 x1 x2 x3 x4 n es N S) := Lib.hid fun h => hL h.1
    go_enter Tryz.func9, Tryz.ntmps9
    go_wp2_with fail
    refine (tn (okI_any x0 x1 x2 x3 x4 _) hL).mono ?_
    rintro y w1 ⟨rfl, hb1⟩
    have bc1 := bcell hb1; obtain ⟨hc1, hf1⟩ := bc1; have ks1 := hb1.size; (try simp at ks1); have kc10 : ∀ o, w1.cell? ⟨w.heap.size, o, none⟩ = _ := (fun o => hb1.cell (p := ⟨w.heap.size, o, none⟩) (by (first | omega | (simp; omega) | simp))); have kf10 : ∀ o, w1.frozen? ⟨w.heap.size, o, none⟩ = _ := (fun o => hb1.frozen (p := ⟨w.heap.size, o, none⟩) (by (first | omega | (simp; omega) | simp))); have kz10 : w.heap.size < w1.heap.size := (by have hh := hb1.size; (try simp at hh); omega)
    go_wp2
    go_ret
    exact .inr ⟨rfl, hR.out, by (repeat (first | with_reducible exact Below.refl _ _ | with_reducible refine Below.drew ?_ | with_reducible refine below_drewN ?_ _ | (with_reducible refine bel_alloc ?_ ?_ _; (first | omega | (simp; omega) | simp)) | (with_reducible refine bel_set ?_ ?_ _; (first | omega | (simp; omega) | simp)) | (with_reducible refine bel_tr (by assumption) ?_ ?_; (first | omega | (simp; omega) | simp))))⟩
  by_cases hQ : QOk es n
  case neg =>
    have hR : Hid (¬ COK x0 x1 x2 x3 x4 n es N S) := Lib.hid fun h => hQ h.2.1
    go_enter Tryz.func9, Tryz.ntmps9
    go_wp2_with fail
    refine (ty (okI_any x0 x1 x2 x3 x4 _) hL).mono ?_
    rintro y w1 ⟨rfl, hb1⟩
    have bc1 := bcell hb1; obtain ⟨hc1, hf1⟩ := bc1; have ks1 := hb1.size; (try simp at ks1); have kc10 : ∀ o, w1.cell? ⟨w.heap.size, o, none⟩ = _ := (fun o => hb1.cell (p := ⟨w.heap.size, o, none⟩) (by (first | omega | (simp; omega) | simp))); have kf10 : ∀ o, w1.frozen? ⟨w.heap.size, o, none⟩ = _ := (fun o => hb1.frozen (p := ⟨w.heap.size, o, none⟩) (by (first | omega | (simp; omega) | simp))); have kz10 : w.heap.size < w1.heap.size := (by have hh := hb1.size; (try simp at hh); omega)
    go_wp2_with fail
    refine (tn (iQueueOk_any AE n c es _ hn hnc (HE.out.below (by (repeat (first | with_reducible exact Below.refl _ _ | with_reducible refine Below.drew ?_ | with_reducible refine below_drewN ?_ _ | (with_reducible refine bel_alloc ?_ ?_ _; (first | omega | (simp; omega) | simp)) | (with_reducible refine bel_set ?_ ?_ _; (first | omega | (simp; omega) | simp)) | (with_reducible refine bel_tr (by assumption) ?_ ?_; (first | omega | (simp; omega) | simp))))))) hQ).mono ?_
    rintro y w2 ⟨rfl, hb2⟩
    have bc2 := bcell hb2; obtain ⟨hc2, hf2⟩ := bc2; have ks2 := hb2.size; (try simp at ks2); have kc20 : ∀ o, w2.cell? ⟨w.heap.size, o, none⟩ = _ := (fun o => hb2.cell (p := ⟨w.heap.size, o, none⟩) (by (first | omega | (simp; omega) | simp))); have kf20 : ∀ o, w2.frozen? ⟨w.heap.size, o, none⟩ = _ := (fun o => hb2.frozen (p := ⟨w.heap.size, o, none⟩) (by (first | omega | (simp; omega) | simp))); have kz20 : w.heap.size < w2.heap.size := (by have hh := hb2.size; (try simp at hh); omega)
    go_wp2
    go_ret
    exact .inr ⟨rfl, hR.out, by (repeat (first | with_reducible exact Below.refl _ _ | with_reducible refine Below.drew ?_ | with_reducible refine below_drewN ?_ _ | (with_reducible refine bel_alloc ?_ ?_ _; (first | omega | (simp; omega) | simp)) | (with_reducible refine bel_set ?_ ?_ _; (first | omega | (simp; omega) | simp)) | (with_reducible refine bel_tr (by assumption) ?_ ?_; (first | omega | (simp; omega) | simp))))⟩
  by_cases hW : WOK N S
  case neg =>
    have hR : Hid (¬ COK x0 x1 x2 x3 x4 n es N S) := Lib.hid fun h => hW h.2.2
    go_enter Tryz.func9, Tryz.ntmps9
    go_wp2_with fail
    refine (ty (okI_any x0 x1 x2 x3 x4 _) hL).mono ?_
    rintro y w1 ⟨rfl, hb1⟩
    have bc1 := bcell hb1; obtain ⟨hc1, hf1⟩ := bc1; have ks1 := hb1.size; (try simp at ks1); have kc10 : ∀ o, w1.cell? ⟨w.heap.size, o, none⟩ = _ := (fun o => hb1.cell (p := ⟨w.heap.size, o, none⟩) (by (first | omega | (simp; omega) | simp))); have kf10 : ∀ o, w1.frozen? ⟨w.heap.size, o, none⟩ = _ := (fun o => hb1.frozen (p := ⟨w.heap.size, o, none⟩) (by (first | omega | (simp; omega) | simp))); have kz10 : w.heap.size < w1.heap.size := (by have hh := hb1.size; (try simp at hh); omega)
    go_wp2_with fail
    refine (ty (iQueueOk_any AE n c es _ hn hnc (HE.out.below (by (repeat (first | with_reducible exact Below.refl _ _ | with_reducible refine Below.drew ?_ | with_reducible refine below_drewN ?_ _ | (with_reducible refine bel_alloc ?_ ?_ _; (first | omega | (simp; omega) | simp)) | (with_reducible refine bel_set ?_ ?_ _; (first | omega | (simp; omega) | simp)) | (with_reducible refine bel_tr (by assumption) ?_ ?_; (first | omega | (simp; omega) | simp))))))) hQ).mono ?_
    rintro y w2 ⟨rfl, hb2⟩
    have bc2 := bcell hb2; obtain ⟨hc2, hf2⟩ := bc2; have ks2 := hb2.size; (try simp at ks2); have kc20 : ∀ o, w2.cell? ⟨w.heap.size, o, none⟩ = _ := (fun o => hb2.cell (p := ⟨w.heap.size, o, none⟩) (by (first | omega | (simp; omega) | simp))); have kf20 : ∀ o, w2.frozen? ⟨w.heap.size, o, none⟩ = _ := (fun o => hb2.frozen (p := ⟨w.heap.size, o, none⟩) (by (first | omega | (simp; omega) | simp))); have kz20 : w.heap.size < w2.heap.size := (by have hh := hb2.size; (try simp at hh); omega)
    go_wp2_with fail
    refine (tn (iWheelOk_any A N cw S _ hN hT (H.out.below (by (repeat (first | with_reducible exact Below.refl _ _ | with_reducible refine Below.drew ?_ | with_reducible refine below_drewN ?_ _ | (with_reducible refine bel_alloc ?_ ?_ _; (first | omega | (simp; omega) | simp)) | (with_reducible refine bel_set ?_ ?_ _; (first | omega | (simp; omega) | simp)) | (with_reducible refine bel_tr (by assumption) ?_ ?_; (first | omega | (simp; omega) | simp))))))) hW).mono ?_
    rintro y w3 ⟨rfl, hb3⟩
    have bc3 := bcell hb3; obtain ⟨hc3, hf3⟩ := bc3; have ks3 := hb3.size; (try simp at ks3); have kc30 : ∀ o, w3.cell? ⟨w.heap.size, o, none⟩ = _ := (fun o => hb3.cell (p := ⟨w.heap.size, o, none⟩) (by (first | omega | (simp; omega) | simp))); have kf30 : ∀ o, w3.frozen? ⟨w.heap.size, o, none⟩ = _ := (fun o => hb3.frozen (p := ⟨w.heap.size, o, none⟩) (by (first | omega | (simp; omega) | simp))); have kz30 : w.heap.size < w3.heap.size := (by have hh := hb3.size; (try simp at hh); omega)
    go_wp2
    go_ret
    exact .inr ⟨rfl, hR.out, by (repeat (first | with_reducible exact Below.refl _ _ | with_reducible refine Below.drew ?_ | with_reducible refine below_drewN ?_ _ | (with_reducible refine bel_alloc ?_ ?_ _; (first | omega | (simp; omega) | simp)) | (with_reducible refine bel_set ?_ ?_ _; (first | omega | (simp; omega) | simp)) | (with_reducible refine bel_tr (by assumption) ?_ ?_; (first | omega | (simp; omega) | simp))))⟩
  have hR : Hid (COK x0 x1 x2 x3 x4 n es N S) := Lib.hid ⟨hL, hQ, hW⟩
  go_enter Tryz.func9, Tryz.ntmps9
  go_wp2_with fail
  refine (ty (okI_any x0 x1 x2 x3 x4 _) hL).mono ?_
  rintro y w1 ⟨rfl, hb1⟩
  have bc1 := bcell hb1; obtain ⟨hc1, hf1⟩ := bc1; have ks1 := hb1.size; (try simp at ks1); have kc10 : ∀ o, w1.cell? ⟨w.heap.size, o, none⟩ = _ := (fun o => hb1.cell (p := ⟨w.heap.size, o, none⟩) (by (first | omega | (simp; omega) | simp))); have kf10 : ∀ o, w1.frozen? ⟨w.heap.size, o, none⟩ = _ := (fun o => hb1.frozen (p := ⟨w.heap.size, o, none⟩) (by (first | omega | (simp; omega) | simp))); have kz10 : w.heap.size < w1.heap.size := (by have hh := hb1.size; (try simp at hh); omega)
  go_wp2_with fail
  refine (ty (iQueueOk_any AE n c es _ hn hnc (HE.out.below (by (repeat (first | with_reducible exact Below.refl _ _ | with_reducible refine Below.drew ?_ | with_reducible refine below_drewN ?_ _ | (with_reducible refine bel_alloc ?_ ?_ _; (first | omega | (simp; omega) | simp)) | (with_reducible refine bel_set ?_ ?_ _; (first | omega | (simp; omega) | simp)) | (with_reducible refine bel_tr (by assumption) ?_ ?_; (first | omega | (simp; omega) | simp))))))) hQ).mono ?_
  rintro y w2 ⟨rfl, hb2⟩
  have bc2 := bcell hb2; obtain ⟨hc2, hf2⟩ := bc2; have ks2 := hb2.size; (try simp at ks2); have kc20 : ∀ o, w2.cell? ⟨w.heap.size, o, none⟩ = _ := (fun o => hb2.cell (p := ⟨w.heap.size, o, none⟩) (by (first | omega | (simp; omega) | simp))); have kf20 : ∀ o, w2.frozen? ⟨w.heap.size, o, none⟩ = _ := (fun o => hb2.frozen (p := ⟨w.heap.size, o, none⟩) (by (first | omega | (simp; omega) | simp))); have kz20 : w.heap.size < w2.heap.size := (by have hh := hb2.size; (try simp at hh); omega)
  go_wp2_with fail
  refine (ty (iWheelOk_any A N cw S _ hN hT (H.out.below (by (repeat (first | with_reducible exact Below.refl _ _ | with_reducible refine Below.drew ?_ | with_reducible refine below_drewN ?_ _ | (with_reducible refine bel_alloc ?_ ?_ _; (first | omega | (simp; omega) | simp)) | (with_reducible refine bel_set ?_ ?_ _; (first | omega | (simp; omega) | simp)) | (with_reducible refine bel_tr (by assumption) ?_ ?_; (first | omega | (simp; omega) | simp))))))) hW).mono ?_
  rintro y w3 ⟨rfl, hb3⟩
  have bc3 := bcell hb3; obtain ⟨hc3, hf3⟩ := bc3; have ks3 := hb3.size; (try simp at ks3); have kc30 : ∀ o, w3.cell? ⟨w.heap.size, o, none⟩ = _ := (fun o => hb3.cell (p := ⟨w.heap.size, o, none⟩) (by (first | omega | (simp; omega) | simp))); have kf30 : ∀ o, w3.frozen? ⟨w.heap.size, o, none⟩ = _ := (fun o => hb3.frozen (p := ⟨w.heap.size, o, none⟩) (by (first | omega | (simp; omega) | simp))); have kz30 : w.heap.size < w3.heap.size := (by have hh := hb3.size; (try simp at hh); omega)
  go_wp2
  go_ret
  exact .inl ⟨rfl, hR.out, by (repeat (first | with_reducible exact Below.refl _ _ | with_reducible refine Below.drew ?_ | with_reducible refine below_drewN ?_ _ | (with_reducible refine bel_alloc ?_ ?_ _; (first | omega | (simp; omega) | simp)) | (with_reducible refine bel_set ?_ ?_ _; (first | omega | (simp; omega) | simp)) | (with_reducible refine bel_tr (by assumption) ?_ ?_; (first | omega | (simp; omega) | simp))))⟩
end Go.Proofs.YtjlmcppkafjniaaGreat
