/-
  Walk of the law FnWheelOf: it returns true and leaves old memory alone.
-/
import Derived.Test.YtndgaandcmiinaaDy
import Derived.Test.YtndgaandcmiinaaWf
import Derived.Test.YtndgaandcmiinaaWoi
import Derived.Test.YtndgaandcmiinaaWos
import Derived.Test.YtndgaandcmiinaaSwi
import Derived.Test.YtndgaandcmiinaaPos
namespace Go.Proofs.Ytndgaandcmiinaa
open Go.RowKit

theorem fld_rev {es : List (Nat → Int)} {k : Nat} (h : k < es.length) : fld es.reverse k = fld es (es.length - 1 - k) := by
  rw [fld_get (show k < es.reverse.length by rw [List.length_reverse]; exact h), fld_get (show es.length - 1 - k < es.length by omega), List.getElem_reverse]

set_option maxRecDepth 100000 in
set_option maxHeartbeats 16000000 in
theorem lawFnWheelOf (A : Option Addr) (n c : Nat) (w : World) (hn0 : n ≤ 9223372036854775807) (hB : RdB w A n) :
    Calls Try.prog 12 #[.slice A n c] w fun y w' => y = .returned (.bool true) ∧ Below w.heap.size w w' := by
  by_cases hn : n ≤ 1048576
  case neg =>
    have hbig : decide (1048576 < n) = true := by simp; omega
    go_enter Try.func12, Try.ntmps12
    go_wp2_with fail
    refine (big_any A n c _).mono ?_
    rintro y _ ⟨rfl, rfl⟩
    go_wp2
    go_ret
    exact ⟨rfl, Below.refl _ _⟩
  obtain ⟨i0, hi0, hz0', hz1, hz2⟩ := info_parts copyPin_info
  have HB := Lib.hid hB
  clear hB
  have hbig : decide (1048576 < n) = false := by simpa using hn
  go_enter Try.func12, Try.ntmps12
  go_wp2_with fail
  refine (big_any A n c _).mono ?_
  rintro y _ ⟨rfl, rfl⟩
  go_wp2_with fail
  refine (drawWheelOf_any A n c _ hn HB.out).mono ?_
  rintro y w1 ⟨A1, N, c1, rfl, hN, ⟨es, o1⟩, b1⟩
  have s1 := b1.size
  have R1 := Lib.hid o1.rd
  have HL := Lib.hid o1.1
  clear o1
  obtain ⟨M, E, bv, hR⟩ := wofR_ex es N
  obtain ⟨M', E', bv', hR'⟩ := wofR_ex es.reverse N
  obtain ⟨hb', hM', hM, hS⟩ := wofR_perm HL.out (by rw [List.length_reverse]; exact HL.out) (List.reverse_perm es).symm hR hR'
  subst hb' hM'
  rcases hM with ⟨rfl, rfl⟩ | ⟨rfl, rfl⟩
  · have HR := Lib.hid hR
    have HR' := Lib.hid hR'
    have HS := Lib.hid hS
    clear hR hR' hS
    go_wp2_with fail
    refine (iWheelOf_any A1 N c1 9 es E true _ (by omega) R1.out HR.out).mono ?_
    rintro y w2 ⟨A2, c2, S2, rfl, o2, e2, t2, _, b2⟩
    have s2 := b2.size
    have O2 := Lib.hid o2
    have E2 := Lib.hid e2
    clear o2 e2
    go_wp2_with fail
    refine (sWheelOf_any A1 N c1 9 es E true _ (by omega) (R1.out.below (by (repeat (first | with_reducible exact Below.refl _ _ | with_reducible refine Below.drew ?_ | with_reducible refine below_drewN ?_ _ | (with_reducible refine bel_alloc ?_ ?_ _; (first | omega | (simp; omega) | simp)) | (with_reducible refine bel_set ?_ ?_ _; (first | omega | (simp; omega) | simp)) | (with_reducible refine bel_tr (by assumption) ?_ ?_; (first | omega | (simp; omega) | simp)))))) HR.out).mono ?_
    rintro y w3 ⟨A3, c3, S3, rfl, _, _, _, _, hb3⟩
    have bc3 := bcell hb3; obtain ⟨hc3, hf3⟩ := bc3; have ks3 := hb3.size; (try simp at ks3); (try (have jzw23 : w2.heap.size < w3.heap.size := (by have hh := hb3.size; (try simp at hh); omega); have jcw23 : ∀ o, w3.cell? ⟨w2.heap.size, o, none⟩ = _ := (fun o => hb3.cell (p := ⟨w2.heap.size, o, none⟩) (by (first | omega | (simp; omega) | simp))); have jfw23 : ∀ o, w3.frozen? ⟨w2.heap.size, o, none⟩ = _ := (fun o => hb3.frozen (p := ⟨w2.heap.size, o, none⟩) (by (first | omega | (simp; omega) | simp)))))
    have s3 : w2.heap.size + 1 ≤ w3.heap.size := by (first | omega | (simp; omega) | simp)
    have P2 : Hid (OwnW w1.heap.size w2.heap.size w3 A2 9 S2) := Lib.hid (O2.out.below (by (repeat (first | with_reducible exact Below.refl _ _ | with_reducible refine Below.drew ?_ | with_reducible refine below_drewN ?_ _ | (with_reducible refine bel_alloc ?_ ?_ _; (first | omega | (simp; omega) | simp)) | (with_reducible refine bel_set ?_ ?_ _; (first | omega | (simp; omega) | simp)) | (with_reducible refine bel_tr (by assumption) ?_ ?_; (first | omega | (simp; omega) | simp))))))
    have b13 : Hid (Below w1.heap.size w1 w3) := Lib.hid (by (repeat (first | with_reducible exact Below.refl _ _ | with_reducible refine Below.drew ?_ | with_reducible refine below_drewN ?_ _ | (with_reducible refine bel_alloc ?_ ?_ _; (first | omega | (simp; omega) | simp)) | (with_reducible refine bel_set ?_ ?_ _; (first | omega | (simp; omega) | simp)) | (with_reducible refine bel_tr (by assumption) ?_ ?_; (first | omega | (simp; omega) | simp)))))
    have r0 : Hid (((w3.alloc (.cells #[.slice A3 9 c3] 24)).alloc (.cells #[] 40)).ownsRow w3.heap.size 40 2 (.slice (some ⟨w3.heap.size + 1, 0, none⟩) 0 0) 0 (flat 2 (es.reverse.take 0))) := Lib.hid (by
      have h := rowE (w3.alloc (.cells #[.slice A3 9 c3] 24)) 40 2
      have e : (w3.alloc (.cells #[.slice A3 9 c3] 24)).heap.size = w3.heap.size + 1 := by simp
      rw [e] at h
      exact h.lower (by omega))
    go_wp2
    go_loopw [8, 9] (fun v i wr => ∃ (z : Int) (k : Nat), k ≤ N ∧ z = (N : Int) - 1 - (k : Int) ∧ i = .int .i64 z ∧ Hid (wr.ownsRow w3.heap.size 40 2 v k (flat 2 (es.reverse.take k))) ∧ Hid (Below w3.heap.size w3 wr) ∧ w3.heap.size ≤ wr.heap.size) (fun _ i _ => (intOf i + 1).toNat)
    case atStart => exact ⟨(N : Int) - 1, 0, Nat.zero_le _, by omega, rfl, r0, Lib.hid (by (repeat (first | with_reducible exact Below.refl _ _ | with_reducible refine Below.drew ?_ | with_reducible refine below_drewN ?_ _ | (with_reducible refine bel_alloc ?_ ?_ _; (first | omega | (simp; omega) | simp)) | (with_reducible refine bel_set ?_ ?_ _; (first | omega | (simp; omega) | simp)) | (with_reducible refine bel_tr (by assumption) ?_ ?_; (first | omega | (simp; omega) | simp))))), by (first | omega | (simp; omega) | simp)⟩
    case round =>
      obtain ⟨z, k, hk, hz, rfl, HO, HB3, hs⟩ := hrel
      by_cases hz0 : 0 ≤ z
      · obtain ⟨j, rfl⟩ : ∃ j : Nat, z = j := ⟨z.toNat, by omega⟩
        have hj : j < N := by omega
        have hji : (j : Int) < (N : Int) := by omega
        have hkN : k < N := by omega
        have hjk : Hid (j = N - 1 - k) := Lib.hid (by omega)
        have HY : Hid (es.reverse.take (k + 1) = es.reverse.take k ++ [fld es j]) := Lib.hid (by
          rw [take_succ (by rw [List.length_reverse, HL.out]; exact hkN), fld_rev (by rw [HL.out]; exact hkN), HL.out, ← hjk.out])
        have HRd := (R1.out.below (b13.out.trans (HB3.out.mono (by omega)))).2
        obtain ⟨b, off, rfl, hb, hc⟩ := HRd.resolve_left (by omega)
        have f0 := hc j hj 0 (by omega)
        have f1 := hc j hj 1 (by omega)
        rw [Nat.add_zero] at f0
        clear hc HRd hz
        go_wp2_with (at_builtin; go_must (refine wpList_append_rd _ rfl _ _ 46 rfl w3.heap.size 40 i0 _ 2 16 Try.underlying46 hi0 hz0' hz1 hz2 rfl (by omega) _ k (es.reverse.take k) rfl (World.ownsRow.alloc HO.out _) (some ⟨wr.heap.size, 0, none⟩) 1 1 [fld es j] rfl (rd_one2 _ _ (fld es j)) (by unfold maxLen; omega) (by omega) (by (first | omega | (simp; omega) | simp)) ?_; intro v4 w4 hown4 hg4 hat4))
        have H4 : Hid (w4.ownsRow w3.heap.size 40 2 v4 (k + 1) (flat 2 (es.reverse.take (k + 1)))) := Lib.hid (by rw [HY.out]; exact hown4)
        have bX : Below w3.heap.size w3 (wr.alloc (.cells #[.int .i64 (fld es j 0), .int .i64 (fld es j 1)] 40)) := by (have := HB3.out; (repeat (first | with_reducible exact Below.refl _ _ | with_reducible refine Below.drew ?_ | with_reducible refine below_drewN ?_ _ | (with_reducible refine bel_alloc ?_ ?_ _; (first | omega | (simp; omega) | simp)) | (with_reducible refine bel_set ?_ ?_ _; (first | omega | (simp; omega) | simp)) | (with_reducible refine bel_tr (by assumption) ?_ ?_; (first | omega | (simp; omega) | simp)))))
        have hWX : wr.heap.size ≤ (wr.alloc (.cells #[.int .i64 (fld es j 0), .int .i64 (fld es j 1)] 40)).heap.size := by first | (simp; done) | (simp; omega)
        have HB4 : Hid (Below w3.heap.size w3 w4) := Lib.hid (bX.grown hg4 (by omega) (fun a ha => row_ge HO.out (Nat.le_refl _) a ha))
        have s4 := hg4.size
        clear hown4 hat4 bX
        go_wp2
        go_roundw
        case rel => exact ⟨(j : Int) - 1, k + 1, by omega, (by have := hjk.out; omega), by go_num, H4, HB4, by omega⟩
        case measure => (simp [intOf] <;> omega)
      · have hkN : N = k := by omega
        clear hz
        subst hkN
        obtain ⟨A4, c4, rfl, hd1, hd2, o4⟩ := own_of_row_cap (by rw [List.length_take, List.length_reverse, HL.out]; omega) HO.out
        rw [List.take_of_length_le (by rw [List.length_reverse, HL.out]; omega)] at o4
        have O4 := Lib.hid o4
        clear o4
        have jc : ∀ o, wr.cell? ⟨w2.heap.size, o, none⟩ = _ := fun o => HB3.out.cell (p := ⟨w2.heap.size, o, none⟩) (by omega)
        have jz : w2.heap.size < wr.heap.size := by omega
        have P3 : Hid (OwnW w1.heap.size w2.heap.size wr A2 9 S2) := Lib.hid (P2.out.below HB3.out)
        have B3w : Hid (Below w.heap.size w wr) := Lib.hid ((b1.trans (b13.out.mono s1)).trans (HB3.out.mono (by omega)))
        go_wp2_with fail
        refine (iWheelOf_any A4 N c4 9 es.reverse E' true _ (by omega) O4.out.rd HR'.out).mono ?_
        rintro y w5 ⟨A5, c5, S5, rfl, o5, e5, t5, _, hb5⟩
        have bc5 := bcell hb5; obtain ⟨hc5, hf5⟩ := bc5; have ks5 := hb5.size; (try simp at ks5); (try (have jzw25 : w2.heap.size < w5.heap.size := (by have hh := hb5.size; (try simp at hh); omega); have jcw25 : ∀ o, w5.cell? ⟨w2.heap.size, o, none⟩ = _ := (fun o => hb5.cell (p := ⟨w2.heap.size, o, none⟩) (by (first | omega | (simp; omega) | simp))); have jfw25 : ∀ o, w5.frozen? ⟨w2.heap.size, o, none⟩ = _ := (fun o => hb5.frozen (p := ⟨w2.heap.size, o, none⟩) (by (first | omega | (simp; omega) | simp)))))
        have O5 := Lib.hid o5
        have E5 := Lib.hid e5
        clear o5 e5
        have P5 : Hid (OwnW w1.heap.size w2.heap.size w5 A2 9 S2) := Lib.hid (P3.out.below hb5)
        have B5w : Hid (Below w.heap.size w w5) := Lib.hid (B3w.out.trans (hb5.mono (by have := B3w.out.size; omega)))
        have s5 := hb5.size
        have hSm := HS.out (by first | exact trivial | rfl) S2 S5 P5.out.rdw.lens O5.out.rdw.lens E2.out E5.out
        have HSm := Lib.hid hSm.1
        have HLn := Lib.hid hSm.2
        clear hSm
        go_wp2_with fail
        refine (ty (iSameWheel_any A2 9 c2 A5 9 c5 S2 S5 _ (by omega) (by omega) (by omega) (by omega) (P5.out.rdw.below (by (repeat (first | with_reducible exact Below.refl _ _ | with_reducible refine Below.drew ?_ | with_reducible refine below_drewN ?_ _ | (with_reducible refine bel_alloc ?_ ?_ _; (first | omega | (simp; omega) | simp)) | (with_reducible refine bel_set ?_ ?_ _; (first | omega | (simp; omega) | simp)) | (with_reducible refine bel_tr (by assumption) ?_ ?_; (first | omega | (simp; omega) | simp)))))) (O5.out.rdw.below (by (repeat (first | with_reducible exact Below.refl _ _ | with_reducible refine Below.drew ?_ | with_reducible refine below_drewN ?_ _ | (with_reducible refine bel_alloc ?_ ?_ _; (first | omega | (simp; omega) | simp)) | (with_reducible refine bel_set ?_ ?_ _; (first | omega | (simp; omega) | simp)) | (with_reducible refine bel_tr (by assumption) ?_ ?_; (first | omega | (simp; omega) | simp))))))) HSm.out).mono ?_
        rintro y w6 ⟨rfl, hb6⟩
        have bc6 := bcell hb6; obtain ⟨hc6, hf6⟩ := bc6; have ks6 := hb6.size; (try simp at ks6); (try (have jzw26 : w2.heap.size < w6.heap.size := (by have hh := hb6.size; (try simp at hh); omega); have jcw26 : ∀ o, w6.cell? ⟨w2.heap.size, o, none⟩ = _ := (fun o => hb6.cell (p := ⟨w2.heap.size, o, none⟩) (by (first | omega | (simp; omega) | simp))); have jfw26 : ∀ o, w6.frozen? ⟨w2.heap.size, o, none⟩ = _ := (fun o => hb6.frozen (p := ⟨w2.heap.size, o, none⟩) (by (first | omega | (simp; omega) | simp)))))
        go_wp2_with fail
        refine (sPinsOf_t A2 9 c2 S2 N (pinsL 9 S2) _ (by omega) (by omega) (P5.out.rdw.below (by (repeat (first | with_reducible exact Below.refl _ _ | with_reducible refine Below.drew ?_ | with_reducible refine below_drewN ?_ _ | (with_reducible refine bel_alloc ?_ ?_ _; (first | omega | (simp; omega) | simp)) | (with_reducible refine bel_set ?_ ?_ _; (first | omega | (simp; omega) | simp)) | (with_reducible refine bel_tr (by assumption) ?_ ?_; (first | omega | (simp; omega) | simp)))))) rfl HLn.out).mono ?_
        rintro y w7 ⟨A7, c7, rfl, _, _, hb7⟩
        go_wp2
        go_ret
        have B5 := B5w.out
        exact ⟨rfl, by (repeat (first | with_reducible exact Below.refl _ _ | with_reducible refine Below.drew ?_ | with_reducible refine below_drewN ?_ _ | (with_reducible refine bel_alloc ?_ ?_ _; (first | omega | (simp; omega) | simp)) | (with_reducible refine bel_set ?_ ?_ _; (first | omega | (simp; omega) | simp)) | (with_reducible refine bel_tr (by assumption) ?_ ?_; (first | omega | (simp; omega) | simp))))⟩
  · have HR := Lib.hid hR
    have HR' := Lib.hid hR'
    clear hR hR' hS
    go_wp2_with fail
    refine (iWheelOf_any A1 N c1 0 es E false _ (by omega) R1.out HR.out).mono ?_
    rintro y w2 ⟨A2, c2, S2, rfl, o2, e2, t2, _, b2⟩
    have s2 := b2.size
    have O2 := Lib.hid o2
    have E2 := Lib.hid e2
    clear o2 e2
    go_wp2_with fail
    refine (sWheelOf_any A1 N c1 0 es E false _ (by omega) (R1.out.below (by (repeat (first | with_reducible exact Below.refl _ _ | with_reducible refine Below.drew ?_ | with_reducible refine below_drewN ?_ _ | (with_reducible refine bel_alloc ?_ ?_ _; (first | omega | (simp; omega) | simp)) | (with_reducible refine bel_set ?_ ?_ _; (first | omega | (simp; omega) | simp)) | (with_reducible refine bel_tr (by assumption) ?_ ?_; (first | omega | (simp; omega) | simp)))))) HR.out).mono ?_
    rintro y w3 ⟨A3, c3, S3, rfl, _, _, _, _, hb3⟩
    have bc3 := bcell hb3; obtain ⟨hc3, hf3⟩ := bc3; have ks3 := hb3.size; (try simp at ks3); (try (have jzw23 : w2.heap.size < w3.heap.size := (by have hh := hb3.size; (try simp at hh); omega); have jcw23 : ∀ o, w3.cell? ⟨w2.heap.size, o, none⟩ = _ := (fun o => hb3.cell (p := ⟨w2.heap.size, o, none⟩) (by (first | omega | (simp; omega) | simp))); have jfw23 : ∀ o, w3.frozen? ⟨w2.heap.size, o, none⟩ = _ := (fun o => hb3.frozen (p := ⟨w2.heap.size, o, none⟩) (by (first | omega | (simp; omega) | simp)))))
    have s3 : w2.heap.size + 1 ≤ w3.heap.size := by (first | omega | (simp; omega) | simp)
    have P2 : Hid (OwnW w1.heap.size w2.heap.size w3 A2 0 S2) := Lib.hid (O2.out.below (by (repeat (first | with_reducible exact Below.refl _ _ | with_reducible refine Below.drew ?_ | with_reducible refine below_drewN ?_ _ | (with_reducible refine bel_alloc ?_ ?_ _; (first | omega | (simp; omega) | simp)) | (with_reducible refine bel_set ?_ ?_ _; (first | omega | (simp; omega) | simp)) | (with_reducible refine bel_tr (by assumption) ?_ ?_; (first | omega | (simp; omega) | simp))))))
    have b13 : Hid (Below w1.heap.size w1 w3) := Lib.hid (by (repeat (first | with_reducible exact Below.refl _ _ | with_reducible refine Below.drew ?_ | with_reducible refine below_drewN ?_ _ | (with_reducible refine bel_alloc ?_ ?_ _; (first | omega | (simp; omega) | simp)) | (with_reducible refine bel_set ?_ ?_ _; (first | omega | (simp; omega) | simp)) | (with_reducible refine bel_tr (by assumption) ?_ ?_; (first | omega | (simp; omega) | simp)))))
    have r0 : Hid (((w3.alloc (.cells #[.slice A3 0 c3] 24)).alloc (.cells #[] 40)).ownsRow w3.heap.size 40 2 (.slice (some ⟨w3.heap.size + 1, 0, none⟩) 0 0) 0 (flat 2 (es.reverse.take 0))) := Lib.hid (by
      have h := rowE (w3.alloc (.cells #[.slice A3 0 c3] 24)) 40 2
      have e : (w3.alloc (.cells #[.slice A3 0 c3] 24)).heap.size = w3.heap.size + 1 := by simp
      rw [e] at h
      exact h.lower (by omega))
    go_wp2
    go_loopw [8, 9] (fun v i wr => ∃ (z : Int) (k : Nat), k ≤ N ∧ z = (N : Int) - 1 - (k : Int) ∧ i = .int .i64 z ∧ Hid (wr.ownsRow w3.heap.size 40 2 v k (flat 2 (es.reverse.take k))) ∧ Hid (Below w3.heap.size w3 wr) ∧ w3.heap.size ≤ wr.heap.size) (fun _ i _ => (intOf i + 1).toNat)
    case atStart => exact ⟨(N : Int) - 1, 0, Nat.zero_le _, by omega, rfl, r0, Lib.hid (by (repeat (first | with_reducible exact Below.refl _ _ | with_reducible refine Below.drew ?_ | with_reducible refine below_drewN ?_ _ | (with_reducible refine bel_alloc ?_ ?_ _; (first | omega | (simp; omega) | simp)) | (with_reducible refine bel_set ?_ ?_ _; (first | omega | (simp; omega) | simp)) | (with_reducible refine bel_tr (by assumption) ?_ ?_; (first | omega | (simp; omega) | simp))))), by (first | omega | (simp; omega) | simp)⟩
    case round =>
      obtain ⟨z, k, hk, hz, rfl, HO, HB3, hs⟩ := hrel
      by_cases hz0 : 0 ≤ z
      · obtain ⟨j, rfl⟩ : ∃ j : Nat, z = j := ⟨z.toNat, by omega⟩
        have hj : j < N := by omega
        have hji : (j : Int) < (N : Int) := by omega
        have hkN : k < N := by omega
        have hjk : Hid (j = N - 1 - k) := Lib.hid (by omega)
        have HY : Hid (es.reverse.take (k + 1) = es.reverse.take k ++ [fld es j]) := Lib.hid (by
          rw [take_succ (by rw [List.length_reverse, HL.out]; exact hkN), fld_rev (by rw [HL.out]; exact hkN), HL.out, ← hjk.out])
        have HRd := (R1.out.below (b13.out.trans (HB3.out.mono (by omega)))).2
        obtain ⟨b, off, rfl, hb, hc⟩ := HRd.resolve_left (by omega)
        have f0 := hc j hj 0 (by omega)
        have f1 := hc j hj 1 (by omega)
        rw [Nat.add_zero] at f0
        clear hc HRd hz
        go_wp2_with (at_builtin; go_must (refine wpList_append_rd _ rfl _ _ 46 rfl w3.heap.size 40 i0 _ 2 16 Try.underlying46 hi0 hz0' hz1 hz2 rfl (by omega) _ k (es.reverse.take k) rfl (World.ownsRow.alloc HO.out _) (some ⟨wr.heap.size, 0, none⟩) 1 1 [fld es j] rfl (rd_one2 _ _ (fld es j)) (by unfold maxLen; omega) (by omega) (by (first | omega | (simp; omega) | simp)) ?_; intro v4 w4 hown4 hg4 hat4))
        have H4 : Hid (w4.ownsRow w3.heap.size 40 2 v4 (k + 1) (flat 2 (es.reverse.take (k + 1)))) := Lib.hid (by rw [HY.out]; exact hown4)
        have bX : Below w3.heap.size w3 (wr.alloc (.cells #[.int .i64 (fld es j 0), .int .i64 (fld es j 1)] 40)) := by (have := HB3.out; (repeat (first | with_reducible exact Below.refl _ _ | with_reducible refine Below.drew ?_ | with_reducible refine below_drewN ?_ _ | (with_reducible refine bel_alloc ?_ ?_ _; (first | omega | (simp; omega) | simp)) | (with_reducible refine bel_set ?_ ?_ _; (first | omega | (simp; omega) | simp)) | (with_reducible refine bel_tr (by assumption) ?_ ?_; (first | omega | (simp; omega) | simp)))))
        have hWX : wr.heap.size ≤ (wr.alloc (.cells #[.int .i64 (fld es j 0), .int .i64 (fld es j 1)] 40)).heap.size := by first | (simp; done) | (simp; omega)
        have HB4 : Hid (Below w3.heap.size w3 w4) := Lib.hid (bX.grown hg4 (by omega) (fun a ha => row_ge HO.out (Nat.le_refl _) a ha))
        have s4 := hg4.size
        clear hown4 hat4 bX
        go_wp2
        go_roundw
        case rel => exact ⟨(j : Int) - 1, k + 1, by omega, (by have := hjk.out; omega), by go_num, H4, HB4, by omega⟩
        case measure => (simp [intOf] <;> omega)
      · have hkN : N = k := by omega
        clear hz
        subst hkN
        obtain ⟨A4, c4, rfl, hd1, hd2, o4⟩ := own_of_row_cap (by rw [List.length_take, List.length_reverse, HL.out]; omega) HO.out
        rw [List.take_of_length_le (by rw [List.length_reverse, HL.out]; omega)] at o4
        have O4 := Lib.hid o4
        clear o4
        have jc : ∀ o, wr.cell? ⟨w2.heap.size, o, none⟩ = _ := fun o => HB3.out.cell (p := ⟨w2.heap.size, o, none⟩) (by omega)
        have jz : w2.heap.size < wr.heap.size := by omega
        have P3 : Hid (OwnW w1.heap.size w2.heap.size wr A2 0 S2) := Lib.hid (P2.out.below HB3.out)
        have B3w : Hid (Below w.heap.size w wr) := Lib.hid ((b1.trans (b13.out.mono s1)).trans (HB3.out.mono (by omega)))
        go_wp2_with fail
        refine (iWheelOf_any A4 N c4 0 es.reverse E' false _ (by omega) O4.out.rd HR'.out).mono ?_
        rintro y w5 ⟨A5, c5, S5, rfl, o5, e5, t5, _, hb5⟩
        have bc5 := bcell hb5; obtain ⟨hc5, hf5⟩ := bc5; have ks5 := hb5.size; (try simp at ks5); (try (have jzw25 : w2.heap.size < w5.heap.size := (by have hh := hb5.size; (try simp at hh); omega); have jcw25 : ∀ o, w5.cell? ⟨w2.heap.size, o, none⟩ = _ := (fun o => hb5.cell (p := ⟨w2.heap.size, o, none⟩) (by (first | omega | (simp; omega) | simp))); have jfw25 : ∀ o, w5.frozen? ⟨w2.heap.size, o, none⟩ = _ := (fun o => hb5.frozen (p := ⟨w2.heap.size, o, none⟩) (by (first | omega | (simp; omega) | simp)))))
        have O5 := Lib.hid o5
        have E5 := Lib.hid e5
        clear o5 e5
        have P5 : Hid (OwnW w1.heap.size w2.heap.size w5 A2 0 S2) := Lib.hid (P3.out.below hb5)
        have B5w : Hid (Below w.heap.size w w5) := Lib.hid (B3w.out.trans (hb5.mono (by have := B3w.out.size; omega)))
        have s5 := hb5.size
        go_wp2
        go_ret
        have B5 := B5w.out
        exact ⟨rfl, by (repeat (first | with_reducible exact Below.refl _ _ | with_reducible refine Below.drew ?_ | with_reducible refine below_drewN ?_ _ | (with_reducible refine bel_alloc ?_ ?_ _; (first | omega | (simp; omega) | simp)) | (with_reducible refine bel_set ?_ ?_ _; (first | omega | (simp; omega) | simp)) | (with_reducible refine bel_tr (by assumption) ?_ ?_; (first | omega | (simp; omega) | simp))))⟩
end Go.Proofs.Ytndgaandcmiinaa
