/-
  Walk of the law FnQueueOf: it returns true and leaves old memory alone.
-/
import Derived.Test.YtccabkmmlddenaaQfS
import Derived.Test.YtccabkmmlddenaaDqo
import Derived.Test.YtccabkmmlddenaaFq0
import Derived.Test.YtccabkmmlddenaaQo
import Derived.Test.YtccabkmmlddenaaBw
import Derived.Deep.RegionHeld3
import Derived.Deep.DeepCutAuto
namespace Go.Proofs.Ytccabkmmlddenaa
open Go.RowKit

set_option maxRecDepth 100000 in
set_option maxHeartbeats 16000000 in
theorem lawFnQueueOf (A : Option Addr) (n c : Nat) (w : World) (hn0 : n ≤ 9223372036854775807) (hB : RdB w A n) :
    Calls Try.prog 4 #[.slice A n c] w fun y w' => y = .returned (.bool true) ∧ Below w.heap.size w w' := by
  by_cases hn : n ≤ 1048576
  case neg =>
    have hbig : decide (1048576 < n) = true := by simp; omega
    go_enter Try.func4, Try.ntmps4
    go_wp2_with fail
    refine (big_any A n c _).mono ?_
    rintro y _ ⟨rfl, rfl⟩
    go_wp2
    go_ret
    exact ⟨rfl, Below.refl _ _⟩
  have HB := Lib.hid hB
  clear hB
  have hbig : decide (1048576 < n) = false := by simpa using hn
  go_enter Try.func4, Try.ntmps4
  go_wp2_with fail
  refine (big_any A n c _).mono ?_
  rintro y _ ⟨rfl, rfl⟩
  go_wp2_with fail
  refine (drawQueueOf_any A n c _ hn HB.out).mono ?_
  rintro y w1 ⟨A1, n1, cr, r, es, P, m, pc, ps, cab, now, rfl, hn1, hnc1, hR, hm7, hmc, hcm, ho1, hop, hb1, hsh⟩
  obtain ⟨ok, hok⟩ := okF_ex n1 es r now ps cab
  have HK := Lib.hid hok
  clear hok hsh hR
  have hn4 : n1 ≤ 4194304 := by omega
  have s1 := hb1.size
  have X1 := Lib.hid (Bx.rules w1 30 A1 n1 cr r)
  have O1 := Lib.hid (ho1.alloc_ (.cells #[.slice A1 n1 cr, .int .i64 (r 1), .int .i64 (r 2), .int .i64 (r 3), .int .i64 (r 4), .int .i64 (r 5), .int .i64 (r 6), .int .i64 (r 7), .int .i64 (r 8)] 30))
  have P1 := Lib.hid (hop.alloc_ (.cells #[.slice A1 n1 cr, .int .i64 (r 1), .int .i64 (r 2), .int .i64 (r 3), .int .i64 (r 4), .int .i64 (r 5), .int .i64 (r 6), .int .i64 (r 7), .int .i64 (r 8)] 30))
  clear ho1 hop
  have rc0 : _ = some (Value.slice A1 n1 cr) := X1.out.2.2 0 (by omega)
  have rc1 : _ = some (Value.int .i64 (r 1)) := X1.out.2.2 1 (by omega)
  have rc2 : _ = some (Value.int .i64 (r 2)) := X1.out.2.2 2 (by omega)
  have rc3 : _ = some (Value.int .i64 (r 3)) := X1.out.2.2 3 (by omega)
  have rc4 : _ = some (Value.int .i64 (r 4)) := X1.out.2.2 4 (by omega)
  have rc5 : _ = some (Value.int .i64 (r 5)) := X1.out.2.2 5 (by omega)
  have rc6 : _ = some (Value.int .i64 (r 6)) := X1.out.2.2 6 (by omega)
  have rc7 : _ = some (Value.int .i64 (r 7)) := X1.out.2.2 7 (by omega)
  have rc8 : _ = some (Value.int .i64 (r 8)) := X1.out.2.2 8 (by omega)
  go_wp2_with fail
  refine (iQueueOf_any A1 n1 cr es r P m pc ps cab now ok _ hn4 (by omega) O1.out.rd P1.out.rd HK.out).mono ?_
  rintro y w2 ⟨A2, q, c2, rfl, ho2, hqc, hb2⟩
  clear rc0 rc1 rc2 rc3 rc4 rc5 rc6 rc7 rc8
  have HX := Lib.hid (X1.out.below hb2)
  have H := Lib.hid (O1.out.rd.below hb2)
  have HP := Lib.hid (P1.out.rd.below hb2)
  have HQ := Lib.hid ho2
  have s2 := hb2.size
  (try simp at s2)
  have HB2 : Hid (Below w.heap.size w w2) := Lib.hid (bel_tr hb2 (by (first | omega | (simp; omega) | simp)) (bel_alloc (by omega) hb1 _))
  have hq7 : q ≤ m := by (have h1 := ho2.1; have h2 := entL_len ok r now ps m; rw [sortR_len] at h1; omega)
  have HLQ : Hid ((entL ok r now ps m).length = q) := Lib.hid (by (have h1 := ho2.1; rw [sortR_len] at h1; exact h1))
  clear ho2 hb2 hb1 X1 O1 P1
  go_wp2
  go_loopw [2, 8, 9] (fun s2 s8 s9 wr => ∃ i : Nat, i ≤ m ∧ s9 = .int .i64 i ∧ s8 = .int .i64 (((entL ok r now ps i).length : Nat) : Int) ∧ s2 = .bool false ∧ Below w2.heap.size w2 wr) (fun _ _ s9 _ => m - (intOf s9).toNat)
  case atStart => exact ⟨0, Nat.zero_le _, rfl, rfl, rfl, Below.refl _ _⟩
  case round =>
    obtain ⟨i, hi, rfl, rfl, rfl, hbel⟩ := hrel
    have hsz := hbel.size
    have hel := entL_len ok r now ps i
    by_cases hlt : i < m
    case pos =>
      have hii : (i : Int) < (m : Int) := by omega
      have hi0 : (0 : Int) ≤ (i : Int) := by omega
      have hlw : IntKind.i64.wrap ((((entL ok r now ps i).length : Nat) : Int) + 1) = (((entL ok r now ps i).length + 1 : Nat) : Int) := by rw [IntKind.wrap_i64]; omega
      obtain ⟨b, off, rfl, hb, hc⟩ := HP.out.2.resolve_left (by omega)
      have c0 : wr.cell? ⟨b, off + i * 10, none⟩ = some (.int .i64 (fld ps i 0)) := (hbel.cell (p := ⟨b, off + i * 10, none⟩) hb).trans (hc i hlt 0 (by omega))
      have c1 : wr.cell? ⟨b, off + i * 10 + 1, none⟩ = some (.int .i64 (fld ps i 1)) := (hbel.cell (p := ⟨b, off + i * 10 + 1, none⟩) hb).trans (hc i hlt 1 (by omega))
      have c2 : wr.cell? ⟨b, off + i * 10 + 2, none⟩ = some (.int .i64 (fld ps i 2)) := (hbel.cell (p := ⟨b, off + i * 10 + 2, none⟩) hb).trans (hc i hlt 2 (by omega))
      have c3 : wr.cell? ⟨b, off + i * 10 + 3, none⟩ = some (.int .i64 (fld ps i 3)) := (hbel.cell (p := ⟨b, off + i * 10 + 3, none⟩) hb).trans (hc i hlt 3 (by omega))
      have c4 : wr.cell? ⟨b, off + i * 10 + 4, none⟩ = some (.int .i64 (fld ps i 4)) := (hbel.cell (p := ⟨b, off + i * 10 + 4, none⟩) hb).trans (hc i hlt 4 (by omega))
      have c5 : wr.cell? ⟨b, off + i * 10 + 5, none⟩ = some (.int .i64 (fld ps i 5)) := (hbel.cell (p := ⟨b, off + i * 10 + 5, none⟩) hb).trans (hc i hlt 5 (by omega))
      have c6 : wr.cell? ⟨b, off + i * 10 + 6, none⟩ = some (.int .i64 (fld ps i 6)) := (hbel.cell (p := ⟨b, off + i * 10 + 6, none⟩) hb).trans (hc i hlt 6 (by omega))
      have c7 : wr.cell? ⟨b, off + i * 10 + 7, none⟩ = some (.int .i64 (fld ps i 7)) := (hbel.cell (p := ⟨b, off + i * 10 + 7, none⟩) hb).trans (hc i hlt 7 (by omega))
      have c8 : wr.cell? ⟨b, off + i * 10 + 8, none⟩ = some (.int .i64 (fld ps i 8)) := (hbel.cell (p := ⟨b, off + i * 10 + 8, none⟩) hb).trans (hc i hlt 8 (by omega))
      have c9 : wr.cell? ⟨b, off + i * 10 + 9, none⟩ = some (.int .i64 (fld ps i 9)) := (hbel.cell (p := ⟨b, off + i * 10 + 9, none⟩) hb).trans (hc i hlt 9 (by omega))
      clear hc
      have hbw : b < wr.heap.size := by have := hbel.size; omega
      have XR := HX.out.below hbel
      have rc0 : _ = some (Value.slice A1 n1 cr) := XR.2.2 0 (by omega)
      have rc1 : _ = some (Value.int .i64 (r 1)) := XR.2.2 1 (by omega)
      have rc2 : _ = some (Value.int .i64 (r 2)) := XR.2.2 2 (by omega)
      have rc3 : _ = some (Value.int .i64 (r 3)) := XR.2.2 3 (by omega)
      have rc4 : _ = some (Value.int .i64 (r 4)) := XR.2.2 4 (by omega)
      have rc5 : _ = some (Value.int .i64 (r 5)) := XR.2.2 5 (by omega)
      have rc6 : _ = some (Value.int .i64 (r 6)) := XR.2.2 6 (by omega)
      have rc7 : _ = some (Value.int .i64 (r 7)) := XR.2.2 7 (by omega)
      have rc8 : _ = some (Value.int .i64 (r 8)) := XR.2.2 8 (by omega)
      have hxw : w1.heap.size < wr.heap.size := XR.1
      clear XR
      rcases Bool.eq_false_or_eq_true (ok i) with t0 | t0
      · have HY := Lib.hid ((HK.out i).1 t0)
        have HL : Hid ((entL ok r now ps (i + 1)).length = (entL ok r now ps i).length + 1) := Lib.hid (by rw [entL_y t0, List.length_append, List.length_singleton])
        have t1 : (fld ps i 1 == cab) = true := by simp [HY.out.2]
        clear t0
        go_upto_region 9 with fail
        go_cut [10, 11] (fun s11 s12 wx => ∃ b11 : Nat, s11 = .pointer (some ⟨b11, 0, none⟩) ∧ s12 = .bool true ∧ wr.heap.size ≤ b11 ∧ b11 < wx.heap.size ∧ wx.cell? ⟨b11, 0, none⟩ = some (.int .i64 (lvlV r (fld ps i) now)) ∧ wx.cell? ⟨b11, 1, none⟩ = some (.int .i64 (fld ps i 6)) ∧ wx.cell? ⟨b11, 2, none⟩ = some (.int .i64 (fld ps i 0)) ∧ wx.cell? ⟨b11, 3, none⟩ = some (.int .i64 (fld ps i 3)) ∧ Hid (Below wr.heap.size wr wx))
        case first =>
          go_region_held3 (fun w' => w'.cell? ⟨w1.heap.size, 0, none⟩ = some (.slice A1 n1 cr) ∧ w'.cell? ⟨w1.heap.size, 1, none⟩ = some (.int .i64 (r 1)) ∧ w'.cell? ⟨w1.heap.size, 2, none⟩ = some (.int .i64 (r 2)) ∧ w'.cell? ⟨w1.heap.size, 3, none⟩ = some (.int .i64 (r 3)) ∧ w'.cell? ⟨w1.heap.size, 4, none⟩ = some (.int .i64 (r 4)) ∧ w'.cell? ⟨w1.heap.size, 5, none⟩ = some (.int .i64 (r 5)) ∧ w'.cell? ⟨w1.heap.size, 6, none⟩ = some (.int .i64 (r 6)) ∧ w'.cell? ⟨w1.heap.size, 7, none⟩ = some (.int .i64 (r 7)) ∧ w'.cell? ⟨w1.heap.size, 8, none⟩ = some (.int .i64 (r 8)) ∧ w'.cell? ⟨b, off + i * 10, none⟩ = some (.int .i64 (fld ps i 0)) ∧ w'.cell? ⟨b, off + i * 10 + 1, none⟩ = some (.int .i64 (fld ps i 1)) ∧ w'.cell? ⟨b, off + i * 10 + 2, none⟩ = some (.int .i64 (fld ps i 2)) ∧ w'.cell? ⟨b, off + i * 10 + 3, none⟩ = some (.int .i64 (fld ps i 3)) ∧ w'.cell? ⟨b, off + i * 10 + 4, none⟩ = some (.int .i64 (fld ps i 4)) ∧ w'.cell? ⟨b, off + i * 10 + 5, none⟩ = some (.int .i64 (fld ps i 5)) ∧ w'.cell? ⟨b, off + i * 10 + 6, none⟩ = some (.int .i64 (fld ps i 6)) ∧ w'.cell? ⟨b, off + i * 10 + 7, none⟩ = some (.int .i64 (fld ps i 7)) ∧ w'.cell? ⟨b, off + i * 10 + 8, none⟩ = some (.int .i64 (fld ps i 8)) ∧ w'.cell? ⟨b, off + i * 10 + 9, none⟩ = some (.int .i64 (fld ps i 9))) ((first | (go_keep; done) | (go_simp; done))) ((go_at_call 21; refine (vpy (spec_EntryOf A1 n1 cr es r (fld ps i) now _ hn4 (H.out.below (by (repeat (first | with_reducible exact Below.refl _ _ | with_reducible refine Below.drew ?_ | with_reducible refine below_drewN ?_ _ | (with_reducible refine bel_alloc ?_ ?_ _; (first | omega | (simp; omega) | simp)) | (with_reducible refine bel_set ?_ ?_ _; (first | omega | (simp; omega) | simp)) | (with_reducible refine bel_tr (by assumption) ?_ ?_; (first | omega | (simp; omega) | simp))))))) HY.out.1).mono ?_; rintro y w9 ⟨rfl, b9⟩; have s9 := b9.size; (try simp at s9); have kr9 : ∀ o, w9.cell? ⟨w1.heap.size, o, none⟩ = _ := (fun o => b9.cell (p := ⟨w1.heap.size, o, none⟩) (by (first | omega | (simp; omega) | simp))); have kb9 : ∀ o, w9.cell? ⟨b, o, none⟩ = _ := (fun o => b9.cell (p := ⟨b, o, none⟩) (by (first | omega | (simp; omega) | simp))); have kw9 := (fun (hh : wr.heap.size < _) (o : Nat) => b9.cell (p := ⟨wr.heap.size, o, none⟩) hh); have kf9 := (fun (hh : wr.heap.size < _) (o : Nat) => b9.frozen (p := ⟨wr.heap.size, o, none⟩) hh); have kz9 : w1.heap.size < w9.heap.size := (by omega); have ky9 : b < w9.heap.size := (by omega)))
          all_goals
            go_wp2_with fail
            go_meet
            exact ⟨_, rfl, rfl, by (first | omega | (simp; omega) | simp), by (first | omega | (simp; omega) | simp), by (first | (go_keep; done) | (go_simp; done)), by (first | (go_keep; done) | (go_simp; done)), by (first | (go_keep; done) | (go_simp; done)), by (first | (go_keep; done) | (go_simp; done)), Lib.hid (by (repeat (first | with_reducible exact Below.refl _ _ | with_reducible refine Below.drew ?_ | with_reducible refine below_drewN ?_ _ | (with_reducible refine bel_alloc ?_ ?_ _; (first | omega | (simp; omega) | simp)) | (with_reducible refine bel_set ?_ ?_ _; (first | omega | (simp; omega) | simp)) | (with_reducible refine bel_tr (by assumption) ?_ ?_; (first | omega | (simp; omega) | simp)))))⟩
        case rest =>
          obtain ⟨bq, rfl, rfl, hbq1, hbq2, x0, x1, x2, x3, HBx⟩ := hcut
          have hsx := HBx.out.size
          have hbel2 : Below w2.heap.size w2 wc := hbel.trans (HBx.out.mono hsz)
          have hs2c := hbel2.size
          have c1x := (HBx.out.cell (p := ⟨b, off + i * 10 + 1, none⟩) hbw).trans c1
          clear c0 c1 c2 c3 c4 c5 c6 c7 c8 c9 rc0 rc1 rc2 rc3 rc4 rc5 rc6 rc7 rc8
          obtain ⟨w4, hw4⟩ : ∃ w4, w4 = wr := ⟨wr, rfl⟩
          subst hw4
          go_wp2
          go_loopw [12, 14] (fun s12 s14 wr => ∃ j : Nat, j ≤ q ∧ s14 = .int .i64 j ∧ s12 = .int .i64 ((cnt4 (entAt r now ps i) (sortR (entL ok r now ps m)) j : Nat) : Int) ∧ Below wc.heap.size wc wr) (fun _ s14 _ => q - (intOf s14).toNat)
          case atStart => exact ⟨0, Nat.zero_le _, rfl, rfl, Below.refl _ _⟩
          case round =>
            obtain ⟨j, hj, rfl, rfl, hbj⟩ := hrel
            have hcl := cnt4_le (entAt r now ps i) (sortR (entL ok r now ps m)) j
            by_cases hlt : j < q
            case pos =>
              have hji : (j : Int) < (q : Int) := by omega
              have hj0 : (0 : Int) ≤ (j : Int) := by omega
              obtain ⟨g, o2, rfl, hg, hc2⟩ := HQ.out.rd.2.resolve_left (by omega)
              have d0 : wr.cell? ⟨g, o2 + j * 4, none⟩ = some (.int .i64 (fld (sortR (entL ok r now ps m)) j 0)) := ((hbel2.trans (hbj.mono hs2c)).cell (p := ⟨g, o2 + j * 4, none⟩) hg).trans (hc2 j hlt 0 (by omega))
              have d1 : wr.cell? ⟨g, o2 + j * 4 + 1, none⟩ = some (.int .i64 (fld (sortR (entL ok r now ps m)) j 1)) := ((hbel2.trans (hbj.mono hs2c)).cell (p := ⟨g, o2 + j * 4 + 1, none⟩) hg).trans (hc2 j hlt 1 (by omega))
              have d2 : wr.cell? ⟨g, o2 + j * 4 + 2, none⟩ = some (.int .i64 (fld (sortR (entL ok r now ps m)) j 2)) := ((hbel2.trans (hbj.mono hs2c)).cell (p := ⟨g, o2 + j * 4 + 2, none⟩) hg).trans (hc2 j hlt 2 (by omega))
              have d3 : wr.cell? ⟨g, o2 + j * 4 + 3, none⟩ = some (.int .i64 (fld (sortR (entL ok r now ps m)) j 3)) := ((hbel2.trans (hbj.mono hs2c)).cell (p := ⟨g, o2 + j * 4 + 3, none⟩) hg).trans (hc2 j hlt 3 (by omega))
              have y0 : wr.cell? ⟨bq, 0, none⟩ = some (.int .i64 (lvlV r (fld ps i) now)) := (hbj.cell (p := ⟨bq, 0, none⟩) hbq2).trans x0
              have y1 : wr.cell? ⟨bq, 1, none⟩ = some (.int .i64 (fld ps i 6)) := (hbj.cell (p := ⟨bq, 1, none⟩) hbq2).trans x1
              have y2 : wr.cell? ⟨bq, 2, none⟩ = some (.int .i64 (fld ps i 0)) := (hbj.cell (p := ⟨bq, 2, none⟩) hbq2).trans x2
              have y3 : wr.cell? ⟨bq, 3, none⟩ = some (.int .i64 (fld ps i 3)) := (hbj.cell (p := ⟨bq, 3, none⟩) hbq2).trans x3
              clear hc2
              have hcw : IntKind.i64.wrap (((cnt4 (entAt r now ps i) (sortR (entL ok r now ps m)) j : Nat) : Int) + 1) = ((cnt4 (entAt r now ps i) (sortR (entL ok r now ps m)) j + 1 : Nat) : Int) := by rw [IntKind.wrap_i64]; omega
              by_cases e0 : fld (sortR (entL ok r now ps m)) j 0 = lvlV r (fld ps i) now
              case neg =>
                have HN : Hid (cnt4 (entAt r now ps i) (sortR (entL ok r now ps m)) (j + 1) = cnt4 (entAt r now ps i) (sortR (entL ok r now ps m)) j) := Lib.hid (cnt4_n (by rw [HQ.out.1]; exact hlt) (Bool.eq_false_iff.2 fun hh => e0 (eq4_iff.1 hh).1))
                go_wp2
                go_region
                all_goals
                  go_wp2
                  go_roundw
                  case rel => exact ⟨j + 1, by omega, by go_num, by rw [HN.out], by (repeat (first | with_reducible exact Below.refl _ _ | with_reducible refine Below.drew ?_ | with_reducible refine below_drewN ?_ _ | (with_reducible refine bel_alloc ?_ ?_ _; (first | omega | (simp; omega) | simp)) | (with_reducible refine bel_set ?_ ?_ _; (first | omega | (simp; omega) | simp)) | (with_reducible refine bel_tr (by assumption) ?_ ?_; (first | omega | (simp; omega) | simp))))⟩
                  case measure => simp [intOf]; omega
              by_cases e1 : fld (sortR (entL ok r now ps m)) j 1 = fld ps i 6
              case neg =>
                have HN : Hid (cnt4 (entAt r now ps i) (sortR (entL ok r now ps m)) (j + 1) = cnt4 (entAt r now ps i) (sortR (entL ok r now ps m)) j) := Lib.hid (cnt4_n (by rw [HQ.out.1]; exact hlt) (Bool.eq_false_iff.2 fun hh => e1 (eq4_iff.1 hh).2.1))
                go_wp2
                go_region
                all_goals
                  go_wp2
                  go_roundw
                  case rel => exact ⟨j + 1, by omega, by go_num, by rw [HN.out], by (repeat (first | with_reducible exact Below.refl _ _ | with_reducible refine Below.drew ?_ | with_reducible refine below_drewN ?_ _ | (with_reducible refine bel_alloc ?_ ?_ _; (first | omega | (simp; omega) | simp)) | (with_reducible refine bel_set ?_ ?_ _; (first | omega | (simp; omega) | simp)) | (with_reducible refine bel_tr (by assumption) ?_ ?_; (first | omega | (simp; omega) | simp))))⟩
                  case measure => simp [intOf]; omega
              by_cases e2 : fld (sortR (entL ok r now ps m)) j 2 = fld ps i 0
              case neg =>
                have HN : Hid (cnt4 (entAt r now ps i) (sortR (entL ok r now ps m)) (j + 1) = cnt4 (entAt r now ps i) (sortR (entL ok r now ps m)) j) := Lib.hid (cnt4_n (by rw [HQ.out.1]; exact hlt) (Bool.eq_false_iff.2 fun hh => e2 (eq4_iff.1 hh).2.2.1))
                go_wp2
                go_region
                all_goals
                  go_wp2
                  go_roundw
                  case rel => exact ⟨j + 1, by omega, by go_num, by rw [HN.out], by (repeat (first | with_reducible exact Below.refl _ _ | with_reducible refine Below.drew ?_ | with_reducible refine below_drewN ?_ _ | (with_reducible refine bel_alloc ?_ ?_ _; (first | omega | (simp; omega) | simp)) | (with_reducible refine bel_set ?_ ?_ _; (first | omega | (simp; omega) | simp)) | (with_reducible refine bel_tr (by assumption) ?_ ?_; (first | omega | (simp; omega) | simp))))⟩
                  case measure => simp [intOf]; omega
              by_cases e3 : fld (sortR (entL ok r now ps m)) j 3 = fld ps i 3
              case neg =>
                have HN : Hid (cnt4 (entAt r now ps i) (sortR (entL ok r now ps m)) (j + 1) = cnt4 (entAt r now ps i) (sortR (entL ok r now ps m)) j) := Lib.hid (cnt4_n (by rw [HQ.out.1]; exact hlt) (Bool.eq_false_iff.2 fun hh => e3 (eq4_iff.1 hh).2.2.2))
                go_wp2
                go_region
                all_goals
                  go_wp2
                  go_roundw
                  case rel => exact ⟨j + 1, by omega, by go_num, by rw [HN.out], by (repeat (first | with_reducible exact Below.refl _ _ | with_reducible refine Below.drew ?_ | with_reducible refine below_drewN ?_ _ | (with_reducible refine bel_alloc ?_ ?_ _; (first | omega | (simp; omega) | simp)) | (with_reducible refine bel_set ?_ ?_ _; (first | omega | (simp; omega) | simp)) | (with_reducible refine bel_tr (by assumption) ?_ ?_; (first | omega | (simp; omega) | simp))))⟩
                  case measure => simp [intOf]; omega
              have HN : Hid (cnt4 (entAt r now ps i) (sortR (entL ok r now ps m)) (j + 1) = cnt4 (entAt r now ps i) (sortR (entL ok r now ps m)) j + 1) := Lib.hid (cnt4_y (by rw [HQ.out.1]; exact hlt) (eq4_iff.2 ⟨e0, e1, e2, e3⟩))
              go_wp2
              go_region
              all_goals
                go_wp2
                go_roundw
                case rel => exact ⟨j + 1, by omega, by go_num, by rw [HN.out]; go_num, by (repeat (first | with_reducible exact Below.refl _ _ | with_reducible refine Below.drew ?_ | with_reducible refine below_drewN ?_ _ | (with_reducible refine bel_alloc ?_ ?_ _; (first | omega | (simp; omega) | simp)) | (with_reducible refine bel_set ?_ ?_ _; (first | omega | (simp; omega) | simp)) | (with_reducible refine bel_tr (by assumption) ?_ ?_; (first | omega | (simp; omega) | simp))))⟩
                case measure => simp [intOf]; omega
            have hjq : j = q := by omega
            subst hjq
            have hji : ¬ (j : Int) < (j : Int) := by omega
            have HC := Lib.hid (cnt4_sort (entAt r now ps i) (entL ok r now ps m) HQ.out.1)
            obtain ⟨cn, hcn⟩ : ∃ cn, cnt4 (entAt r now ps i) (sortR (entL ok r now ps m)) j = cn := ⟨_, rfl⟩
            rw [hcn]
            have HC2 : Hid ((entL ok r now ps m).countP (eq4 (entAt r now ps i)) = cn) := Lib.hid (HC.out.symm.trans hcn)
            clear hcn HC hcl hlt
            obtain ⟨w5, hw5⟩ : ∃ w5, w5 = wr := ⟨wr, rfl⟩
            subst hw5
            go_wp2
            go_loopw [13, 15] (fun s13 s15 wr => ∃ k : Nat, k ≤ m ∧ s15 = .int .i64 k ∧ s13 = .int .i64 (((entL ok r now ps k).countP (eq4 (entAt r now ps i)) : Nat) : Int) ∧ Below wc.heap.size wc wr) (fun _ s15 _ => m - (intOf s15).toNat)
            case atStart => exact ⟨0, Nat.zero_le _, rfl, rfl, hbj⟩
            case round =>
              clear hbj
              obtain ⟨k, hk, rfl, rfl, hbk⟩ := hrel
              have hcl := cntL_le ok r now ps k (entAt r now ps i)
              have hbel3 : Below w2.heap.size w2 wr := hbel2.trans (hbk.mono hs2c)
              have hs3 := hbk.size
              by_cases hlt : k < m
              case pos =>
                have hki : (k : Int) < (m : Int) := by omega
                have hk0 : (0 : Int) ≤ (k : Int) := by omega
                obtain ⟨b9, off9, hPe, hb9, hc⟩ := HP.out.2.resolve_left (by omega)
                injection hPe with hPe
                injection hPe with hbe hoe
                subst hbe hoe
                have c0 : wr.cell? ⟨b, off + k * 10, none⟩ = some (.int .i64 (fld ps k 0)) := (hbel3.cell (p := ⟨b, off + k * 10, none⟩) hb).trans (hc k hlt 0 (by omega))
                have c1 : wr.cell? ⟨b, off + k * 10 + 1, none⟩ = some (.int .i64 (fld ps k 1)) := (hbel3.cell (p := ⟨b, off + k * 10 + 1, none⟩) hb).trans (hc k hlt 1 (by omega))
                have c2 : wr.cell? ⟨b, off + k * 10 + 2, none⟩ = some (.int .i64 (fld ps k 2)) := (hbel3.cell (p := ⟨b, off + k * 10 + 2, none⟩) hb).trans (hc k hlt 2 (by omega))
                have c3 : wr.cell? ⟨b, off + k * 10 + 3, none⟩ = some (.int .i64 (fld ps k 3)) := (hbel3.cell (p := ⟨b, off + k * 10 + 3, none⟩) hb).trans (hc k hlt 3 (by omega))
                have c4 : wr.cell? ⟨b, off + k * 10 + 4, none⟩ = some (.int .i64 (fld ps k 4)) := (hbel3.cell (p := ⟨b, off + k * 10 + 4, none⟩) hb).trans (hc k hlt 4 (by omega))
                have c5 : wr.cell? ⟨b, off + k * 10 + 5, none⟩ = some (.int .i64 (fld ps k 5)) := (hbel3.cell (p := ⟨b, off + k * 10 + 5, none⟩) hb).trans (hc k hlt 5 (by omega))
                have c6 : wr.cell? ⟨b, off + k * 10 + 6, none⟩ = some (.int .i64 (fld ps k 6)) := (hbel3.cell (p := ⟨b, off + k * 10 + 6, none⟩) hb).trans (hc k hlt 6 (by omega))
                have c7 : wr.cell? ⟨b, off + k * 10 + 7, none⟩ = some (.int .i64 (fld ps k 7)) := (hbel3.cell (p := ⟨b, off + k * 10 + 7, none⟩) hb).trans (hc k hlt 7 (by omega))
                have c8 : wr.cell? ⟨b, off + k * 10 + 8, none⟩ = some (.int .i64 (fld ps k 8)) := (hbel3.cell (p := ⟨b, off + k * 10 + 8, none⟩) hb).trans (hc k hlt 8 (by omega))
                have c9 : wr.cell? ⟨b, off + k * 10 + 9, none⟩ = some (.int .i64 (fld ps k 9)) := (hbel3.cell (p := ⟨b, off + k * 10 + 9, none⟩) hb).trans (hc k hlt 9 (by omega))
                clear hc
                have hbw : b < wr.heap.size := by have := hbel3.size; omega
                have XR := HX.out.below hbel3
                have rc0 : _ = some (Value.slice A1 n1 cr) := XR.2.2 0 (by omega)
                have rc1 : _ = some (Value.int .i64 (r 1)) := XR.2.2 1 (by omega)
                have rc2 : _ = some (Value.int .i64 (r 2)) := XR.2.2 2 (by omega)
                have rc3 : _ = some (Value.int .i64 (r 3)) := XR.2.2 3 (by omega)
                have rc4 : _ = some (Value.int .i64 (r 4)) := XR.2.2 4 (by omega)
                have rc5 : _ = some (Value.int .i64 (r 5)) := XR.2.2 5 (by omega)
                have rc6 : _ = some (Value.int .i64 (r 6)) := XR.2.2 6 (by omega)
                have rc7 : _ = some (Value.int .i64 (r 7)) := XR.2.2 7 (by omega)
                have rc8 : _ = some (Value.int .i64 (r 8)) := XR.2.2 8 (by omega)
                have hxw : w1.heap.size < wr.heap.size := XR.1
                clear XR
                have y0 : wr.cell? ⟨bq, 0, none⟩ = some (.int .i64 (lvlV r (fld ps i) now)) := (hbk.cell (p := ⟨bq, 0, none⟩) hbq2).trans x0
                have y1 : wr.cell? ⟨bq, 1, none⟩ = some (.int .i64 (fld ps i 6)) := (hbk.cell (p := ⟨bq, 1, none⟩) hbq2).trans x1
                have y2 : wr.cell? ⟨bq, 2, none⟩ = some (.int .i64 (fld ps i 0)) := (hbk.cell (p := ⟨bq, 2, none⟩) hbq2).trans x2
                have y3 : wr.cell? ⟨bq, 3, none⟩ = some (.int .i64 (fld ps i 3)) := (hbk.cell (p := ⟨bq, 3, none⟩) hbq2).trans x3
                have hcw : IntKind.i64.wrap ((((entL ok r now ps k).countP (eq4 (entAt r now ps i)) : Nat) : Int) + 1) = (((entL ok r now ps k).countP (eq4 (entAt r now ps i)) + 1 : Nat) : Int) := by rw [IntKind.wrap_i64]; omega
                have hbqr : bq < wr.heap.size := by omega
                rcases Bool.eq_false_or_eq_true (ok k) with t0 | t0
                · have HY := Lib.hid ((HK.out k).1 t0)
                  have t1 : (fld ps k 1 == cab) = true := by simp [HY.out.2]
                  have HT0 := Lib.hid t0
                  clear t0
                  go_upto_region 22 with fail
                  go_cut [16, 17] (fun s11 s12 wx => ∃ b11 : Nat, s11 = .pointer (some ⟨b11, 0, none⟩) ∧ s12 = .bool true ∧ wr.heap.size ≤ b11 ∧ b11 < wx.heap.size ∧ wx.cell? ⟨b11, 0, none⟩ = some (.int .i64 (lvlV r (fld ps k) now)) ∧ wx.cell? ⟨b11, 1, none⟩ = some (.int .i64 (fld ps k 6)) ∧ wx.cell? ⟨b11, 2, none⟩ = some (.int .i64 (fld ps k 0)) ∧ wx.cell? ⟨b11, 3, none⟩ = some (.int .i64 (fld ps k 3)) ∧ Hid (Below wr.heap.size wr wx))
                  case first =>
                    go_region_held3 (fun w' => w'.cell? ⟨w1.heap.size, 0, none⟩ = some (.slice A1 n1 cr) ∧ w'.cell? ⟨w1.heap.size, 1, none⟩ = some (.int .i64 (r 1)) ∧ w'.cell? ⟨w1.heap.size, 2, none⟩ = some (.int .i64 (r 2)) ∧ w'.cell? ⟨w1.heap.size, 3, none⟩ = some (.int .i64 (r 3)) ∧ w'.cell? ⟨w1.heap.size, 4, none⟩ = some (.int .i64 (r 4)) ∧ w'.cell? ⟨w1.heap.size, 5, none⟩ = some (.int .i64 (r 5)) ∧ w'.cell? ⟨w1.heap.size, 6, none⟩ = some (.int .i64 (r 6)) ∧ w'.cell? ⟨w1.heap.size, 7, none⟩ = some (.int .i64 (r 7)) ∧ w'.cell? ⟨w1.heap.size, 8, none⟩ = some (.int .i64 (r 8)) ∧ w'.cell? ⟨b, off + k * 10, none⟩ = some (.int .i64 (fld ps k 0)) ∧ w'.cell? ⟨b, off + k * 10 + 1, none⟩ = some (.int .i64 (fld ps k 1)) ∧ w'.cell? ⟨b, off + k * 10 + 2, none⟩ = some (.int .i64 (fld ps k 2)) ∧ w'.cell? ⟨b, off + k * 10 + 3, none⟩ = some (.int .i64 (fld ps k 3)) ∧ w'.cell? ⟨b, off + k * 10 + 4, none⟩ = some (.int .i64 (fld ps k 4)) ∧ w'.cell? ⟨b, off + k * 10 + 5, none⟩ = some (.int .i64 (fld ps k 5)) ∧ w'.cell? ⟨b, off + k * 10 + 6, none⟩ = some (.int .i64 (fld ps k 6)) ∧ w'.cell? ⟨b, off + k * 10 + 7, none⟩ = some (.int .i64 (fld ps k 7)) ∧ w'.cell? ⟨b, off + k * 10 + 8, none⟩ = some (.int .i64 (fld ps k 8)) ∧ w'.cell? ⟨b, off + k * 10 + 9, none⟩ = some (.int .i64 (fld ps k 9))) ((first | (go_keep; done) | (go_simp; done))) ((go_at_call 21; refine (vpy (spec_EntryOf A1 n1 cr es r (fld ps k) now _ hn4 (H.out.below (by (repeat (first | with_reducible exact Below.refl _ _ | with_reducible refine Below.drew ?_ | with_reducible refine below_drewN ?_ _ | (with_reducible refine bel_alloc ?_ ?_ _; (first | omega | (simp; omega) | simp)) | (with_reducible refine bel_set ?_ ?_ _; (first | omega | (simp; omega) | simp)) | (with_reducible refine bel_tr (by assumption) ?_ ?_; (first | omega | (simp; omega) | simp))))))) HY.out.1).mono ?_; rintro y w9 ⟨rfl, b9⟩; have s9 := b9.size; (try simp at s9); have kr9 : ∀ o, w9.cell? ⟨w1.heap.size, o, none⟩ = _ := (fun o => b9.cell (p := ⟨w1.heap.size, o, none⟩) (by (first | omega | (simp; omega) | simp))); have kb9 : ∀ o, w9.cell? ⟨b, o, none⟩ = _ := (fun o => b9.cell (p := ⟨b, o, none⟩) (by (first | omega | (simp; omega) | simp))); have kw9 := (fun (hh : wr.heap.size < _) (o : Nat) => b9.cell (p := ⟨wr.heap.size, o, none⟩) hh); have kf9 := (fun (hh : wr.heap.size < _) (o : Nat) => b9.frozen (p := ⟨wr.heap.size, o, none⟩) hh); have kz9 : w1.heap.size < w9.heap.size := (by omega); have ky9 : b < w9.heap.size := (by omega)))
                    all_goals
                      go_wp2_with fail
                      go_meet
                      exact ⟨_, rfl, rfl, by (first | omega | (simp; omega) | simp), by (first | omega | (simp; omega) | simp), by (first | (go_keep; done) | (go_simp; done)), by (first | (go_keep; done) | (go_simp; done)), by (first | (go_keep; done) | (go_simp; done)), by (first | (go_keep; done) | (go_simp; done)), Lib.hid (by (repeat (first | with_reducible exact Below.refl _ _ | with_reducible refine Below.drew ?_ | with_reducible refine below_drewN ?_ _ | (with_reducible refine bel_alloc ?_ ?_ _; (first | omega | (simp; omega) | simp)) | (with_reducible refine bel_set ?_ ?_ _; (first | omega | (simp; omega) | simp)) | (with_reducible refine bel_tr (by assumption) ?_ ?_; (first | omega | (simp; omega) | simp)))))⟩
                  case rest =>
                    obtain ⟨bz, rfl, rfl, hbz1, hbz2, z0, z1, z2, z3, HBz⟩ := hcut
                    have hsz := HBz.out.size
                    have hbel4 := hbk.trans (HBz.out.mono hs3)
                    have v0 : _ = some (Value.int .i64 (lvlV r (fld ps i) now)) := (HBz.out.cell (p := ⟨bq, 0, none⟩) hbqr).trans y0
                    have v1 : _ = some (Value.int .i64 (fld ps i 6)) := (HBz.out.cell (p := ⟨bq, 1, none⟩) hbqr).trans y1
                    have v2 : _ = some (Value.int .i64 (fld ps i 0)) := (HBz.out.cell (p := ⟨bq, 2, none⟩) hbqr).trans y2
                    have v3 : _ = some (Value.int .i64 (fld ps i 3)) := (HBz.out.cell (p := ⟨bq, 3, none⟩) hbqr).trans y3
                    have c1x := (HBz.out.cell (p := ⟨b, off + k * 10 + 1, none⟩) hbw).trans c1
                    by_cases e0 : lvlV r (fld ps k) now = lvlV r (fld ps i) now
                    case neg =>
                      have HN : Hid ((entL ok r now ps (k + 1)).countP (eq4 (entAt r now ps i)) = (entL ok r now ps k).countP (eq4 (entAt r now ps i))) := Lib.hid (cntL_n HT0.out (Bool.eq_false_iff.2 fun hh => e0 (eq4_iff.1 hh).1))
                      go_wp2
                      go_roundw
                      case rel => exact ⟨k + 1, by omega, by go_num, by rw [HN.out], by first | exact hbel4 | (repeat (first | with_reducible exact Below.refl _ _ | with_reducible refine Below.drew ?_ | with_reducible refine below_drewN ?_ _ | (with_reducible refine bel_alloc ?_ ?_ _; (first | omega | (simp; omega) | simp)) | (with_reducible refine bel_set ?_ ?_ _; (first | omega | (simp; omega) | simp)) | (with_reducible refine bel_tr (by assumption) ?_ ?_; (first | omega | (simp; omega) | simp))))⟩
                      case measure => simp [intOf]; omega
                    by_cases e1 : fld ps k 6 = fld ps i 6
                    case neg =>
                      have HN : Hid ((entL ok r now ps (k + 1)).countP (eq4 (entAt r now ps i)) = (entL ok r now ps k).countP (eq4 (entAt r now ps i))) := Lib.hid (cntL_n HT0.out (Bool.eq_false_iff.2 fun hh => e1 (eq4_iff.1 hh).2.1))
                      go_wp2
                      go_roundw
                      case rel => exact ⟨k + 1, by omega, by go_num, by rw [HN.out], by first | exact hbel4 | (repeat (first | with_reducible exact Below.refl _ _ | with_reducible refine Below.drew ?_ | with_reducible refine below_drewN ?_ _ | (with_reducible refine bel_alloc ?_ ?_ _; (first | omega | (simp; omega) | simp)) | (with_reducible refine bel_set ?_ ?_ _; (first | omega | (simp; omega) | simp)) | (with_reducible refine bel_tr (by assumption) ?_ ?_; (first | omega | (simp; omega) | simp))))⟩
                      case measure => simp [intOf]; omega
                    by_cases e2 : fld ps k 0 = fld ps i 0
                    case neg =>
                      have HN : Hid ((entL ok r now ps (k + 1)).countP (eq4 (entAt r now ps i)) = (entL ok r now ps k).countP (eq4 (entAt r now ps i))) := Lib.hid (cntL_n HT0.out (Bool.eq_false_iff.2 fun hh => e2 (eq4_iff.1 hh).2.2.1))
                      go_wp2
                      go_roundw
                      case rel => exact ⟨k + 1, by omega, by go_num, by rw [HN.out], by first | exact hbel4 | (repeat (first | with_reducible exact Below.refl _ _ | with_reducible refine Below.drew ?_ | with_reducible refine below_drewN ?_ _ | (with_reducible refine bel_alloc ?_ ?_ _; (first | omega | (simp; omega) | simp)) | (with_reducible refine bel_set ?_ ?_ _; (first | omega | (simp; omega) | simp)) | (with_reducible refine bel_tr (by assumption) ?_ ?_; (first | omega | (simp; omega) | simp))))⟩
                      case measure => simp [intOf]; omega
                    by_cases e3 : fld ps k 3 = fld ps i 3
                    case neg =>
                      have HN : Hid ((entL ok r now ps (k + 1)).countP (eq4 (entAt r now ps i)) = (entL ok r now ps k).countP (eq4 (entAt r now ps i))) := Lib.hid (cntL_n HT0.out (Bool.eq_false_iff.2 fun hh => e3 (eq4_iff.1 hh).2.2.2))
                      go_wp2
                      go_roundw
                      case rel => exact ⟨k + 1, by omega, by go_num, by rw [HN.out], by first | exact hbel4 | (repeat (first | with_reducible exact Below.refl _ _ | with_reducible refine Below.drew ?_ | with_reducible refine below_drewN ?_ _ | (with_reducible refine bel_alloc ?_ ?_ _; (first | omega | (simp; omega) | simp)) | (with_reducible refine bel_set ?_ ?_ _; (first | omega | (simp; omega) | simp)) | (with_reducible refine bel_tr (by assumption) ?_ ?_; (first | omega | (simp; omega) | simp))))⟩
                      case measure => simp [intOf]; omega
                    have HN : Hid ((entL ok r now ps (k + 1)).countP (eq4 (entAt r now ps i)) = (entL ok r now ps k).countP (eq4 (entAt r now ps i)) + 1) := Lib.hid (cntL_y HT0.out (eq4_iff.2 ⟨e0, e1, e2, e3⟩))
                    go_wp2
                    go_roundw
                    case rel => exact ⟨k + 1, by omega, by go_num, by rw [HN.out]; go_num, by first | exact hbel4 | (repeat (first | with_reducible exact Below.refl _ _ | with_reducible refine Below.drew ?_ | with_reducible refine below_drewN ?_ _ | (with_reducible refine bel_alloc ?_ ?_ _; (first | omega | (simp; omega) | simp)) | (with_reducible refine bel_set ?_ ?_ _; (first | omega | (simp; omega) | simp)) | (with_reducible refine bel_tr (by assumption) ?_ ?_; (first | omega | (simp; omega) | simp))))⟩
                    case measure => simp [intOf]; omega
                · have HN : Hid ((entL ok r now ps (k + 1)).countP (eq4 (entAt r now ps i)) = (entL ok r now ps k).countP (eq4 (entAt r now ps i))) := Lib.hid (cntL_no t0)
                  by_cases hE : entP n1 es r (fld ps k) now
                  · have t1 : (fld ps k 1 == cab) = false := by (simp; intro h1; have := (HK.out k).2 ⟨hE, h1⟩; rw [t0] at this; cases this)
                    have HE := Lib.hid hE
                    clear t0 hE
                    go_upto_region 22 with fail
                    go_cut [16, 17] (fun s11 s12 wx => ∃ b11 : Nat, s11 = .pointer (some ⟨b11, 0, none⟩) ∧ s12 = .bool true ∧ wr.heap.size ≤ b11 ∧ b11 < wx.heap.size ∧ wx.cell? ⟨b11, 0, none⟩ = some (.int .i64 (lvlV r (fld ps k) now)) ∧ wx.cell? ⟨b11, 1, none⟩ = some (.int .i64 (fld ps k 6)) ∧ wx.cell? ⟨b11, 2, none⟩ = some (.int .i64 (fld ps k 0)) ∧ wx.cell? ⟨b11, 3, none⟩ = some (.int .i64 (fld ps k 3)) ∧ Hid (Below wr.heap.size wr wx))
                    case first =>
                      go_region_held3 (fun w' => w'.cell? ⟨w1.heap.size, 0, none⟩ = some (.slice A1 n1 cr) ∧ w'.cell? ⟨w1.heap.size, 1, none⟩ = some (.int .i64 (r 1)) ∧ w'.cell? ⟨w1.heap.size, 2, none⟩ = some (.int .i64 (r 2)) ∧ w'.cell? ⟨w1.heap.size, 3, none⟩ = some (.int .i64 (r 3)) ∧ w'.cell? ⟨w1.heap.size, 4, none⟩ = some (.int .i64 (r 4)) ∧ w'.cell? ⟨w1.heap.size, 5, none⟩ = some (.int .i64 (r 5)) ∧ w'.cell? ⟨w1.heap.size, 6, none⟩ = some (.int .i64 (r 6)) ∧ w'.cell? ⟨w1.heap.size, 7, none⟩ = some (.int .i64 (r 7)) ∧ w'.cell? ⟨w1.heap.size, 8, none⟩ = some (.int .i64 (r 8)) ∧ w'.cell? ⟨b, off + k * 10, none⟩ = some (.int .i64 (fld ps k 0)) ∧ w'.cell? ⟨b, off + k * 10 + 1, none⟩ = some (.int .i64 (fld ps k 1)) ∧ w'.cell? ⟨b, off + k * 10 + 2, none⟩ = some (.int .i64 (fld ps k 2)) ∧ w'.cell? ⟨b, off + k * 10 + 3, none⟩ = some (.int .i64 (fld ps k 3)) ∧ w'.cell? ⟨b, off + k * 10 + 4, none⟩ = some (.int .i64 (fld ps k 4)) ∧ w'.cell? ⟨b, off + k * 10 + 5, none⟩ = some (.int .i64 (fld ps k 5)) ∧ w'.cell? ⟨b, off + k * 10 + 6, none⟩ = some (.int .i64 (fld ps k 6)) ∧ w'.cell? ⟨b, off + k * 10 + 7, none⟩ = some (.int .i64 (fld ps k 7)) ∧ w'.cell? ⟨b, off + k * 10 + 8, none⟩ = some (.int .i64 (fld ps k 8)) ∧ w'.cell? ⟨b, off + k * 10 + 9, none⟩ = some (.int .i64 (fld ps k 9))) ((first | (go_keep; done) | (go_simp; done))) ((go_at_call 21; refine (vpy (spec_EntryOf A1 n1 cr es r (fld ps k) now _ hn4 (H.out.below (by (repeat (first | with_reducible exact Below.refl _ _ | with_reducible refine Below.drew ?_ | with_reducible refine below_drewN ?_ _ | (with_reducible refine bel_alloc ?_ ?_ _; (first | omega | (simp; omega) | simp)) | (with_reducible refine bel_set ?_ ?_ _; (first | omega | (simp; omega) | simp)) | (with_reducible refine bel_tr (by assumption) ?_ ?_; (first | omega | (simp; omega) | simp))))))) HE.out).mono ?_; rintro y w9 ⟨rfl, b9⟩; have s9 := b9.size; (try simp at s9); have kr9 : ∀ o, w9.cell? ⟨w1.heap.size, o, none⟩ = _ := (fun o => b9.cell (p := ⟨w1.heap.size, o, none⟩) (by (first | omega | (simp; omega) | simp))); have kb9 : ∀ o, w9.cell? ⟨b, o, none⟩ = _ := (fun o => b9.cell (p := ⟨b, o, none⟩) (by (first | omega | (simp; omega) | simp))); have kw9 := (fun (hh : wr.heap.size < _) (o : Nat) => b9.cell (p := ⟨wr.heap.size, o, none⟩) hh); have kf9 := (fun (hh : wr.heap.size < _) (o : Nat) => b9.frozen (p := ⟨wr.heap.size, o, none⟩) hh); have kz9 : w1.heap.size < w9.heap.size := (by omega); have ky9 : b < w9.heap.size := (by omega)))
                      all_goals
                        go_wp2_with fail
                        go_meet
                        exact ⟨_, rfl, rfl, by (first | omega | (simp; omega) | simp), by (first | omega | (simp; omega) | simp), by (first | (go_keep; done) | (go_simp; done)), by (first | (go_keep; done) | (go_simp; done)), by (first | (go_keep; done) | (go_simp; done)), by (first | (go_keep; done) | (go_simp; done)), Lib.hid (by (repeat (first | with_reducible exact Below.refl _ _ | with_reducible refine Below.drew ?_ | with_reducible refine below_drewN ?_ _ | (with_reducible refine bel_alloc ?_ ?_ _; (first | omega | (simp; omega) | simp)) | (with_reducible refine bel_set ?_ ?_ _; (first | omega | (simp; omega) | simp)) | (with_reducible refine bel_tr (by assumption) ?_ ?_; (first | omega | (simp; omega) | simp)))))⟩
                    case rest =>
                      obtain ⟨bz, rfl, rfl, hbz1, hbz2, z0, z1, z2, z3, HBz⟩ := hcut
                      have hsz := HBz.out.size
                      have hbel4 := hbk.trans (HBz.out.mono hs3)
                      have v0 : _ = some (Value.int .i64 (lvlV r (fld ps i) now)) := (HBz.out.cell (p := ⟨bq, 0, none⟩) hbqr).trans y0
                      have v1 : _ = some (Value.int .i64 (fld ps i 6)) := (HBz.out.cell (p := ⟨bq, 1, none⟩) hbqr).trans y1
                      have v2 : _ = some (Value.int .i64 (fld ps i 0)) := (HBz.out.cell (p := ⟨bq, 2, none⟩) hbqr).trans y2
                      have v3 : _ = some (Value.int .i64 (fld ps i 3)) := (HBz.out.cell (p := ⟨bq, 3, none⟩) hbqr).trans y3
                      have c1x := (HBz.out.cell (p := ⟨b, off + k * 10 + 1, none⟩) hbw).trans c1
                      go_wp2
                      go_roundw
                      case rel => exact ⟨k + 1, by omega, by go_num, by rw [HN.out], by first | exact hbel4 | (repeat (first | with_reducible exact Below.refl _ _ | with_reducible refine Below.drew ?_ | with_reducible refine below_drewN ?_ _ | (with_reducible refine bel_alloc ?_ ?_ _; (first | omega | (simp; omega) | simp)) | (with_reducible refine bel_set ?_ ?_ _; (first | omega | (simp; omega) | simp)) | (with_reducible refine bel_tr (by assumption) ?_ ?_; (first | omega | (simp; omega) | simp))))⟩
                      case measure => simp [intOf]; omega
                  · clear t0
                    go_upto_region 22 with fail
                    go_cut [16, 17] (fun s11 s12 wx => ∃ b11 : Nat, s11 = .pointer (some ⟨b11, 0, none⟩) ∧ s12 = .bool false ∧ wr.heap.size ≤ b11 ∧ b11 < wx.heap.size ∧ wx.cell? ⟨b11, 0, none⟩ = some (.int .i64 (0)) ∧ wx.cell? ⟨b11, 1, none⟩ = some (.int .i64 (0)) ∧ wx.cell? ⟨b11, 2, none⟩ = some (.int .i64 (0)) ∧ wx.cell? ⟨b11, 3, none⟩ = some (.int .i64 (0)) ∧ Hid (Below wr.heap.size wr wx))
                    case first =>
                      go_region_held3 (fun w' => w'.cell? ⟨w1.heap.size, 0, none⟩ = some (.slice A1 n1 cr) ∧ w'.cell? ⟨w1.heap.size, 1, none⟩ = some (.int .i64 (r 1)) ∧ w'.cell? ⟨w1.heap.size, 2, none⟩ = some (.int .i64 (r 2)) ∧ w'.cell? ⟨w1.heap.size, 3, none⟩ = some (.int .i64 (r 3)) ∧ w'.cell? ⟨w1.heap.size, 4, none⟩ = some (.int .i64 (r 4)) ∧ w'.cell? ⟨w1.heap.size, 5, none⟩ = some (.int .i64 (r 5)) ∧ w'.cell? ⟨w1.heap.size, 6, none⟩ = some (.int .i64 (r 6)) ∧ w'.cell? ⟨w1.heap.size, 7, none⟩ = some (.int .i64 (r 7)) ∧ w'.cell? ⟨w1.heap.size, 8, none⟩ = some (.int .i64 (r 8)) ∧ w'.cell? ⟨b, off + k * 10, none⟩ = some (.int .i64 (fld ps k 0)) ∧ w'.cell? ⟨b, off + k * 10 + 1, none⟩ = some (.int .i64 (fld ps k 1)) ∧ w'.cell? ⟨b, off + k * 10 + 2, none⟩ = some (.int .i64 (fld ps k 2)) ∧ w'.cell? ⟨b, off + k * 10 + 3, none⟩ = some (.int .i64 (fld ps k 3)) ∧ w'.cell? ⟨b, off + k * 10 + 4, none⟩ = some (.int .i64 (fld ps k 4)) ∧ w'.cell? ⟨b, off + k * 10 + 5, none⟩ = some (.int .i64 (fld ps k 5)) ∧ w'.cell? ⟨b, off + k * 10 + 6, none⟩ = some (.int .i64 (fld ps k 6)) ∧ w'.cell? ⟨b, off + k * 10 + 7, none⟩ = some (.int .i64 (fld ps k 7)) ∧ w'.cell? ⟨b, off + k * 10 + 8, none⟩ = some (.int .i64 (fld ps k 8)) ∧ w'.cell? ⟨b, off + k * 10 + 9, none⟩ = some (.int .i64 (fld ps k 9))) ((first | (go_keep; done) | (go_simp; done))) ((go_at_call 21; refine (vpn (spec_EntryOf A1 n1 cr es r (fld ps k) now _ hn4 (H.out.below (by (repeat (first | with_reducible exact Below.refl _ _ | with_reducible refine Below.drew ?_ | with_reducible refine below_drewN ?_ _ | (with_reducible refine bel_alloc ?_ ?_ _; (first | omega | (simp; omega) | simp)) | (with_reducible refine bel_set ?_ ?_ _; (first | omega | (simp; omega) | simp)) | (with_reducible refine bel_tr (by assumption) ?_ ?_; (first | omega | (simp; omega) | simp))))))) hE).mono ?_; rintro y w9 ⟨rfl, b9⟩; have s9 := b9.size; (try simp at s9); have kr9 : ∀ o, w9.cell? ⟨w1.heap.size, o, none⟩ = _ := (fun o => b9.cell (p := ⟨w1.heap.size, o, none⟩) (by (first | omega | (simp; omega) | simp))); have kb9 : ∀ o, w9.cell? ⟨b, o, none⟩ = _ := (fun o => b9.cell (p := ⟨b, o, none⟩) (by (first | omega | (simp; omega) | simp))); have kw9 := (fun (hh : wr.heap.size < _) (o : Nat) => b9.cell (p := ⟨wr.heap.size, o, none⟩) hh); have kf9 := (fun (hh : wr.heap.size < _) (o : Nat) => b9.frozen (p := ⟨wr.heap.size, o, none⟩) hh); have kz9 : w1.heap.size < w9.heap.size := (by omega); have ky9 : b < w9.heap.size := (by omega)))
                      all_goals
                        go_wp2_with fail
                        go_meet
                        exact ⟨_, rfl, rfl, by (first | omega | (simp; omega) | simp), by (first | omega | (simp; omega) | simp), by (first | (go_keep; done) | (go_simp; done)), by (first | (go_keep; done) | (go_simp; done)), by (first | (go_keep; done) | (go_simp; done)), by (first | (go_keep; done) | (go_simp; done)), Lib.hid (by (repeat (first | with_reducible exact Below.refl _ _ | with_reducible refine Below.drew ?_ | with_reducible refine below_drewN ?_ _ | (with_reducible refine bel_alloc ?_ ?_ _; (first | omega | (simp; omega) | simp)) | (with_reducible refine bel_set ?_ ?_ _; (first | omega | (simp; omega) | simp)) | (with_reducible refine bel_tr (by assumption) ?_ ?_; (first | omega | (simp; omega) | simp)))))⟩
                    case rest =>
                      obtain ⟨bz, rfl, rfl, hbz1, hbz2, z0, z1, z2, z3, HBz⟩ := hcut
                      have hsz := HBz.out.size
                      have hbel4 := hbk.trans (HBz.out.mono hs3)
                      have v0 : _ = some (Value.int .i64 (lvlV r (fld ps i) now)) := (HBz.out.cell (p := ⟨bq, 0, none⟩) hbqr).trans y0
                      have v1 : _ = some (Value.int .i64 (fld ps i 6)) := (HBz.out.cell (p := ⟨bq, 1, none⟩) hbqr).trans y1
                      have v2 : _ = some (Value.int .i64 (fld ps i 0)) := (HBz.out.cell (p := ⟨bq, 2, none⟩) hbqr).trans y2
                      have v3 : _ = some (Value.int .i64 (fld ps i 3)) := (HBz.out.cell (p := ⟨bq, 3, none⟩) hbqr).trans y3
                      have c1x := (HBz.out.cell (p := ⟨b, off + k * 10 + 1, none⟩) hbw).trans c1
                      go_wp2
                      go_roundw
                      case rel => exact ⟨k + 1, by omega, by go_num, by rw [HN.out], by first | exact hbel4 | (repeat (first | with_reducible exact Below.refl _ _ | with_reducible refine Below.drew ?_ | with_reducible refine below_drewN ?_ _ | (with_reducible refine bel_alloc ?_ ?_ _; (first | omega | (simp; omega) | simp)) | (with_reducible refine bel_set ?_ ?_ _; (first | omega | (simp; omega) | simp)) | (with_reducible refine bel_tr (by assumption) ?_ ?_; (first | omega | (simp; omega) | simp))))⟩
                      case measure => simp [intOf]; omega
              have hkm : k = m := by omega
              subst hkm
              have hki : ¬ (k : Int) < (k : Int) := by omega
              rw [HC2.out]
              go_wp2
              go_roundw
              case rel => exact ⟨i + 1, by omega, by go_num, by rw [HL.out]; go_num, rfl, hbel3⟩
              case measure => simp [intOf]; omega
      · have HL : Hid ((entL ok r now ps (i + 1)).length = (entL ok r now ps i).length) := Lib.hid (by rw [entL_n t0])
        by_cases hE : entP n1 es r (fld ps i) now
        · have t1 : (fld ps i 1 == cab) = false := by (simp; intro h1; have := (HK.out i).2 ⟨hE, h1⟩; rw [t0] at this; cases this)
          have HE := Lib.hid hE
          clear t0 hE
          go_upto_region 9 with fail
          go_cut [10, 11] (fun s11 s12 wx => ∃ b11 : Nat, s11 = .pointer (some ⟨b11, 0, none⟩) ∧ s12 = .bool true ∧ wr.heap.size ≤ b11 ∧ b11 < wx.heap.size ∧ wx.cell? ⟨b11, 0, none⟩ = some (.int .i64 (lvlV r (fld ps i) now)) ∧ wx.cell? ⟨b11, 1, none⟩ = some (.int .i64 (fld ps i 6)) ∧ wx.cell? ⟨b11, 2, none⟩ = some (.int .i64 (fld ps i 0)) ∧ wx.cell? ⟨b11, 3, none⟩ = some (.int .i64 (fld ps i 3)) ∧ Hid (Below wr.heap.size wr wx))
          case first =>
            go_region_held3 (fun w' => w'.cell? ⟨w1.heap.size, 0, none⟩ = some (.slice A1 n1 cr) ∧ w'.cell? ⟨w1.heap.size, 1, none⟩ = some (.int .i64 (r 1)) ∧ w'.cell? ⟨w1.heap.size, 2, none⟩ = some (.int .i64 (r 2)) ∧ w'.cell? ⟨w1.heap.size, 3, none⟩ = some (.int .i64 (r 3)) ∧ w'.cell? ⟨w1.heap.size, 4, none⟩ = some (.int .i64 (r 4)) ∧ w'.cell? ⟨w1.heap.size, 5, none⟩ = some (.int .i64 (r 5)) ∧ w'.cell? ⟨w1.heap.size, 6, none⟩ = some (.int .i64 (r 6)) ∧ w'.cell? ⟨w1.heap.size, 7, none⟩ = some (.int .i64 (r 7)) ∧ w'.cell? ⟨w1.heap.size, 8, none⟩ = some (.int .i64 (r 8)) ∧ w'.cell? ⟨b, off + i * 10, none⟩ = some (.int .i64 (fld ps i 0)) ∧ w'.cell? ⟨b, off + i * 10 + 1, none⟩ = some (.int .i64 (fld ps i 1)) ∧ w'.cell? ⟨b, off + i * 10 + 2, none⟩ = some (.int .i64 (fld ps i 2)) ∧ w'.cell? ⟨b, off + i * 10 + 3, none⟩ = some (.int .i64 (fld ps i 3)) ∧ w'.cell? ⟨b, off + i * 10 + 4, none⟩ = some (.int .i64 (fld ps i 4)) ∧ w'.cell? ⟨b, off + i * 10 + 5, none⟩ = some (.int .i64 (fld ps i 5)) ∧ w'.cell? ⟨b, off + i * 10 + 6, none⟩ = some (.int .i64 (fld ps i 6)) ∧ w'.cell? ⟨b, off + i * 10 + 7, none⟩ = some (.int .i64 (fld ps i 7)) ∧ w'.cell? ⟨b, off + i * 10 + 8, none⟩ = some (.int .i64 (fld ps i 8)) ∧ w'.cell? ⟨b, off + i * 10 + 9, none⟩ = some (.int .i64 (fld ps i 9))) ((first | (go_keep; done) | (go_simp; done))) ((go_at_call 21; refine (vpy (spec_EntryOf A1 n1 cr es r (fld ps i) now _ hn4 (H.out.below (by (repeat (first | with_reducible exact Below.refl _ _ | with_reducible refine Below.drew ?_ | with_reducible refine below_drewN ?_ _ | (with_reducible refine bel_alloc ?_ ?_ _; (first | omega | (simp; omega) | simp)) | (with_reducible refine bel_set ?_ ?_ _; (first | omega | (simp; omega) | simp)) | (with_reducible refine bel_tr (by assumption) ?_ ?_; (first | omega | (simp; omega) | simp))))))) HE.out).mono ?_; rintro y w9 ⟨rfl, b9⟩; have s9 := b9.size; (try simp at s9); have kr9 : ∀ o, w9.cell? ⟨w1.heap.size, o, none⟩ = _ := (fun o => b9.cell (p := ⟨w1.heap.size, o, none⟩) (by (first | omega | (simp; omega) | simp))); have kb9 : ∀ o, w9.cell? ⟨b, o, none⟩ = _ := (fun o => b9.cell (p := ⟨b, o, none⟩) (by (first | omega | (simp; omega) | simp))); have kw9 := (fun (hh : wr.heap.size < _) (o : Nat) => b9.cell (p := ⟨wr.heap.size, o, none⟩) hh); have kf9 := (fun (hh : wr.heap.size < _) (o : Nat) => b9.frozen (p := ⟨wr.heap.size, o, none⟩) hh); have kz9 : w1.heap.size < w9.heap.size := (by omega); have ky9 : b < w9.heap.size := (by omega)))
            all_goals
              go_wp2_with fail
              go_meet
              exact ⟨_, rfl, rfl, by (first | omega | (simp; omega) | simp), by (first | omega | (simp; omega) | simp), by (first | (go_keep; done) | (go_simp; done)), by (first | (go_keep; done) | (go_simp; done)), by (first | (go_keep; done) | (go_simp; done)), by (first | (go_keep; done) | (go_simp; done)), Lib.hid (by (repeat (first | with_reducible exact Below.refl _ _ | with_reducible refine Below.drew ?_ | with_reducible refine below_drewN ?_ _ | (with_reducible refine bel_alloc ?_ ?_ _; (first | omega | (simp; omega) | simp)) | (with_reducible refine bel_set ?_ ?_ _; (first | omega | (simp; omega) | simp)) | (with_reducible refine bel_tr (by assumption) ?_ ?_; (first | omega | (simp; omega) | simp)))))⟩
          case rest =>
            obtain ⟨bq, rfl, rfl, hbq1, hbq2, x0, x1, x2, x3, HBx⟩ := hcut
            have hsx := HBx.out.size
            have hbel2 : Below w2.heap.size w2 wc := hbel.trans (HBx.out.mono hsz)
            have hs2c := hbel2.size
            have c1x := (HBx.out.cell (p := ⟨b, off + i * 10 + 1, none⟩) hbw).trans c1
            go_wp2
            go_roundw
            case rel => exact ⟨i + 1, by omega, by go_num, by rw [HL.out], rfl, hbel2⟩
            case measure => simp [intOf]; omega
        · clear t0
          go_upto_region 9 with fail
          go_cut [10, 11] (fun s11 s12 wx => ∃ b11 : Nat, s11 = .pointer (some ⟨b11, 0, none⟩) ∧ s12 = .bool false ∧ wr.heap.size ≤ b11 ∧ b11 < wx.heap.size ∧ wx.cell? ⟨b11, 0, none⟩ = some (.int .i64 (0)) ∧ wx.cell? ⟨b11, 1, none⟩ = some (.int .i64 (0)) ∧ wx.cell? ⟨b11, 2, none⟩ = some (.int .i64 (0)) ∧ wx.cell? ⟨b11, 3, none⟩ = some (.int .i64 (0)) ∧ Hid (Below wr.heap.size wr wx))
          case first =>
            go_region_held3 (fun w' => w'.cell? ⟨w1.heap.size, 0, none⟩ = some (.slice A1 n1 cr) ∧ w'.cell? ⟨w1.heap.size, 1, none⟩ = some (.int .i64 (r 1)) ∧ w'.cell? ⟨w1.heap.size, 2, none⟩ = some (.int .i64 (r 2)) ∧ w'.cell? ⟨w1.heap.size, 3, none⟩ = some (.int .i64 (r 3)) ∧ w'.cell? ⟨w1.heap.size, 4, none⟩ = some (.int .i64 (r 4)) ∧ w'.cell? ⟨w1.heap.size, 5, none⟩ = some (.int .i64 (r 5)) ∧ w'.cell? ⟨w1.heap.size, 6, none⟩ = some (.int .i64 (r 6)) ∧ w'.cell? ⟨w1.heap.size, 7, none⟩ = some (.int .i64 (r 7)) ∧ w'.cell? ⟨w1.heap.size, 8, none⟩ = some (.int .i64 (r 8)) ∧ w'.cell? ⟨b, off + i * 10, none⟩ = some (.int .i64 (fld ps i 0)) ∧ w'.cell? ⟨b, off + i * 10 + 1, none⟩ = some (.int .i64 (fld ps i 1)) ∧ w'.cell? ⟨b, off + i * 10 + 2, none⟩ = some (.int .i64 (fld ps i 2)) ∧ w'.cell? ⟨b, off + i * 10 + 3, none⟩ = some (.int .i64 (fld ps i 3)) ∧ w'.cell? ⟨b, off + i * 10 + 4, none⟩ = some (.int .i64 (fld ps i 4)) ∧ w'.cell? ⟨b, off + i * 10 + 5, none⟩ = some (.int .i64 (fld ps i 5)) ∧ w'.cell? ⟨b, off + i * 10 + 6, none⟩ = some (.int .i64 (fld ps i 6)) ∧ w'.cell? ⟨b, off + i * 10 + 7, none⟩ = some (.int .i64 (fld ps i 7)) ∧ w'.cell? ⟨b, off + i * 10 + 8, none⟩ = some (.int .i64 (fld ps i 8)) ∧ w'.cell? ⟨b, off + i * 10 + 9, none⟩ = some (.int .i64 (fld ps i 9))) ((first | (go_keep; done) | (go_simp; done))) ((go_at_call 21; refine (vpn (spec_EntryOf A1 n1 cr es r (fld ps i) now _ hn4 (H.out.below (by (repeat (first | with_reducible exact Below.refl _ _ | with_reducible refine Below.drew ?_ | with_reducible refine below_drewN ?_ _ | (with_reducible refine bel_alloc ?_ ?_ _; (first | omega | (simp; omega) | simp)) | (with_reducible refine bel_set ?_ ?_ _; (first | omega | (simp; omega) | simp)) | (with_reducible refine bel_tr (by assumption) ?_ ?_; (first | omega | (simp; omega) | simp))))))) hE).mono ?_; rintro y w9 ⟨rfl, b9⟩; have s9 := b9.size; (try simp at s9); have kr9 : ∀ o, w9.cell? ⟨w1.heap.size, o, none⟩ = _ := (fun o => b9.cell (p := ⟨w1.heap.size, o, none⟩) (by (first | omega | (simp; omega) | simp))); have kb9 : ∀ o, w9.cell? ⟨b, o, none⟩ = _ := (fun o => b9.cell (p := ⟨b, o, none⟩) (by (first | omega | (simp; omega) | simp))); have kw9 := (fun (hh : wr.heap.size < _) (o : Nat) => b9.cell (p := ⟨wr.heap.size, o, none⟩) hh); have kf9 := (fun (hh : wr.heap.size < _) (o : Nat) => b9.frozen (p := ⟨wr.heap.size, o, none⟩) hh); have kz9 : w1.heap.size < w9.heap.size := (by omega); have ky9 : b < w9.heap.size := (by omega)))
            all_goals
              go_wp2_with fail
              go_meet
              exact ⟨_, rfl, rfl, by (first | omega | (simp; omega) | simp), by (first | omega | (simp; omega) | simp), by (first | (go_keep; done) | (go_simp; done)), by (first | (go_keep; done) | (go_simp; done)), by (first | (go_keep; done) | (go_simp; done)), by (first | (go_keep; done) | (go_simp; done)), Lib.hid (by (repeat (first | with_reducible exact Below.refl _ _ | with_reducible refine Below.drew ?_ | with_reducible refine below_drewN ?_ _ | (with_reducible refine bel_alloc ?_ ?_ _; (first | omega | (simp; omega) | simp)) | (with_reducible refine bel_set ?_ ?_ _; (first | omega | (simp; omega) | simp)) | (with_reducible refine bel_tr (by assumption) ?_ ?_; (first | omega | (simp; omega) | simp)))))⟩
          case rest =>
            obtain ⟨bq, rfl, rfl, hbq1, hbq2, x0, x1, x2, x3, HBx⟩ := hcut
            have hsx := HBx.out.size
            have hbel2 : Below w2.heap.size w2 wc := hbel.trans (HBx.out.mono hsz)
            have hs2c := hbel2.size
            have c1x := (HBx.out.cell (p := ⟨b, off + i * 10 + 1, none⟩) hbw).trans c1
            go_wp2
            go_roundw
            case rel => exact ⟨i + 1, by omega, by go_num, by rw [HL.out], rfl, hbel2⟩
            case measure => simp [intOf]; omega
    have him : i = m := by omega
    subst him
    have hii : ¬ (i : Int) < (i : Int) := by omega
    rw [HLQ.out]
    clear hel hlt
    obtain ⟨w4, hw4⟩ : ∃ w4, w4 = wr := ⟨wr, rfl⟩
    subst hw4
    go_wp2
    go_loopw [2, 18] (fun s2 s18 wr => ∃ k : Nat, 1 ≤ k ∧ (k ≤ q ∨ k = 1) ∧ s18 = .int .i64 k ∧ s2 = .bool false ∧ Below w2.heap.size w2 wr) (fun _ s18 _ => q - (intOf s18).toNat)
    case atStart => exact ⟨1, Nat.le_refl _, .inr rfl, rfl, rfl, hbel⟩
    case round =>
      clear hbel hsz
      obtain ⟨k, hk1, hk2, rfl, rfl, hbel⟩ := hrel
      by_cases hlt : k < q
      case pos =>
        have hki : (k : Int) < (q : Int) := by omega
        obtain ⟨u, hu⟩ : ∃ u, k = u + 1 := ⟨k - 1, by omega⟩
        have hku : IntKind.i64.wrap ((k : Int) - 1) = (u : Int) := by rw [IntKind.wrap_i64]; omega
        have hk0 : (0 : Int) ≤ (k : Int) := by omega
        have hu0 : (0 : Int) ≤ (u : Int) := by omega
        have hun : (u : Int) < (q : Int) := by omega
        have huq : u < q := by omega
        have hel : eLt (fld (sortR (entL ok r now ps i)) k 0) (fld (sortR (entL ok r now ps i)) u 0) (fld (sortR (entL ok r now ps i)) k 1) (fld (sortR (entL ok r now ps i)) u 1) = false := by (have h1 := sortR_adj (l := entL ok r now ps i) (i := u) (by rw [HQ.out.1]; omega); rw [← hu] at h1; exact Bool.eq_false_iff.2 fun hh => h1 (lessE_lt.1 hh))
        have HU := Lib.hid hu
        clear hu
        obtain ⟨g, o2, rfl, hg, hc2⟩ := HQ.out.rd.2.resolve_left (by omega)
        have d0 : wr.cell? ⟨g, o2 + k * 4, none⟩ = some (.int .i64 (fld (sortR (entL ok r now ps i)) k 0)) := (hbel.cell (p := ⟨g, o2 + k * 4, none⟩) hg).trans (hc2 k (by omega) 0 (by omega))
        have d1 : wr.cell? ⟨g, o2 + k * 4 + 1, none⟩ = some (.int .i64 (fld (sortR (entL ok r now ps i)) k 1)) := (hbel.cell (p := ⟨g, o2 + k * 4 + 1, none⟩) hg).trans (hc2 k (by omega) 1 (by omega))
        have d2 : wr.cell? ⟨g, o2 + k * 4 + 2, none⟩ = some (.int .i64 (fld (sortR (entL ok r now ps i)) k 2)) := (hbel.cell (p := ⟨g, o2 + k * 4 + 2, none⟩) hg).trans (hc2 k (by omega) 2 (by omega))
        have d3 : wr.cell? ⟨g, o2 + k * 4 + 3, none⟩ = some (.int .i64 (fld (sortR (entL ok r now ps i)) k 3)) := (hbel.cell (p := ⟨g, o2 + k * 4 + 3, none⟩) hg).trans (hc2 k (by omega) 3 (by omega))
        have e0 : wr.cell? ⟨g, o2 + u * 4, none⟩ = some (.int .i64 (fld (sortR (entL ok r now ps i)) u 0)) := (hbel.cell (p := ⟨g, o2 + u * 4, none⟩) hg).trans (hc2 u (by omega) 0 (by omega))
        have e1 : wr.cell? ⟨g, o2 + u * 4 + 1, none⟩ = some (.int .i64 (fld (sortR (entL ok r now ps i)) u 1)) := (hbel.cell (p := ⟨g, o2 + u * 4 + 1, none⟩) hg).trans (hc2 u (by omega) 1 (by omega))
        have e2 : wr.cell? ⟨g, o2 + u * 4 + 2, none⟩ = some (.int .i64 (fld (sortR (entL ok r now ps i)) u 2)) := (hbel.cell (p := ⟨g, o2 + u * 4 + 2, none⟩) hg).trans (hc2 u (by omega) 2 (by omega))
        have e3 : wr.cell? ⟨g, o2 + u * 4 + 3, none⟩ = some (.int .i64 (fld (sortR (entL ok r now ps i)) u 3)) := (hbel.cell (p := ⟨g, o2 + u * 4 + 3, none⟩) hg).trans (hc2 u (by omega) 3 (by omega))
        clear hc2
        have hgw : g < wr.heap.size := by have := hbel.size; omega
        go_wp2
        refine wp_region_bw (by kernel_rfl) (by kernel_rfl) (fun W hW => ?_)
        have q0 : ∀ pq : BW W, pq.w.cell? ⟨g, o2 + k * 4, none⟩ = some (.int .i64 (fld (sortR (entL ok r now ps i)) k 0)) := fun pq => pq.cell (by rw [hW]; (first | omega | (simp; omega) | simp)) (by rw [hW]; (first | (go_keep; done) | (go_simp; done)))
        have q1 : ∀ pq : BW W, pq.w.cell? ⟨g, o2 + k * 4 + 1, none⟩ = some (.int .i64 (fld (sortR (entL ok r now ps i)) k 1)) := fun pq => pq.cell (by rw [hW]; (first | omega | (simp; omega) | simp)) (by rw [hW]; (first | (go_keep; done) | (go_simp; done)))
        have q2 : ∀ pq : BW W, pq.w.cell? ⟨g, o2 + k * 4 + 2, none⟩ = some (.int .i64 (fld (sortR (entL ok r now ps i)) k 2)) := fun pq => pq.cell (by rw [hW]; (first | omega | (simp; omega) | simp)) (by rw [hW]; (first | (go_keep; done) | (go_simp; done)))
        have q3 : ∀ pq : BW W, pq.w.cell? ⟨g, o2 + k * 4 + 3, none⟩ = some (.int .i64 (fld (sortR (entL ok r now ps i)) k 3)) := fun pq => pq.cell (by rw [hW]; (first | omega | (simp; omega) | simp)) (by rw [hW]; (first | (go_keep; done) | (go_simp; done)))
        have q4 : ∀ pq : BW W, pq.w.cell? ⟨g, o2 + u * 4, none⟩ = some (.int .i64 (fld (sortR (entL ok r now ps i)) u 0)) := fun pq => pq.cell (by rw [hW]; (first | omega | (simp; omega) | simp)) (by rw [hW]; (first | (go_keep; done) | (go_simp; done)))
        have q5 : ∀ pq : BW W, pq.w.cell? ⟨g, o2 + u * 4 + 1, none⟩ = some (.int .i64 (fld (sortR (entL ok r now ps i)) u 1)) := fun pq => pq.cell (by rw [hW]; (first | omega | (simp; omega) | simp)) (by rw [hW]; (first | (go_keep; done) | (go_simp; done)))
        have q6 : ∀ pq : BW W, pq.w.cell? ⟨g, o2 + u * 4 + 2, none⟩ = some (.int .i64 (fld (sortR (entL ok r now ps i)) u 2)) := fun pq => pq.cell (by rw [hW]; (first | omega | (simp; omega) | simp)) (by rw [hW]; (first | (go_keep; done) | (go_simp; done)))
        have q7 : ∀ pq : BW W, pq.w.cell? ⟨g, o2 + u * 4 + 3, none⟩ = some (.int .i64 (fld (sortR (entL ok r now ps i)) u 3)) := fun pq => pq.cell (by rw [hW]; (first | omega | (simp; omega) | simp)) (by rw [hW]; (first | (go_keep; done) | (go_simp; done)))
        have hbW : Below wr.heap.size wr W := by rw [hW]; (repeat (first | with_reducible exact Below.refl _ _ | with_reducible refine Below.drew ?_ | with_reducible refine below_drewN ?_ _ | (with_reducible refine bel_alloc ?_ ?_ _; (first | omega | (simp; omega) | simp)) | (with_reducible refine bel_set ?_ ?_ _; (first | omega | (simp; omega) | simp)) | (with_reducible refine bel_tr (by assumption) ?_ ?_; (first | omega | (simp; omega) | simp))))
        have HW := Lib.hid hW
        clear hW
        repeat (go_big_quiet_step (first | (go_at_call 22; exact bw_of (iLess_n (fld (sortR (entL ok r now ps i)) k 0) (fld (sortR (entL ok r now ps i)) k 1) (fld (sortR (entL ok r now ps i)) k 2) (fld (sortR (entL ok r now ps i)) k 3) (fld (sortR (entL ok r now ps i)) u 0) (fld (sortR (entL ok r now ps i)) u 1) (fld (sortR (entL ok r now ps i)) u 2) (fld (sortR (entL ok r now ps i)) u 3) _ hel)) | (go_at_call 23; exact bw_of (sLess_n (fld (sortR (entL ok r now ps i)) k 0) (fld (sortR (entL ok r now ps i)) k 1) (fld (sortR (entL ok r now ps i)) k 2) (fld (sortR (entL ok r now ps i)) k 3) (fld (sortR (entL ok r now ps i)) u 0) (fld (sortR (entL ok r now ps i)) u 1) (fld (sortR (entL ok r now ps i)) u 2) (fld (sortR (entL ok r now ps i)) u 3) _ hel))))
        refine wpQuiet_nil ?_
        intro wq hq
        have hbq : Below W.heap.size W wq := by (obtain ⟨p, hp⟩ := hq; rw [hp]; exact p.below)
        clear hq
        have hbel4 : Below wr.heap.size wr wq := hbW.trans (hbq.mono hbW.size)
        have sq := hbel4.size
        clear hbW hbq HW q0 q1 q2 q3 q4 q5 q6 q7
        go_wp2
        go_roundw
        case rel => exact ⟨k + 1, by omega, .inl (by omega), by go_num, rfl, hbel.trans (hbel4.mono hbel.size)⟩
        case measure => simp [intOf]; omega
      have hki : ¬ (k : Int) < (q : Int) := by omega
      go_wp2
      go_ret
      exact ⟨rfl, HB2.out.trans (hbel.mono HB2.out.size)⟩
end Go.Proofs.Ytccabkmmlddenaa
