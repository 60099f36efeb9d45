/-
  The contract of the reference's QueueOf. No conditions beyond those stated.
-/
import Derived.Test.YtjlmcppkafjniaaGreatQfI
import Derived.Test.YtjlmcppkafjniaaGreatPl
import Derived.Deep.RegionHeld3
namespace Go.Proofs.YtjlmcppkafjniaaGreat
open Go.RowKit

theorem lessE_lt {a b : Nat → Int} : lessE a b = true ↔ ltP a b := by
  unfold lessE eLt ltP
  simp
theorem insF_at (e : Nat → Int) : ∀ (l : List (Nat → Int)) (k : Nat), k ≤ l.length → (∀ i, i < k → ltP (fld l i) e) → (k = l.length ∨ ¬ ltP (fld l k) e) → insF e l = insL l k e
  | [], k, h, _, _ => by
    obtain rfl : k = 0 := by simpa using h
    rfl
  | x :: l, 0, _, _, h2 => by
    have hx : ¬ ltP x e := by
      rcases h2 with h2 | h2
      · cases h2
      · exact h2
    show (if ltP x e then x :: insF e l else e :: x :: l) = _
    rw [if_neg hx]
    rfl
  | x :: l, k + 1, h, h1, h2 => by
    have hx : ltP x e := h1 0 (by omega)
    show (if ltP x e then x :: insF e l else e :: x :: l) = _
    rw [if_pos hx, insF_at e l k (by simpa using h) (fun i hi => h1 (i + 1) (by omega)) (h2.imp (fun h => by simpa using h) id)]
    rfl
theorem insL_insF {l : List (Nat → Int)} {e : Nat → Int} {n : Nat} (hl : l.length = n) : insL l (plc l e n) e = insF e l := by
  refine (insF_at e l (plc l e n) (by rw [hl]; exact plc_le) ?_ ?_).symm
  all_goals
    unfold plc
    split
    · rename_i hx
      first
      | exact .inl hl.symm
      | (intro i hi
         have h := ixOf_none hx i hi
         exact lessE_lt.1 (by simpa using h))
    · rename_i k hx
      obtain ⟨h1, h2, h3⟩ := ixOf_some hx
      first
      | (refine .inr fun h => ?_
         rw [lessE_lt.2 h] at h2
         cases h2)
      | (intro i hi
         exact lessE_lt.1 (by simpa using h3 i hi))

set_option maxRecDepth 100000 in
set_option maxHeartbeats 16000000 in
theorem sQueueOf_any (A : Option Addr) (n c : Nat) (es : List (Nat → Int)) (r : Nat → Int) (P : Option Addr) (m pc : Nat) (ps : List (Nat → Int)) (cab now : Int) (ok : Nat → Bool) (w : World) (hn : n ≤ 4194304) (hm : m ≤ 4194303) (h : Rd w 1 A n es) (hp : Rd w 10 P m ps) (hok : OkF ok n es r now ps cab) :
    Calls Tryz.prog 50 #[.agg #[.slice A n c, .int .i64 (r 1), .int .i64 (r 2), .int .i64 (r 3), .int .i64 (r 4), .int .i64 (r 5), .int .i64 (r 6), .int .i64 (r 7), .int .i64 (r 8)], .slice P m pc, .int .i64 cab, .int .i64 now] w (QfD w (entL ok r now ps m)) := by
  have H := Lib.hid h
  have HP := Lib.hid hp
  have HK := Lib.hid hok
  clear h hp hok
  go_enter Tryz.func50, Tryz.ntmps50
  go_wp2
  go_loopw [9, 10] (fun v i wr => ∃ (k : Nat) (z : Int) (A' : Option Addr) (q c' : Nat), Hid (z + 1 = (k : Int)) ∧ k ≤ m ∧ -1 ≤ z ∧ z < (m : Int) ∧ i = .int .i64 z ∧ v = .slice A' q c' ∧ q ≤ c' ∧ c' ≤ 9223372036854775807 ∧ q ≤ m ∧ Hid (Own w.heap.size wr 4 A' q (sortR (entS ok r now ps k (m - k)))) ∧ Hid (Bx wr w.heap.size 9 (rv A n c r)) ∧ Below w.heap.size w wr) (fun _ i _ => (intOf i + 1).toNat)
  case atStart => exact ⟨m, (m : Int) - 1, some ⟨w.heap.size + 1, 0, none⟩, 0, 0, Lib.hid (by omega), Nat.le_refl _, by omega, by omega, by go_num, rfl, Nat.le_refl _, by omega, by omega, Lib.hid ⟨by rw [Nat.sub_self]; rfl, .inl rfl⟩, Lib.hid ((Bx.rules w 37 A n c r).alloc _), by (repeat (first | with_reducible exact Below.refl _ _ | with_reducible refine Below.drew ?_ | with_reducible refine below_drewN ?_ _ | (with_reducible refine bel_alloc ?_ ?_ _; (first | omega | (simp; omega) | simp)) | (with_reducible refine bel_set ?_ ?_ _; (first | omega | (simp; omega) | simp)) | (with_reducible refine bel_tr (by assumption) ?_ ?_; (first | omega | (simp; omega) | simp))))⟩
  case round =>
    obtain ⟨k, z, A', q, c', HZ, hk, hz0, hz1, rfl, rfl, hqc, hcm, hqm, HO, HX, hbel⟩ := hrel
    have hsz := hbel.size
    by_cases hlt : 0 ≤ z
    · obtain ⟨j, rfl⟩ : ∃ j : Nat, z = j := ⟨z.toNat, by omega⟩
      obtain rfl : k = j + 1 := by have := HZ.out; omega
      have hjm : j < m := by omega
      have hsub : m - j = (m - (j + 1)) + 1 := by omega
      have HS := Lib.hid hsub
      clear hsub
      obtain ⟨b, off, rfl, hb, hc⟩ := HP.out.2.resolve_left (by omega)
      have c0 : wr.cell? ⟨b, off + j * 10, none⟩ = some (.int .i64 (fld ps j 0)) := (hbel.cell (p := ⟨b, off + j * 10, none⟩) hb).trans (hc j hjm 0 (by omega))
      have c1 : wr.cell? ⟨b, off + j * 10 + 1, none⟩ = some (.int .i64 (fld ps j 1)) := (hbel.cell (p := ⟨b, off + j * 10 + 1, none⟩) hb).trans (hc j hjm 1 (by omega))
      have c2 : wr.cell? ⟨b, off + j * 10 + 2, none⟩ = some (.int .i64 (fld ps j 2)) := (hbel.cell (p := ⟨b, off + j * 10 + 2, none⟩) hb).trans (hc j hjm 2 (by omega))
      have c3 : wr.cell? ⟨b, off + j * 10 + 3, none⟩ = some (.int .i64 (fld ps j 3)) := (hbel.cell (p := ⟨b, off + j * 10 + 3, none⟩) hb).trans (hc j hjm 3 (by omega))
      have c4 : wr.cell? ⟨b, off + j * 10 + 4, none⟩ = some (.int .i64 (fld ps j 4)) := (hbel.cell (p := ⟨b, off + j * 10 + 4, none⟩) hb).trans (hc j hjm 4 (by omega))
      have c5 : wr.cell? ⟨b, off + j * 10 + 5, none⟩ = some (.int .i64 (fld ps j 5)) := (hbel.cell (p := ⟨b, off + j * 10 + 5, none⟩) hb).trans (hc j hjm 5 (by omega))
      have c6 : wr.cell? ⟨b, off + j * 10 + 6, none⟩ = some (.int .i64 (fld ps j 6)) := (hbel.cell (p := ⟨b, off + j * 10 + 6, none⟩) hb).trans (hc j hjm 6 (by omega))
      have c7 : wr.cell? ⟨b, off + j * 10 + 7, none⟩ = some (.int .i64 (fld ps j 7)) := (hbel.cell (p := ⟨b, off + j * 10 + 7, none⟩) hb).trans (hc j hjm 7 (by omega))
      have c8 : wr.cell? ⟨b, off + j * 10 + 8, none⟩ = some (.int .i64 (fld ps j 8)) := (hbel.cell (p := ⟨b, off + j * 10 + 8, none⟩) hb).trans (hc j hjm 8 (by omega))
      have c9 : wr.cell? ⟨b, off + j * 10 + 9, none⟩ = some (.int .i64 (fld ps j 9)) := (hbel.cell (p := ⟨b, off + j * 10 + 9, none⟩) hb).trans (hc j hjm 9 (by omega))
      clear hc
      have hbw : b < wr.heap.size := by omega
      have rc0 : _ = some (Value.slice A n c) := (HX.out).2.2 0 (by omega)
      have rc1 : _ = some (Value.int .i64 (r 1)) := (HX.out).2.2 1 (by omega)
      have rc2 : _ = some (Value.int .i64 (r 2)) := (HX.out).2.2 2 (by omega)
      have rc3 : _ = some (Value.int .i64 (r 3)) := (HX.out).2.2 3 (by omega)
      have rc4 : _ = some (Value.int .i64 (r 4)) := (HX.out).2.2 4 (by omega)
      have rc5 : _ = some (Value.int .i64 (r 5)) := (HX.out).2.2 5 (by omega)
      have rc6 : _ = some (Value.int .i64 (r 6)) := (HX.out).2.2 6 (by omega)
      have rc7 : _ = some (Value.int .i64 (r 7)) := (HX.out).2.2 7 (by omega)
      have rc8 : _ = some (Value.int .i64 (r 8)) := (HX.out).2.2 8 (by omega)
      have hxw : w.heap.size < wr.heap.size := HX.out.1
      rcases Bool.eq_false_or_eq_true (ok j) with t0 | t0
      · have HY := Lib.hid ((HK.out j).1 t0)
        have HN := Lib.hid (entS_y (r := r) (now := now) (ps := ps) (m := m - (j + 1)) t0)
        have t1 : (fld ps j 1 == cab) = true := by simp [HY.out.2]
        clear t0
        go_upto_region 5 with fail
        go_cut [11, 12] (fun s11 s12 wx => ∃ b11 : Nat, s11 = .pointer (some ⟨b11, 0, none⟩) ∧ s12 = .bool true ∧ wr.heap.size ≤ b11 ∧ b11 < wx.heap.size ∧ wx.cell? ⟨b11, 0, none⟩ = some (.int .i64 (lvlV r (fld ps j) now)) ∧ wx.cell? ⟨b11, 1, none⟩ = some (.int .i64 (fld ps j 6)) ∧ wx.cell? ⟨b11, 2, none⟩ = some (.int .i64 (fld ps j 0)) ∧ wx.cell? ⟨b11, 3, none⟩ = some (.int .i64 (fld ps j 3)) ∧ Hid (Below wr.heap.size wr wx))
        case first =>
          go_region_held3 (fun w' => w'.cell? ⟨w.heap.size, 0, none⟩ = some (.slice A n c) ∧ w'.cell? ⟨w.heap.size, 1, none⟩ = some (.int .i64 (r 1)) ∧ w'.cell? ⟨w.heap.size, 2, none⟩ = some (.int .i64 (r 2)) ∧ w'.cell? ⟨w.heap.size, 3, none⟩ = some (.int .i64 (r 3)) ∧ w'.cell? ⟨w.heap.size, 4, none⟩ = some (.int .i64 (r 4)) ∧ w'.cell? ⟨w.heap.size, 5, none⟩ = some (.int .i64 (r 5)) ∧ w'.cell? ⟨w.heap.size, 6, none⟩ = some (.int .i64 (r 6)) ∧ w'.cell? ⟨w.heap.size, 7, none⟩ = some (.int .i64 (r 7)) ∧ w'.cell? ⟨w.heap.size, 8, none⟩ = some (.int .i64 (r 8)) ∧ w'.cell? ⟨b, off + j * 10, none⟩ = some (.int .i64 (fld ps j 0)) ∧ w'.cell? ⟨b, off + j * 10 + 1, none⟩ = some (.int .i64 (fld ps j 1)) ∧ w'.cell? ⟨b, off + j * 10 + 2, none⟩ = some (.int .i64 (fld ps j 2)) ∧ w'.cell? ⟨b, off + j * 10 + 3, none⟩ = some (.int .i64 (fld ps j 3)) ∧ w'.cell? ⟨b, off + j * 10 + 4, none⟩ = some (.int .i64 (fld ps j 4)) ∧ w'.cell? ⟨b, off + j * 10 + 5, none⟩ = some (.int .i64 (fld ps j 5)) ∧ w'.cell? ⟨b, off + j * 10 + 6, none⟩ = some (.int .i64 (fld ps j 6)) ∧ w'.cell? ⟨b, off + j * 10 + 7, none⟩ = some (.int .i64 (fld ps j 7)) ∧ w'.cell? ⟨b, off + j * 10 + 8, none⟩ = some (.int .i64 (fld ps j 8)) ∧ w'.cell? ⟨b, off + j * 10 + 9, none⟩ = some (.int .i64 (fld ps j 9))) ((first | (go_keep; done) | (go_simp; done))) ((go_at_call 91; refine (vpy (spec_EntryOf A n c es r (fld ps j) now _ hn (H.out.below (by (repeat (first | with_reducible exact Below.refl _ _ | with_reducible refine Below.drew ?_ | with_reducible refine below_drewN ?_ _ | (with_reducible refine bel_alloc ?_ ?_ _; (first | omega | (simp; omega) | simp)) | (with_reducible refine bel_set ?_ ?_ _; (first | omega | (simp; omega) | simp)) | (with_reducible refine bel_tr (by assumption) ?_ ?_; (first | omega | (simp; omega) | simp))))))) HY.out.1).mono ?_; rintro y w2 ⟨rfl, b2⟩; have s2 := b2.size; (try simp at s2); have kr2 : ∀ o, w2.cell? ⟨w.heap.size, o, none⟩ = _ := (fun o => b2.cell (p := ⟨w.heap.size, o, none⟩) (by (first | omega | (simp; omega) | simp))); have kb2 : ∀ o, w2.cell? ⟨b, o, none⟩ = _ := (fun o => b2.cell (p := ⟨b, o, none⟩) (by (first | omega | (simp; omega) | simp))); have kw2 := (fun (hh : wr.heap.size < _) (o : Nat) => b2.cell (p := ⟨wr.heap.size, o, none⟩) hh); have kf2 := (fun (hh : wr.heap.size < _) (o : Nat) => b2.frozen (p := ⟨wr.heap.size, o, none⟩) hh); have kz2 : w.heap.size < w2.heap.size := (by omega); have ky2 : b < w2.heap.size := (by omega)))
          all_goals
            go_wp2_with fail
            go_meet
            exact ⟨_, rfl, rfl, by (first | omega | (simp; omega) | simp), by (first | omega | (simp; omega) | simp), by (first | (go_keep; done) | (go_simp; done)), by (first | (go_keep; done) | (go_simp; done)), by (first | (go_keep; done) | (go_simp; done)), by (first | (go_keep; done) | (go_simp; done)), Lib.hid (by (repeat (first | with_reducible exact Below.refl _ _ | with_reducible refine Below.drew ?_ | with_reducible refine below_drewN ?_ _ | (with_reducible refine bel_alloc ?_ ?_ _; (first | omega | (simp; omega) | simp)) | (with_reducible refine bel_set ?_ ?_ _; (first | omega | (simp; omega) | simp)) | (with_reducible refine bel_tr (by assumption) ?_ ?_; (first | omega | (simp; omega) | simp)))))⟩
        case rest =>
          obtain ⟨b11, rfl, rfl, hb11, hb12, x0, x1, x2, x3, HBx⟩ := hcut
          have hsx := HBx.out.size
          have hbel2 : Below w.heap.size w wc := bel_tr HBx.out (by omega) hbel
          have X2 := Lib.hid (Bx.below HX.out HBx.out)
          have O2 := Lib.hid (HO.out.below HBx.out)
          have c1x : wc.cell? ⟨b, off + j * 10 + 1, none⟩ = some (.int .i64 (fld ps j 1)) := (HBx.out.cell (p := ⟨b, off + j * 10 + 1, none⟩) hbw).trans c1
          go_wp2_with fail
          refine (l7Put_any A' q c' (sortR (entS ok r now ps (j + 1) (m - (j + 1)))) (entAt r now ps j) _ (by omega) hqc hcm O2.out.rd).mono ?_
          rintro y w4 ⟨A4, c4, rfl, hq4, hc4, o4, b4⟩
          have s4 := b4.size
          have e4 : insL (sortR (entS ok r now ps (j + 1) (m - (j + 1)))) (plc (sortR (entS ok r now ps (j + 1) (m - (j + 1)))) (entAt r now ps j) q) (entAt r now ps j) = sortR (entAt r now ps j :: entS ok r now ps (j + 1) (m - (j + 1))) := insL_insF O2.out.1
          rw [e4] at o4
          have O4 := Lib.hid (o4.mono (show w.heap.size ≤ wc.heap.size by omega))
          have hlen := o4.1
          rw [sortR_len] at hlen
          have hle := entS_len ok r now ps (j + 1) (m - (j + 1))
          simp only [List.length_cons] at hlen
          have X4 := Lib.hid (Bx.below X2.out b4)
          clear e4 o4
          go_wp2
          go_roundw
          case rel => exact ⟨j, (j : Int) - 1, A4, q + 1, c4, Lib.hid (by omega), by omega, by omega, by omega, by go_num, rfl, hq4, hc4, by omega, by rw [HS.out, HN.out]; exact O4, X4, by (repeat (first | with_reducible exact Below.refl _ _ | with_reducible refine Below.drew ?_ | with_reducible refine below_drewN ?_ _ | (with_reducible refine bel_alloc ?_ ?_ _; (first | omega | (simp; omega) | simp)) | (with_reducible refine bel_set ?_ ?_ _; (first | omega | (simp; omega) | simp)) | (with_reducible refine bel_tr (by assumption) ?_ ?_; (first | omega | (simp; omega) | simp))))⟩
          case measure => simp [intOf]
      · have HN := Lib.hid (entS_n (r := r) (now := now) (ps := ps) (m := m - (j + 1)) t0)
        by_cases hE : entP n es r (fld ps j) now
        · have t1 : (fld ps j 1 == cab) = false := by (simp; intro h1; have := (HK.out j).2 ⟨hE, h1⟩; rw [t0] at this; cases this)
          have HE := Lib.hid hE
          clear t0 hE
          go_upto_region 5 with fail
          go_cut [11, 12] (fun s11 s12 wx => ∃ b11 : Nat, s11 = .pointer (some ⟨b11, 0, none⟩) ∧ s12 = .bool true ∧ wr.heap.size ≤ b11 ∧ b11 < wx.heap.size ∧ wx.cell? ⟨b11, 0, none⟩ = some (.int .i64 (lvlV r (fld ps j) now)) ∧ wx.cell? ⟨b11, 1, none⟩ = some (.int .i64 (fld ps j 6)) ∧ wx.cell? ⟨b11, 2, none⟩ = some (.int .i64 (fld ps j 0)) ∧ wx.cell? ⟨b11, 3, none⟩ = some (.int .i64 (fld ps j 3)) ∧ Hid (Below wr.heap.size wr wx))
          case first =>
            go_region_held3 (fun w' => w'.cell? ⟨w.heap.size, 0, none⟩ = some (.slice A n c) ∧ w'.cell? ⟨w.heap.size, 1, none⟩ = some (.int .i64 (r 1)) ∧ w'.cell? ⟨w.heap.size, 2, none⟩ = some (.int .i64 (r 2)) ∧ w'.cell? ⟨w.heap.size, 3, none⟩ = some (.int .i64 (r 3)) ∧ w'.cell? ⟨w.heap.size, 4, none⟩ = some (.int .i64 (r 4)) ∧ w'.cell? ⟨w.heap.size, 5, none⟩ = some (.int .i64 (r 5)) ∧ w'.cell? ⟨w.heap.size, 6, none⟩ = some (.int .i64 (r 6)) ∧ w'.cell? ⟨w.heap.size, 7, none⟩ = some (.int .i64 (r 7)) ∧ w'.cell? ⟨w.heap.size, 8, none⟩ = some (.int .i64 (r 8)) ∧ w'.cell? ⟨b, off + j * 10, none⟩ = some (.int .i64 (fld ps j 0)) ∧ w'.cell? ⟨b, off + j * 10 + 1, none⟩ = some (.int .i64 (fld ps j 1)) ∧ w'.cell? ⟨b, off + j * 10 + 2, none⟩ = some (.int .i64 (fld ps j 2)) ∧ w'.cell? ⟨b, off + j * 10 + 3, none⟩ = some (.int .i64 (fld ps j 3)) ∧ w'.cell? ⟨b, off + j * 10 + 4, none⟩ = some (.int .i64 (fld ps j 4)) ∧ w'.cell? ⟨b, off + j * 10 + 5, none⟩ = some (.int .i64 (fld ps j 5)) ∧ w'.cell? ⟨b, off + j * 10 + 6, none⟩ = some (.int .i64 (fld ps j 6)) ∧ w'.cell? ⟨b, off + j * 10 + 7, none⟩ = some (.int .i64 (fld ps j 7)) ∧ w'.cell? ⟨b, off + j * 10 + 8, none⟩ = some (.int .i64 (fld ps j 8)) ∧ w'.cell? ⟨b, off + j * 10 + 9, none⟩ = some (.int .i64 (fld ps j 9))) ((first | (go_keep; done) | (go_simp; done))) ((go_at_call 91; refine (vpy (spec_EntryOf A n c es r (fld ps j) now _ hn (H.out.below (by (repeat (first | with_reducible exact Below.refl _ _ | with_reducible refine Below.drew ?_ | with_reducible refine below_drewN ?_ _ | (with_reducible refine bel_alloc ?_ ?_ _; (first | omega | (simp; omega) | simp)) | (with_reducible refine bel_set ?_ ?_ _; (first | omega | (simp; omega) | simp)) | (with_reducible refine bel_tr (by assumption) ?_ ?_; (first | omega | (simp; omega) | simp))))))) HE.out).mono ?_; rintro y w2 ⟨rfl, b2⟩; have s2 := b2.size; (try simp at s2); have kr2 : ∀ o, w2.cell? ⟨w.heap.size, o, none⟩ = _ := (fun o => b2.cell (p := ⟨w.heap.size, o, none⟩) (by (first | omega | (simp; omega) | simp))); have kb2 : ∀ o, w2.cell? ⟨b, o, none⟩ = _ := (fun o => b2.cell (p := ⟨b, o, none⟩) (by (first | omega | (simp; omega) | simp))); have kw2 := (fun (hh : wr.heap.size < _) (o : Nat) => b2.cell (p := ⟨wr.heap.size, o, none⟩) hh); have kf2 := (fun (hh : wr.heap.size < _) (o : Nat) => b2.frozen (p := ⟨wr.heap.size, o, none⟩) hh); have kz2 : w.heap.size < w2.heap.size := (by omega); have ky2 : b < w2.heap.size := (by omega)))
            all_goals
              go_wp2_with fail
              go_meet
              exact ⟨_, rfl, rfl, by (first | omega | (simp; omega) | simp), by (first | omega | (simp; omega) | simp), by (first | (go_keep; done) | (go_simp; done)), by (first | (go_keep; done) | (go_simp; done)), by (first | (go_keep; done) | (go_simp; done)), by (first | (go_keep; done) | (go_simp; done)), Lib.hid (by (repeat (first | with_reducible exact Below.refl _ _ | with_reducible refine Below.drew ?_ | with_reducible refine below_drewN ?_ _ | (with_reducible refine bel_alloc ?_ ?_ _; (first | omega | (simp; omega) | simp)) | (with_reducible refine bel_set ?_ ?_ _; (first | omega | (simp; omega) | simp)) | (with_reducible refine bel_tr (by assumption) ?_ ?_; (first | omega | (simp; omega) | simp)))))⟩
          case rest =>
            obtain ⟨b11, rfl, rfl, hb11, hb12, x0, x1, x2, x3, HBx⟩ := hcut
            have hsx := HBx.out.size
            have hbel2 : Below w.heap.size w wc := bel_tr HBx.out (by omega) hbel
            have X2 := Lib.hid (Bx.below HX.out HBx.out)
            have O2 := Lib.hid (HO.out.below HBx.out)
            have c1x : wc.cell? ⟨b, off + j * 10 + 1, none⟩ = some (.int .i64 (fld ps j 1)) := (HBx.out.cell (p := ⟨b, off + j * 10 + 1, none⟩) hbw).trans c1
            go_wp2
            go_roundw
            case rel => exact ⟨j, (j : Int) - 1, A', q, c', Lib.hid (by omega), by omega, by omega, by omega, by go_num, rfl, hqc, hcm, hqm, by rw [HS.out, HN.out]; exact O2, X2, by (repeat (first | with_reducible exact Below.refl _ _ | with_reducible refine Below.drew ?_ | with_reducible refine below_drewN ?_ _ | (with_reducible refine bel_alloc ?_ ?_ _; (first | omega | (simp; omega) | simp)) | (with_reducible refine bel_set ?_ ?_ _; (first | omega | (simp; omega) | simp)) | (with_reducible refine bel_tr (by assumption) ?_ ?_; (first | omega | (simp; omega) | simp))))⟩
            case measure => simp [intOf]
        · clear t0
          go_upto_region 5 with fail
          go_cut [11, 12] (fun s11 s12 wx => ∃ b11 : Nat, s11 = .pointer (some ⟨b11, 0, none⟩) ∧ s12 = .bool false ∧ wr.heap.size ≤ b11 ∧ b11 < wx.heap.size ∧ wx.cell? ⟨b11, 0, none⟩ = some (.int .i64 (0)) ∧ wx.cell? ⟨b11, 1, none⟩ = some (.int .i64 (0)) ∧ wx.cell? ⟨b11, 2, none⟩ = some (.int .i64 (0)) ∧ wx.cell? ⟨b11, 3, none⟩ = some (.int .i64 (0)) ∧ Hid (Below wr.heap.size wr wx))
          case first =>
            go_region_held3 (fun w' => w'.cell? ⟨w.heap.size, 0, none⟩ = some (.slice A n c) ∧ w'.cell? ⟨w.heap.size, 1, none⟩ = some (.int .i64 (r 1)) ∧ w'.cell? ⟨w.heap.size, 2, none⟩ = some (.int .i64 (r 2)) ∧ w'.cell? ⟨w.heap.size, 3, none⟩ = some (.int .i64 (r 3)) ∧ w'.cell? ⟨w.heap.size, 4, none⟩ = some (.int .i64 (r 4)) ∧ w'.cell? ⟨w.heap.size, 5, none⟩ = some (.int .i64 (r 5)) ∧ w'.cell? ⟨w.heap.size, 6, none⟩ = some (.int .i64 (r 6)) ∧ w'.cell? ⟨w.heap.size, 7, none⟩ = some (.int .i64 (r 7)) ∧ w'.cell? ⟨w.heap.size, 8, none⟩ = some (.int .i64 (r 8)) ∧ w'.cell? ⟨b, off + j * 10, none⟩ = some (.int .i64 (fld ps j 0)) ∧ w'.cell? ⟨b, off + j * 10 + 1, none⟩ = some (.int .i64 (fld ps j 1)) ∧ w'.cell? ⟨b, off + j * 10 + 2, none⟩ = some (.int .i64 (fld ps j 2)) ∧ w'.cell? ⟨b, off + j * 10 + 3, none⟩ = some (.int .i64 (fld ps j 3)) ∧ w'.cell? ⟨b, off + j * 10 + 4, none⟩ = some (.int .i64 (fld ps j 4)) ∧ w'.cell? ⟨b, off + j * 10 + 5, none⟩ = some (.int .i64 (fld ps j 5)) ∧ w'.cell? ⟨b, off + j * 10 + 6, none⟩ = some (.int .i64 (fld ps j 6)) ∧ w'.cell? ⟨b, off + j * 10 + 7, none⟩ = some (.int .i64 (fld ps j 7)) ∧ w'.cell? ⟨b, off + j * 10 + 8, none⟩ = some (.int .i64 (fld ps j 8)) ∧ w'.cell? ⟨b, off + j * 10 + 9, none⟩ = some (.int .i64 (fld ps j 9))) ((first | (go_keep; done) | (go_simp; done))) ((go_at_call 91; refine (vpn (spec_EntryOf A n c es r (fld ps j) now _ hn (H.out.below (by (repeat (first | with_reducible exact Below.refl _ _ | with_reducible refine Below.drew ?_ | with_reducible refine below_drewN ?_ _ | (with_reducible refine bel_alloc ?_ ?_ _; (first | omega | (simp; omega) | simp)) | (with_reducible refine bel_set ?_ ?_ _; (first | omega | (simp; omega) | simp)) | (with_reducible refine bel_tr (by assumption) ?_ ?_; (first | omega | (simp; omega) | simp))))))) hE).mono ?_; rintro y w2 ⟨rfl, b2⟩; have s2 := b2.size; (try simp at s2); have kr2 : ∀ o, w2.cell? ⟨w.heap.size, o, none⟩ = _ := (fun o => b2.cell (p := ⟨w.heap.size, o, none⟩) (by (first | omega | (simp; omega) | simp))); have kb2 : ∀ o, w2.cell? ⟨b, o, none⟩ = _ := (fun o => b2.cell (p := ⟨b, o, none⟩) (by (first | omega | (simp; omega) | simp))); have kw2 := (fun (hh : wr.heap.size < _) (o : Nat) => b2.cell (p := ⟨wr.heap.size, o, none⟩) hh); have kf2 := (fun (hh : wr.heap.size < _) (o : Nat) => b2.frozen (p := ⟨wr.heap.size, o, none⟩) hh); have kz2 : w.heap.size < w2.heap.size := (by omega); have ky2 : b < w2.heap.size := (by omega)))
            all_goals
              go_wp2_with fail
              go_meet
              exact ⟨_, rfl, rfl, by (first | omega | (simp; omega) | simp), by (first | omega | (simp; omega) | simp), by (first | (go_keep; done) | (go_simp; done)), by (first | (go_keep; done) | (go_simp; done)), by (first | (go_keep; done) | (go_simp; done)), by (first | (go_keep; done) | (go_simp; done)), Lib.hid (by (repeat (first | with_reducible exact Below.refl _ _ | with_reducible refine Below.drew ?_ | with_reducible refine below_drewN ?_ _ | (with_reducible refine bel_alloc ?_ ?_ _; (first | omega | (simp; omega) | simp)) | (with_reducible refine bel_set ?_ ?_ _; (first | omega | (simp; omega) | simp)) | (with_reducible refine bel_tr (by assumption) ?_ ?_; (first | omega | (simp; omega) | simp)))))⟩
          case rest =>
            obtain ⟨b11, rfl, rfl, hb11, hb12, x0, x1, x2, x3, HBx⟩ := hcut
            have hsx := HBx.out.size
            have hbel2 : Below w.heap.size w wc := bel_tr HBx.out (by omega) hbel
            have X2 := Lib.hid (Bx.below HX.out HBx.out)
            have O2 := Lib.hid (HO.out.below HBx.out)
            have c1x : wc.cell? ⟨b, off + j * 10 + 1, none⟩ = some (.int .i64 (fld ps j 1)) := (HBx.out.cell (p := ⟨b, off + j * 10 + 1, none⟩) hbw).trans c1
            go_wp2
            go_roundw
            case rel => exact ⟨j, (j : Int) - 1, A', q, c', Lib.hid (by omega), by omega, by omega, by omega, by go_num, rfl, hqc, hcm, hqm, by rw [HS.out, HN.out]; exact O2, X2, by (repeat (first | with_reducible exact Below.refl _ _ | with_reducible refine Below.drew ?_ | with_reducible refine below_drewN ?_ _ | (with_reducible refine bel_alloc ?_ ?_ _; (first | omega | (simp; omega) | simp)) | (with_reducible refine bel_set ?_ ?_ _; (first | omega | (simp; omega) | simp)) | (with_reducible refine bel_tr (by assumption) ?_ ?_; (first | omega | (simp; omega) | simp))))⟩
            case measure => simp [intOf]
    · have hk0 : k = 0 := by have := HZ.out; omega
      subst hk0
      have e0 : entS ok r now ps 0 (m - 0) = entL ok r now ps m := entS_all
      rw [e0] at HO
      have hzn : ¬ 0 ≤ z := hlt
      go_wp2
      go_ret
      exact ⟨A', q, c', rfl, HO.out, ⟨hqc, hcm⟩, hbel⟩
end Go.Proofs.YtjlmcppkafjniaaGreat
