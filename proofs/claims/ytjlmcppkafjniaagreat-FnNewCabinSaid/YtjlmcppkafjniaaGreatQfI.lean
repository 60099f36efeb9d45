/-
  The contract of the program's QueueOf, for any number of parties. No conditions beyond those stated.
-/
import Derived.Test.YtjlmcppkafjniaaGreatDv0
import Derived.Test.YtjlmcppkafjniaaGreatQa
import Derived.Test.YtjlmcppkafjniaaGreatCe
import Derived.Test.YtjlmcppkafjniaaGreatDt0
namespace Go.Proofs.YtjlmcppkafjniaaGreat
open Go.RowKit

theorem party_info : (Tryz.prog.info? 71).map (fun i => (i.zero, i.size, i.bytes)) = some (some (.agg #[.int .i64 0, .int .i64 0, .int .i64 0, .int .i64 0, .int .i64 0, .int .i64 0, .int .i64 0, .int .i64 0, .int .i64 0, .int .i64 0]), 10, 80) := by kernel_rfl
theorem rd_one10 (w : World) (t : TypeId) (p : Nat → Int) : Rd (w.alloc (.cells #[.int .i64 (p 0), .int .i64 (p 1), .int .i64 (p 2), .int .i64 (p 3), .int .i64 (p 4), .int .i64 (p 5), .int .i64 (p 6), .int .i64 (p 7), .int .i64 (p 8), .int .i64 (p 9)] t)) 10 (some ⟨w.heap.size, 0, none⟩) 1 [p] :=
  ⟨rfl, .inr ⟨w.heap.size, 0, rfl, by simp, fun i hi => by
    obtain rfl : i = 0 := by omega
    have hb := (Bx.party w t p).2.2
    intro j hj
    have h1 := hb j hj
    simp only [Nat.zero_mul, Nat.zero_add]
    exact h1⟩⟩
theorem row_empty1 (w : World) (t : TypeId) (K : Nat) {b : Nat} (h : b = w.heap.size) : (w.alloc (.cells #[] t)).ownsRow b t K (.slice (some ⟨b, 0, none⟩) 0 0) 0 (flat K []) :=
  h ▸ ⟨by simp [flat], .inr ⟨w.heap.size, 0, #[], rfl, Nat.le_refl _, heap_alloc_new w _, Nat.le_refl _, Nat.zero_le _, by simp, by simp [flat]⟩⟩
theorem bel_grown0 {w w' : World} {o : Obj} {B : Nat} {row : Option Nat} (hg : (w.alloc o).grownBy w' row) (hr : ∀ k, row = some k → B ≤ k) (hB : B ≤ (w.alloc o).heap.size) (hB2 : B ≤ w.heap.size) : Below B w w' := Below.grown ((Below.refl B w).alloc hB2 o) hg hB hr
theorem Bx.keep {w w' : World} {b K B : Nat} {v : Nat → Value} (h : Bx w b K v) (d : Below B w w') (hb : b < B) : Bx w' b K v :=
  ⟨Nat.lt_of_lt_of_le h.1 d.size, fun o => (d.frozen (p := ⟨b, o, none⟩) hb).trans (h.2.1 o), fun j hj => (d.cell (p := ⟨b, j, none⟩) hb).trans (h.2.2 j hj)⟩
theorem Own.keep {B D K n : Nat} {w w' : World} {A : Option Addr} {es : List (Nat → Int)} (h : Own B w K A n es) (d : Below D w w') (hD : ∀ a, n ≠ 0 → A = some a → a.block < D) : Own B w' K A n es :=
  ⟨h.1, by
    rcases Nat.eq_zero_or_pos n with h0 | h0
    · exact .inl h0
    · obtain ⟨b, off, h1, h2, h3, h4, h5⟩ := h.2.resolve_left (by omega)
      have hb : b < D := hD _ (by omega) h1
      exact .inr ⟨b, off, h1, Nat.lt_of_lt_of_le h2 d.size, h3, fun o => (d.frozen (p := ⟨b, o, none⟩) hb).trans (h4 o), fun i hi j hj => (d.cell (p := ⟨b, off + i * K + j, none⟩) hb).trans (h5 i hi j hj)⟩⟩
def Shp (A : Option Addr) : Prop := ∃ g, A = some ⟨g, 0, none⟩
theorem row_shape {w : World} {base n c : Nat} {e : TypeId} {K : Nat} {A : Option Addr} {xs : List Value} (h : w.ownsRow base e K (.slice A n c) n xs) (hb : ∃ g, (Value.slice A n c).ownBlock = some g) : Shp A := by
  rcases h.2 with ⟨hv, _⟩ | ⟨g, cap, cur, hv, _⟩
  · injection hv with h1 _ _
    subst h1
    obtain ⟨g, hg⟩ := hb
    cases hg
  · injection hv with h1 _ _
    exact ⟨g, h1⟩
def PtsD (w : World) (cb : Nat) (y : Ending) (w' : World) : Prop := ∃ (A' : Option Addr) (m c' : Nat) (ps : List (Nat → Int)), y = .returned (.slice A' m c') ∧ m ≤ 7 ∧ m ≤ c' ∧ c' ≤ 9223372036854775807 ∧ Own w.heap.size w' 10 A' m ps ∧ Drew w cb w' ∧ Shp A'

def LcD (w : World) (y : Ending) (w' : World) : Prop := ∃ (A' : Option Addr) (m c' : Nat) (ps : List (Nat → Int)) (cab : Int), y = .returned (.tuple #[.slice A' m c', .int .i64 cab]) ∧ m ≤ 7 ∧ m ≤ c' ∧ c' ≤ 9223372036854775807 ∧ Own w.heap.size w' 10 A' m ps ∧ Below w.heap.size w w' ∧ Shp A'

end Go.Proofs.YtjlmcppkafjniaaGreat


namespace Go.Proofs.YtjlmcppkafjniaaGreat
open Go.RowKit

theorem entryQ_info : (Tryz.prog.info? 82).map (fun i => (i.zero, i.size, i.bytes)) = some (some (.agg #[.int .i64 0, .int .i64 0, .int .i64 0, .int .i64 0]), 4, 32) := by kernel_rfl
theorem ent_one4 (w : World) (t : TypeId) (p : Nat → Int) (b : Nat) (h : b = w.heap.size) : Rd (w.alloc (.cells #[.int .i64 (p 0), .int .i64 (p 1), .int .i64 (p 2), .int .i64 (p 3)] t)) 4 (some ⟨b, 0, none⟩) 1 [p] :=
  h ▸ ⟨rfl, .inr ⟨w.heap.size, 0, rfl, by simp, fun i hi j hj => by
    obtain rfl : i = 0 := by omega
    match j, hj with
    | 0, _ => simp [fld]
    | 1, _ => simp [fld]
    | 2, _ => simp [fld]
    | 3, _ => simp [fld]⟩⟩
def QfD (w : World) (L : List (Nat → Int)) (y : Ending) (w' : World) : Prop := ∃ (A' : Option Addr) (q c' : Nat), y = .returned (.slice A' q c') ∧ Own w.heap.size w' 4 A' q (sortR L) ∧ (q ≤ c' ∧ c' ≤ 9223372036854775807) ∧ Below w.heap.size w w'

set_option maxRecDepth 100000 in
set_option maxHeartbeats 16000000 in
theorem iQueueOf_any (A : Option Addr) (n c : Nat) (es : List (Nat → Int)) (r : Nat → Int) (P : Option Addr) (m pc : Nat) (ps : List (Nat → Int)) (cab now : Int) (ok : Nat → Bool) (w : World) (hn : n ≤ 4194304) (hm : m ≤ 4194303) (h : Rd w 1 A n es) (hp : Rd w 10 P m ps) (hok : OkF ok n es r now ps cab) :
    Calls Tryz.prog 38 #[.agg #[.slice A n c, .int .i64 (r 1), .int .i64 (r 2), .int .i64 (r 3), .int .i64 (r 4), .int .i64 (r 5), .int .i64 (r 6), .int .i64 (r 7), .int .i64 (r 8)], .slice P m pc, .int .i64 cab, .int .i64 now] w (QfD w (entL ok r now ps m)) := by
  obtain ⟨i0, hi0, hz0, hz1, hz2⟩ := info_parts entryQ_info
  have H := Lib.hid h
  have HP := Lib.hid hp
  have HK := Lib.hid hok
  clear h hp hok
  go_enter Tryz.func38, Tryz.ntmps38
  go_wp2
  go_loopw [9, 16] (fun v i wr => ∃ k : Nat, k ≤ m ∧ i = .int .i64 k ∧ Hid (wr.ownsRow (w.heap.size + 1) 82 4 v (entL ok r now ps k).length (flat 4 (entL ok r now ps k))) ∧ Hid (Bx wr w.heap.size 9 (rv A n c r)) ∧ Below w.heap.size w wr) (fun _ i _ => m - (intOf i).toNat)
  case atStart => exact ⟨0, Nat.zero_le _, rfl, Lib.hid (World.ownsRow_nil _ _ _ _), Lib.hid (Bx.rules w 37 A n c r), by (repeat (first | with_reducible exact Below.refl _ _ | with_reducible refine Below.drew ?_ | with_reducible refine below_drewN ?_ _ | (with_reducible refine bel_alloc ?_ ?_ _; (first | omega | (simp; omega) | simp)) | (with_reducible refine bel_set ?_ ?_ _; (first | omega | (simp; omega) | simp)) | (with_reducible refine bel_tr (by assumption) ?_ ?_; (first | omega | (simp; omega) | simp))))⟩
  case round =>
    obtain ⟨k, hk, rfl, HR, HX, hbel⟩ := hrel
    have hsz := hbel.size
    have hml := entL_len ok r now ps k
    by_cases hlt : k < m
    · have hki : (k : Int) < (m : Int) := by omega
      have hk0 : (0 : Int) ≤ (k : Int) := by omega
      obtain ⟨b, off, rfl, hb, hc⟩ := HP.out.2.resolve_left (by omega)
      have c0 : wr.cell? ⟨b, off + k * 10, none⟩ = some (.int .i64 (fld ps k 0)) := (hbel.cell (p := ⟨b, off + k * 10, none⟩) hb).trans (hc k hlt 0 (by omega))
      have c1 : wr.cell? ⟨b, off + k * 10 + 1, none⟩ = some (.int .i64 (fld ps k 1)) := (hbel.cell (p := ⟨b, off + k * 10 + 1, none⟩) hb).trans (hc k hlt 1 (by omega))
      have c2 : wr.cell? ⟨b, off + k * 10 + 2, none⟩ = some (.int .i64 (fld ps k 2)) := (hbel.cell (p := ⟨b, off + k * 10 + 2, none⟩) hb).trans (hc k hlt 2 (by omega))
      have c3 : wr.cell? ⟨b, off + k * 10 + 3, none⟩ = some (.int .i64 (fld ps k 3)) := (hbel.cell (p := ⟨b, off + k * 10 + 3, none⟩) hb).trans (hc k hlt 3 (by omega))
      have c4 : wr.cell? ⟨b, off + k * 10 + 4, none⟩ = some (.int .i64 (fld ps k 4)) := (hbel.cell (p := ⟨b, off + k * 10 + 4, none⟩) hb).trans (hc k hlt 4 (by omega))
      have c5 : wr.cell? ⟨b, off + k * 10 + 5, none⟩ = some (.int .i64 (fld ps k 5)) := (hbel.cell (p := ⟨b, off + k * 10 + 5, none⟩) hb).trans (hc k hlt 5 (by omega))
      have c6 : wr.cell? ⟨b, off + k * 10 + 6, none⟩ = some (.int .i64 (fld ps k 6)) := (hbel.cell (p := ⟨b, off + k * 10 + 6, none⟩) hb).trans (hc k hlt 6 (by omega))
      have c7 : wr.cell? ⟨b, off + k * 10 + 7, none⟩ = some (.int .i64 (fld ps k 7)) := (hbel.cell (p := ⟨b, off + k * 10 + 7, none⟩) hb).trans (hc k hlt 7 (by omega))
      have c8 : wr.cell? ⟨b, off + k * 10 + 8, none⟩ = some (.int .i64 (fld ps k 8)) := (hbel.cell (p := ⟨b, off + k * 10 + 8, none⟩) hb).trans (hc k hlt 8 (by omega))
      have c9 : wr.cell? ⟨b, off + k * 10 + 9, none⟩ = some (.int .i64 (fld ps k 9)) := (hbel.cell (p := ⟨b, off + k * 10 + 9, none⟩) hb).trans (hc k hlt 9 (by omega))
      clear hc
      have rc0 : _ = some (Value.slice A n c) := (HX.out).2.2 0 (by omega)
      have rc1 : _ = some (Value.int .i64 (r 1)) := (HX.out).2.2 1 (by omega)
      have rc2 : _ = some (Value.int .i64 (r 2)) := (HX.out).2.2 2 (by omega)
      have rc3 : _ = some (Value.int .i64 (r 3)) := (HX.out).2.2 3 (by omega)
      have rc4 : _ = some (Value.int .i64 (r 4)) := (HX.out).2.2 4 (by omega)
      have rc5 : _ = some (Value.int .i64 (r 5)) := (HX.out).2.2 5 (by omega)
      have rc6 : _ = some (Value.int .i64 (r 6)) := (HX.out).2.2 6 (by omega)
      have rc7 : _ = some (Value.int .i64 (r 7)) := (HX.out).2.2 7 (by omega)
      have rc8 : _ = some (Value.int .i64 (r 8)) := (HX.out).2.2 8 (by omega)
      have hxw : w.heap.size < wr.heap.size := HX.out.1
      rcases Bool.eq_false_or_eq_true (ok k) with t0 | t0
      · have HY := Lib.hid ((HK.out k).1 t0)
        have HN := Lib.hid (entL_y (r := r) (now := now) (ps := ps) t0)
        have t1 : (fld ps k 1 == cab) = true := by simp [HY.out.2]
        clear t0
        go_wp2_with fail
        refine (vpy (impl_EntryOf A n c es r (fld ps k) now _ hn (H.out.below (by (repeat (first | with_reducible exact Below.refl _ _ | with_reducible refine Below.drew ?_ | with_reducible refine below_drewN ?_ _ | (with_reducible refine bel_alloc ?_ ?_ _; (first | omega | (simp; omega) | simp)) | (with_reducible refine bel_set ?_ ?_ _; (first | omega | (simp; omega) | simp)) | (with_reducible refine bel_tr (by assumption) ?_ ?_; (first | omega | (simp; omega) | simp))))))) HY.out.1).mono ?_
        rintro y w2 ⟨rfl, b2⟩
        have s2 := b2.size
        (try simp at s2)
        have kd : ∀ o, w2.cell? ⟨wr.heap.size, o, none⟩ = _ := fun o => b2.cell (p := ⟨wr.heap.size, o, none⟩) (by simp)
        have kz : wr.heap.size < w2.heap.size := by omega
        have X2 := Lib.hid (Bx.below (HX.out.alloc _) b2)
        have R2 := Lib.hid (row_below (HR.out.alloc _) b2)
        go_wp2_with (at_builtin; go_must (refine wpList_append_rd _ rfl _ _ 27 rfl (w.heap.size + 1) 82 i0 _ 4 32 Tryz.underlying27 hi0 hz0 hz1 hz2 rfl (by omega) _ (entL ok r now ps k).length (entL ok r now ps k) rfl (World.ownsRow.alloc (World.ownsRow.alloc R2.out _) _) (some ⟨w2.heap.size + 1, 0, none⟩) 1 1 [entAt r now ps k] rfl (ent_one4 _ _ _ _ (by simp)) (by unfold maxLen; omega) (by omega) (by simp; omega) ?_); intro v3 w3 hown3 hg3 hat3)
        have s3 := hg3.size
        (try simp at s3)
        have B3 : Hid (Below w.heap.size w w3) := Lib.hid (Below.grown (show Below w.heap.size w _ by (repeat (first | with_reducible exact Below.refl _ _ | with_reducible refine Below.drew ?_ | with_reducible refine below_drewN ?_ _ | (with_reducible refine bel_alloc ?_ ?_ _; (first | omega | (simp; omega) | simp)) | (with_reducible refine bel_set ?_ ?_ _; (first | omega | (simp; omega) | simp)) | (with_reducible refine bel_tr (by assumption) ?_ ?_; (first | omega | (simp; omega) | simp))))) hg3 (by (first | omega | (simp; omega) | simp)) (row_ge R2.out (by omega)))
        have K3 : Hid (Below (w.heap.size + 1) w2 w3) := Lib.hid (Below.grown (show Below (w.heap.size + 1) w2 _ by (repeat (first | with_reducible exact Below.refl _ _ | (with_reducible refine bel_alloc ?_ ?_ _; (first | omega | (simp; omega) | simp))))) hg3 (by (first | omega | (simp; omega) | simp)) (row_ge R2.out (Nat.le_refl _)))
        have X3 : Hid (Bx w3 w.heap.size 9 (rv A n c r)) := Lib.hid (Bx.keep X2.out K3.out (by omega))
        have R3 := Lib.hid hown3
        clear hown3 hg3 hat3
        go_wp2
        go_roundw
        case rel => exact ⟨k + 1, by omega, by go_num, by rw [HN.out, List.length_append, List.length_singleton]; exact R3, X3, B3.out⟩
        case measure => simp [intOf]; omega
      · have HN := Lib.hid (entL_n (r := r) (now := now) (ps := ps) t0)
        by_cases hE : entP n es r (fld ps k) now
        · have t1 : (fld ps k 1 == cab) = false := by (simp; intro h1; have := (HK.out k).2 ⟨hE, h1⟩; rw [t0] at this; cases this)
          have HE := Lib.hid hE
          clear t0 hE
          go_wp2_with fail
          refine (vpy (impl_EntryOf A n c es r (fld ps k) now _ hn (H.out.below (by (repeat (first | with_reducible exact Below.refl _ _ | with_reducible refine Below.drew ?_ | with_reducible refine below_drewN ?_ _ | (with_reducible refine bel_alloc ?_ ?_ _; (first | omega | (simp; omega) | simp)) | (with_reducible refine bel_set ?_ ?_ _; (first | omega | (simp; omega) | simp)) | (with_reducible refine bel_tr (by assumption) ?_ ?_; (first | omega | (simp; omega) | simp))))))) HE.out).mono ?_
          rintro y w2 ⟨rfl, b2⟩
          have s2 := b2.size
          (try simp at s2)
          have kd : ∀ o, w2.cell? ⟨wr.heap.size, o, none⟩ = _ := fun o => b2.cell (p := ⟨wr.heap.size, o, none⟩) (by simp)
          have kz : wr.heap.size < w2.heap.size := by omega
          have X2 := Lib.hid (Bx.below (HX.out.alloc _) b2)
          have R2 := Lib.hid (row_below (HR.out.alloc _) b2)
          go_wp2
          go_roundw
          case rel => exact ⟨k + 1, by omega, by go_num, by rw [HN.out]; exact Lib.hid (World.ownsRow.alloc R2.out _), Lib.hid (X2.out.alloc _), by (repeat (first | with_reducible exact Below.refl _ _ | with_reducible refine Below.drew ?_ | with_reducible refine below_drewN ?_ _ | (with_reducible refine bel_alloc ?_ ?_ _; (first | omega | (simp; omega) | simp)) | (with_reducible refine bel_set ?_ ?_ _; (first | omega | (simp; omega) | simp)) | (with_reducible refine bel_tr (by assumption) ?_ ?_; (first | omega | (simp; omega) | simp))))⟩
          case measure => simp [intOf]; omega
        · clear t0
          go_wp2_with fail
          refine (vpn (impl_EntryOf A n c es r (fld ps k) now _ hn (H.out.below (by (repeat (first | with_reducible exact Below.refl _ _ | with_reducible refine Below.drew ?_ | with_reducible refine below_drewN ?_ _ | (with_reducible refine bel_alloc ?_ ?_ _; (first | omega | (simp; omega) | simp)) | (with_reducible refine bel_set ?_ ?_ _; (first | omega | (simp; omega) | simp)) | (with_reducible refine bel_tr (by assumption) ?_ ?_; (first | omega | (simp; omega) | simp))))))) hE).mono ?_
          rintro y w2 ⟨rfl, b2⟩
          have s2 := b2.size
          (try simp at s2)
          have kd : ∀ o, w2.cell? ⟨wr.heap.size, o, none⟩ = _ := fun o => b2.cell (p := ⟨wr.heap.size, o, none⟩) (by simp)
          have kz : wr.heap.size < w2.heap.size := by omega
          have X2 := Lib.hid (Bx.below (HX.out.alloc _) b2)
          have R2 := Lib.hid (row_below (HR.out.alloc _) b2)
          go_wp2
          go_roundw
          case rel => exact ⟨k + 1, by omega, by go_num, by rw [HN.out]; exact Lib.hid (World.ownsRow.alloc R2.out _), Lib.hid (X2.out.alloc _), by (repeat (first | with_reducible exact Below.refl _ _ | with_reducible refine Below.drew ?_ | with_reducible refine below_drewN ?_ _ | (with_reducible refine bel_alloc ?_ ?_ _; (first | omega | (simp; omega) | simp)) | (with_reducible refine bel_set ?_ ?_ _; (first | omega | (simp; omega) | simp)) | (with_reducible refine bel_tr (by assumption) ?_ ?_; (first | omega | (simp; omega) | simp))))⟩
          case measure => simp [intOf]; omega
    · have hkm : k = m := by omega
      subst hkm
      have hki : ¬ (k : Int) < (k : Int) := by omega
      obtain ⟨A3, c3, rfl, hc1, hc2, o3⟩ := own_of_row_cap rfl HR.out
      have O3 := Lib.hid o3
      clear o3
      go_wp2_with (go_at_call 83; refine (stableE_all (w.heap.size + 1) A3 c3 _ (entL ok r now ps k) _ (by omega) hc1 hc2 HX.out.1 O3.out).mono ?_; rintro y w4 ⟨rfl, o4, b4⟩)
      go_ret
      exact ⟨A3, _, c3, rfl, o4.mono (by omega), ⟨hc1, hc2⟩, hbel.trans (b4.mono (by omega))⟩
end Go.Proofs.YtjlmcppkafjniaaGreat
