/-
  The draws of lists of parties. No conditions beyond those stated.
-/
import Derived.Test.YtccabkmmlddenaaDv0
import Derived.Test.YtccabkmmlddenaaCu
namespace Go.Proofs.Ytccabkmmlddenaa
open Go.RowKit

theorem party_info : (Try.prog.info? 50).map (fun i => (i.zero, i.size, i.bytes)) = some (some (.agg #[.int .i64 0, .int .i64 0, .int .i64 0, .int .i64 0, .int .i64 0, .int .i64 0, .int .i64 0, .int .i64 0, .int .i64 0, .int .i64 0]), 10, 80) := by kernel_rfl
theorem rd_one10 (w : World) (t : TypeId) (p : Nat → Int) : Rd (w.alloc (.cells #[.int .i64 (p 0), .int .i64 (p 1), .int .i64 (p 2), .int .i64 (p 3), .int .i64 (p 4), .int .i64 (p 5), .int .i64 (p 6), .int .i64 (p 7), .int .i64 (p 8), .int .i64 (p 9)] t)) 10 (some ⟨w.heap.size, 0, none⟩) 1 [p] :=
  ⟨rfl, .inr ⟨w.heap.size, 0, rfl, by simp, fun i hi => by
    obtain rfl : i = 0 := by omega
    have hb := (Bx.party w t p).2.2
    intro j hj
    have h1 := hb j hj
    simp only [Nat.zero_mul, Nat.zero_add]
    exact h1⟩⟩
theorem row_empty1 (w : World) (t : TypeId) (K : Nat) {b : Nat} (h : b = w.heap.size) : (w.alloc (.cells #[] t)).ownsRow b t K (.slice (some ⟨b, 0, none⟩) 0 0) 0 (flat K []) :=
  h ▸ ⟨by simp [flat], .inr ⟨w.heap.size, 0, #[], rfl, Nat.le_refl _, heap_alloc_new w _, Nat.le_refl _, Nat.zero_le _, by simp, by simp [flat]⟩⟩
theorem bel_grown0 {w w' : World} {o : Obj} {B : Nat} {row : Option Nat} (hg : (w.alloc o).grownBy w' row) (hr : ∀ k, row = some k → B ≤ k) (hB : B ≤ (w.alloc o).heap.size) (hB2 : B ≤ w.heap.size) : Below B w w' := Below.grown ((Below.refl B w).alloc hB2 o) hg hB hr
theorem Bx.keep {w w' : World} {b K B : Nat} {v : Nat → Value} (h : Bx w b K v) (d : Below B w w') (hb : b < B) : Bx w' b K v :=
  ⟨Nat.lt_of_lt_of_le h.1 d.size, fun o => (d.frozen (p := ⟨b, o, none⟩) hb).trans (h.2.1 o), fun j hj => (d.cell (p := ⟨b, j, none⟩) hb).trans (h.2.2 j hj)⟩
theorem Own.keep {B D K n : Nat} {w w' : World} {A : Option Addr} {es : List (Nat → Int)} (h : Own B w K A n es) (d : Below D w w') (hD : ∀ a, n ≠ 0 → A = some a → a.block < D) : Own B w' K A n es :=
  ⟨h.1, by
    rcases Nat.eq_zero_or_pos n with h0 | h0
    · exact .inl h0
    · obtain ⟨b, off, h1, h2, h3, h4, h5⟩ := h.2.resolve_left (by omega)
      have hb : b < D := hD _ (by omega) h1
      exact .inr ⟨b, off, h1, Nat.lt_of_lt_of_le h2 d.size, h3, fun o => (d.frozen (p := ⟨b, o, none⟩) hb).trans (h4 o), fun i hi j hj => (d.cell (p := ⟨b, off + i * K + j, none⟩) hb).trans (h5 i hi j hj)⟩⟩
def Shp (A : Option Addr) : Prop := ∃ g, A = some ⟨g, 0, none⟩
theorem row_shape {w : World} {base n c : Nat} {e : TypeId} {K : Nat} {A : Option Addr} {xs : List Value} (h : w.ownsRow base e K (.slice A n c) n xs) (hb : ∃ g, (Value.slice A n c).ownBlock = some g) : Shp A := by
  rcases h.2 with ⟨hv, _⟩ | ⟨g, cap, cur, hv, _⟩
  · injection hv with h1 _ _
    subst h1
    obtain ⟨g, hg⟩ := hb
    cases hg
  · injection hv with h1 _ _
    exact ⟨g, h1⟩
def PtsD (w : World) (cb : Nat) (y : Ending) (w' : World) : Prop := ∃ (A' : Option Addr) (m c' : Nat) (ps : List (Nat → Int)), y = .returned (.slice A' m c') ∧ m ≤ 7 ∧ m ≤ c' ∧ c' ≤ 9223372036854775807 ∧ Own w.heap.size w' 10 A' m ps ∧ Drew w cb w' ∧ Shp A'

set_option maxRecDepth 100000 in
set_option maxHeartbeats 8000000 in
theorem l7Parties_any (cb B : Nat) (A : Option Addr) (n c : Nat) (es : List (Nat → Int)) (r : Nat → Int) (now : Int) (w : World) (hn : n ≤ 4194304) (hcb : cb < B) (hB : B ≤ w.heap.size) (h : Cur w cb) (ho : Own B w 1 A n es) :
    Calls Try.prog 45 #[.pointer (some ⟨cb, 0, none⟩), .agg #[.slice A n c, .int .i64 (r 1), .int .i64 (r 2), .int .i64 (r 3), .int .i64 (r 4), .int .i64 (r 5), .int .i64 (r 6), .int .i64 (r 7), .int .i64 (r 8)], .int .i64 now] w (PtsD w cb) := by
  obtain ⟨i0, hi0, hz0, hz1, hz2⟩ := info_parts party_info
  have hlt := h.lt
  have HO := Lib.hid ho
  have HA := Lib.hid (Own.lt ho)
  have HC := Lib.hid h
  clear h ho
  go_enter Try.func45, Try.ntmps45
  go_wp2_with fail
  refine (l1Below_any cb 8 _ (by first | with_reducible exact HC.out | exact ((HC.out.alc _).alc _))).mono ?_
  rintro y w1 ⟨x, rfl, ⟨x0, x1, _⟩, d1⟩
  have x2 := x1 (by omega)
  clear x1
  have s1 := d1.2.size
  (try simp at s1)
  have X1 := Lib.hid (Bx.drew (((Bx.rules w 30 A n c r)).alloc _) d1 (by omega))
  have R1 : Hid (w1.ownsRow (w.heap.size + 1) 50 10 (.slice (some ⟨w.heap.size + 1, 0, none⟩) 0 0) 0 (flat 10 [])) := Lib.hid (row_drew (row_empty1 _ _ 10 (by simp)) d1 (by omega))
  have D1 : Hid (Drew w cb w1) := Lib.hid (Drew.trans (by (repeat (first | with_reducible assumption | (with_reducible refine Drew.set hlt ?_ ?_; (first | omega | (simp; omega) | simp)) | with_reducible refine Drew.alloc _ ?_ | with_reducible refine Drew.drewN _ ?_ | with_reducible exact Cur.drew_below HC.out (Below.refl _ _)))) d1)
  have O1 := Lib.hid (Own.drew_c ((HO.out.alloc_ _).alloc_ _) d1 (by omega))
  clear d1
  go_wp2
  go_loopw [7, 9] (fun v i wr => ∃ (k : Nat) (es' : List (Nat → Int)), (k : Int) ≤ x ∧ i = .int .i64 k ∧ es'.length = k ∧ Hid (∃ g, v.ownBlock = some g) ∧ Hid (wr.ownsRow (w.heap.size + 1) 50 10 v k (flat 10 es')) ∧ Hid (Drew w cb wr) ∧ Hid (Bx wr w.heap.size 9 (rv A n c r)) ∧ Hid (Own B wr 1 A n es) ∧ w.heap.size + 1 ≤ wr.heap.size) (fun _ i _ => 8 - (intOf i).toNat)
  case atStart => exact ⟨0, [], by omega, rfl, rfl, Lib.hid ⟨_, rfl⟩, R1, D1, X1, O1, by omega⟩
  case round =>
    obtain ⟨k, es', hk, rfl, hl, HV, HR, HD, HX, HO2, hs⟩ := hrel
    by_cases hlt2 : (k : Int) < x
    · have rc0 : _ = some (Value.slice A n c) := (HX.out).2.2 0 (by omega)
      have rc1 : _ = some (Value.int .i64 (r 1)) := (HX.out).2.2 1 (by omega)
      have rc2 : _ = some (Value.int .i64 (r 2)) := (HX.out).2.2 2 (by omega)
      have rc3 : _ = some (Value.int .i64 (r 3)) := (HX.out).2.2 3 (by omega)
      have rc4 : _ = some (Value.int .i64 (r 4)) := (HX.out).2.2 4 (by omega)
      have rc5 : _ = some (Value.int .i64 (r 5)) := (HX.out).2.2 5 (by omega)
      have rc6 : _ = some (Value.int .i64 (r 6)) := (HX.out).2.2 6 (by omega)
      have rc7 : _ = some (Value.int .i64 (r 7)) := (HX.out).2.2 7 (by omega)
      have rc8 : _ = some (Value.int .i64 (r 8)) := (HX.out).2.2 8 (by omega)
      go_wp2_with fail
      refine (l6Bent_any cb B A n c es r now _ hn hcb (by omega) HD.out.1 HO2.out).mono ?_
      rintro y w2 ⟨p, rfl, _, d2⟩
      clear rc0 rc1 rc2 rc3 rc4 rc5 rc6 rc7 rc8
      have s2 := d2.2.size
      have R2 := Lib.hid (row_drew HR.out d2 (by omega))
      have D2 := Lib.hid (HD.out.trans d2)
      have X2 := Lib.hid (Bx.drew HX.out d2 (by omega))
      have O2 := Lib.hid (Own.drew_c HO2.out d2 hcb)
      clear d2
      go_wp2_with (at_builtin; go_must (refine wpList_append_rd _ rfl _ _ 32 rfl (w.heap.size + 1) 50 i0 _ 10 80 Try.underlying32 hi0 hz0 hz1 hz2 rfl (by omega) _ k es' rfl (World.ownsRow.alloc R2.out _) (some ⟨w2.heap.size, 0, none⟩) 1 1 [p] rfl (rd_one10 w2 _ p) (by unfold maxLen; omega) (by omega) (by simp; omega) ?_); intro v3 w3 hown3 hg3 hat3)
      have s3 := hg3.size
      (try simp at s3)
      have b3 : Below (w.heap.size + 1) w2 w3 := bel_grown0 hg3 (row_ge R2.out (Nat.le_refl _)) (by (first | omega | (simp; omega) | simp)) (by (first | omega | (simp; omega) | simp))
      have D3 : Hid (Drew w cb w3) := Lib.hid (Drew.grow hlt (by simp; omega) (Drew.alloc _ D2.out) hg3 (row_ge R2.out (by omega)))
      have X3 : Hid (Bx w3 w.heap.size 9 (rv A n c r)) := Lib.hid (Bx.keep X2.out b3 (by omega))
      have O3 : Hid (Own B w3 1 A n es) := Lib.hid (Own.keep O2.out b3 (fun a h0 ha => by have hz := HA.out a h0 ha; omega))
      have V3 : Hid (∃ g, v3.ownBlock = some g) := Lib.hid (hat3.elim (fun e => by rw [e]; exact HV.out) (fun e => ⟨_, e⟩))
      have R3 := Lib.hid hown3
      clear hown3 hg3 hat3 b3
      go_wp2
      go_roundw
      case rel => exact ⟨k + 1, es' ++ [p], by omega, by go_num, by simp [hl], V3, R3, D3, X3, O3, by omega⟩
      case measure => simp [intOf]; omega
    · obtain ⟨A3, c3, rfl, h1, h2, o3⟩ := own_of_row_cap hl HR.out
      have O4 := Lib.hid o3
      clear o3
      go_wp2
      go_ret
      exact ⟨A3, k, c3, es', rfl, by omega, h1, h2, O4.out.mono (by omega), HD.out, row_shape HR.out HV.out⟩

def LcD (w : World) (y : Ending) (w' : World) : Prop := ∃ (A' : Option Addr) (m c' : Nat) (ps : List (Nat → Int)) (cab : Int), y = .returned (.tuple #[.slice A' m c', .int .i64 cab]) ∧ m ≤ 7 ∧ m ≤ c' ∧ c' ≤ 9223372036854775807 ∧ Own w.heap.size w' 10 A' m ps ∧ Below w.heap.size w w' ∧ Shp A'

end Go.Proofs.Ytccabkmmlddenaa
