/-
  What PinsOf comes to: the pins of a wheel in order. No conditions.
-/
import Derived.Test.YtjlmcppkafjniaaGreatSl
import Derived.Deep.QuietTactic
import Derived.BigQuiet
import Derived.Laws.Entries
import Derived.ChangeSlices
import Derived.OpenShut
import Derived.Test.YtjlmcppkafjniaaGreatMk
import Derived.Test.YtjlmcppkafjniaaGreatQa
import Derived.Test.YtjlmcppkafjniaaGreatSo
namespace Go.Proofs.YtjlmcppkafjniaaGreat
open Go.RowKit

theorem and255 (x : Int) : 0 ≤ bits BinOp.and IntKind.i64 x 255 ∧ bits BinOp.and IntKind.i64 x 255 ≤ 255 := by
  have h1 : (BitVec.ofInt 64 x &&& BitVec.ofInt 64 255).toNat ≤ 255 := by
    rw [BitVec.toNat_and]
    exact Nat.le_trans Nat.and_le_right (by decide)
  have h2 : bits BinOp.and IntKind.i64 x 255 = IntKind.i64.wrap ((BitVec.ofInt 64 x &&& BitVec.ofInt 64 255).toNat : Int) := rfl
  rw [h2, IntKind.wrap_i64]
  omega

/-- The cursor in block cb: the code's slice lies in another block and reads as bytes. -/
def Cur (w : World) (cb : Nat) : Prop := ∃ (A : Option Addr) (n c : Nat) (i h : Int), w.cell? ⟨cb, 0, none⟩ = some (.slice A n c) ∧ w.cell? ⟨cb, 1, none⟩ = some (.int .i64 i) ∧ w.cell? ⟨cb, 2, none⟩ = some (.int .i64 h) ∧
  0 ≤ i ∧ i ≤ 1048576 ∧ n ≤ 1048576 ∧ (∀ o, w.frozen? ⟨cb, o, none⟩ = false) ∧ (n = 0 ∨ ∃ b off, A = some ⟨b, off, none⟩ ∧ b < cb ∧ ∀ j, j < n → ∃ x : Int, 0 ≤ x ∧ x ≤ 255 ∧ w.cell? ⟨b, off + j, none⟩ = some (.int .u8 x))

theorem grown_set {w w1 : World} {g o : Nat} {v : Value} (h : w.grownBy w1 (some g)) : w.grownBy (w1.setCell ⟨g, o, none⟩ v) (some g) :=
  ⟨h.os, h.tape, h.output, by simpa [World.setCell] using h.size, fun i hi hne => (Below.heap_setCell w1 ⟨g, o, none⟩ v i (by rintro rfl; exact hne rfl)).trans (h.block i hi hne)⟩
theorem grown_drewN {w w1 : World} {r : Option Nat} (h : w.grownBy w1 r) (n : Nat) : w.grownBy (w1.drewN n) r := ⟨h.os, h.tape, h.output, h.size, h.block⟩
theorem grown_trans {w w1 w2 : World} {r : Option Nat} (h : w.grownBy w1 r) (h2 : w1.grownBy w2 r) : w.grownBy w2 r :=
  ⟨h2.os.trans h.os, h2.tape.trans h.tape, h2.output.trans h.output, Nat.le_trans h.size h2.size, fun i hi hne => (h2.block i (Nat.lt_of_lt_of_le hi h.size) hne).trans (h.block i hi hne)⟩
theorem grown_below {w w1 w2 : World} {r : Option Nat} (h : w.grownBy w1 r) (h2 : Below w1.heap.size w1 w2) : w.grownBy w2 r :=
  ⟨h2.os.trans h.os, h2.tape.trans h.tape, h2.output.trans h.output, Nat.le_trans h.size h2.size, fun i hi hne => (h2.block i (Nat.lt_of_lt_of_le hi h.size)).trans (h.block i hi hne)⟩
theorem grown_alloc {w w1 : World} {r : Option Nat} (h : w.grownBy w1 r) (o : Obj) : w.grownBy (w1.alloc o) r := grown_below h ((Below.refl _ _).alloc (Nat.le_refl _) o)

/-- What a draw leaves: the cursor, and all other old blocks as they were. -/
def Drew (w : World) (cb : Nat) (w' : World) : Prop := Cur w' cb ∧ w.grownBy w' (some cb)
def IntD (P : Int → Prop) (w : World) (cb : Nat) (e : Ending) (w' : World) : Prop := ∃ x : Int, e = .returned (.int .i64 x) ∧ P x ∧ Drew w cb w'
theorem Drew.trans {w w1 w2 : World} {cb : Nat} (h : Drew w cb w1) (h2 : Drew w1 cb w2) : Drew w cb w2 := ⟨h2.1, grown_trans h.2 h2.2⟩
theorem Cur.lt {w : World} {cb : Nat} (h : Cur w cb) : cb < w.heap.size := by
  obtain ⟨_, _, _, _, _, h0, _⟩ := h
  exact lt_of_cell h0
theorem Cur.below {w w' : World} {cb : Nat} (h : Cur w cb) (hb : Below w.heap.size w w') : Cur w' cb := by
  have hlt := h.lt
  obtain ⟨A, n, c, i, x, h0, h1, h2, h3, h4, h5, h6, h7⟩ := h
  refine ⟨A, n, c, i, x, (hb.cell (p := ⟨cb, 0, none⟩) hlt).trans h0, (hb.cell (p := ⟨cb, 1, none⟩) hlt).trans h1, (hb.cell (p := ⟨cb, 2, none⟩) hlt).trans h2, h3, h4, h5, fun o => (hb.frozen (p := ⟨cb, o, none⟩) hlt).trans (h6 o), h7.imp id fun ⟨b, off, g1, g2, g4⟩ => ⟨b, off, g1, g2, fun j hj => ?_⟩⟩
  obtain ⟨y, y1, y2, y3⟩ := g4 j hj
  exact ⟨y, y1, y2, (hb.cell (p := ⟨b, off + j, none⟩) (Nat.lt_trans g2 hlt)).trans y3⟩
theorem Cur.drew_below {w w' : World} {cb : Nat} (h : Cur w cb) (hb : Below w.heap.size w w') : Drew w cb w' := ⟨h.below hb, grown_below (World.grownBy.refl w _) hb⟩
theorem Drew.of_below {w w1 w2 : World} {cb : Nat} (h : Drew w cb w1) (hb : Below w1.heap.size w1 w2) : Drew w cb w2 := ⟨h.1.below hb, grown_below h.2 hb⟩

theorem cur_of {w w' : World} {cb n c : Nat} {A : Option Addr} {i h : Int} (hg : w.grownBy w' (some cb)) (h0 : w'.cell? ⟨cb, 0, none⟩ = some (.slice A n c)) (h1 : w'.cell? ⟨cb, 1, none⟩ = some (.int .i64 i)) (h2 : w'.cell? ⟨cb, 2, none⟩ = some (.int .i64 h))
    (h3 : 0 ≤ i ∧ i ≤ 1048576) (h5 : n ≤ 1048576) (h6 : ∀ o, w'.frozen? ⟨cb, o, none⟩ = false) (hlt : cb < w.heap.size) (h7 : n = 0 ∨ ∃ b off, A = some ⟨b, off, none⟩ ∧ b < cb ∧ ∀ j, j < n → ∃ x : Int, 0 ≤ x ∧ x ≤ 255 ∧ w.cell? ⟨b, off + j, none⟩ = some (.int .u8 x)) : Drew w cb w' :=
  ⟨⟨A, n, c, i, h, h0, h1, h2, h3.1, h3.2, h5, h6, h7.imp id fun ⟨b, off, g1, g2, g4⟩ => ⟨b, off, g1, g2, fun j hj => by
    obtain ⟨y, y1, y2, y3⟩ := g4 j hj
    exact ⟨y, y1, y2, (World.cell?_of_block (w := w) (w' := w') (a := ⟨b, off + j, none⟩) (hg.block b (Nat.lt_trans g2 hlt) (by simp; omega))).trans y3⟩⟩⟩, hg⟩

theorem Drew.toBelow {w w' : World} {cb B : Nat} (d : Drew w cb w') (h : B ≤ w.heap.size) (hc : B ≤ cb) : Below B w w' := (Below.refl B w).grown d.2 h (fun k hk => by injection hk with hk; omega)
theorem Drew.cell {w w' : World} {cb b : Nat} (d : Drew w cb w') (hb : b < w.heap.size) (hne : b ≠ cb) (o : Nat) : w'.cell? ⟨b, o, none⟩ = w.cell? ⟨b, o, none⟩ := World.cell?_of_block (d.2.block b hb (by simpa using hne))
theorem Drew.frozen {w w' : World} {cb b : Nat} (d : Drew w cb w') (hb : b < w.heap.size) (hne : b ≠ cb) (o : Nat) : w'.frozen? ⟨b, o, none⟩ = w.frozen? ⟨b, o, none⟩ := World.frozen?_of_block (d.2.block b hb (by simpa using hne))
theorem Cur.set {w : World} {cb b o : Nat} {v : Value} (h : Cur w cb) (hb : cb < b) : Cur (w.setCell ⟨b, o, none⟩ v) cb := by
  obtain ⟨A, n, c, i, x, h0, h1, h2, h3, h4, h5, h6, h7⟩ := h
  have hc : ∀ b' o', b' ≠ b → (w.setCell ⟨b, o, none⟩ v).cell? ⟨b', o', none⟩ = w.cell? ⟨b', o', none⟩ := fun b' o' hne => World.cell?_of_block (Below.heap_setCell w ⟨b, o, none⟩ v b' hne)
  have hf : ∀ b' o', b' ≠ b → (w.setCell ⟨b, o, none⟩ v).frozen? ⟨b', o', none⟩ = w.frozen? ⟨b', o', none⟩ := fun b' o' hne => World.frozen?_of_block (Below.heap_setCell w ⟨b, o, none⟩ v b' hne)
  refine ⟨A, n, c, i, x, (hc cb 0 (by omega)).trans h0, (hc cb 1 (by omega)).trans h1, (hc cb 2 (by omega)).trans h2, h3, h4, h5, fun o' => (hf cb o' (by omega)).trans (h6 o'), h7.imp id fun ⟨b', off, g1, g2, g4⟩ => ⟨b', off, g1, g2, fun j hj => ?_⟩⟩
  obtain ⟨y, y1, y2, y3⟩ := g4 j hj
  exact ⟨y, y1, y2, (hc b' _ (by omega)).trans y3⟩
theorem Drew.set {w w1 : World} {cb b o : Nat} {v : Value} (hcb : cb < w.heap.size) (hb : w.heap.size ≤ b) (h : Drew w cb w1) : Drew w cb (w1.setCell ⟨b, o, none⟩ v) :=
  ⟨h.1.set (by omega), h.2.os, h.2.tape, h.2.output, by simpa [World.setCell] using h.2.size, fun i hi hne => (Below.heap_setCell w1 ⟨b, o, none⟩ v i (by show i ≠ b; omega)).trans (h.2.block i hi hne)⟩
theorem Drew.alloc {w w1 : World} {cb : Nat} (o : Obj) (h : Drew w cb w1) : Drew w cb (w1.alloc o) := h.of_below ((Below.refl _ _).alloc (Nat.le_refl _) o)
theorem Drew.drewN {w w1 : World} {cb : Nat} (n : Nat) (h : Drew w cb w1) : Drew w cb (w1.drewN n) := h.of_below (below_drewN (Below.refl _ _) n)

set_option maxRecDepth 100000 in
set_option maxHeartbeats 2000000 in
theorem l1Byte_any (cb : Nat) (w : World) (h : Cur w cb) :
    Calls Tryz.prog 66 #[.pointer (some ⟨cb, 0, none⟩)] w (IntD (fun x => 0 ≤ x ∧ x ≤ 255) w cb) := by
  have hlt := h.lt
  obtain ⟨A, n, c, i, x, h0, h1, h2, h3, h4, h5, h6, h7⟩ := h
  have f0 := h6 0
  have f1 := h6 1
  have f2 := h6 2
  obtain ⟨M, hM⟩ : ∃ M : Int, M = 6364136223846793005 := ⟨_, rfl⟩
  by_cases hin : i < (n : Int)
  · obtain ⟨b, off, rfl, hb1, hb3⟩ := h7.resolve_left (by omega)
    have hb1' : b ≠ cb := by omega
    have hb2 : b < w.heap.size := by omega
    obtain ⟨k, rfl⟩ : ∃ k : Nat, i = k := ⟨i.toNat, by omega⟩
    obtain ⟨y, y1, y2, y3⟩ := hb3 k (by omega)
    have hkn : k < n := by omega
    go_enter Tryz.func66, Tryz.ntmps66
    go_wp2
    generalize (wrap64 (wrap64 (x * 6364136223846793005) + 1442695040888963407)) = H1
    go_quiet (fail)
    go_wp2
    go_quiet (fail)
    go_wp2
    go_quiet (fail)
    go_wp2
    go_ret
    exact ⟨_, rfl, and255 _, cur_of (A := some ⟨b, off, none⟩) (n := n) (c := c) (i := (k : Int) + 1) (h := H1) (by (repeat (first | with_reducible exact World.grownBy.refl _ _ | with_reducible assumption | with_reducible refine grown_set ?_ | with_reducible refine grown_drewN ?_ _ | with_reducible refine grown_alloc ?_ _))) (by (first | (go_keep; done) | (go_simp; done) | (simp [*]; done))) (by (first | (go_keep; done) | (go_simp; done) | (simp [*]; done))) (by (first | (go_keep; done) | (go_simp; done) | (simp [*]; done))) (by omega) h5 (fun o => by simp [h6]) hlt (.inr ⟨b, off, rfl, hb1, hb3⟩)⟩
  · go_enter Tryz.func66, Tryz.ntmps66
    go_wp2
    generalize (wrap64 (wrap64 (x * 6364136223846793005) + 1442695040888963407)) = H1
    go_quiet (fail)
    go_wp2
    go_quiet (fail)
    go_wp2
    go_ret
    exact ⟨_, rfl, and255 _, cur_of (A := A) (n := n) (c := c) (i := i) (h := H1) (by (repeat (first | with_reducible exact World.grownBy.refl _ _ | with_reducible assumption | with_reducible refine grown_set ?_ | with_reducible refine grown_drewN ?_ _ | with_reducible refine grown_alloc ?_ _))) (by (first | (go_keep; done) | (go_simp; done) | (simp [*]; done))) (by (first | (go_keep; done) | (go_simp; done) | (simp [*]; done))) (by (first | (go_keep; done) | (go_simp; done) | (simp [*]; done))) ⟨h3, h4⟩ h5 (fun o => by simp [h6]) hlt h7⟩

set_option maxRecDepth 100000 in
set_option maxHeartbeats 2000000 in
theorem l1Below_any (cb : Nat) (n : Int) (w : World) (h : Cur w cb) :
    Calls Tryz.prog 28 #[.pointer (some ⟨cb, 0, none⟩), .int .i64 n] w (IntD (fun x => 0 ≤ x ∧ (0 < n → x < n) ∧ (n ≤ 0 → x = 0)) w cb) := by
  by_cases h1 : n ≤ 0
  · go_enter Tryz.func28, Tryz.ntmps28
    go_wp2
    go_ret
    exact ⟨0, rfl, ⟨by omega, by omega, fun _ => rfl⟩, h.drew_below (Below.refl _ _)⟩
  by_cases h2 : n ≤ 256
  · have HC := Lib.hid h
    clear h
    go_enter Tryz.func28, Tryz.ntmps28
    go_wp2_with fail
    refine (l1Byte_any cb _ HC.out).mono ?_
    rintro y w1 ⟨x, rfl, ⟨hx0, hx1⟩, d1⟩
    go_wp2
    go_ret
    have h3 := Int.emod_nonneg x (show n ≠ 0 by omega)
    have h4 := Int.emod_lt_of_pos x (show 0 < n by omega)
    exact ⟨_, rfl, ⟨by omega, by omega, by omega⟩, d1⟩
  · have HC := Lib.hid h
    clear h
    go_enter Tryz.func28, Tryz.ntmps28
    go_wp2_with fail
    refine (l1Byte_any cb _ HC.out).mono ?_
    rintro y w1 ⟨x1, rfl, ⟨ha0, ha1⟩, d1⟩
    have D1 := Lib.hid d1
    clear d1
    go_wp2_with fail
    refine (l1Byte_any cb _ D1.out.1).mono ?_
    rintro y w2 ⟨x2, rfl, ⟨hb0, hb1⟩, d2⟩
    have D2 := Lib.hid (D1.out.trans d2)
    clear d2
    go_wp2_with fail
    refine (l1Byte_any cb _ D2.out.1).mono ?_
    rintro y w3 ⟨x3, rfl, ⟨hc0, hc1⟩, d3⟩
    have D3 := Lib.hid (D2.out.trans d3)
    clear d3
    go_wp2_with fail
    refine (l1Byte_any cb _ D3.out.1).mono ?_
    rintro y w4 ⟨x4, rfl, ⟨hd0, hd1⟩, d4⟩
    have D4 := Lib.hid (D3.out.trans d4)
    clear d4
    go_wp2
    go_ret
    refine ⟨_, rfl, ?_, D4.out⟩
    generalize x1 * 16777216 + x2 * 65536 + x3 * 256 + x4 = X
    have h3 := Int.emod_nonneg X (show n ≠ 0 by omega)
    have h4 := Int.emod_lt_of_pos X (show 0 < n by omega)
    exact ⟨by omega, by omega, by omega⟩

def BoolD (w : World) (cb : Nat) (e : Ending) (w' : World) : Prop := ∃ x : Bool, e = .returned (.bool x) ∧ Drew w cb w'
set_option maxHeartbeats 400000 in
theorem l1Once_any (cb : Nat) (n : Int) (w : World) (h : Cur w cb) :
    Calls Tryz.prog 67 #[.pointer (some ⟨cb, 0, none⟩), .int .i64 n] w (BoolD w cb) := by
  have HC := Lib.hid h
  clear h
  go_enter Tryz.func67, Tryz.ntmps67
  go_wp2_with fail
  refine (l1Below_any cb n _ HC.out).mono ?_
  rintro y w1 ⟨x, rfl, _, d1⟩
  go_wp2
  go_ret
  exact ⟨_, rfl, d1⟩

set_option maxHeartbeats 400000 in
theorem l1PickInt_any (cb : Nat) (A : Option Addr) (n c : Nat) (es : List (Nat → Int)) (w : World) (h : Cur w cb) (hr : Rd w 1 A n es) (hn : 0 < n) (hn2 : n ≤ 256) (hne : ∀ a, A = some a → a.block ≠ cb) :
    Calls Tryz.prog 65 #[.pointer (some ⟨cb, 0, none⟩), .slice A n c] w (IntD (fun x => ∃ k, k < n ∧ x = fld es k 0) w cb) := by
  have HC := Lib.hid h
  obtain ⟨b, off, rfl, hb, hc⟩ := hr.2.resolve_left (by omega)
  have hbc : b ≠ cb := hne _ rfl
  have HB := Lib.hid hc
  clear h hr hne hc
  go_enter Tryz.func65, Tryz.ntmps65
  go_wp2_with fail
  refine (l1Below_any cb n _ HC.out).mono ?_
  rintro y w1 ⟨x, rfl, ⟨hx0, hx1, _⟩, d1⟩
  obtain ⟨k, rfl⟩ : ∃ k : Nat, x = k := ⟨x.toNat, by omega⟩
  have hk : k < n := by have := hx1 (by omega); omega
  have hcell : w1.cell? ⟨b, off + k, none⟩ = some (.int .i64 (fld es k 0)) := by
    rw [World.cell?_of_block (w := w) (w' := w1) (a := ⟨b, off + k, none⟩) (d1.2.block b hb (by simpa using hbc))]
    have := HB.out k hk 0 (by omega)
    simpa using this
  clear hx1
  go_wp2
  go_ret
  exact ⟨_, rfl, ⟨k, hk, rfl⟩, d1⟩
end Go.Proofs.YtjlmcppkafjniaaGreat

namespace Go.Proofs.YtjlmcppkafjniaaGreat
open Go.ChangeShapes Go.WideShapes Go.ChangeAt Go.RowKit Go.Deep

/-- The slice reads as n bytes. -/
def RdB (w : World) (A : Option Addr) (n : Nat) : Prop := n = 0 ∨ ∃ b off, A = some ⟨b, off, none⟩ ∧ b < w.heap.size ∧ ∀ j, j < n → ∃ x : Int, 0 ≤ x ∧ x ≤ 255 ∧ w.cell? ⟨b, off + j, none⟩ = some (.int .u8 x)
theorem RdB.below {w w' : World} {A : Option Addr} {n : Nat} (h : RdB w A n) (hb : Below w.heap.size w w') : RdB w' A n :=
  h.imp id fun ⟨b, off, h1, h2, h3⟩ => ⟨b, off, h1, Nat.lt_of_lt_of_le h2 hb.size, fun j hj => by
    obtain ⟨x, y1, y2, y3⟩ := h3 j hj
    exact ⟨x, y1, y2, (hb.cell (p := ⟨b, off + j, none⟩) h2).trans y3⟩⟩

section
variable {H : Type} {enc : TypeId × Value → H} {P : Program} {w : World} {base : Nat} {spare : Nat → Bool} {held : Bool}
/-- An argument that is a slice of bytes. -/
theorem open_sliceB {r : Reach} {b0 : Nat} {t ti : TypeId} {v : Value} {d : DataW H} {p : List MemPlace} (ht : P.underlying t = some (.slice ti)) (hti : P.underlying ti = some (.int .u8)) (hC : P.cellsOf ti = 1)
    (hv : Value.okWide P w r b0 t v) (h : DataW.Trod enc P w base spare held t v d p) :
    ∃ (A : Option Addr) (n c : Nat), v = .slice A n c ∧ n ≤ c ∧ c ≤ maxLen ∧ RdB w A n := by
  obtain ⟨A, n, c, rfl⟩ := okWide_slice ht hv
  obtain ⟨fuel, hf⟩ := h
  have hf' : DataW.trod enc P w base spare held fuel t [.slice A n c] = some (d, p) := by simpa [Value.cells] using hf
  rcases open_ints ht hti hC hf' with ⟨hcs, _⟩ | ⟨a, len, cap, zs, hcs, _, hl, hm, hz, _, hcell, hwz⟩
  · simp at hcs
    obtain ⟨rfl, rfl, rfl⟩ := hcs
    exact ⟨none, 0, 0, rfl, Nat.le_refl _, Nat.zero_le _, .inl rfl⟩
  · simp at hcs
    obtain ⟨rfl, rfl, rfl⟩ := hcs
    refine ⟨some a, n, c, rfl, hl, hm, ?_⟩
    have hlz : n ≤ zs.length := by rw [hz]; split <;> omega
    rcases Nat.eq_zero_or_pos n with h0 | h0
    · exact .inl h0
    · obtain ⟨b, off, spot⟩ := a
      have hspot : spot = none := by simpa [Addr.add] using World.cell?_spot (hcell 0 (by omega))
      subst hspot
      have key : ∀ j, j < n → ∃ x : Int, 0 ≤ x ∧ x ≤ 255 ∧ w.cell? ⟨b, off + j, none⟩ = some (.int .u8 x) := fun j hj => by
        have h1 := hcell j (by omega)
        have h2 := range_u8 hwz j
        rw [Addr.add_lit] at h1
        rw [List.getD_eq_getElem?_getD] at h1
        exact ⟨_, h2.1, h2.2, h1⟩
      obtain ⟨_, _, _, h3⟩ := key 0 h0
      exact .inr ⟨b, off, rfl, lt_of_cell h3, key⟩
end

set_option maxHeartbeats 400000 in
theorem big_any (A : Option Addr) (n c : Nat) (w : World) :
    Calls Tryz.prog 5 #[.slice A n c] w fun e w' => e = .returned (.bool (decide (1048576 < n))) ∧ w = w' := by
  go_enter Tryz.func5, Tryz.ntmps5
  go_wp2
  go_ret
  exact ⟨by simp <;> omega, rfl⟩

end Go.Proofs.YtjlmcppkafjniaaGreat


namespace Go.Proofs.YtjlmcppkafjniaaGreat
open Go.RowKit

theorem Drew.cur {w w' : World} {cb : Nat} (h : Drew w cb w') : Cur w' cb := h.1
theorem rd_lits (w : World) (t : TypeId) (zs : List Int) : Rd (w.alloc (.cells (zs.map (Value.int .i64)).toArray t)) 1 (some ⟨w.heap.size, 0, none⟩) zs.length (zs.map fun z _ => z) :=
  ⟨by simp, .inr ⟨w.heap.size, 0, rfl, by simp, fun i hi j hj => by
    obtain rfl : j = 0 := by omega
    simp [fld, List.getD_eq_getElem?_getD, hi]⟩⟩

theorem rd_litsb (w : World) (t : TypeId) (zs : List Int) (b : Nat) (h : b = w.heap.size) : Rd (w.alloc (.cells (zs.map (Value.int .i64)).toArray t)) 1 (some ⟨b, 0, none⟩) zs.length (zs.map fun z _ => z) := h ▸ rd_lits w t zs

set_option maxRecDepth 100000 in
set_option maxHeartbeats 2000000 in
theorem l1New_any (A : Option Addr) (n c : Nat) (w : World) (hn : n ≤ 1048576) (h : RdB w A n) :
    Calls Tryz.prog 26 #[.slice A n c] w fun y w' => y = .returned (.pointer (some ⟨w.heap.size, 0, none⟩)) ∧ Cur w' w.heap.size ∧ Below w.heap.size w w' := by
  have HB := Lib.hid h
  clear h
  go_enter Tryz.func26, Tryz.ntmps26
  go_wp2
  go_loop [3, 4] (fun h i => ∃ (x : Int) (k : Nat), k ≤ n ∧ h = .int .i64 x ∧ i = .int .i64 k) (fun _ i => n - (intOf i).toNat)
  case atStart => exact ⟨_, 0, Nat.zero_le _, rfl, rfl⟩
  case round =>
    obtain ⟨x, k, hk, rfl, rfl⟩ := hrel
    have hgo : k < n ∧ (k : Int) < 4000 ∨ ¬ (k < n ∧ (k : Int) < 4000) := Classical.em _
    rcases hgo with ⟨hlt, h4⟩ | hno
    · obtain ⟨b, off, rfl, hb, h3⟩ := HB.out.resolve_left (by omega)
      obtain ⟨z, z1, z2, z3⟩ := h3 k hlt
      have hki : (k : Int) < (n : Int) := by omega
      clear h3
      go_wp2
      go_round
      case rel => exact ⟨_, k + 1, by omega, rfl, by go_num⟩
      case measure => simp [intOf]; omega
    · by_cases hlt : k < n
      · have h4 : ¬ (k : Int) < 4000 := by omega
        have hki : (k : Int) < (n : Int) := by omega
        go_wp2
        go_ret
        refine ⟨rfl, ?_, (by (repeat (first | with_reducible exact Below.refl _ _ | with_reducible refine Below.drew ?_ | with_reducible refine below_drewN ?_ _ | (with_reducible refine bel_alloc ?_ ?_ _; (first | omega | (simp; omega) | simp)) | (with_reducible refine bel_set ?_ ?_ _; (first | omega | (simp; omega) | simp)) | (with_reducible refine bel_tr (by assumption) ?_ ?_; (first | omega | (simp; omega) | simp)))))⟩
        exact ⟨A, n, c, 0, x, by simp, by simp, by simp, by omega, by omega, hn, fun o => by simp, HB.out.imp id fun ⟨b, off, h1, h2, h3⟩ => ⟨b, off, h1, by omega, fun j hj => by
          obtain ⟨y, y1, y2, y3⟩ := h3 j hj
          exact ⟨y, y1, y2, (((Below.refl w.heap.size w).alloc (Nat.le_refl _) _).cell (p := ⟨b, off + j, none⟩) h2).trans y3⟩⟩⟩
      · have hki : ¬ (k : Int) < (n : Int) := by omega
        go_wp2
        go_ret
        refine ⟨rfl, ?_, (by (repeat (first | with_reducible exact Below.refl _ _ | with_reducible refine Below.drew ?_ | with_reducible refine below_drewN ?_ _ | (with_reducible refine bel_alloc ?_ ?_ _; (first | omega | (simp; omega) | simp)) | (with_reducible refine bel_set ?_ ?_ _; (first | omega | (simp; omega) | simp)) | (with_reducible refine bel_tr (by assumption) ?_ ?_; (first | omega | (simp; omega) | simp)))))⟩
        exact ⟨A, n, c, 0, x, by simp, by simp, by simp, by omega, by omega, hn, fun o => by simp, HB.out.imp id fun ⟨b, off, h1, h2, h3⟩ => ⟨b, off, h1, by omega, fun j hj => by
          obtain ⟨y, y1, y2, y3⟩ := h3 j hj
          exact ⟨y, y1, y2, (((Below.refl w.heap.size w).alloc (Nat.le_refl _) _).cell (p := ⟨b, off + j, none⟩) h2).trans y3⟩⟩⟩
end Go.Proofs.YtjlmcppkafjniaaGreat

namespace Go.Proofs.YtjlmcppkafjniaaGreat
open Go.RowKit

theorem own_of_row_cap {base : Nat} {w : World} {e : TypeId} {K n : Nat} {v : Value} {es : List (Nat → Int)} (hl : es.length = n) (h : w.ownsRow base e K v n (flat K es)) :
    ∃ A c, v = .slice A n c ∧ n ≤ c ∧ c ≤ 9223372036854775807 ∧ Own base w K A n es := by
  obtain ⟨A, c, rfl, ho⟩ := own_of_row hl h
  refine ⟨A, c, rfl, ?_, ?_, ho⟩
  · rcases h.2 with ⟨hv, hx⟩ | ⟨g, cap, cur, hv, hg, hh, hnc, hcm, hsz, htk⟩
    · injection hv with _ h2 h3
      omega
    · injection hv with _ h2 h3
      omega
  · rcases h.2 with ⟨hv, hx⟩ | ⟨g, cap, cur, hv, hg, hh, hnc, hcm, hsz, htk⟩
    · injection hv with _ h2 h3
      omega
    · injection hv with _ h2 h3
      unfold maxLen at hcm
      omega

theorem Cur.keep {w w' : World} {cb : Nat} (h : Cur w cb) (hb : Below (cb + 1) w w') : Cur w' cb := by
  obtain ⟨A, n, c, i, x, h0, h1, h2, h3, h4, h5, h6, h7⟩ := h
  refine ⟨A, n, c, i, x, (hb.cell (p := ⟨cb, 0, none⟩) (Nat.lt_succ_self cb)).trans h0, (hb.cell (p := ⟨cb, 1, none⟩) (Nat.lt_succ_self cb)).trans h1, (hb.cell (p := ⟨cb, 2, none⟩) (Nat.lt_succ_self cb)).trans h2, h3, h4, h5, fun o => (hb.frozen (p := ⟨cb, o, none⟩) (Nat.lt_succ_self cb)).trans (h6 o), h7.imp id fun ⟨b, off, g1, g2, g4⟩ => ⟨b, off, g1, g2, fun j hj => ?_⟩⟩
  obtain ⟨y, y1, y2, y3⟩ := g4 j hj
  exact ⟨y, y1, y2, (hb.cell (p := ⟨b, off + j, none⟩) (Nat.lt_succ_of_lt g2)).trans y3⟩
/-- Something turns that has been made since. -/
theorem Drew.grow {w w1 w2 : World} {cb : Nat} {row : Option Nat} (hcb : cb < w.heap.size) (hs : w.heap.size ≤ w1.heap.size) (h : Drew w cb w1) (hg : w1.grownBy w2 row) (hrow : ∀ k, row = some k → w.heap.size ≤ k) : Drew w cb w2 := by
  have hb : Below w.heap.size w1 w2 := (Below.refl _ w1).grown hg hs hrow
  refine ⟨h.1.keep (hb.mono (by omega)), hb.os.trans h.2.os, hb.tape.trans h.2.tape, hb.output.trans h.2.output, Nat.le_trans h.2.size hb.size, fun i hi hne => (hb.block i hi).trans (h.2.block i hi hne)⟩
theorem Drew.below {w w1 w2 : World} {cb : Nat} (hcb : cb < w.heap.size) (h : Drew w cb w1) (hb : Below w.heap.size w1 w2) : Drew w cb w2 :=
  ⟨h.1.keep (hb.mono (by omega)), hb.os.trans h.2.os, hb.tape.trans h.2.tape, hb.output.trans h.2.output, Nat.le_trans h.2.size hb.size, fun i hi hne => (hb.block i hi).trans (h.2.block i hi hne)⟩
theorem row_drew {base cb : Nat} {w w' : World} {e : TypeId} {K n : Nat} {v : Value} {xs : List Value} (h : w.ownsRow base e K v n xs) (d : Drew w cb w') (hcb : cb < base) : w'.ownsRow base e K v n xs :=
  ⟨h.1, h.2.imp id fun ⟨g, cap, cur, h1, h2, hh, h3⟩ => ⟨g, cap, cur, h1, h2, (d.2.block g (Array.getElem?_eq_some_iff.1 hh).1 (by simp; omega)).trans hh, h3⟩⟩
theorem Own.drew_c {B cb : Nat} {w w' : World} {K n : Nat} {A : Option Addr} {es : List (Nat → Int)} (h : Own B w K A n es) (d : Drew w cb w') (hcb : cb < B) : Own B w' K A n es :=
  h.grown_ d.2 (fun a hn ha => by
    obtain ⟨b, off, h1, h2, h3, _⟩ := h.2.resolve_left hn
    rw [ha] at h1
    injection h1 with h1
    rw [h1]
    simp
    omega)
end Go.Proofs.YtjlmcppkafjniaaGreat

namespace Go.Proofs.YtjlmcppkafjniaaGreat
open Go.RowKit

/-- The first k pins of the list, put in one by one where they belong. -/
def sortL (es : List (Nat → Int)) : Nat → List (Nat → Int)
  | 0 => []
  | k + 1 => insL (sortL es k) (plcP (sortL es k) (fld es k) k) (fld es k)
theorem sortL_len (es : List (Nat → Int)) : ∀ k, (sortL es k).length = k
  | 0 => rfl
  | k + 1 => insL_len (sortL_len es k) plcP_le
theorem insL_perm (es : List (Nat → Int)) (k : Nat) (p : Nat → Int) : (insL es k p).Perm (p :: es) := by
  unfold insL
  refine List.perm_middle.trans ?_
  rw [List.take_append_drop]
theorem sortL_perm {es : List (Nat → Int)} : ∀ {k : Nat}, k ≤ es.length → (sortL es k).Perm (es.take k)
  | 0, _ => by simp [sortL]
  | k + 1, h => by
    refine (insL_perm _ _ _).trans ?_
    rw [List.take_add_one, List.getElem?_eq_getElem (by omega), fld_get (show k < es.length by omega)]
    exact ((sortL_perm (by omega)).cons _).trans (List.perm_append_singleton _ _).symm
theorem fld_insL_lt {es : List (Nat → Int)} {p : Nat → Int} {k i : Nat} (h : i < k) (hk : k ≤ es.length) : fld (insL es k p) i = fld es i := by
  funext j
  unfold fld insL
  rw [List.getD_eq_getElem?_getD, List.getD_eq_getElem?_getD, List.getElem?_append_left (by rw [List.length_take]; omega), List.getElem?_take_of_lt h]
theorem fld_insL_at {es : List (Nat → Int)} {p : Nat → Int} {k : Nat} (hk : k ≤ es.length) : fld (insL es k p) k = p := by
  funext j
  unfold fld insL
  rw [List.getD_eq_getElem?_getD, List.getElem?_append_right (by rw [List.length_take]; omega), List.length_take, Nat.min_eq_left (by omega), Nat.sub_self]
  rfl
theorem fld_insL_gt {es : List (Nat → Int)} {p : Nat → Int} {k i : Nat} (h : k ≤ i) (hk : k ≤ es.length) : fld (insL es k p) (i + 1) = fld es i := by
  funext j
  unfold fld insL
  rw [List.getD_eq_getElem?_getD, List.getD_eq_getElem?_getD, List.getElem?_append_right (by rw [List.length_take]; omega), List.length_take, Nat.min_eq_left (by omega), show i + 1 - k = (i - k) + 1 by omega, List.getElem?_cons_succ, List.getElem?_drop, show k + (i - k) = i by omega]
theorem plcP_lt {es : List (Nat → Int)} {p : Nat → Int} {n i : Nat} (h : i < plcP es p n) : ltP (fld es i) p := by
  unfold plcP at h
  split at h
  · rename_i hx
    have := ixOf_none hx i h
    simpa using this
  · rename_i k hk
    have := (ixOf_some hk).2.2 i h
    simpa using this
theorem plcP_at {es : List (Nat → Int)} {p : Nat → Int} {n : Nat} (h : plcP es p n < n) : ¬ ltP (fld es (plcP es p n)) p := by
  rcases hx : ixOf (fun i => !decide (ltP (fld es i) p)) n with _ | k
  · simp [plcP, hx] at h
  · have e : plcP es p n = k := by simp [plcP, hx]
    rw [e]
    have := (ixOf_some hx).2.1
    simpa using this
theorem ins_srt {es : List (Nat → Int)} {p : Nat → Int} {n : Nat} (hl : es.length = n) (h : Srt es n) : Srt (insL es (plcP es p n) p) (n + 1) := by
  have hp : plcP es p n ≤ n := plcP_le
  intro q hq
  rcases Nat.lt_trichotomy (q + 1) (plcP es p n) with h1 | h1 | h1
  · rw [fld_insL_lt h1 (by omega), fld_insL_lt (by omega) (by omega)]
    exact h q (by omega)
  · have h2 : ltP (fld es q) p := plcP_lt (n := n) (by omega)
    rw [h1, fld_insL_at (by omega), fld_insL_lt (by omega) (by omega)]
    exact ltP_asymm h2
  · rcases Nat.lt_or_ge (plcP es p n) q with h3 | h3
    · rw [fld_insL_gt (by omega) (by omega)]
      obtain ⟨r, rfl⟩ : ∃ r, q = r + 1 := ⟨q - 1, by omega⟩
      rw [fld_insL_gt (by omega) (by omega)]
      exact h r (by omega)
    · have h4 : q = plcP es p n := by omega
      rw [fld_insL_gt (by omega) (by omega)]
      have h5 : fld (insL es (plcP es p n) p) q = p := by rw [h4, fld_insL_at (by omega)]
      rw [h5, h4]
      exact plcP_at (by omega)
theorem sortL_srt (es : List (Nat → Int)) : ∀ k, Srt (sortL es k) k
  | 0 => fun q hq => absurd hq (by omega)
  | k + 1 => ins_srt (sortL_len es k) (sortL_srt es k)
open Classical in
/-- The pins of a wheel in order; none if it is not well. -/
noncomputable def pinsL (N : Nat) (S : Nat → Sp) : List (Nat → Int) := if WOK N S then sortL (allS S N) (tot S N) else []
theorem pinsL_yes {N : Nat} {S : Nat → Sp} (h : WOK N S) : pinsL N S = sortL (allS S N) (tot S N) := if_pos h
theorem pinsL_no {N : Nat} {S : Nat → Sp} (h : ¬ WOK N S) : pinsL N S = [] := if_neg h
theorem pinsL_len {N : Nat} {S : Nat → Sp} : (pinsL N S).length ≤ 10 := by
  by_cases h : WOK N S
  · rw [pinsL_yes h, sortL_len]
    exact h.2.1
  · rw [pinsL_no h]
    simp
theorem pinsL_sam {N : Nat} {S S' : Nat → Sp} (h : Sam N S S') : pinsL N S = pinsL N S' := by
  by_cases hw : WOK N S
  · rw [pinsL_yes hw, pinsL_yes (hw.sam h), allS_sam h (Nat.le_refl _), h.tot (Nat.le_refl _)]
  · rw [pinsL_no hw, pinsL_no (fun h2 => hw (h2.sam h.symm))]
theorem wok_nodup {N : Nat} {S : Nat → Sp} (hl : ∀ i, i < N → (S i).es.length = (S i).n) (h : WOK N S) : ((allS S N).map fun e => e 1).Nodup := by
  unfold List.Nodup
  rw [List.pairwise_iff_getElem]
  intro i j hi hj hij
  rw [List.length_map] at hi hj
  have hlen := allS_len hl
  have h1 := (h.2.2.1 j (by omega)).2 i hij
  rw [fld_get hi, fld_get hj] at h1
  simpa using h1
/-- Any list in order of the wheel's pins is the one. -/
theorem pinsL_of {N : Nat} {S : Nat → Sp} {es : List (Nat → Int)} (hl : ∀ i, i < N → (S i).es.length = (S i).n) (h : WOK N S) (hp : es.Perm (allS S N)) (hs : Srt es es.length) : es = pinsL N S := by
  rw [pinsL_yes h]
  have hlen := allS_len hl
  have h1 : (sortL (allS S N) (tot S N)).Perm (allS S N) := by
    have h2 := sortL_perm (es := allS S N) (k := tot S N) (by omega)
    rwa [List.take_of_length_le (by omega)] at h2
  refine srt_uniq hs (by rw [sortL_len]; exact sortL_srt _ _) (hp.trans h1.symm) ?_
  exact ((hp.map (fun e => e 1)).nodup_iff).2 (wok_nodup hl h)
end Go.Proofs.YtjlmcppkafjniaaGreat
