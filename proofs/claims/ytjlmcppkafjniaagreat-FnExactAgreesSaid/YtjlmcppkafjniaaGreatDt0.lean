/-
  Boxes (blocks of known cells) and the functions that draw parties. No conditions beyond those stated.
-/
import Derived.Test.YtjlmcppkafjniaaGreatDs
import Derived.Test.YtjlmcppkafjniaaGreatLv
import Derived.Deep.DeepCutAuto
import Derived.Deep.RegionHeld3
namespace Go.Proofs.YtjlmcppkafjniaaGreat
open Go.RowKit

/-- Block b holds the K values v, and may be written. -/
def Bx (w : World) (b K : Nat) (v : Nat → Value) : Prop := b < w.heap.size ∧ (∀ o, w.frozen? ⟨b, o, none⟩ = false) ∧ ∀ j, j < K → w.cell? ⟨b, j, none⟩ = some (v j)
def ints (p : Nat → Int) : Nat → Value := fun j => .int .i64 (p j)
def rv (A : Option Addr) (n c : Nat) (r : Nat → Int) : Nat → Value
  | 0 => .slice A n c
  | j + 1 => .int .i64 (r (j + 1))
def upd (p : Nat → Int) (k : Nat) (x : Int) : Nat → Int := fun j => if j = k then x else p j
theorem all9 {P : Nat → Prop} (h0 : P 0) (h1 : P 1) (h2 : P 2) (h3 : P 3) (h4 : P 4) (h5 : P 5) (h6 : P 6) (h7 : P 7) (h8 : P 8) : ∀ j, j < 9 → P j
  | 0, _ => h0 | 1, _ => h1 | 2, _ => h2 | 3, _ => h3 | 4, _ => h4 | 5, _ => h5 | 6, _ => h6 | 7, _ => h7 | 8, _ => h8
  | n + 9, h => absurd h (by omega)
theorem all10 {P : Nat → Prop} (h0 : P 0) (h1 : P 1) (h2 : P 2) (h3 : P 3) (h4 : P 4) (h5 : P 5) (h6 : P 6) (h7 : P 7) (h8 : P 8) (h9 : P 9) : ∀ j, j < 10 → P j
  | 0, _ => h0 | 1, _ => h1 | 2, _ => h2 | 3, _ => h3 | 4, _ => h4 | 5, _ => h5 | 6, _ => h6 | 7, _ => h7 | 8, _ => h8 | 9, _ => h9
  | n + 10, h => absurd h (by omega)
theorem Bx.drew {w w' : World} {b K cb : Nat} {v : Nat → Value} (h : Bx w b K v) (d : Drew w cb w') (hne : b ≠ cb) : Bx w' b K v :=
  ⟨Nat.lt_of_lt_of_le h.1 d.2.size, fun o => (d.frozen h.1 hne o).trans (h.2.1 o), fun j hj => (d.cell h.1 hne j).trans (h.2.2 j hj)⟩
theorem Bx.below {w w' : World} {b K : Nat} {v : Nat → Value} (h : Bx w b K v) (d : Below w.heap.size w w') : Bx w' b K v :=
  ⟨Nat.lt_of_lt_of_le h.1 d.size, fun o => (d.frozen (p := ⟨b, o, none⟩) h.1).trans (h.2.1 o), fun j hj => (d.cell (p := ⟨b, j, none⟩) h.1).trans (h.2.2 j hj)⟩
theorem Bx.set {w : World} {b K k : Nat} {v : Nat → Value} (u : Value) (h : Bx w b K v) (hk : k < K) : Bx (w.setCell ⟨b, k, none⟩ u) b K (fun j => if j = k then u else v j) := by
  have hs := h.2.2 k hk
  refine ⟨by simpa [World.setCell] using h.1, fun o => by simp [h.2.1 o], fun j hj => ?_⟩
  by_cases e : j = k
  · subst e
    show _ = some (if j = j then u else v j)
    rw [if_pos rfl]
    exact World.cell?_setCell_same' w _ u (by rw [hs]; rfl)
  · show _ = some (if j = k then u else v j)
    rw [if_neg e, ← h.2.2 j hj]
    exact World.cell?_setCell_other _ _ _ _ (by simp [Ne.symm e])
theorem Bx.set_ne {w : World} {b b' K o : Nat} {v : Nat → Value} (u : Value) (h : Bx w b K v) (hne : b ≠ b') : Bx (w.setCell ⟨b', o, none⟩ u) b K v := by
  have hh := Below.heap_setCell w ⟨b', o, none⟩ u b hne
  exact ⟨by simpa [World.setCell] using h.1, fun o' => (World.frozen?_of_block (w := w) (w' := w.setCell ⟨b', o, none⟩ u) (a := ⟨b, o', none⟩) hh).trans (h.2.1 o'), fun j hj => (World.cell?_of_block (w := w) (w' := w.setCell ⟨b', o, none⟩ u) (a := ⟨b, j, none⟩) hh).trans (h.2.2 j hj)⟩
theorem ints_upd (p : Nat → Int) (k : Nat) (x : Int) : (fun j => if j = k then Value.int .i64 x else ints p j) = ints (upd p k x) := by
  funext j
  unfold ints upd
  by_cases e : j = k
  · rw [if_pos e, if_pos e]
  · rw [if_neg e, if_neg e]

/-- The memory of l6Right and l6Bent: the box of the rules, the result, the party, the cursor. -/
def LR (w wx : World) (cb : Nat) (A : Option Addr) (n c : Nat) (r p : Nat → Int) : Prop := Bx wx (w.heap.size + 1 + 1) 10 (ints p) ∧ Bx wx w.heap.size 9 (rv A n c r) ∧ Bx wx (w.heap.size + 1) 10 (ints fun _ => 0) ∧ Drew w cb wx
theorem LR.drew {w wx wy : World} {cb : Nat} {A : Option Addr} {n c : Nat} {r p : Nat → Int} (h : LR w wx cb A n c r p) (hcb : cb < w.heap.size) (d : Drew wx cb wy) : LR w wy cb A n c r p :=
  ⟨h.1.drew d (by omega), h.2.1.drew d (by omega), h.2.2.1.drew d (by omega), h.2.2.2.trans d⟩
theorem LR.set {w wx : World} {cb k : Nat} {A : Option Addr} {n c : Nat} {r p : Nat → Int} (h : LR w wx cb A n c r p) (hcb : cb < w.heap.size) (x : Int) (hk : k < 10) : LR w (wx.setCell ⟨w.heap.size + 1 + 1, k, none⟩ (.int .i64 x)) cb A n c r (upd p k x) :=
  ⟨ints_upd p k x ▸ h.1.set _ hk, h.2.1.set_ne _ (by omega), h.2.2.1.set_ne _ (by omega), Drew.set hcb (by omega) h.2.2.2⟩
def PDr (n : Nat) (r : Nat → Int) (now : Int) (p : Nat → Int) : Prop := (1 ≤ p 0 ∧ p 0 ≤ 12) ∧ (0 ≤ p 1 ∧ p 1 < n) ∧ (p 2 = -1 ∨ 0 ≤ p 2 ∧ p 2 < n) ∧ (1 ≤ p 3 ∧ p 3 ≤ r 3) ∧ (0 ≤ p 4 ∧ p 4 < r 1) ∧ (1 ≤ p 6 ∧ p 6 ≤ 40) ∧ (0 ≤ p 9 ∧ p 9 < r 7) ∧
  (0 ≤ now ∧ now ≤ 10000000 → 0 ≤ p 5 ∧ p 5 ≤ now ∧ (p 7 = 1 ∧ 0 ≤ p 8 ∧ p 8 ≤ now + r 6 ∨ p 7 = 2 ∧ 1 ≤ p 8 ∧ p 8 ≤ now + r 5))
theorem PDr.up5 {n : Nat} {r p : Nat → Int} {now x : Int} (h : PDr n r now p) (h0 : 0 ≤ x) (h1 : x < now + 1) : PDr n r now (upd p 5 x) :=
  ⟨h.1, h.2.1, h.2.2.1, h.2.2.2.1, h.2.2.2.2.1, h.2.2.2.2.2.1, h.2.2.2.2.2.2.1, fun hn => ⟨h0, (show x ≤ now by omega), (h.2.2.2.2.2.2.2 hn).2.2⟩⟩
theorem PDr.up8 {n : Nat} {r p : Nat → Int} {now x : Int} (h : PDr n r now p) (h7 : p 7 = 1) (h0 : 0 ≤ x) (h1 : x < now + r 6 + 1) : PDr n r now (upd p 8 x) :=
  ⟨h.1, h.2.1, h.2.2.1, h.2.2.2.1, h.2.2.2.2.1, h.2.2.2.2.2.1, h.2.2.2.2.2.2.1, fun hn => ⟨(h.2.2.2.2.2.2.2 hn).1, (h.2.2.2.2.2.2.2 hn).2.1, .inl ⟨h7, h0, (show x ≤ now + r 6 by omega)⟩⟩⟩
theorem PDr.up78 {n : Nat} {r p : Nat → Int} {now x : Int} (h : PDr n r now p) (h0 : 1 ≤ x) (h1 : x ≤ now + r 5) : PDr n r now (upd (upd p 7 2) 8 x) :=
  ⟨h.1, h.2.1, h.2.2.1, h.2.2.2.1, h.2.2.2.2.1, h.2.2.2.2.2.1, h.2.2.2.2.2.2.1, fun hn => ⟨(h.2.2.2.2.2.2.2 hn).1, (h.2.2.2.2.2.2.2 hn).2.1, .inr ⟨rfl, h0, h1⟩⟩⟩
theorem PDr.up2 {n : Nat} {r p : Nat → Int} {now x : Int} (h : PDr n r now p) (h0 : 0 ≤ x) (h1 : x < n) : PDr n r now (upd p 2 x) :=
  ⟨h.1, h.2.1, .inr ⟨h0, h1⟩, h.2.2.2.1, h.2.2.2.2.1, h.2.2.2.2.2.1, h.2.2.2.2.2.2.1, h.2.2.2.2.2.2.2⟩
def PtyD (P : (Nat → Int) → Prop) (w : World) (cb : Nat) (e : Ending) (w' : World) : Prop := ∃ p : Nat → Int, e = .returned (.agg #[.int .i64 (p 0), .int .i64 (p 1), .int .i64 (p 2), .int .i64 (p 3), .int .i64 (p 4), .int .i64 (p 5), .int .i64 (p 6), .int .i64 (p 7), .int .i64 (p 8), .int .i64 (p 9)]) ∧ P p ∧ Drew w cb w'
theorem l1In_b (n a b : Int) (bo : Bool) (w : World) (h : bo = true ↔ (a ≤ n ∧ n ≤ b)) : Calls Tryz.prog 44 #[.int .i64 n, .int .i64 a, .int .i64 b] w fun e w' => e = .returned (.bool bo) ∧ w = w' :=
  (l1In_any n a b w).mono fun _ _ x => x.elim (fun y => ⟨by rw [h.2 y.2.1]; exact y.1, y.2.2⟩) (fun y => ⟨by
    have hb : bo = false := by
      cases bo
      · rfl
      · exact absurd (h.1 rfl) y.2.1
    rw [hb]
    exact y.1, y.2.2⟩)
end Go.Proofs.YtjlmcppkafjniaaGreat
