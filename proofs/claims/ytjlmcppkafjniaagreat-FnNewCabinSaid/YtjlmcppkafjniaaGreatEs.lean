/-
  Contracts of the functions that copy, compare, mark and check slices of structs. No conditions beyond those stated.
-/
import Derived.Test.YtjlmcppkafjniaaGreatSl
import Derived.Laws.IdiomCopy
import Derived.Deep.MidRow
namespace Go.Proofs.YtjlmcppkafjniaaGreat
open Go.RowKit

/-- Block g of N elements of K cells: the first k elements read as those of es. -/
structure Fill (B g K N : Nat) (W wr : World) (k : Nat) (es : List (Nat → Int)) : Prop where
  below : Below B W wr
  lt : g < wr.heap.size
  fz : ∀ o, wr.frozen? ⟨g, o, none⟩ = false
  done : ∀ i, i < k → ∀ j, j < K → wr.cell? ⟨g, i * K + j, none⟩ = some (.int .i64 (fld es i j))
  room : ∀ o, o < N * K → (wr.cell? ⟨g, o, none⟩).isSome = true

theorem cell_of_heap {w : World} {g o : Nat} {cs : Array Value} {t : TypeId} {fz : Nat × Nat} (h : w.heap[g]? = some (.cells cs t fz)) : w.cell? ⟨g, o, none⟩ = cs[o]? := by
  unfold World.cell?
  simp [h]
theorem frozen_of_heap {w : World} {g o : Nat} {cs : Array Value} {t : TypeId} (h : w.heap[g]? = some (.cells cs t (0, 0))) : w.frozen? ⟨g, o, none⟩ = false := by
  unfold World.frozen?
  simp [h]

theorem Fill.start {B g K N : Nat} {W w w1 : World} {e : TypeId} {base : Nat} {xs : List Value} {es : List (Nat → Int)} (hW : Below B W w) (hB : B ≤ w.heap.size) (_hg : g = w.heap.size)
    (hown : w1.ownsRow base e K (.slice (some ⟨g, 0, none⟩) N N) N xs) (hgr : w.grownBy w1 none) : Fill B g K N W w1 0 es := by
  obtain ⟨h1, h2⟩ := hown
  rcases h2 with ⟨h2, _⟩ | ⟨g', cap, cur, hv, _, hh, _, _, hsz, htk⟩
  · cases h2
  · injection hv with hv1 _ hv3
    injection hv1 with hv1
    injection hv1 with hv1
    subst hv1 hv3
    have hlt : g < w1.heap.size := (Array.getElem?_eq_some_iff.1 hh).1
    refine ⟨hW.grown hgr hB (fun k hk => by cases hk), hlt, fun o => frozen_of_heap hh, fun i hi => absurd hi (by omega), fun o ho => ?_⟩
    rw [cell_of_heap hh, Array.getElem?_eq_getElem (by omega)]
    rfl

theorem Fill.call {B g K N k : Nat} {W wr w1 : World} {es : List (Nat → Int)} (h : Fill B g K N W wr k es) (hB : B ≤ wr.heap.size) (hb : Below wr.heap.size wr w1) : Fill B g K N W w1 k es :=
  ⟨h.below.trans (hb.mono hB), Nat.lt_of_lt_of_le h.lt hb.size, fun o => (hb.frozen (p := ⟨g, o, none⟩) h.lt).trans (h.fz o), fun i hi j hj => (hb.cell (p := ⟨g, i * K + j, none⟩) h.lt).trans (h.done i hi j hj), fun o ho => by rw [hb.cell (p := ⟨g, o, none⟩) h.lt]; exact h.room o ho⟩

theorem below_setCells {B g : Nat} {W : World} (hg : B ≤ g) : ∀ (vs : List Value) (o : Nat) (w : World), Below B W w → Below B W (w.setCells g o vs)
  | [], _, _, h => h
  | v :: r, o, _w, h => below_setCells hg r (o + 1) _ (h.setCell hg v)
theorem size_setCells (g : Nat) : ∀ (vs : List Value) (o : Nat) (w : World), (w.setCells g o vs).heap.size = w.heap.size
  | [], _, _ => rfl
  | v :: r, o, w => by
    show ((w.setCell ⟨g, o, none⟩ v).setCells g (o + 1) r).heap.size = _
    rw [size_setCells g r (o + 1)]
    simp [World.setCell]

theorem idx_lt {i K j N : Nat} (hi : i < N) (hj : j < K) : i * K + j < N * K := by
  have : (i + 1) * K ≤ N * K := Nat.mul_le_mul_right K hi
  rw [Nat.succ_mul] at this
  omega

theorem Fill.set {B g K N k : Nat} {W w1 : World} {es : List (Nat → Int)} {vs : List Value} (h : Fill B g K N W w1 k es) (hg : B ≤ g) (hk : k < N) (hl : vs.length = K) (hv : ∀ j, j < K → vs[j]? = some (.int .i64 (fld es k j))) :
    Fill B g K N W (w1.setCells g (k * K) vs) (k + 1) es := by
  have hsome : ∀ j, j < vs.length → (w1.cell? ⟨g, k * K + j, none⟩).isSome = true := fun j hj => h.room (k * K + j) (idx_lt hk (by omega))
  have hin := World.cell?_setCells_in g vs (k * K) w1 hsome
  have hfz : ∀ o, (w1.setCells g (k * K) vs).frozen? ⟨g, o, none⟩ = false := fun o => (World.frozen?_setCells g vs (k * K) w1 ⟨g, o, none⟩).trans (h.fz o)
  have hroom : ∀ o, o < N * K → ((w1.setCells g (k * K) vs).cell? ⟨g, o, none⟩).isSome = true := fun o ho => World.isSome_setCells g vs (k * K) w1 ⟨g, o, none⟩ (h.room o ho)
  refine ⟨below_setCells hg vs (k * K) w1 h.below, by rw [size_setCells]; exact h.lt, hfz, ?_, hroom⟩
  intro i hi j hj
  rcases Nat.lt_or_ge i k with hik | hik
  · rw [World.cell?_setCells_out g vs (k * K) w1 ⟨g, i * K + j, none⟩ (fun _ _ => .inl (idx_lt hik hj))]
    exact h.done i hik j hj
  · obtain rfl : i = k := by omega
    rw [hin j (by omega)]
    have := hv j hj
    rw [List.getElem?_eq_getElem (by omega)] at this
    exact this

theorem Fill.own {B g K N : Nat} {W w1 : World} {es : List (Nat → Int)} (h : Fill B g K N W w1 N es) (hg : B ≤ g) (hl : es.length = N) : Own B w1 K (some ⟨g, 0, none⟩) N es :=
  ⟨hl, .inr ⟨g, 0, rfl, h.lt, hg, h.fz, fun i hi j hj => by rw [Nat.zero_add]; exact h.done i hi j hj⟩⟩

/-- The numbers from m on, K an element, n elements. -/
def marks (K m n : Nat) : List (Nat → Int) := (List.range n).map fun i j => ((m + i * K + j : Nat) : Int)
theorem marks_len (K m n : Nat) : (marks K m n).length = n := by simp [marks]
theorem fld_marks {K m n i j : Nat} (hi : i < n) : fld (marks K m n) i j = ((m + i * K + j : Nat) : Int) := by
  unfold fld marks
  rw [List.getD_eq_getElem?_getD, List.getElem?_map, List.getElem?_range hi]
  rfl

/-- The row at block g, place off, N elements of K cells: its first k elements have been marked; nothing else has turned. -/
structure Mark (g off K N m : Nat) (W wr : World) (k : Nat) : Prop where
  grown : W.grownBy wr (some g)
  size : wr.heap.size = W.heap.size
  lt : g < wr.heap.size
  fz : ∀ o, wr.frozen? ⟨g, o, none⟩ = false
  done : ∀ i, i < k → ∀ j, j < K → wr.cell? ⟨g, off + i * K + j, none⟩ = some (.int .i64 ((m + i * K + j : Nat) : Int))
  room : ∀ o, o < N * K → (wr.cell? ⟨g, off + o, none⟩).isSome = true

theorem Mark.start {g off K N m : Nat} {w : World} {es : List (Nat → Int)} (hK : 0 < K) (hlt : g < w.heap.size) (hfz : ∀ o, w.frozen? ⟨g, o, none⟩ = false) (hc : ∀ i, i < N → ∀ j, j < K → w.cell? ⟨g, off + i * K + j, none⟩ = some (.int .i64 (fld es i j))) :
    Mark g off K N m w w 0 :=
  ⟨World.grownBy.refl w _, rfl, hlt, hfz, fun i hi => absurd hi (by omega), fun o ho => by
    have h1 : o / K < N := Nat.div_lt_of_lt_mul (by rw [Nat.mul_comm]; exact ho)
    have h2 := hc (o / K) h1 (o % K) (Nat.mod_lt _ hK)
    have h3 : off + o / K * K + o % K = off + o := by have := Nat.div_add_mod o K; rw [Nat.mul_comm] at this; omega
    rw [h3] at h2
    rw [h2]
    rfl⟩

theorem grownBy_setCells {W : World} {g : Nat} : ∀ (vs : List Value) (o : Nat) (w : World), W.grownBy w (some g) → W.grownBy (w.setCells g o vs) (some g)
  | [], _, _, h => h
  | v :: r, o, w, h => grownBy_setCells r (o + 1) _ ⟨h.os, h.tape, h.output, by simpa [World.setCell] using h.size, fun i hi hne => (Below.heap_setCell w ⟨g, o, none⟩ v i (by rintro rfl; exact hne rfl)).trans (h.block i hi hne)⟩

theorem Mark.set {g off K N m k : Nat} {W w1 : World} {vs : List Value} (h : Mark g off K N m W w1 k) (hk : k < N) (hl : vs.length = K) (hv : ∀ j, j < K → vs[j]? = some (.int .i64 ((m + k * K + j : Nat) : Int))) :
    Mark g off K N m W (w1.setCells g (off + k * K) vs) (k + 1) := by
  have hsome : ∀ j, j < vs.length → (w1.cell? ⟨g, off + k * K + j, none⟩).isSome = true := fun j hj => by
    have := h.room (k * K + j) (idx_lt hk (by omega))
    rwa [← Nat.add_assoc] at this
  have hin := World.cell?_setCells_in g vs (off + k * K) w1 hsome
  have hfz : ∀ o, (w1.setCells g (off + k * K) vs).frozen? ⟨g, o, none⟩ = false := fun o => (World.frozen?_setCells g vs (off + k * K) w1 ⟨g, o, none⟩).trans (h.fz o)
  have hroom : ∀ o, o < N * K → ((w1.setCells g (off + k * K) vs).cell? ⟨g, off + o, none⟩).isSome = true := fun o ho => World.isSome_setCells g vs (off + k * K) w1 ⟨g, off + o, none⟩ (h.room o ho)
  refine ⟨grownBy_setCells vs (off + k * K) w1 h.grown, by rw [size_setCells]; exact h.size, by rw [size_setCells]; exact h.lt, hfz, ?_, hroom⟩
  intro i hi j hj
  rcases Nat.lt_or_ge i k with hik | hik
  · have hlt : i * K + j < k * K := idx_lt hik hj
    rw [World.cell?_setCells_out g vs (off + k * K) w1 ⟨g, off + i * K + j, none⟩ (fun _ _ => .inl (by show off + i * K + j < off + k * K; omega))]
    exact h.done i hik j hj
  · obtain rfl : i = k := by omega
    rw [hin j (by omega)]
    have := hv j hj
    rw [List.getElem?_eq_getElem (by omega)] at this
    exact this

theorem Mark.own {B g off K N m : Nat} {W w1 : World} (h : Mark g off K N m W w1 N) (hg : B ≤ g) : Own B w1 K (some ⟨g, off, none⟩) N (marks K m N) :=
  ⟨marks_len K m N, .inr ⟨g, off, rfl, h.lt, hg, h.fz, fun i hi j hj => by rw [h.done i hi j hj, fld_marks hi]⟩⟩

/-- What marking a slice does: the block of the slice alone turns. -/
def Marked (B K : Nat) (A : Option Addr) (n m : Nat) (w w' : World) : Prop :=
  Own B w' K A n (marks K m n) ∧ w.grownBy w' (if n = 0 then none else A.map (·.block)) ∧ w'.heap.size = w.heap.size
end Go.Proofs.YtjlmcppkafjniaaGreat

namespace Go.Proofs.YtjlmcppkafjniaaGreat
open Go.RowKit

end Go.Proofs.YtjlmcppkafjniaaGreat
