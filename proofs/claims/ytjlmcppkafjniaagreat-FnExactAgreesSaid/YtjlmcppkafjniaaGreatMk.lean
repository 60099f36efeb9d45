/-
  Where slices lie, and what marking one of them does to the others.
-/
import Derived.Test.YtjlmcppkafjniaaGreatSl
import Derived.Test.YtjlmcppkafjniaaGreatRows
import Derived.WalkKit
import Derived.WalkSpells
import Derived.WalkLawsBesides
import Derived.RegionTactic
import Derived.BigRegion
import Derived.ChangeAlike
import Derived.Lib.Hide
import Derived.Deep.RegionWith
import Derived.Deep.RegionHeld3
import Derived.Laws.IdiomCopy
import Derived.Deep.MidRow
namespace Go.Proofs.YtjlmcppkafjniaaGreat
open Go.ChangeShapes Go.WideShapes Go.ChangeAt Go.RowKit Go.Deep

section
variable {H : Type} {enc : TypeId × Value → H} {P : Program} {w : World} {base : Nat} {spare : Nat → Bool} {held : Bool}

/-- A struct of a slice of integers and eight integers, as its cells are read. -/
theorem rules_of_cells {tsl ti : TypeId} {fs : Array Field} (hti : P.underlying ti = some (.int .i64)) (hsl : P.underlying tsl = some (.slice ti)) (hC1 : P.cellsOf ti = 1) (hone : oneCellFields P fs = true)
    (hty : fs.toList.map (·.type) = [tsl, ti, ti, ti, ti, ti, ti, ti, ti]) {cs : List Value} (hlen : cs.length = fs.size) {xs : List (DataW H × List MemPlace)} {n : Nat} (hxl : xs.length = fs.size)
    (hg : ∀ (i : Nat) (f : Field), fs[i]? = some f → DataW.trod enc P w base spare held n f.type ((cs.drop f.offset).take (P.cellsOf f.type)) = xs[i]?) :
    ∃ (A : Option Addr) (m c : Nat) (es : List (Nat → Int)) (r : Nat → Int), cs = [.slice A m c, .int .i64 (r 1), .int .i64 (r 2), .int .i64 (r 3), .int .i64 (r 4), .int .i64 (r 5), .int .i64 (r 6), .int .i64 (r 7), .int .i64 (r 8)] ∧ m ≤ c ∧ c ≤ maxLen ∧ Rd w 1 A m es := by
  have h9 : fs.size = 9 := by
    have := congrArg List.length hty
    simpa using this
  have ht : ∀ i (h : i < fs.size), fs[i].type = [tsl, ti, ti, ti, ti, ti, ti, ti, ti][i]'(by simp; omega) := by
    intro i h
    have : (fs.toList.map (·.type))[i]? = [tsl, ti, ti, ti, ti, ti, ti, ti, ti][i]? := by rw [hty]
    rw [List.getElem?_map, List.getElem?_eq_getElem (by simpa using h), List.getElem?_eq_getElem (by simp; omega)] at this
    simpa using this
  have cell : ∀ i (h : i < cs.length), ∃ x, DataW.trod enc P w base spare held n (fs[i]'(by omega)).type [cs[i]] = some x := by
    intro i h
    have hi : i < fs.size := by omega
    have hf : fs[i]? = some fs[i] := Array.getElem?_eq_getElem hi
    obtain ⟨ho, hc⟩ := hone_of hone i fs[i] hf
    have h1 := hg i fs[i] hf
    rw [ho, hc] at h1
    have hx : xs[i]? = some (xs[i]'(by omega)) := List.getElem?_eq_getElem (by omega)
    have hd : (cs.drop i).take 1 = [cs[i]] := by
      rw [List.drop_eq_getElem_cons h]
      rfl
    rw [hd, hx] at h1
    exact ⟨_, h1⟩
  have ints : ∀ i (h : i < cs.length), 0 < i → cs[i] = .int .i64 (intOf cs[i]) := by
    intro i h h0
    obtain ⟨x, hx⟩ := cell i h
    have h2 := ht i (by omega)
    have h3 : [tsl, ti, ti, ti, ti, ti, ti, ti, ti][i]'(by simp; omega) = ti := by
      have hi : i = 1 ∨ i = 2 ∨ i = 3 ∨ i = 4 ∨ i = 5 ∨ i = 6 ∨ i = 7 ∨ i = 8 := by omega
      rcases hi with rfl | rfl | rfl | rfl | rfl | rfl | rfl | rfl <;> rfl
    rw [h2, h3] at hx
    obtain ⟨z, hz, _, _⟩ := DataW.trod_int hti hx
    injection hz with hz _
    rw [hz]
    rfl
  obtain ⟨x, hx⟩ := cell 0 (by omega)
  rw [ht 0 (by omega)] at hx
  obtain ⟨A, m, c, es, hv, h1, h2, h3⟩ := slice_of_trod1 (t := tsl) hsl hti hC1 hx
  refine ⟨A, m, c, es, fun j => intOf (cs.getD j undef), ?_, h1, h2, h3⟩
  have hcs : cs = [cs[0]'(by omega), cs[1]'(by omega), cs[2]'(by omega), cs[3]'(by omega), cs[4]'(by omega), cs[5]'(by omega), cs[6]'(by omega), cs[7]'(by omega), cs[8]'(by omega)] := by
    refine List.ext_getElem (by simp; omega) fun i hi hi2 => ?_
    have hi9 : i = 0 ∨ i = 1 ∨ i = 2 ∨ i = 3 ∨ i = 4 ∨ i = 5 ∨ i = 6 ∨ i = 7 ∨ i = 8 := by omega
    rcases hi9 with rfl | rfl | rfl | rfl | rfl | rfl | rfl | rfl | rfl <;> rfl
  have gd : ∀ j (h : j < cs.length), cs.getD j undef = cs[j] := fun j h => by simp [List.getD_eq_getElem?_getD, List.getElem?_eq_getElem h]
  show cs = [.slice A m c, .int .i64 (intOf (cs.getD 1 undef)), .int .i64 (intOf (cs.getD 2 undef)), .int .i64 (intOf (cs.getD 3 undef)), .int .i64 (intOf (cs.getD 4 undef)), .int .i64 (intOf (cs.getD 5 undef)), .int .i64 (intOf (cs.getD 6 undef)), .int .i64 (intOf (cs.getD 7 undef)), .int .i64 (intOf (cs.getD 8 undef))]
  rw [gd 1 (by omega), gd 2 (by omega), gd 3 (by omega), gd 4 (by omega), gd 5 (by omega), gd 6 (by omega), gd 7 (by omega), gd 8 (by omega), ← ints 1 (by omega) (by omega), ← ints 2 (by omega) (by omega), ← ints 3 (by omega) (by omega), ← ints 4 (by omega) (by omega), ← ints 5 (by omega) (by omega), ← ints 6 (by omega) (by omega), ← ints 7 (by omega) (by omega), ← ints 8 (by omega) (by omega), ← hv]
  exact hcs

/-- An argument of the type Rules. -/
theorem open_rules {r0 : Reach} {b0 : Nat} {t tsl ti : TypeId} {fs : Array Field} {v : Value} {d : DataW H} {p : List MemPlace} (hs : P.underlying t = some (.struct fs)) (hti : P.underlying ti = some (.int .i64)) (hsl : P.underlying tsl = some (.slice ti)) (hC1 : P.cellsOf ti = 1)
    (hone : oneCellFields P fs = true) (hty : fs.toList.map (·.type) = [tsl, ti, ti, ti, ti, ti, ti, ti, ti]) (hC : P.cellsOf t = fs.size)
    (hv : Value.okWide P w r0 b0 t v) (h : DataW.Trod enc P w base spare held t v d p) :
    ∃ (A : Option Addr) (m c : Nat) (es : List (Nat → Int)) (r : Nat → Int), v = .agg #[.slice A m c, .int .i64 (r 1), .int .i64 (r 2), .int .i64 (r 3), .int .i64 (r 4), .int .i64 (r 5), .int .i64 (r 6), .int .i64 (r 7), .int .i64 (r 8)] ∧ m ≤ c ∧ c ≤ maxLen ∧ Rd w 1 A m es := by
  obtain ⟨cs, rfl, hsz⟩ := okWide_struct hs hv
  obtain ⟨fuel, hf⟩ := h
  obtain ⟨xs, n, _, _, _, hlen, hg⟩ := DataW.trod_struct hs hf
  obtain ⟨A, m, c, es, r, hz, h1, h2, h3⟩ := rules_of_cells hti hsl hC1 hone hty (cs := (Value.agg cs).cells.toList) (by simpa [Value.cells] using hsz.trans hC) hlen hg
  refine ⟨A, m, c, es, r, ?_, h1, h2, h3⟩
  refine congrArg Value.agg (Array.toList_inj.1 ?_)
  simpa [Value.cells] using hz
end
end Go.Proofs.YtjlmcppkafjniaaGreat

namespace Go.Proofs.YtjlmcppkafjniaaGreat
open Go.RowKit

theorem below_drewN {B : Nat} {a w : World} (h : Below B a w) (n : Nat) : Below B a (w.drewN n) := ⟨h.os, h.tape, h.output, h.size, h.block⟩
theorem bel_alloc {B : Nat} {a w : World} (hB : B ≤ w.heap.size) (h : Below B a w) (o : Obj) : Below B a (w.alloc o) := h.alloc hB o
theorem bel_set {B : Nat} {a w : World} {p : Addr} (hp : B ≤ p.block) (h : Below B a w) (u : Value) : Below B a (w.setCell p u) := h.setCell hp u
theorem bel_tr {B B' : Nat} {a b c : World} (k : Below B' b c) (hB : B ≤ B') (h : Below B a b) : Below B a c := h.trans (k.mono hB)
theorem bcell {W w1 : World} (hb : Below W.heap.size W w1) : (∀ b o, b < W.heap.size → w1.cell? ⟨b, o, none⟩ = W.cell? ⟨b, o, none⟩) ∧ (∀ b o, b < W.heap.size → w1.frozen? ⟨b, o, none⟩ = W.frozen? ⟨b, o, none⟩) :=
  ⟨fun b o h => hb.cell (p := ⟨b, o, none⟩) h, fun b o h => hb.frozen (p := ⟨b, o, none⟩) h⟩

def TF (P : Prop) (w : World) (e : Ending) (w' : World) : Prop := (e = .returned (.bool true) ∧ P ∧ w = w') ∨ (e = .returned (.bool false) ∧ ¬ P ∧ w = w')
def TFB (P : Prop) (w : World) (e : Ending) (w' : World) : Prop := (e = .returned (.bool true) ∧ P ∧ Below w.heap.size w w') ∨ (e = .returned (.bool false) ∧ ¬ P ∧ Below w.heap.size w w')

set_option maxHeartbeats 400000 in
theorem within_any (n a b : Int) (w : World) :
    Calls Tryz.prog 76 #[.int .i64 n, .int .i64 a, .int .i64 b] w (TF (a ≤ n ∧ n ≤ b) w) := by
  go_enter Tryz.func76, Tryz.ntmps76
  by_cases h1 : a ≤ n <;> by_cases h2 : n ≤ b
  all_goals go_wp2
  all_goals go_ret
  · exact .inl ⟨by simp <;> omega, ⟨h1, h2⟩, rfl⟩
  · exact .inr ⟨by simp <;> omega, by omega, rfl⟩
  · exact .inr ⟨by simp, by omega, rfl⟩
  · exact .inr ⟨by simp, by omega, rfl⟩

set_option maxHeartbeats 400000 in
theorem l1In_any (n a b : Int) (w : World) :
    Calls Tryz.prog 44 #[.int .i64 n, .int .i64 a, .int .i64 b] w (TF (a ≤ n ∧ n ≤ b) w) := by
  go_enter Tryz.func44, Tryz.ntmps44
  by_cases h1 : a ≤ n <;> by_cases h2 : n ≤ b
  all_goals go_wp2
  all_goals go_ret
  · exact .inl ⟨by simp <;> omega, ⟨h1, h2⟩, rfl⟩
  · exact .inr ⟨by simp <;> omega, by omega, rfl⟩
  · exact .inr ⟨by simp, by omega, rfl⟩
  · exact .inr ⟨by simp, by omega, rfl⟩
theorem ty {P : Program} {f : FuncId} {args : Array Value} {w : World} {A : Prop} (c : Calls P f args w (TFB A w)) (h : A) : Calls P f args w fun e w' => e = .returned (.bool true) ∧ Below w.heap.size w w' :=
  c.mono fun _ _ x => x.elim (fun y => ⟨y.1, y.2.2⟩) (fun y => absurd h y.2.1)
theorem tn {P : Program} {f : FuncId} {args : Array Value} {w : World} {A : Prop} (c : Calls P f args w (TFB A w)) (h : ¬ A) : Calls P f args w fun e w' => e = .returned (.bool false) ∧ Below w.heap.size w w' :=
  c.mono fun _ _ x => x.elim (fun y => absurd y.2.1 h) (fun y => ⟨y.1, y.2.2⟩)
theorem sy {P : Program} {f : FuncId} {args : Array Value} {w : World} {A : Prop} (c : Calls P f args w (TF A w)) (h : A) : Calls P f args w fun e w' => e = .returned (.bool true) ∧ w = w' :=
  c.mono fun _ _ x => x.elim (fun y => ⟨y.1, y.2.2⟩) (fun y => absurd h y.2.1)
theorem sn {P : Program} {f : FuncId} {args : Array Value} {w : World} {A : Prop} (c : Calls P f args w (TF A w)) (h : ¬ A) : Calls P f args w fun e w' => e = .returned (.bool false) ∧ w = w' :=
  c.mono fun _ _ x => x.elim (fun y => absurd y.2.1 h) (fun y => ⟨y.1, y.2.2⟩)

end Go.Proofs.YtjlmcppkafjniaaGreat

namespace Go.Proofs.YtjlmcppkafjniaaGreat
open Go.RowKit

/-- Block g of N elements of K cells: the first k elements read as those of es. -/
structure Fill (B g K N : Nat) (W wr : World) (k : Nat) (es : List (Nat → Int)) : Prop where
  below : Below B W wr
  lt : g < wr.heap.size
  fz : ∀ o, wr.frozen? ⟨g, o, none⟩ = false
  done : ∀ i, i < k → ∀ j, j < K → wr.cell? ⟨g, i * K + j, none⟩ = some (.int .i64 (fld es i j))
  room : ∀ o, o < N * K → (wr.cell? ⟨g, o, none⟩).isSome = true

theorem cell_of_heap {w : World} {g o : Nat} {cs : Array Value} {t : TypeId} {fz : Nat × Nat} (h : w.heap[g]? = some (.cells cs t fz)) : w.cell? ⟨g, o, none⟩ = cs[o]? := by
  unfold World.cell?
  simp [h]
theorem frozen_of_heap {w : World} {g o : Nat} {cs : Array Value} {t : TypeId} (h : w.heap[g]? = some (.cells cs t (0, 0))) : w.frozen? ⟨g, o, none⟩ = false := by
  unfold World.frozen?
  simp [h]

theorem Fill.start {B g K N : Nat} {W w w1 : World} {e : TypeId} {base : Nat} {xs : List Value} {es : List (Nat → Int)} (hW : Below B W w) (hB : B ≤ w.heap.size) (_hg : g = w.heap.size)
    (hown : w1.ownsRow base e K (.slice (some ⟨g, 0, none⟩) N N) N xs) (hgr : w.grownBy w1 none) : Fill B g K N W w1 0 es := by
  obtain ⟨h1, h2⟩ := hown
  rcases h2 with ⟨h2, _⟩ | ⟨g', cap, cur, hv, _, hh, _, _, hsz, htk⟩
  · cases h2
  · injection hv with hv1 _ hv3
    injection hv1 with hv1
    injection hv1 with hv1
    subst hv1 hv3
    have hlt : g < w1.heap.size := (Array.getElem?_eq_some_iff.1 hh).1
    refine ⟨hW.grown hgr hB (fun k hk => by cases hk), hlt, fun o => frozen_of_heap hh, fun i hi => absurd hi (by omega), fun o ho => ?_⟩
    rw [cell_of_heap hh, Array.getElem?_eq_getElem (by omega)]
    rfl

theorem Fill.call {B g K N k : Nat} {W wr w1 : World} {es : List (Nat → Int)} (h : Fill B g K N W wr k es) (hB : B ≤ wr.heap.size) (hb : Below wr.heap.size wr w1) : Fill B g K N W w1 k es :=
  ⟨h.below.trans (hb.mono hB), Nat.lt_of_lt_of_le h.lt hb.size, fun o => (hb.frozen (p := ⟨g, o, none⟩) h.lt).trans (h.fz o), fun i hi j hj => (hb.cell (p := ⟨g, i * K + j, none⟩) h.lt).trans (h.done i hi j hj), fun o ho => by rw [hb.cell (p := ⟨g, o, none⟩) h.lt]; exact h.room o ho⟩

theorem below_setCells {B g : Nat} {W : World} (hg : B ≤ g) : ∀ (vs : List Value) (o : Nat) (w : World), Below B W w → Below B W (w.setCells g o vs)
  | [], _, _, h => h
  | v :: r, o, _w, h => below_setCells hg r (o + 1) _ (h.setCell hg v)
theorem size_setCells (g : Nat) : ∀ (vs : List Value) (o : Nat) (w : World), (w.setCells g o vs).heap.size = w.heap.size
  | [], _, _ => rfl
  | v :: r, o, w => by
    show ((w.setCell ⟨g, o, none⟩ v).setCells g (o + 1) r).heap.size = _
    rw [size_setCells g r (o + 1)]
    simp [World.setCell]

theorem idx_lt {i K j N : Nat} (hi : i < N) (hj : j < K) : i * K + j < N * K := by
  have : (i + 1) * K ≤ N * K := Nat.mul_le_mul_right K hi
  rw [Nat.succ_mul] at this
  omega

theorem Fill.set {B g K N k : Nat} {W w1 : World} {es : List (Nat → Int)} {vs : List Value} (h : Fill B g K N W w1 k es) (hg : B ≤ g) (hk : k < N) (hl : vs.length = K) (hv : ∀ j, j < K → vs[j]? = some (.int .i64 (fld es k j))) :
    Fill B g K N W (w1.setCells g (k * K) vs) (k + 1) es := by
  have hsome : ∀ j, j < vs.length → (w1.cell? ⟨g, k * K + j, none⟩).isSome = true := fun j hj => h.room (k * K + j) (idx_lt hk (by omega))
  have hin := World.cell?_setCells_in g vs (k * K) w1 hsome
  have hfz : ∀ o, (w1.setCells g (k * K) vs).frozen? ⟨g, o, none⟩ = false := fun o => (World.frozen?_setCells g vs (k * K) w1 ⟨g, o, none⟩).trans (h.fz o)
  have hroom : ∀ o, o < N * K → ((w1.setCells g (k * K) vs).cell? ⟨g, o, none⟩).isSome = true := fun o ho => World.isSome_setCells g vs (k * K) w1 ⟨g, o, none⟩ (h.room o ho)
  refine ⟨below_setCells hg vs (k * K) w1 h.below, by rw [size_setCells]; exact h.lt, hfz, ?_, hroom⟩
  intro i hi j hj
  rcases Nat.lt_or_ge i k with hik | hik
  · rw [World.cell?_setCells_out g vs (k * K) w1 ⟨g, i * K + j, none⟩ (fun _ _ => .inl (idx_lt hik hj))]
    exact h.done i hik j hj
  · obtain rfl : i = k := by omega
    rw [hin j (by omega)]
    have := hv j hj
    rw [List.getElem?_eq_getElem (by omega)] at this
    exact this

theorem Fill.own {B g K N : Nat} {W w1 : World} {es : List (Nat → Int)} (h : Fill B g K N W w1 N es) (hg : B ≤ g) (hl : es.length = N) : Own B w1 K (some ⟨g, 0, none⟩) N es :=
  ⟨hl, .inr ⟨g, 0, rfl, h.lt, hg, h.fz, fun i hi j hj => by rw [Nat.zero_add]; exact h.done i hi j hj⟩⟩

/-- The numbers from m on, K an element, n elements. -/
def marks (K m n : Nat) : List (Nat → Int) := (List.range n).map fun i j => ((m + i * K + j : Nat) : Int)
theorem marks_len (K m n : Nat) : (marks K m n).length = n := by simp [marks]
theorem fld_marks {K m n i j : Nat} (hi : i < n) : fld (marks K m n) i j = ((m + i * K + j : Nat) : Int) := by
  unfold fld marks
  rw [List.getD_eq_getElem?_getD, List.getElem?_map, List.getElem?_range hi]
  rfl

/-- The row at block g, place off, N elements of K cells: its first k elements have been marked; nothing else has turned. -/
structure Mark (g off K N m : Nat) (W wr : World) (k : Nat) : Prop where
  grown : W.grownBy wr (some g)
  size : wr.heap.size = W.heap.size
  lt : g < wr.heap.size
  fz : ∀ o, wr.frozen? ⟨g, o, none⟩ = false
  done : ∀ i, i < k → ∀ j, j < K → wr.cell? ⟨g, off + i * K + j, none⟩ = some (.int .i64 ((m + i * K + j : Nat) : Int))
  room : ∀ o, o < N * K → (wr.cell? ⟨g, off + o, none⟩).isSome = true

theorem Mark.start {g off K N m : Nat} {w : World} {es : List (Nat → Int)} (hK : 0 < K) (hlt : g < w.heap.size) (hfz : ∀ o, w.frozen? ⟨g, o, none⟩ = false) (hc : ∀ i, i < N → ∀ j, j < K → w.cell? ⟨g, off + i * K + j, none⟩ = some (.int .i64 (fld es i j))) :
    Mark g off K N m w w 0 :=
  ⟨World.grownBy.refl w _, rfl, hlt, hfz, fun i hi => absurd hi (by omega), fun o ho => by
    have h1 : o / K < N := Nat.div_lt_of_lt_mul (by rw [Nat.mul_comm]; exact ho)
    have h2 := hc (o / K) h1 (o % K) (Nat.mod_lt _ hK)
    have h3 : off + o / K * K + o % K = off + o := by have := Nat.div_add_mod o K; rw [Nat.mul_comm] at this; omega
    rw [h3] at h2
    rw [h2]
    rfl⟩

theorem grownBy_setCells {W : World} {g : Nat} : ∀ (vs : List Value) (o : Nat) (w : World), W.grownBy w (some g) → W.grownBy (w.setCells g o vs) (some g)
  | [], _, _, h => h
  | v :: r, o, w, h => grownBy_setCells r (o + 1) _ ⟨h.os, h.tape, h.output, by simpa [World.setCell] using h.size, fun i hi hne => (Below.heap_setCell w ⟨g, o, none⟩ v i (by rintro rfl; exact hne rfl)).trans (h.block i hi hne)⟩

theorem Mark.set {g off K N m k : Nat} {W w1 : World} {vs : List Value} (h : Mark g off K N m W w1 k) (hk : k < N) (hl : vs.length = K) (hv : ∀ j, j < K → vs[j]? = some (.int .i64 ((m + k * K + j : Nat) : Int))) :
    Mark g off K N m W (w1.setCells g (off + k * K) vs) (k + 1) := by
  have hsome : ∀ j, j < vs.length → (w1.cell? ⟨g, off + k * K + j, none⟩).isSome = true := fun j hj => by
    have := h.room (k * K + j) (idx_lt hk (by omega))
    rwa [← Nat.add_assoc] at this
  have hin := World.cell?_setCells_in g vs (off + k * K) w1 hsome
  have hfz : ∀ o, (w1.setCells g (off + k * K) vs).frozen? ⟨g, o, none⟩ = false := fun o => (World.frozen?_setCells g vs (off + k * K) w1 ⟨g, o, none⟩).trans (h.fz o)
  have hroom : ∀ o, o < N * K → ((w1.setCells g (off + k * K) vs).cell? ⟨g, off + o, none⟩).isSome = true := fun o ho => World.isSome_setCells g vs (off + k * K) w1 ⟨g, off + o, none⟩ (h.room o ho)
  refine ⟨grownBy_setCells vs (off + k * K) w1 h.grown, by rw [size_setCells]; exact h.size, by rw [size_setCells]; exact h.lt, hfz, ?_, hroom⟩
  intro i hi j hj
  rcases Nat.lt_or_ge i k with hik | hik
  · have hlt : i * K + j < k * K := idx_lt hik hj
    rw [World.cell?_setCells_out g vs (off + k * K) w1 ⟨g, off + i * K + j, none⟩ (fun _ _ => .inl (by show off + i * K + j < off + k * K; omega))]
    exact h.done i hik j hj
  · obtain rfl : i = k := by omega
    rw [hin j (by omega)]
    have := hv j hj
    rw [List.getElem?_eq_getElem (by omega)] at this
    exact this

theorem Mark.own {B g off K N m : Nat} {W w1 : World} (h : Mark g off K N m W w1 N) (hg : B ≤ g) : Own B w1 K (some ⟨g, off, none⟩) N (marks K m N) :=
  ⟨marks_len K m N, .inr ⟨g, off, rfl, h.lt, hg, h.fz, fun i hi j hj => by rw [h.done i hi j hj, fld_marks hi]⟩⟩

/-- What marking a slice does: the block of the slice alone turns. -/
def Marked (B K : Nat) (A : Option Addr) (n m : Nat) (w w' : World) : Prop :=
  Own B w' K A n (marks K m n) ∧ w.grownBy w' (if n = 0 then none else A.map (·.block)) ∧ w'.heap.size = w.heap.size
end Go.Proofs.YtjlmcppkafjniaaGreat

namespace Go.Proofs.YtjlmcppkafjniaaGreat
open Go.RowKit

/-- The slice lies in blocks from lo on, below hi (or is empty). -/
def InB (A : Option Addr) (n lo hi : Nat) : Prop := n = 0 ∨ ∃ a, A = some a ∧ lo ≤ a.block ∧ a.block < hi

section
variable {w w' : World} {B K n : Nat} {A : Option Addr} {es : List (Nat → Int)}
theorem Own.inB (h : Own B w K A n es) : InB A n B w.heap.size := h.2.imp id fun ⟨b, off, h1, h2, h3, _⟩ => ⟨⟨b, off, none⟩, h1, h3, h2⟩

/-- A slice in other blocks than the one that turned reads as it did. -/
theorem Rd.grown_ (h : Rd w K A n es) {row : Option Nat} (hg : w.grownBy w' row) (hne : ∀ a, n ≠ 0 → A = some a → some a.block ≠ row) : Rd w' K A n es := by
  refine ⟨h.1, ?_⟩
  rcases Nat.eq_zero_or_pos n with h0 | h0
  · exact .inl h0
  · obtain ⟨b, off, h1, h2, h5⟩ := h.2.resolve_left (by omega)
    have hb := hg.block b h2 (hne _ (by omega) h1)
    exact .inr ⟨b, off, h1, Nat.lt_of_lt_of_le h2 hg.size, fun i hi j hj => (World.cell?_of_block (w := w) (w' := w') (a := ⟨b, off + i * K + j, none⟩) hb).trans (h5 i hi j hj)⟩
theorem Own.grown_ (h : Own B w K A n es) {row : Option Nat} (hg : w.grownBy w' row) (hne : ∀ a, n ≠ 0 → A = some a → some a.block ≠ row) : Own B w' K A n es := by
  refine ⟨h.1, ?_⟩
  rcases Nat.eq_zero_or_pos n with h0 | h0
  · exact .inl h0
  · obtain ⟨b, off, h1, h2, h3, h4, h5⟩ := h.2.resolve_left (by omega)
    have hb := hg.block b h2 (hne _ (by omega) h1)
    exact .inr ⟨b, off, h1, Nat.lt_of_lt_of_le h2 hg.size, h3, fun o => (World.frozen?_of_block (w := w) (w' := w') (a := ⟨b, o, none⟩) hb).trans (h4 o), fun i hi j hj => (World.cell?_of_block (w := w) (w' := w') (a := ⟨b, off + i * K + j, none⟩) hb).trans (h5 i hi j hj)⟩
end

/-- Two slices in different stretches of blocks: marking one leaves the other. -/
theorem ne_of_InB {A A2 : Option Addr} {n n2 lo hi lo2 hi2 : Nat} (h : InB A n lo hi) (h2 : InB A2 n2 lo2 hi2) (hd : hi ≤ lo2 ∨ hi2 ≤ lo) : ∀ a, n ≠ 0 → A = some a → some a.block ≠ (if n2 = 0 then none else A2.map (·.block)) := by
  intro a hn ha
  obtain ⟨a', ha', h3, h4⟩ := h.resolve_left hn
  rw [ha] at ha'
  injection ha' with ha'
  subst ha'
  by_cases h0 : n2 = 0
  · rw [if_pos h0]
    simp
  · rw [if_neg h0]
    obtain ⟨b, hb, h5, h6⟩ := h2.resolve_left h0
    rw [hb]
    simp only [Option.map_some, ne_eq, Option.some.injEq]
    omega

/-- Marking leaves all that lies below the slice's stretch. -/
theorem Marked.below {B K n m lo hi : Nat} {A : Option Addr} {w w' : World} (h : Marked B K A n m w w') (hA : InB A n lo hi) {B0 : Nat} (hB : B0 ≤ lo) (hw : B0 ≤ w.heap.size) : Below B0 w w' := by
  obtain ⟨_, hg, _⟩ := h
  refine (Below.refl B0 w).grown hg hw ?_
  intro k hk
  by_cases h0 : n = 0
  · rw [if_pos h0] at hk
    cases hk
  · rw [if_neg h0] at hk
    obtain ⟨a, rfl, h3, h4⟩ := hA.resolve_left h0
    simp only [Option.map_some, Option.some.injEq] at hk
    omega
end Go.Proofs.YtjlmcppkafjniaaGreat
