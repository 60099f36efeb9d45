/-
  Rows of structs as ranges of cells; a list with one element put in; the run of the builtin copy at elements of several cells.
-/
import Derived.Test.YtfilagmboeeclaaApp
import Derived.Test.YtfilagmboeeclaaCut
import Derived.Deep.MidRow
import Derived.Lib.SliceRun
import Derived.Lib.AppendZeros
import Derived.Lib.AppendZerosOnto
import Derived.Lib.Overlaps
import Derived.Laws.Externs
import Derived.Laws.IdiomCopy
import Derived.Laws.NewBlocks
import Derived.Deep.RegionLaw
namespace Go.Proofs.Ytfilagmboeeclaa
open Go.RowKit

/-- The list with e put in ahead of element k. -/
def insL (es : List (Nat → Int)) (k : Nat) (e : Nat → Int) : List (Nat → Int) := es.take k ++ e :: es.drop k
theorem insL_len {es : List (Nat → Int)} {k n : Nat} {e : Nat → Int} (hl : es.length = n) (hk : k ≤ n) : (insL es k e).length = n + 1 := by
  unfold insL
  rw [List.length_append, List.length_take, List.length_cons, List.length_drop]
  omega
theorem insL_end {es : List (Nat → Int)} {n : Nat} {e : Nat → Int} (hl : es.length = n) : insL es n e = es ++ [e] := by
  unfold insL
  rw [List.take_of_length_le (by omega), List.drop_of_length_le (by omega)]

theorem rangeAt_append {w : World} {b o : Nat} {l1 l2 : List Value} (h1 : w.rangeAt b o l1) (h2 : w.rangeAt b (o + l1.length) l2) : w.rangeAt b o (l1 ++ l2) := by
  intro q v hq
  rcases Nat.lt_or_ge q l1.length with h | h
  · rw [List.getElem?_append_left h] at hq
    exact h1 q v hq
  · rw [List.getElem?_append_right h] at hq
    have h3 := h2 (q - l1.length) v hq
    have h4 : o + l1.length + (q - l1.length) = o + q := by omega
    rwa [h4] at h3
theorem rangeAt_drop {w : World} {b o k : Nat} {l : List Value} (h : w.rangeAt b o l) : w.rangeAt b (o + k) (l.drop k) := by
  intro q v hq
  rw [List.getElem?_drop] at hq
  rw [Nat.add_assoc]
  exact h _ v hq
theorem rangeAt_take {w : World} {b o k : Nat} {l : List Value} (h : w.rangeAt b o l) : w.rangeAt b o (l.take k) := by
  intro q v hq
  rw [List.getElem?_take] at hq
  split at hq
  · exact h q v hq
  · cases hq
theorem flat_take (K k : Nat) (es : List (Nat → Int)) (hk : k ≤ es.length) : (flat K es).take (k * K) = flat K (es.take k) := by
  have h := flat_append K (es.take k) (es.drop k)
  rw [List.take_append_drop] at h
  have hl : (flat K (es.take k)).length = k * K := by rw [flat_len, List.length_take, Nat.min_eq_left hk]
  rw [h, ← hl, List.take_left]
theorem flat_drop (K k : Nat) (es : List (Nat → Int)) (hk : k ≤ es.length) : (flat K es).drop (k * K) = flat K (es.drop k) := by
  have h := flat_append K (es.take k) (es.drop k)
  rw [List.take_append_drop] at h
  have hl : (flat K (es.take k)).length = k * K := by rw [flat_len, List.length_take, Nat.min_eq_left hk]
  rw [h, ← hl, List.drop_left]

/-- Cells in a range, as a row that may be written. -/
theorem own_of_range {B : Nat} {w : World} {K b off n : Nat} {es : List (Nat → Int)} (hl : es.length = n) (h : w.rangeAt b off (flat K es)) (hB : B ≤ b) (hlt : b < w.heap.size) (hf : ∀ o, w.frozen? ⟨b, o, none⟩ = false) :
    Own B w K (some ⟨b, off, none⟩) n es :=
  ⟨hl, .inr ⟨b, off, rfl, hlt, hB, hf, fun i hi j hj => by
    have h1 := h (i * K + j) _ (flat_get K es i j (by omega) hj)
    rwa [← Nat.add_assoc] at h1⟩⟩
theorem rd_of_range {w : World} {K b off n : Nat} {es : List (Nat → Int)} (hl : es.length = n) (h : w.rangeAt b off (flat K es)) (hlt : b < w.heap.size) :
    Rd w K (some ⟨b, off, none⟩) n es :=
  ⟨hl, .inr ⟨b, off, rfl, hlt, fun i hi j hj => by
    have h1 := h (i * K + j) _ (flat_get K es i j (by omega) hj)
    rwa [← Nat.add_assoc] at h1⟩⟩
theorem range_of_rd {w : World} {K b off n : Nat} {es : List (Nat → Int)} (h : Rd w K (some ⟨b, off, none⟩) n es) : w.rangeAt b off (flat K es) := by
  rcases Nat.eq_zero_or_pos n with h0 | h0
  · have : es = [] := List.eq_nil_of_length_eq_zero (h.1.trans h0)
    subst this
    intro q v hq
    simp [flat] at hq
  · obtain ⟨b', o', he, _, hc⟩ := h.2.resolve_left (by omega)
    injection he with he
    injection he with he1 he2
    subst he1 he2
    intro q u hq
    obtain ⟨hK, h1, rfl⟩ := flat_at hq
    have h2 := hc (q / K) (by rw [← h.1]; exact h1) (q % K) (Nat.mod_lt _ hK)
    have h3 : off + q / K * K + q % K = off + q := by have := Nat.div_add_mod q K; rw [Nat.mul_comm] at this; omega
    rw [h3] at h2
    exact h2

theorem flat_cons1 (K : Nat) (e : Nat → Int) : flat K [e] = ecells K e := by simp [flat]
/-- A row in three parts. -/
theorem ins_range {w : World} {K b off k n : Nat} {es : List (Nat → Int)} {e : Nat → Int} (hl : es.length = n) (hk : k ≤ n)
    (h1 : w.rangeAt b off (flat K (es.take k))) (h2 : w.rangeAt b (off + k * K) (ecells K e)) (h3 : w.rangeAt b (off + (k + 1) * K) (flat K (es.drop k))) :
    w.rangeAt b off (flat K (insL es k e)) := by
  have hlt : (flat K (es.take k)).length = k * K := by rw [flat_len, List.length_take, hl, Nat.min_eq_left hk]
  unfold insL
  rw [flat_append, flat_cons]
  refine rangeAt_append h1 ?_
  rw [hlt]
  refine rangeAt_append h2 ?_
  rw [ecells_len, Nat.add_assoc, ← Nat.succ_mul]
  exact h3

theorem run_copy_K {P : Program} (w : World) (dT sT ty elem : TypeId) (i : TypeInfo) (K b o dLen dCap : Nat) (a : Addr) (sLen sCap m : Nat) (cs : List Value)
    (hu : P.underlying dT = some (.slice elem)) (hi : P.info? elem = some i) (hs : i.size = K) (hm : m = Nat.min sLen dLen) (hn : cs.length = m * K)
    (hsrc : ∀ j v, cs[j]? = some v → w.cell? (a.add j) = some v) (hc : ∀ j, j < cs.length → (w.cell? ⟨b, o + j, none⟩).isSome = true) (hf : ∀ j, j < cs.length → w.frozen? ⟨b, o + j, none⟩ = false) (h1 : ∀ v ∈ cs, v.oneCell' = true) :
    (Builtin.copy_ #[dT, sT] ty #[.slice (some ⟨b, o, none⟩) dLen dCap, .slice (some a) sLen sCap]).run P w = .ok (goInt m) (w.setCells b o cs) := by
  subst hs
  have hfc := run_firstCells_some (P := P) w i.size m a sLen sCap cs hn hsrc
  have hst := run_storeCells_cells (P := P) b o cs 0 w (by simpa using hc) (by simpa using hf) h1
  simp only [Nat.add_zero] at hst
  simp [Builtin.copy_, run_underlying hu, Builtin.lenOf, sizeOf, typeInfo, hi, ← hm, hfc, hst]

theorem wpList_copy_eq {P : Program} (w : World) {ops : Array Oper} {rest : List Oper} {o : Oper} {a : Act} {Q : Exit → Act → World → Prop} (hgd : o.guard = none) (d s : Operand) (t t' : TypeId)
    (ho : o.op = .call { callee := .builtin .copy, args := #[d, s], argTypes := #[t, t'] }) (v u : Value) (hd : a.eval d = v) (hs : a.eval s = u) {v' : Value} {w' : World}
    (hr : (Builtin.copy_ #[t, t'] o.type #[v, u]).run P w = .ok v' w') (h : wpList P ops Q rest (a.put o.dst v') w') : wpList P ops Q (o :: rest) a w :=
  wpList_plain hgd fun _ hK => by
    unfold Oper.wp execOp
    simp only [ho, resolve, invoke, builtin, Sem.run_bind, Sem.run_pure, Result.andThen_ok, List.map_toArray, List.map_cons, List.map_nil, hd, hs, hr]
    exact hK _ _ h
theorem step_copy_eq {P : Program} {ops : Array Oper} {o : Oper} {a : Act} {w : World} {K : Act → World → Prop} {Q : Exit → Act → World → Prop} {E : Prop}
    (hg : o.guard = none) (d x : Operand) (dT sT : TypeId) (hop : o.op = Op.call { callee := Callee.builtin Builtin.copy, args := #[d, x], argTypes := #[dT, sT] })
    (v u : Value) (hd : a.eval d = v) (hx : a.eval x = u) {v' : Value} {w' : World} (hr : (Builtin.copy_ #[dT, sT] o.type #[v, u]).run P w = .ok v' w') (hK : K (a.put o.dst v') w') :
    if Region.wanted o (yielded ops a.tmps) = true then Oper.wp P o a w K Q else E := by
  have hw : Region.wanted o (yielded ops a.tmps) = true := by simp [Region.wanted, hg]
  rw [if_pos hw]
  unfold Oper.wp
  simp [execOp, hop, resolve, invoke, builtin, hd, hx, hr, Result.andThen]
  exact hK
end Go.Proofs.Ytfilagmboeeclaa
