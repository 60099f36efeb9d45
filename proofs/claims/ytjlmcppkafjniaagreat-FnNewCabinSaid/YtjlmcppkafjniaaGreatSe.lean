/-
  Two rows of pins hold the same fields: the contracts of l9SamePins and of slices.Equal. No conditions beyond those stated.
-/
import Derived.Test.YtjlmcppkafjniaaGreatSl
import Derived.Test.YtjlmcppkafjniaaGreatEs
import Derived.Test.YtjlmcppkafjniaaGreatQa
import Derived.Deep.MidRow
import Derived.Lib.SliceRun
import Derived.Lib.AppendZeros
import Derived.Lib.AppendZerosOnto
import Derived.Lib.Overlaps
import Derived.Laws.Externs
import Derived.Laws.IdiomCopy
import Derived.Laws.NewBlocks
import Derived.Deep.RegionLaw
import Derived.Test.YtjlmcppkafjniaaGreatWa
namespace Go.Proofs.YtjlmcppkafjniaaGreat
open Go.RowKit

def SamE (es es2 : List (Nat → Int)) : Prop := es.length = es2.length ∧ ∀ i, i < es.length → fld es i 0 = fld es2 i 0 ∧ fld es i 1 = fld es2 i 1 ∧ fld es i 2 = fld es2 i 2 ∧ fld es i 3 = fld es2 i 3
theorem SamE.of_eq {es es2 : List (Nat → Int)} (h : es = es2) : SamE es es2 := by
  subst h
  exact ⟨rfl, fun _ _ => ⟨rfl, rfl, rfl, rfl⟩⟩
end Go.Proofs.YtjlmcppkafjniaaGreat

namespace Go.Proofs.YtjlmcppkafjniaaGreat
open Go.RowKit

set_option maxRecDepth 100000 in
set_option maxHeartbeats 8000000 in
theorem equalRow_any (A A2 : Option Addr) (n c n2 c2 : Nat) (es es2 : List (Nat → Int)) (w : World) (hn : n ≤ 4194304) (hn2 : n2 ≤ 4194304) (h : Rd w 4 A n es) (h2 : Rd w 4 A2 n2 es2) :
    Calls Tryz.prog 37 #[.slice A n c, .slice A2 n2 c2] w (TFB (SamE es es2) w) := by
  have H := Lib.hid h
  have H2 := Lib.hid h2
  clear h h2
  by_cases hnn : n = n2
  case neg =>
    have hni : ¬ (n : Int) = (n2 : Int) := by omega
    have hF : Hid (¬ SamE es es2) := Lib.hid fun h => hnn (by rw [← H.out.1, ← H2.out.1]; exact h.1)
    go_enter Tryz.func37, Tryz.ntmps37
    go_wp2
    go_ret
    exact .inr ⟨rfl, hF.out, by (repeat (first | with_reducible exact Below.refl _ _ | with_reducible refine Below.drew ?_ | with_reducible refine below_drewN ?_ _ | (with_reducible refine bel_alloc ?_ ?_ _; (first | omega | (simp; omega) | simp)) | (with_reducible refine bel_set ?_ ?_ _; (first | omega | (simp; omega) | simp)) | (with_reducible refine bel_tr (by assumption) ?_ ?_; (first | omega | (simp; omega) | simp))))⟩
  subst hnn
  go_enter Tryz.func37, Tryz.ntmps37
  go_wp2
  go_loopw [4, 13] (fun _ i wr => ∃ k : Nat, k ≤ n ∧ i = .int .i64 k ∧ Hid (∀ j, j < k → fld es j 0 = fld es2 j 0 ∧ fld es j 1 = fld es2 j 1 ∧ fld es j 2 = fld es2 j 2 ∧ fld es j 3 = fld es2 j 3) ∧ Below w.heap.size w wr) (fun _ i _ => n - (intOf i).toNat)
  case atStart => exact ⟨0, Nat.zero_le _, rfl, Lib.hid (fun i hi => absurd hi (by omega)), by (repeat (first | with_reducible exact Below.refl _ _ | with_reducible refine Below.drew ?_ | with_reducible refine below_drewN ?_ _ | (with_reducible refine bel_alloc ?_ ?_ _; (first | omega | (simp; omega) | simp)) | (with_reducible refine bel_set ?_ ?_ _; (first | omega | (simp; omega) | simp)) | (with_reducible refine bel_tr (by assumption) ?_ ?_; (first | omega | (simp; omega) | simp))))⟩
  case round =>
    obtain ⟨k, hk, rfl, HQ, hbel⟩ := hrel
    by_cases hlt : k < n
    case neg =>
      have hkn : k = n := by omega
      have hki : ¬ (k : Int) < (n : Int) := by omega
      have hT : Hid (SamE es es2) := Lib.hid ⟨by rw [H.out.1, H2.out.1], fun i hi => HQ.out i (by rw [H.out.1] at hi; omega)⟩
      go_wp2
      go_ret
      exact .inl ⟨rfl, hT.out, hbel⟩
    have hki : (k : Int) < (n : Int) := by omega
    have hk0 : (0 : Int) ≤ (k : Int) := by omega
    obtain ⟨b, off, rfl, hb, hc⟩ := (H.out.below hbel).2.resolve_left (by omega)
    obtain ⟨b2, off2, rfl, hb2, hc2⟩ := (H2.out.below hbel).2.resolve_left (by omega)
    have c0 : wr.cell? ⟨b, off + k * 4, none⟩ = some (.int .i64 (fld es k 0)) := hc k hlt 0 (by omega)
    have c1 : wr.cell? ⟨b, off + k * 4 + 1, none⟩ = some (.int .i64 (fld es k 1)) := hc k hlt 1 (by omega)
    have c2 : wr.cell? ⟨b, off + k * 4 + 2, none⟩ = some (.int .i64 (fld es k 2)) := hc k hlt 2 (by omega)
    have c3 : wr.cell? ⟨b, off + k * 4 + 3, none⟩ = some (.int .i64 (fld es k 3)) := hc k hlt 3 (by omega)
    have d0 : wr.cell? ⟨b2, off2 + k * 4, none⟩ = some (.int .i64 (fld es2 k 0)) := hc2 k hlt 0 (by omega)
    have d1 : wr.cell? ⟨b2, off2 + k * 4 + 1, none⟩ = some (.int .i64 (fld es2 k 1)) := hc2 k hlt 1 (by omega)
    have d2 : wr.cell? ⟨b2, off2 + k * 4 + 2, none⟩ = some (.int .i64 (fld es2 k 2)) := hc2 k hlt 2 (by omega)
    have d3 : wr.cell? ⟨b2, off2 + k * 4 + 3, none⟩ = some (.int .i64 (fld es2 k 3)) := hc2 k hlt 3 (by omega)
    clear hc hc2
    by_cases e0 : fld es k 0 = fld es2 k 0
    case neg =>
      have hF : Hid (¬ SamE es es2) := Lib.hid fun h => e0 (h.2 k (by rw [H.out.1]; omega)).1
      go_wp2
      go_region
      all_goals
        go_wp2
        go_ret
        exact .inr ⟨rfl, hF.out, by (repeat (first | with_reducible exact Below.refl _ _ | with_reducible refine Below.drew ?_ | with_reducible refine below_drewN ?_ _ | (with_reducible refine bel_alloc ?_ ?_ _; (first | omega | (simp; omega) | simp)) | (with_reducible refine bel_set ?_ ?_ _; (first | omega | (simp; omega) | simp)) | (with_reducible refine bel_tr (by assumption) ?_ ?_; (first | omega | (simp; omega) | simp))))⟩
    by_cases e1 : fld es k 1 = fld es2 k 1
    case neg =>
      have hF : Hid (¬ SamE es es2) := Lib.hid fun h => e1 (h.2 k (by rw [H.out.1]; omega)).2.1
      go_wp2
      go_region
      all_goals
        go_wp2
        go_ret
        exact .inr ⟨rfl, hF.out, by (repeat (first | with_reducible exact Below.refl _ _ | with_reducible refine Below.drew ?_ | with_reducible refine below_drewN ?_ _ | (with_reducible refine bel_alloc ?_ ?_ _; (first | omega | (simp; omega) | simp)) | (with_reducible refine bel_set ?_ ?_ _; (first | omega | (simp; omega) | simp)) | (with_reducible refine bel_tr (by assumption) ?_ ?_; (first | omega | (simp; omega) | simp))))⟩
    by_cases e2 : fld es k 2 = fld es2 k 2
    case neg =>
      have hF : Hid (¬ SamE es es2) := Lib.hid fun h => e2 (h.2 k (by rw [H.out.1]; omega)).2.2.1
      go_wp2
      go_region
      all_goals
        go_wp2
        go_ret
        exact .inr ⟨rfl, hF.out, by (repeat (first | with_reducible exact Below.refl _ _ | with_reducible refine Below.drew ?_ | with_reducible refine below_drewN ?_ _ | (with_reducible refine bel_alloc ?_ ?_ _; (first | omega | (simp; omega) | simp)) | (with_reducible refine bel_set ?_ ?_ _; (first | omega | (simp; omega) | simp)) | (with_reducible refine bel_tr (by assumption) ?_ ?_; (first | omega | (simp; omega) | simp))))⟩
    by_cases e3 : fld es k 3 = fld es2 k 3
    case neg =>
      have hF : Hid (¬ SamE es es2) := Lib.hid fun h => e3 (h.2 k (by rw [H.out.1]; omega)).2.2.2
      go_wp2
      go_region
      all_goals
        go_wp2
        go_ret
        exact .inr ⟨rfl, hF.out, by (repeat (first | with_reducible exact Below.refl _ _ | with_reducible refine Below.drew ?_ | with_reducible refine below_drewN ?_ _ | (with_reducible refine bel_alloc ?_ ?_ _; (first | omega | (simp; omega) | simp)) | (with_reducible refine bel_set ?_ ?_ _; (first | omega | (simp; omega) | simp)) | (with_reducible refine bel_tr (by assumption) ?_ ?_; (first | omega | (simp; omega) | simp))))⟩
    have HQ2 : Hid (∀ j, j < k + 1 → fld es j 0 = fld es2 j 0 ∧ fld es j 1 = fld es2 j 1 ∧ fld es j 2 = fld es2 j 2 ∧ fld es j 3 = fld es2 j 3) := fun j hj => by
      by_cases h1 : j < k
      · exact HQ.out j h1
      · obtain rfl : j = k := by omega
        exact ⟨e0, e1, e2, e3⟩
    go_wp2
    go_region
    all_goals
      go_wp2
      go_roundw
      case rel => exact ⟨k + 1, by omega, by go_num, HQ2, by (repeat (first | with_reducible exact Below.refl _ _ | with_reducible refine Below.drew ?_ | with_reducible refine below_drewN ?_ _ | (with_reducible refine bel_alloc ?_ ?_ _; (first | omega | (simp; omega) | simp)) | (with_reducible refine bel_set ?_ ?_ _; (first | omega | (simp; omega) | simp)) | (with_reducible refine bel_tr (by assumption) ?_ ?_; (first | omega | (simp; omega) | simp))))⟩
      case measure => simp [intOf]; omega

end Go.Proofs.YtjlmcppkafjniaaGreat

namespace Go.Proofs.YtjlmcppkafjniaaGreat
open Go.RowKit

/-- The list with e put in ahead of element k. -/
def insL (es : List (Nat → Int)) (k : Nat) (e : Nat → Int) : List (Nat → Int) := es.take k ++ e :: es.drop k
theorem insL_len {es : List (Nat → Int)} {k n : Nat} {e : Nat → Int} (hl : es.length = n) (hk : k ≤ n) : (insL es k e).length = n + 1 := by
  unfold insL
  rw [List.length_append, List.length_take, List.length_cons, List.length_drop]
  omega
theorem insL_end {es : List (Nat → Int)} {n : Nat} {e : Nat → Int} (hl : es.length = n) : insL es n e = es ++ [e] := by
  unfold insL
  rw [List.take_of_length_le (by omega), List.drop_of_length_le (by omega)]

theorem rangeAt_append {w : World} {b o : Nat} {l1 l2 : List Value} (h1 : w.rangeAt b o l1) (h2 : w.rangeAt b (o + l1.length) l2) : w.rangeAt b o (l1 ++ l2) := by
  intro q v hq
  rcases Nat.lt_or_ge q l1.length with h | h
  · rw [List.getElem?_append_left h] at hq
    exact h1 q v hq
  · rw [List.getElem?_append_right h] at hq
    have h3 := h2 (q - l1.length) v hq
    have h4 : o + l1.length + (q - l1.length) = o + q := by omega
    rwa [h4] at h3
theorem rangeAt_drop {w : World} {b o k : Nat} {l : List Value} (h : w.rangeAt b o l) : w.rangeAt b (o + k) (l.drop k) := by
  intro q v hq
  rw [List.getElem?_drop] at hq
  rw [Nat.add_assoc]
  exact h _ v hq
theorem rangeAt_take {w : World} {b o k : Nat} {l : List Value} (h : w.rangeAt b o l) : w.rangeAt b o (l.take k) := by
  intro q v hq
  rw [List.getElem?_take] at hq
  split at hq
  · exact h q v hq
  · cases hq
theorem flat_take (K k : Nat) (es : List (Nat → Int)) (hk : k ≤ es.length) : (flat K es).take (k * K) = flat K (es.take k) := by
  have h := flat_append K (es.take k) (es.drop k)
  rw [List.take_append_drop] at h
  have hl : (flat K (es.take k)).length = k * K := by rw [flat_len, List.length_take, Nat.min_eq_left hk]
  rw [h, ← hl, List.take_left]
theorem flat_drop (K k : Nat) (es : List (Nat → Int)) (hk : k ≤ es.length) : (flat K es).drop (k * K) = flat K (es.drop k) := by
  have h := flat_append K (es.take k) (es.drop k)
  rw [List.take_append_drop] at h
  have hl : (flat K (es.take k)).length = k * K := by rw [flat_len, List.length_take, Nat.min_eq_left hk]
  rw [h, ← hl, List.drop_left]

/-- Cells in a range, as a row that may be written. -/
theorem own_of_range {B : Nat} {w : World} {K b off n : Nat} {es : List (Nat → Int)} (hl : es.length = n) (h : w.rangeAt b off (flat K es)) (hB : B ≤ b) (hlt : b < w.heap.size) (hf : ∀ o, w.frozen? ⟨b, o, none⟩ = false) :
    Own B w K (some ⟨b, off, none⟩) n es :=
  ⟨hl, .inr ⟨b, off, rfl, hlt, hB, hf, fun i hi j hj => by
    have h1 := h (i * K + j) _ (flat_get K es i j (by omega) hj)
    rwa [← Nat.add_assoc] at h1⟩⟩
theorem rd_of_range {w : World} {K b off n : Nat} {es : List (Nat → Int)} (hl : es.length = n) (h : w.rangeAt b off (flat K es)) (hlt : b < w.heap.size) :
    Rd w K (some ⟨b, off, none⟩) n es :=
  ⟨hl, .inr ⟨b, off, rfl, hlt, fun i hi j hj => by
    have h1 := h (i * K + j) _ (flat_get K es i j (by omega) hj)
    rwa [← Nat.add_assoc] at h1⟩⟩
theorem range_of_rd {w : World} {K b off n : Nat} {es : List (Nat → Int)} (h : Rd w K (some ⟨b, off, none⟩) n es) : w.rangeAt b off (flat K es) := by
  rcases Nat.eq_zero_or_pos n with h0 | h0
  · have : es = [] := List.eq_nil_of_length_eq_zero (h.1.trans h0)
    subst this
    intro q v hq
    simp [flat] at hq
  · obtain ⟨b', o', he, _, hc⟩ := h.2.resolve_left (by omega)
    injection he with he
    injection he with he1 he2
    subst he1 he2
    intro q u hq
    obtain ⟨hK, h1, rfl⟩ := flat_at hq
    have h2 := hc (q / K) (by rw [← h.1]; exact h1) (q % K) (Nat.mod_lt _ hK)
    have h3 : off + q / K * K + q % K = off + q := by have := Nat.div_add_mod q K; rw [Nat.mul_comm] at this; omega
    rw [h3] at h2
    exact h2

theorem flat_cons1 (K : Nat) (e : Nat → Int) : flat K [e] = ecells K e := by simp [flat]
/-- A row in three parts. -/
theorem ins_range {w : World} {K b off k n : Nat} {es : List (Nat → Int)} {e : Nat → Int} (hl : es.length = n) (hk : k ≤ n)
    (h1 : w.rangeAt b off (flat K (es.take k))) (h2 : w.rangeAt b (off + k * K) (ecells K e)) (h3 : w.rangeAt b (off + (k + 1) * K) (flat K (es.drop k))) :
    w.rangeAt b off (flat K (insL es k e)) := by
  have hlt : (flat K (es.take k)).length = k * K := by rw [flat_len, List.length_take, hl, Nat.min_eq_left hk]
  unfold insL
  rw [flat_append, flat_cons]
  refine rangeAt_append h1 ?_
  rw [hlt]
  refine rangeAt_append h2 ?_
  rw [ecells_len, Nat.add_assoc, ← Nat.succ_mul]
  exact h3

theorem run_copy_K {P : Program} (w : World) (dT sT ty elem : TypeId) (i : TypeInfo) (K b o dLen dCap : Nat) (a : Addr) (sLen sCap m : Nat) (cs : List Value)
    (hu : P.underlying dT = some (.slice elem)) (hi : P.info? elem = some i) (hs : i.size = K) (hm : m = Nat.min sLen dLen) (hn : cs.length = m * K)
    (hsrc : ∀ j v, cs[j]? = some v → w.cell? (a.add j) = some v) (hc : ∀ j, j < cs.length → (w.cell? ⟨b, o + j, none⟩).isSome = true) (hf : ∀ j, j < cs.length → w.frozen? ⟨b, o + j, none⟩ = false) (h1 : ∀ v ∈ cs, v.oneCell' = true) :
    (Builtin.copy_ #[dT, sT] ty #[.slice (some ⟨b, o, none⟩) dLen dCap, .slice (some a) sLen sCap]).run P w = .ok (goInt m) (w.setCells b o cs) := by
  subst hs
  have hfc := run_firstCells_some (P := P) w i.size m a sLen sCap cs hn hsrc
  have hst := run_storeCells_cells (P := P) b o cs 0 w (by simpa using hc) (by simpa using hf) h1
  simp only [Nat.add_zero] at hst
  simp [Builtin.copy_, run_underlying hu, Builtin.lenOf, sizeOf, typeInfo, hi, ← hm, hfc, hst]

theorem wpList_copy_eq {P : Program} (w : World) {ops : Array Oper} {rest : List Oper} {o : Oper} {a : Act} {Q : Exit → Act → World → Prop} (hgd : o.guard = none) (d s : Operand) (t t' : TypeId)
    (ho : o.op = .call { callee := .builtin .copy, args := #[d, s], argTypes := #[t, t'] }) (v u : Value) (hd : a.eval d = v) (hs : a.eval s = u) {v' : Value} {w' : World}
    (hr : (Builtin.copy_ #[t, t'] o.type #[v, u]).run P w = .ok v' w') (h : wpList P ops Q rest (a.put o.dst v') w') : wpList P ops Q (o :: rest) a w :=
  wpList_plain hgd fun _ hK => by
    unfold Oper.wp execOp
    simp only [ho, resolve, invoke, builtin, Sem.run_bind, Sem.run_pure, Result.andThen_ok, List.map_toArray, List.map_cons, List.map_nil, hd, hs, hr]
    exact hK _ _ h
theorem step_copy_eq {P : Program} {ops : Array Oper} {o : Oper} {a : Act} {w : World} {K : Act → World → Prop} {Q : Exit → Act → World → Prop} {E : Prop}
    (hg : o.guard = none) (d x : Operand) (dT sT : TypeId) (hop : o.op = Op.call { callee := Callee.builtin Builtin.copy, args := #[d, x], argTypes := #[dT, sT] })
    (v u : Value) (hd : a.eval d = v) (hx : a.eval x = u) {v' : Value} {w' : World} (hr : (Builtin.copy_ #[dT, sT] o.type #[v, u]).run P w = .ok v' w') (hK : K (a.put o.dst v') w') :
    if Region.wanted o (yielded ops a.tmps) = true then Oper.wp P o a w K Q else E := by
  have hw : Region.wanted o (yielded ops a.tmps) = true := by simp [Region.wanted, hg]
  rw [if_pos hw]
  unfold Oper.wp
  simp [execOp, hop, resolve, invoke, builtin, hd, hx, hr, Result.andThen]
  exact hK
end Go.Proofs.YtjlmcppkafjniaaGreat

namespace Go.Proofs.YtjlmcppkafjniaaGreat
open Go.RowKit

def SamL (es es2 : List (Nat → Int)) : Prop := es.length = es2.length ∧ ∀ i, i < es.length → fld es i 0 = fld es2 i 0 ∧ fld es i 1 = fld es2 i 1
theorem SamL.of_eq {es es2 : List (Nat → Int)} (h : es = es2) : SamL es es2 := by
  subst h
  exact ⟨rfl, fun _ _ => ⟨rfl, rfl⟩⟩

set_option maxRecDepth 100000 in
set_option maxHeartbeats 4000000 in
theorem equalPins_any (A A2 : Option Addr) (n c n2 c2 : Nat) (es es2 : List (Nat → Int)) (w : World) (hn : n ≤ 4194304) (hn2 : n2 ≤ 4194304) (h : Rd w 2 A n es) (h2 : Rd w 2 A2 n2 es2) :
    Calls Tryz.prog 39 #[.slice A n c, .slice A2 n2 c2] w (TFB (SamL es es2) w) := by
  have H := Lib.hid h
  have H2 := Lib.hid h2
  clear h h2
  by_cases hnn : n = n2
  case neg =>
    have hni : ¬ (n : Int) = (n2 : Int) := by omega
    have hF : Hid (¬ SamL es es2) := Lib.hid fun h => hnn (by rw [← H.out.1, ← H2.out.1]; exact h.1)
    go_enter Tryz.func39, Tryz.ntmps39
    go_wp2
    go_ret
    exact .inr ⟨rfl, hF.out, by (repeat (first | with_reducible exact Below.refl _ _ | with_reducible refine Below.drew ?_ | with_reducible refine below_drewN ?_ _ | (with_reducible refine bel_alloc ?_ ?_ _; (first | omega | (simp; omega) | simp)) | (with_reducible refine bel_set ?_ ?_ _; (first | omega | (simp; omega) | simp)) | (with_reducible refine bel_tr (by assumption) ?_ ?_; (first | omega | (simp; omega) | simp))))⟩
  subst hnn
  go_enter Tryz.func39, Tryz.ntmps39
  go_wp2
  go_loopw [4, 13] (fun _ i wr => ∃ k : Nat, k ≤ n ∧ i = .int .i64 k ∧ Hid (∀ j, j < k → fld es j 0 = fld es2 j 0 ∧ fld es j 1 = fld es2 j 1) ∧ Below w.heap.size w wr) (fun _ i _ => n - (intOf i).toNat)
  case atStart => exact ⟨0, Nat.zero_le _, rfl, Lib.hid (fun i hi => absurd hi (by omega)), by (repeat (first | with_reducible exact Below.refl _ _ | with_reducible refine Below.drew ?_ | with_reducible refine below_drewN ?_ _ | (with_reducible refine bel_alloc ?_ ?_ _; (first | omega | (simp; omega) | simp)) | (with_reducible refine bel_set ?_ ?_ _; (first | omega | (simp; omega) | simp)) | (with_reducible refine bel_tr (by assumption) ?_ ?_; (first | omega | (simp; omega) | simp))))⟩
  case round =>
    obtain ⟨k, hk, rfl, HQ, hbel⟩ := hrel
    by_cases hlt : k < n
    case neg =>
      have hkn : k = n := by omega
      have hki : ¬ (k : Int) < (n : Int) := by omega
      have hT : Hid (SamL es es2) := Lib.hid ⟨by rw [H.out.1, H2.out.1], fun i hi => HQ.out i (by rw [H.out.1] at hi; omega)⟩
      go_wp2
      go_ret
      exact .inl ⟨rfl, hT.out, hbel⟩
    have hki : (k : Int) < (n : Int) := by omega
    have hk0 : (0 : Int) ≤ (k : Int) := by omega
    obtain ⟨b, off, rfl, hb, hc⟩ := (H.out.below hbel).2.resolve_left (by omega)
    obtain ⟨b2, off2, rfl, hb2, hc2⟩ := (H2.out.below hbel).2.resolve_left (by omega)
    have c0 : wr.cell? ⟨b, off + k * 2, none⟩ = some (.int .i64 (fld es k 0)) := hc k hlt 0 (by omega)
    have c1 : wr.cell? ⟨b, off + k * 2 + 1, none⟩ = some (.int .i64 (fld es k 1)) := hc k hlt 1 (by omega)
    have d0 : wr.cell? ⟨b2, off2 + k * 2, none⟩ = some (.int .i64 (fld es2 k 0)) := hc2 k hlt 0 (by omega)
    have d1 : wr.cell? ⟨b2, off2 + k * 2 + 1, none⟩ = some (.int .i64 (fld es2 k 1)) := hc2 k hlt 1 (by omega)
    clear hc hc2
    by_cases e0 : fld es k 0 = fld es2 k 0
    case neg =>
      have hF : Hid (¬ SamL es es2) := Lib.hid fun h => e0 (h.2 k (by rw [H.out.1]; omega)).1
      go_wp2
      go_region
      all_goals
        go_wp2
        go_ret
        exact .inr ⟨rfl, hF.out, by (repeat (first | with_reducible exact Below.refl _ _ | with_reducible refine Below.drew ?_ | with_reducible refine below_drewN ?_ _ | (with_reducible refine bel_alloc ?_ ?_ _; (first | omega | (simp; omega) | simp)) | (with_reducible refine bel_set ?_ ?_ _; (first | omega | (simp; omega) | simp)) | (with_reducible refine bel_tr (by assumption) ?_ ?_; (first | omega | (simp; omega) | simp))))⟩
    by_cases e1 : fld es k 1 = fld es2 k 1
    case neg =>
      have hF : Hid (¬ SamL es es2) := Lib.hid fun h => e1 (h.2 k (by rw [H.out.1]; omega)).2
      go_wp2
      go_region
      all_goals
        go_wp2
        go_ret
        exact .inr ⟨rfl, hF.out, by (repeat (first | with_reducible exact Below.refl _ _ | with_reducible refine Below.drew ?_ | with_reducible refine below_drewN ?_ _ | (with_reducible refine bel_alloc ?_ ?_ _; (first | omega | (simp; omega) | simp)) | (with_reducible refine bel_set ?_ ?_ _; (first | omega | (simp; omega) | simp)) | (with_reducible refine bel_tr (by assumption) ?_ ?_; (first | omega | (simp; omega) | simp))))⟩
    have HQ2 : Hid (∀ j, j < k + 1 → fld es j 0 = fld es2 j 0 ∧ fld es j 1 = fld es2 j 1) := fun j hj => by
      by_cases h1 : j < k
      · exact HQ.out j h1
      · obtain rfl : j = k := by omega
        exact ⟨e0, e1⟩
    go_wp2
    go_region
    all_goals
      go_wp2
      go_roundw
      case rel => exact ⟨k + 1, by omega, by go_num, HQ2, by (repeat (first | with_reducible exact Below.refl _ _ | with_reducible refine Below.drew ?_ | with_reducible refine below_drewN ?_ _ | (with_reducible refine bel_alloc ?_ ?_ _; (first | omega | (simp; omega) | simp)) | (with_reducible refine bel_set ?_ ?_ _; (first | omega | (simp; omega) | simp)) | (with_reducible refine bel_tr (by assumption) ?_ ?_; (first | omega | (simp; omega) | simp))))⟩
      case measure => simp [intOf]; omega

end Go.Proofs.YtjlmcppkafjniaaGreat
