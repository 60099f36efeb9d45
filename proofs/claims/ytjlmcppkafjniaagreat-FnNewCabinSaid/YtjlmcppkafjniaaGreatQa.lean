/-
  Contracts of QueueAt of the program and of the reference. No conditions beyond those stated.
-/
import Derived.Test.YtjlmcppkafjniaaGreatEs
import Derived.Maps.AppendAt
import Derived.Deep.AppendLies
import Derived.RegionTactic
import Derived.Test.YtjlmcppkafjniaaGreatSl
import Derived.Lib.SliceRun
import Derived.Deep.RegionLaw
namespace Go.Proofs.YtjlmcppkafjniaaGreat
open Go.RowKit

def ecells (K : Nat) (e : Nat → Int) : List Value := (List.range K).map fun j => .int .i64 (e j)
def flat (K : Nat) (es : List (Nat → Int)) : List Value := es.flatMap (ecells K)
theorem ecells_len (K : Nat) (e : Nat → Int) : (ecells K e).length = K := by simp [ecells]
theorem flat_nil (K : Nat) : flat K [] = [] := rfl
theorem flat_cons (K : Nat) (e : Nat → Int) (es : List (Nat → Int)) : flat K (e :: es) = ecells K e ++ flat K es := by simp [flat]
theorem flat_append (K : Nat) (es es2 : List (Nat → Int)) : flat K (es ++ es2) = flat K es ++ flat K es2 := by simp [flat]
theorem flat_len (K : Nat) : ∀ es : List (Nat → Int), (flat K es).length = es.length * K
  | [] => by simp [flat]
  | e :: es => by rw [flat_cons, List.length_append, ecells_len, flat_len K es, List.length_cons, Nat.succ_mul]; omega
theorem flat_get (K : Nat) : ∀ (es : List (Nat → Int)) (i j : Nat), i < es.length → j < K → (flat K es)[i * K + j]? = some (.int .i64 (fld es i j))
  | [], i, _, hi, _ => by simp at hi
  | e :: es, 0, j, _, hj => by
    rw [flat_cons, List.getElem?_append_left (by rw [ecells_len]; omega)]
    simp [ecells, hj, fld]
  | e :: es, i + 1, j, hi, hj => by
    have h1 : (i + 1) * K + j = K + (i * K + j) := by rw [Nat.succ_mul]; omega
    rw [flat_cons, List.getElem?_append_right (by rw [ecells_len, h1]; omega), ecells_len, h1, Nat.add_sub_cancel_left, flat_get K es i j (by simpa using hi) hj]
    rfl
theorem flat_one (K : Nat) (es : List (Nat → Int)) : ∀ u ∈ flat K es, u.oneCell' = true := by
  intro u hu
  simp only [flat, List.mem_flatMap, ecells, List.mem_map] at hu
  obtain ⟨_, _, _, _, rfl⟩ := hu
  rfl
/-- Each cell of a flat list is a field of an element. -/
theorem flat_at {K : Nat} {es : List (Nat → Int)} {q : Nat} {u : Value} (h : (flat K es)[q]? = some u) : 0 < K ∧ q / K < es.length ∧ u = .int .i64 (fld es (q / K) (q % K)) := by
  have hq : q < (flat K es).length := (List.getElem?_eq_some_iff.1 h).1
  rw [flat_len] at hq
  have hK : 0 < K := by
    rcases Nat.eq_zero_or_pos K with h0 | h0
    · subst h0; simp at hq
    · exact h0
  have h1 : q / K < es.length := Nat.div_lt_of_lt_mul (by rw [Nat.mul_comm]; exact hq)
  have h2 := flat_get K es (q / K) (q % K) h1 (Nat.mod_lt _ hK)
  have h3 : q / K * K + q % K = q := by have := Nat.div_add_mod q K; rw [Nat.mul_comm] at this; exact this
  rw [h3, h] at h2
  injection h2 with h2
  exact ⟨hK, h1, h2⟩

theorem _root_.Go.World.ownsRow.lower {base base' : Nat} {w : World} {e : TypeId} {K n : Nat} {v : Value} {xs : List Value} (h : w.ownsRow base e K v n xs) (hb : base' ≤ base) : w.ownsRow base' e K v n xs :=
  ⟨h.1, h.2.imp id fun ⟨g, cap, cur, h1, h2, h3⟩ => ⟨g, cap, cur, h1, Nat.le_trans hb h2, h3⟩⟩
/-- An owned row reads. -/
theorem own_of_row {base : Nat} {w : World} {e : TypeId} {K n : Nat} {v : Value} {es : List (Nat → Int)} (hl : es.length = n) (h : w.ownsRow base e K v n (flat K es)) :
    ∃ A c, v = .slice A n c ∧ Own base w K A n es := by
  obtain ⟨h1, h2⟩ := h
  rcases h2 with ⟨rfl, rfl⟩ | ⟨g, cap, cur, rfl, hg, hh, hnc, _, hsz, htk⟩
  · exact ⟨none, 0, rfl, hl, .inl rfl⟩
  · refine ⟨_, cap, rfl, hl, .inr ⟨g, 0, rfl, (Array.getElem?_eq_some_iff.1 hh).1, hg, fun o => frozen_of_heap hh, fun i hi j hj => ?_⟩⟩
    have h3 := flat_get K es i j (by omega) hj
    rw [← htk, List.getElem?_take, if_pos (idx_lt hi hj)] at h3
    rw [cell_of_heap hh, Nat.zero_add]
    simpa using h3

/-- A slice that reads, as a source of append: its cells. -/
theorem src_cells {w : World} {K n b off : Nat} {es : List (Nat → Int)} (hl : es.length = n) (hc : ∀ i, i < n → ∀ j, j < K → w.cell? ⟨b, off + i * K + j, none⟩ = some (.int .i64 (fld es i j))) :
    ∀ q u, (flat K es)[q]? = some u → w.cell? ((⟨b, off, none⟩ : Addr).add q) = some u := by
  intro q u hq
  obtain ⟨hK, h1, rfl⟩ := flat_at hq
  have h2 := hc (q / K) (by omega) (q % K) (Nat.mod_lt _ hK)
  have h3 : off + q / K * K + q % K = off + q := by have := Nat.div_add_mod q K; rw [Nat.mul_comm] at this; omega
  rw [h3] at h2
  have hadd : (⟨b, off, none⟩ : Addr).add q = ⟨b, off + q, none⟩ := by
    unfold Addr.add
    split <;> simp_all
  rw [hadd]
  exact h2

section
variable {P : Program} (w : World)

theorem run_append_nil_src (base : Nat) (t ty e : TypeId) (i : TypeInfo) (size : Nat) (ht : P.underlying t = some (.slice e)) (hi : P.info? e = some i)
    (v : Value) (n : Nat) (xs : List Value) (hown : w.ownsRow base e size v n xs) (c : Nat) : (Builtin.append_ #[t, t] ty #[v, .slice none 0 c]).run P w = .ok v w := by
  rcases hown.2 with ⟨rfl, rfl⟩ | ⟨g, cap, cur, rfl, _, _, hnc, _⟩
  · simp [Builtin.append_, run_underlying ht, sizeOf, typeInfo, hi, Builtin.lenOf, Builtin.firstCells]
  · simp [Builtin.append_, run_underlying ht, sizeOf, typeInfo, hi, Builtin.lenOf, Builtin.firstCells, hnc, storeCells]

/-- append onto a row of the call's own, the source any slice that reads. -/
theorem run_append_rd (base : Nat) (t ty e : TypeId) (i : TypeInfo) (z : Value) (K bytes : Nat) (ht : P.underlying t = some (.slice e)) (hi : P.info? e = some i) (hz : i.zero = some z)
    (hsize : i.size = K) (hby : i.bytes = bytes) (hzs : z.cells.size = K) (hK : 0 < K)
    (v : Value) (n0 : Nat) (es0 : List (Nat → Int)) (hown : w.ownsRow base e K v n0 (flat K es0))
    (A : Option Addr) (n c : Nat) (es : List (Nat → Int)) (hr : Rd w K A n es)
    (h63 : n0 + n ≤ maxLen) (hbytes : (n0 + n) * bytes ≤ 140737488355328) (hbase : base ≤ w.heap.size) :
    ∃ v' w', (Builtin.append_ #[t, t] ty #[v, .slice A n c]).run P w = .ok v' w' ∧ w'.ownsRow base e K v' (n0 + n) (flat K (es0 ++ es)) ∧ w.grownBy w' v.ownBlock ∧
      (v'.ownBlock = v.ownBlock ∨ v'.ownBlock = some w.heap.size) := by
  rw [flat_append]
  rcases Nat.eq_zero_or_pos n with h0 | h0
  · subst h0
    have hes : es = [] := List.eq_nil_of_length_eq_zero hr.1
    subst hes
    rw [flat_nil, List.append_nil, Nat.add_zero]
    rcases A with _ | ad
    · exact ⟨v, w, run_append_nil_src w base t ty e i K ht hi v n0 _ hown c, hown, World.grownBy.refl w _, .inl rfl⟩
    · obtain ⟨v', w', hrun, h2, h3, _, h5⟩ := run_append_own_at (P := P) w base t ty e i z K bytes ht hi hz hsize hby hzs hK v n0 _ hown ad 0 c [] (by simp) (fun j u hu => by simp at hu) (fun u hu => by simp at hu) (by omega) (by simpa using hbytes) hbase
      exact ⟨v', w', hrun, by simpa using h2, h3, h5⟩
  · obtain ⟨b, off, rfl, _, hc⟩ := hr.2.resolve_left (by omega)
    obtain ⟨v', w', hrun, h2, h3, _, h5⟩ := run_append_own_at (P := P) w base t ty e i z K bytes ht hi hz hsize hby hzs hK v n0 _ hown ⟨b, off, none⟩ n c (flat K es) (by rw [flat_len, hr.1]) (src_cells hr.1 hc) (flat_one K es) h63 hbytes hbase
    exact ⟨v', w', hrun, h2, h3, h5⟩

theorem wpList_append_rd {ops : Array Oper} {rest : List Oper} {o : Oper} {a : Act} {Q : Exit → Act → World → Prop} (hgd : o.guard = none) (s x : Operand) (t : TypeId)
    (ho : o.op = .call { callee := .builtin .append, args := #[s, x], argTypes := #[t, t] })
    (base : Nat) (e : TypeId) (i : TypeInfo) (z : Value) (K bytes : Nat) (ht : P.underlying t = some (.slice e)) (hi : P.info? e = some i) (hz : i.zero = some z)
    (hsize : i.size = K) (hby : i.bytes = bytes) (hzs : z.cells.size = K) (hK : 0 < K)
    (v : Value) (n0 : Nat) (es0 : List (Nat → Int)) (hs : a.eval s = v) (hown : w.ownsRow base e K v n0 (flat K es0))
    (A : Option Addr) (n c : Nat) (es : List (Nat → Int)) (hx : a.eval x = .slice A n c) (hr : Rd w K A n es)
    (h63 : n0 + n ≤ maxLen) (hbytes : (n0 + n) * bytes ≤ 140737488355328) (hbase : base ≤ w.heap.size)
    (h : ∀ v' w', w'.ownsRow base e K v' (n0 + n) (flat K (es0 ++ es)) → w.grownBy w' v.ownBlock → (v'.ownBlock = v.ownBlock ∨ v'.ownBlock = some w.heap.size) → wpList P ops Q rest (a.put o.dst v') w') : wpList P ops Q (o :: rest) a w := by
  refine wpList_plain hgd fun K' hK' => ?_
  obtain ⟨v', w', hrun, h2, h3, h4⟩ := run_append_rd (P := P) w base t o.type e i z K bytes ht hi hz hsize hby hzs hK v n0 es0 hown A n c es hr h63 hbytes hbase
  unfold Oper.wp execOp
  simp only [ho, resolve, invoke, builtin, Sem.run_bind, Sem.run_pure, Result.andThen_ok, List.map_toArray, List.map_cons, List.map_nil, hs, hx, hrun]
  exact hK' _ _ (h v' w' h2 h3 h4)

theorem step_append_rd {ops : Array Oper} {o : Oper} {a : Act} {K' : Act → World → Prop} {Q : Exit → Act → World → Prop} {E : Prop} (hgd : o.guard = none) (s x : Operand) (t : TypeId)
    (ho : o.op = .call { callee := .builtin .append, args := #[s, x], argTypes := #[t, t] })
    (base : Nat) (e : TypeId) (i : TypeInfo) (z : Value) (K bytes : Nat) (ht : P.underlying t = some (.slice e)) (hi : P.info? e = some i) (hz : i.zero = some z)
    (hsize : i.size = K) (hby : i.bytes = bytes) (hzs : z.cells.size = K) (hK : 0 < K)
    (v : Value) (n0 : Nat) (es0 : List (Nat → Int)) (hs : a.eval s = v) (hown : w.ownsRow base e K v n0 (flat K es0))
    (A : Option Addr) (n c : Nat) (es : List (Nat → Int)) (hx : a.eval x = .slice A n c) (hr : Rd w K A n es)
    (h63 : n0 + n ≤ maxLen) (hbytes : (n0 + n) * bytes ≤ 140737488355328) (hbase : base ≤ w.heap.size)
    (h : ∀ v' w', w'.ownsRow base e K v' (n0 + n) (flat K (es0 ++ es)) → w.grownBy w' v.ownBlock → (v'.ownBlock = v.ownBlock ∨ v'.ownBlock = some w.heap.size) → K' (a.put o.dst v') w') :
    if Region.wanted o (yielded ops a.tmps) = true then Oper.wp P o a w K' Q else E := by
  have hw : Region.wanted o (yielded ops a.tmps) = true := by simp [Region.wanted, hgd]
  rw [if_pos hw]
  obtain ⟨v', w', hrun, h2, h3, h4⟩ := run_append_rd (P := P) w base t o.type e i z K bytes ht hi hz hsize hby hzs hK v n0 es0 hown A n c es hr h63 hbytes hbase
  unfold Oper.wp execOp
  simp only [ho, resolve, invoke, builtin, Sem.run_bind, Sem.run_pure, Result.andThen_ok, List.map_toArray, List.map_cons, List.map_nil, hs, hx, hrun]
  exact h v' w' h2 h3 h4
end
end Go.Proofs.YtjlmcppkafjniaaGreat

namespace Go.Proofs.YtjlmcppkafjniaaGreat
open Go.RowKit

theorem fld_take {es : List (Nat → Int)} {k i j : Nat} (hi : i < k) : fld (es.take k) i j = fld es i j := by
  unfold fld
  rw [List.getD_eq_getElem?_getD, List.getD_eq_getElem?_getD, List.getElem?_take, if_pos hi]
theorem fld_drop {es : List (Nat → Int)} {k i j : Nat} : fld (es.drop k) i j = fld es (k + i) j := by
  unfold fld
  rw [List.getD_eq_getElem?_getD, List.getD_eq_getElem?_getD, List.getElem?_drop]

section
variable {w : World} {K n k : Nat} {A : Option Addr} {es : List (Nat → Int)}
theorem Rd.take (h : Rd w K A n es) (hk : k ≤ n) : Rd w K A k (es.take k) := by
  refine ⟨by rw [List.length_take, h.1]; omega, ?_⟩
  rcases Nat.eq_zero_or_pos k with h0 | h0
  · exact .inl h0
  · obtain ⟨b, off, h1, h2, h5⟩ := h.2.resolve_left (by omega)
    exact .inr ⟨b, off, h1, h2, fun i hi j hj => by rw [fld_take hi]; exact h5 i (by omega) j hj⟩
theorem Rd.drop {b off : Nat} (h : Rd w K (some ⟨b, off, none⟩) n es) (hk : k ≤ n) : Rd w K (some ⟨b, off + k * K, none⟩) (n - k) (es.drop k) := by
  refine ⟨by rw [List.length_drop, h.1], ?_⟩
  rcases Nat.eq_zero_or_pos (n - k) with h0 | h0
  · exact .inl h0
  · obtain ⟨b', off', h1, h2, h5⟩ := h.2.resolve_left (by omega)
    injection h1 with h1
    injection h1 with h1 h3
    subst h1 h3
    refine .inr ⟨b, off + k * K, rfl, h2, fun i hi j hj => ?_⟩
    have h6 := h5 (k + i) (by omega) j hj
    rw [fld_drop, ← h6]
    congr 2
    rw [Nat.add_mul]
    omega
/-- No element is left: whatever the address. -/
theorem Rd.none_left {A' : Option Addr} (h : Rd w K A n es) (hk : n ≤ k) : Rd w K A' 0 (es.drop k) :=
  ⟨by rw [List.length_drop, h.1]; omega, .inl rfl⟩
end
end Go.Proofs.YtjlmcppkafjniaaGreat

namespace Go.Proofs.YtjlmcppkafjniaaGreat
open Go.RowKit

/-- The list without element k. -/
def cutL (es : List (Nat → Int)) (k : Nat) : List (Nat → Int) := es.take k ++ es.drop (k + 1)
theorem cutL_len {es : List (Nat → Int)} {k n : Nat} (hl : es.length = n) (hk : k < n) : (cutL es k).length = n - 1 := by
  unfold cutL
  rw [List.length_append, List.length_take, List.length_drop]
  omega
theorem fld_cut_lt {es : List (Nat → Int)} {k i j : Nat} (hi : i < k) (hk : k ≤ es.length) : fld (cutL es k) i j = fld es i j := by
  unfold fld cutL
  rw [List.getD_eq_getElem?_getD, List.getD_eq_getElem?_getD, List.getElem?_append_left (by rw [List.length_take]; omega), List.getElem?_take, if_pos hi]
theorem fld_cut_ge {es : List (Nat → Int)} {k i j : Nat} (hi : k ≤ i) (hk : k ≤ es.length) : fld (cutL es k) i j = fld es (i + 1) j := by
  unfold fld cutL
  rw [List.getD_eq_getElem?_getD, List.getD_eq_getElem?_getD, List.getElem?_append_right (by rw [List.length_take]; omega), List.getElem?_drop, List.length_take]
  have h1 : k + 1 + (i - min k es.length) = i + 1 := by omega
  rw [h1]

theorem set2_own {B g off n k K : Nat} {es : List (Nat → Int)} {w : World} {zs : List Value} (hK : 0 < K) (hk : k < n) (h : Own B w K (some ⟨g, off, none⟩) n es) (hz : zs.length = K) :
    Own B ((w.drew.setCells g (off + k * K) (flat K (es.drop (k + 1)))).setCells g (off + (n - 1) * K) zs) K (some ⟨g, off, none⟩) (n - 1) (cutL es k)
      ∧ Below B w ((w.drew.setCells g (off + k * K) (flat K (es.drop (k + 1)))).setCells g (off + (n - 1) * K) zs) := by
  obtain ⟨hl, h2⟩ := h
  obtain ⟨b, o', he, hlt, hB, hfz, hc⟩ := h2.resolve_left (by omega)
  injection he with he
  injection he with he1 he2
  subst he1 he2
  have hfl : (flat K (es.drop (k + 1))).length = (n - (k + 1)) * K := by rw [flat_len, List.length_drop, hl]
  have hroom : ∀ o, o < n * K → (w.drew.cell? ⟨g, off + o, none⟩).isSome = true := fun o ho => by
    have h1 : o / K < n := Nat.div_lt_of_lt_mul (by rw [Nat.mul_comm]; exact ho)
    have h3 := hc (o / K) h1 (o % K) (Nat.mod_lt _ hK)
    have h4 : off + o / K * K + o % K = off + o := by have := Nat.div_add_mod o K; rw [Nat.mul_comm] at this; omega
    rw [h4] at h3
    show (w.cell? _).isSome = true
    rw [h3]
    rfl
  have hnk : k * K + (n - (k + 1)) * K = (n - 1) * K := by rw [← Nat.add_mul]; congr 1; omega
  have hn1 : (n - 1) * K + K = n * K := by rw [← Nat.succ_mul]; congr 1; omega
  have hin := World.cell?_setCells_in g (flat K (es.drop (k + 1))) (off + k * K) w.drew (fun j hj => by
    rw [hfl] at hj
    rw [Nat.add_assoc]
    exact hroom _ (by omega))
  refine ⟨⟨cutL_len hl hk, ?_⟩, below_setCells hB _ _ _ (below_setCells hB _ _ _ (Below.drew (Below.refl B w)))⟩
  rcases Nat.eq_zero_or_pos (n - 1) with h0 | h0
  · exact .inl h0
  refine .inr ⟨g, off, rfl, by rw [size_setCells, size_setCells]; exact hlt, hB, fun o => ?_, fun i hi j hj => ?_⟩
  · rw [World.frozen?_setCells, World.frozen?_setCells]
    exact hfz o
  · have hij : i * K + j < (n - 1) * K := idx_lt hi hj
    rw [World.cell?_setCells_out g zs _ _ ⟨g, off + i * K + j, none⟩ (fun _ _ => .inl (by show off + i * K + j < off + (n - 1) * K; omega))]
    rcases Nat.lt_or_ge i k with hik | hik
    · have h1 : i * K + j < k * K := idx_lt hik hj
      rw [World.cell?_setCells_out g _ _ _ ⟨g, off + i * K + j, none⟩ (fun _ _ => .inl (by show off + i * K + j < off + k * K; omega))]
      rw [fld_cut_lt hik (by omega)]
      exact hc i (by omega) j hj
    · obtain ⟨d, rfl⟩ : ∃ d, i = k + d := ⟨i - k, by omega⟩
      have h1 : d * K + j < (n - (k + 1)) * K := idx_lt (by omega) hj
      have h3 := hin (d * K + j) (by rw [hfl]; exact h1)
      have h4 : off + k * K + (d * K + j) = off + (k + d) * K + j := by rw [Nat.add_mul]; omega
      rw [h4] at h3
      rw [h3, fld_cut_ge (by omega) (by omega)]
      have h5 := flat_get K (es.drop (k + 1)) d j (by rw [List.length_drop]; omega) hj
      rw [fld_drop] at h5
      have h6 := (List.getElem?_eq_some_iff.1 h5).2
      rw [h6]
      congr 3
      omega

theorem run_clear1 {P : Program} (w : World) (t e ty : TypeId) (z : Value) (ht : P.underlying t = some (.slice e)) (hv : ∀ w, (zeroValue e).run P w = .ok z w) (h1 : ∀ u ∈ z.cells.toList, u.oneCell' = true) (b o c : Nat)
    (hc : ∀ j, j < z.cells.toList.length → (w.cell? ⟨b, o + j, none⟩).isSome = true) (hf : ∀ j, j < z.cells.toList.length → w.frozen? ⟨b, o + j, none⟩ = false) :
    (Builtin.clear_ #[t] ty #[.slice (some ⟨b, o, none⟩) 1 c]).run P w = .ok (.tuple #[]) (w.setCells b o z.cells.toList) := by
  have hzc : (Builtin.zeroCells z.cells 1).toList = z.cells.toList := by
    apply List.ext_getElem
    · simp [Builtin.zeroCells]
    · intro i h1 h2
      have h3 : i < z.cells.size := by simpa using h2
      simp [Builtin.zeroCells, Nat.mod_eq_of_lt h3, getElem!_pos z.cells i h3]
  have hst := run_storeCells_cells (P := P) b o z.cells.toList 0 w (by simpa using hc) (by simpa using hf) h1
  simp only [Nat.add_zero] at hst
  simp [Builtin.clear_, run_underlying ht, hv, hzc, hst]
theorem row_ge {base base' : Nat} {w : World} {e : TypeId} {K n : Nat} {v : Value} {xs : List Value} (h : w.ownsRow base e K v n xs) (hb : base' ≤ base) : ∀ k, v.ownBlock = some k → base' ≤ k := by
  intro k hk
  rcases h.2 with ⟨rfl, _⟩ | ⟨g, cap, cur, rfl, hg, _⟩
  · simp [Value.ownBlock] at hk
  · have : g = k := by simpa [Value.ownBlock] using hk
    omega
theorem row_below {base : Nat} {w w' : World} {e : TypeId} {K n : Nat} {v : Value} {xs : List Value} (h : w.ownsRow base e K v n xs) (hb : Below w.heap.size w w') : w'.ownsRow base e K v n xs :=
  ⟨h.1, h.2.imp id fun ⟨g, cap, cur, h1, h2, hh, h3⟩ => ⟨g, cap, cur, h1, h2, (hb.block g (Array.getElem?_eq_some_iff.1 hh).1).trans hh, h3⟩⟩
theorem row_pos {base : Nat} {w : World} {e : TypeId} {K n : Nat} {v : Value} {es : List (Nat → Int)} (hn : 0 < n) (_hK : 0 < K) (hl : es.length = n) (h : w.ownsRow base e K v n (flat K es)) :
    ∃ g cap, v = .slice (some ⟨g, 0, none⟩) n cap ∧ n ≤ cap ∧ cap ≤ 9223372036854775807 ∧ Own base w K (some ⟨g, 0, none⟩) n es := by
  rcases h.2 with ⟨_, h0⟩ | ⟨g, cap, cur, rfl, hg, hh, hnc, hcm, hsz, htk⟩
  · omega
  · obtain ⟨A, c, he, ho⟩ := own_of_row hl h
    injection he with h1 h2 h3
    subst h1 h3
    exact ⟨g, cap, rfl, hnc, by unfold maxLen at hcm; omega, ho⟩

end Go.Proofs.YtjlmcppkafjniaaGreat

namespace Go.Proofs.YtjlmcppkafjniaaGreat
open Go.RowKit

/-- Whether element i satisfies p, and none before it. -/
def FirstAt (p : Nat → Bool) (n : Nat) (r : Int) : Prop := (∃ k : Nat, k < n ∧ r = k ∧ p k = true ∧ ∀ i, i < k → p i = false) ∨ (r = -1 ∧ ∀ i, i < n → p i = false)
theorem FirstAt.uniq {p : Nat → Bool} {n : Nat} {r s : Int} (h : FirstAt p n r) (h' : FirstAt p n s) : r = s := by
  rcases h with ⟨k, hk, rfl, hp, hb⟩ | ⟨rfl, hb⟩ <;> rcases h' with ⟨k', hk', rfl, hp', hb'⟩ | ⟨rfl, hb'⟩
  · rcases Nat.lt_trichotomy k k' with h | h | h
    · rw [hb' k h] at hp; cases hp
    · rw [h]
    · rw [hb k' h] at hp'; cases hp'
  · rw [hb' k hk] at hp; cases hp
  · rw [hb k' hk'] at hp'; cases hp'
  · rfl
def IntP (P : Int → Prop) (w : World) (e : Ending) (w' : World) : Prop := ∃ r : Int, P r ∧ e = .returned (.int .i64 r) ∧ Below w.heap.size w w'

/-- The first index below n that satisfies p. -/
def ixOf (p : Nat → Bool) (n : Nat) : Option Nat := (List.range n).find? p
theorem ixOf_none {p : Nat → Bool} {n : Nat} (h : ixOf p n = none) : ∀ i, i < n → p i = false := fun i hi => by
  have := List.find?_eq_none.1 h i (List.mem_range.2 hi)
  simpa using this
theorem ixOf_some {p : Nat → Bool} {n k : Nat} (h : ixOf p n = some k) : k < n ∧ p k = true ∧ ∀ i, i < k → p i = false := by
  have h1 := List.find?_some h
  have h2 : k < n := List.mem_range.1 (List.mem_of_find?_eq_some h)
  refine ⟨h2, h1, fun i hi => ?_⟩
  unfold ixOf at h
  rw [List.find?_range_eq_some] at h
  have := h.2.2 i hi
  simpa using this
theorem ixOf_firstAt {p : Nat → Bool} {n : Nat} : FirstAt p n (match ixOf p n with | none => -1 | some k => (k : Int)) := by
  rcases h : ixOf p n with _ | k
  · exact .inr ⟨rfl, ixOf_none h⟩
  · obtain ⟨h1, h2, h3⟩ := ixOf_some h
    exact .inl ⟨k, h1, rfl, h2, h3⟩
/-- The list without its first element of which p holds. -/
def cutT (es : List (Nat → Int)) (p : Nat → Bool) (n : Nat) : List (Nat → Int) := match ixOf p n with | none => es | some k => cutL es k
def cutB (p : Nat → Bool) (n : Nat) : Bool := (ixOf p n).isSome

theorem wrap_add1 (k : Nat) (h : k ≤ 4611686018427387904) : IntKind.i64.wrap ((k : Int) + 1) = (k : Int) + 1 := by rw [IntKind.wrap_i64]; omega

theorem cutT_len {es : List (Nat → Int)} {n : Nat} {p : Nat → Bool} (h : es.length = n) : (cutT es p n).length ≤ n := by
  unfold cutT
  split
  · omega
  · rename_i k hk
    have := ixOf_some hk
    rw [cutL_len h this.1]
    omega
end Go.Proofs.YtjlmcppkafjniaaGreat

namespace Go.Proofs.YtjlmcppkafjniaaGreat
open Go.RowKit

/-- Element i has this Id. -/
def hasId (es : List (Nat → Int)) (id : Int) (i : Nat) : Bool := fld es i 2 == id

set_option maxHeartbeats 400000 in
theorem sQueueAt_any (A : Option Addr) (n c : Nat) (id : Int) (es : List (Nat → Int)) (w : World) (hn : n ≤ 4194304) (h : Rd w 4 A n es) :
    Calls Tryz.prog 113 #[.slice A n c, .int .i64 id] w (IntP (FirstAt (hasId es id) n) w) := by
  have hcases := h.2
  clear h
  go_enter Tryz.func113, Tryz.ntmps113
  go_wp2
  go_loop [5] (fun i => ∃ k : Nat, k ≤ n ∧ i = .int .i64 k ∧ Hid (∀ i, i < k → hasId es id i = false)) (fun i => n - (intOf i).toNat)
  case atStart => exact ⟨0, Nat.zero_le _, rfl, fun i hi => absurd hi (by omega)⟩
  case round =>
    obtain ⟨k, hk, rfl, hno⟩ := hrel
    by_cases hlt : k < n
    · obtain ⟨b, off, rfl, hb, hc⟩ := hcases.resolve_left (by omega)
      have c2 := hc k hlt 2 (by omega)
      clear hcases hc
      rcases Bool.eq_false_or_eq_true (fld es k 2 == id) with hp | hp
      · go_wp2
        go_ret
        exact ⟨k, .inl ⟨k, hlt, rfl, hp, hno.out⟩, rfl, Below.refl _ _⟩
      · have hno' : Hid (∀ i, i < k + 1 → hasId es id i = false) := fun i hi => by
          rcases Nat.lt_or_ge i k with h | h
          · exact hno.out i h
          · obtain rfl : i = k := by omega
            exact hp
        clear hno
        go_wp2
        go_round
        case rel => exact ⟨k + 1, by omega, by go_num, hno'⟩
        case measure => simp [intOf]; omega
    · have hkn : k = n := by omega
      subst hkn
      go_wp2
      go_ret
      exact ⟨-1, .inr ⟨rfl, hno.out⟩, rfl, Below.refl _ _⟩

set_option maxHeartbeats 1000000 in
theorem indexFunc_at (p0 : Nat) (p : (Nat → Int) → Bool) (A : Option Addr) (n c : Nat) (es : List (Nat → Int)) (w : World) (hn : n ≤ 4194304) (h : Rd w 4 A n es)
    (hp : ∀ (w1 : World) (e : Nat → Int), Below w.heap.size w w1 → Calls Tryz.prog 103 #[.agg #[.int .i64 (e 0), .int .i64 (e 1), .int .i64 (e 2), .int .i64 (e 3)], .pointer (some ⟨p0, 0, none⟩)] w1 fun x w' => x = .returned (.bool (p e)) ∧ Below w1.heap.size w1 w') :
    Calls Tryz.prog 102 #[.slice A n c, .func (.func 103) #[] #[.pointer (some ⟨p0, 0, none⟩)]] w (IntP (FirstAt (fun i => p (fld es i)) n) w) := by
  have hcases := h.2
  have HP := Lib.hid hp
  clear h hp
  go_enter Tryz.func102, Tryz.ntmps102
  go_wp2
  go_loopw [5, 8] (fun j i wr => ∃ k : Nat, k ≤ n ∧ i = .int .i64 k ∧ Below w.heap.size w wr ∧ Hid (∀ i, i < k → p (fld es i) = false)) (fun _ i _ => n - (intOf i).toNat)
  case atStart => exact ⟨0, Nat.zero_le _, rfl, Below.refl _ _, fun i hi => absurd hi (by omega)⟩
  case round =>
    obtain ⟨k, hk, rfl, hbel, hno⟩ := hrel
    by_cases hlt : k < n
    · obtain ⟨b, off, rfl, hb, hc⟩ := hcases.resolve_left (by omega)
      have c0 : wr.cell? ⟨b, off + k * 4, none⟩ = some (.int .i64 (fld es k 0)) := (hbel.cell (p := ⟨b, off + k * 4, none⟩) hb).trans (hc k hlt 0 (by omega))
      have c1 : wr.cell? ⟨b, off + k * 4 + 1, none⟩ = some (.int .i64 (fld es k 1)) := (hbel.cell (p := ⟨b, off + k * 4 + 1, none⟩) hb).trans (hc k hlt 1 (by omega))
      have c2 : wr.cell? ⟨b, off + k * 4 + 2, none⟩ = some (.int .i64 (fld es k 2)) := (hbel.cell (p := ⟨b, off + k * 4 + 2, none⟩) hb).trans (hc k hlt 2 (by omega))
      have c3 : wr.cell? ⟨b, off + k * 4 + 3, none⟩ = some (.int .i64 (fld es k 3)) := (hbel.cell (p := ⟨b, off + k * 4 + 3, none⟩) hb).trans (hc k hlt 3 (by omega))
      clear hcases hc
      have hsz := hbel.size
      go_wp2_with fail
      refine (HP.out wr (fld es k) hbel).mono ?_
      rintro x w2 ⟨rfl, hb2⟩
      have hbel2 := hbel.trans (hb2.mono hsz)
      rcases Bool.eq_false_or_eq_true (p (fld es k)) with hpk | hpk
      · clear hbel hb2
        go_wp2
        go_ret
        exact ⟨k, .inl ⟨k, hlt, rfl, hpk, hno.out⟩, rfl, hbel2⟩
      · have hno' : Hid (∀ i, i < k + 1 → p (fld es i) = false) := fun i hi => by
          rcases Nat.lt_or_ge i k with h | h
          · exact hno.out i h
          · obtain rfl : i = k := by omega
            exact hpk
        clear hno hbel hb2
        go_wp2
        go_roundw
        case rel => exact ⟨k + 1, by omega, by go_num, hbel2, hno'⟩
        case measure => simp [intOf]; omega
    · have hkn : k = n := by omega
      subst hkn
      go_wp2
      go_ret
      exact ⟨-1, .inr ⟨rfl, hno.out⟩, rfl, hbel⟩

set_option maxHeartbeats 400000 in
theorem atClo_any (bid : Nat) (id : Int) (e : Nat → Int) (w : World) (hb : bid < w.heap.size) (hc : w.cell? ⟨bid, 0, none⟩ = some (.int .i64 id)) :
    Calls Tryz.prog 103 #[.agg #[.int .i64 (e 0), .int .i64 (e 1), .int .i64 (e 2), .int .i64 (e 3)], .pointer (some ⟨bid, 0, none⟩)] w fun x w' => x = .returned (.bool (e 2 == id)) ∧ Below w.heap.size w w' := by
  go_enter Tryz.func103, Tryz.ntmps103
  go_wp2
  go_ret
  refine ⟨rfl, ?_⟩
  (repeat (first | with_reducible exact Below.refl _ _ | with_reducible refine Below.drew ?_ | with_reducible refine below_drewN ?_ _ | (with_reducible refine bel_alloc ?_ ?_ _; (first | omega | (simp; omega) | simp)) | (with_reducible refine bel_set ?_ ?_ _; (first | omega | (simp; omega) | simp)) | (with_reducible refine bel_tr (by assumption) ?_ ?_; (first | omega | (simp; omega) | simp))))

set_option maxHeartbeats 400000 in
theorem iQueueAt_any (A : Option Addr) (n c : Nat) (id : Int) (es : List (Nat → Int)) (w : World) (hn : n ≤ 4194304) (h : Rd w 4 A n es) :
    Calls Tryz.prog 78 #[.slice A n c, .int .i64 id] w (IntP (FirstAt (hasId es id) n) w) := by
  have H := Lib.hid h
  clear h
  go_enter Tryz.func78, Tryz.ntmps78
  go_wp2_with fail
  refine (indexFunc_at w.heap.size (fun e => e 2 == id) A n c es _ hn (H.out.below ((Below.refl _ _).alloc (Nat.le_refl _) _)) ?_).mono ?_
  · intro w1 e hb
    have hlt : w.heap.size < w1.heap.size := by have := hb.size; simp at this; omega
    refine atClo_any w.heap.size id e w1 hlt ?_
    rw [hb.cell (p := ⟨w.heap.size, 0, none⟩) (by simp)]
    simp
  · rintro x w1 ⟨r, hr, rfl, hb1⟩
    have HR := Lib.hid hr
    clear hr
    go_wp2
    go_ret
    refine ⟨r, HR.out, rfl, ?_⟩
    (repeat (first | with_reducible exact Below.refl _ _ | with_reducible refine Below.drew ?_ | with_reducible refine below_drewN ?_ _ | (with_reducible refine bel_alloc ?_ ?_ _; (first | omega | (simp; omega) | simp)) | (with_reducible refine bel_set ?_ ?_ _; (first | omega | (simp; omega) | simp)) | (with_reducible refine bel_tr (by assumption) ?_ ?_; (first | omega | (simp; omega) | simp))))

end Go.Proofs.YtjlmcppkafjniaaGreat
