/-
  Parts of slices that read: the first k elements, and those from k on.
-/
import Derived.Test.YtjlmcppkafjniaaGreatW1
import Derived.Test.YtjlmcppkafjniaaGreatMk
import Derived.Maps.AppendAt
import Derived.Deep.AppendLies
import Derived.RegionTactic
import Derived.Test.YtjlmcppkafjniaaGreatSl
namespace Go.Proofs.YtjlmcppkafjniaaGreat
open Go.RowKit

set_option maxHeartbeats 1000000 in
theorem szPinSS_le (A : Option Addr) (N c : Nat) (S : Nat → Sp) (l : Int) (w : World) (hN : N ≤ 9223372036854775807) (h0 : 0 ≤ l) (h1 : l ≤ 1048576) (h : RdW w A N S) :
    Calls Tryz.prog 87 #[.slice A N c, .int .i64 l] w fun x w' => ∃ r : Int, x = .returned (.int .i64 r) ∧ w = w' ∧ (r < 0 ∨ 0 ≤ r ∧ (N : Int) + tot S N ≤ l ∧ r ≤ l) := by
  by_cases hl : (N : Int) ≤ l
  · go_enter Tryz.func87, Tryz.ntmps87
    go_wp2
    go_loop [1, 4, 5] (fun v q i => ∃ k : Nat, k ≤ N ∧ i = .int .i64 k ∧ q = .int .i64 0 ∧ v = .int .i64 (l - (N : Int) - tot S k) ∧ 0 ≤ l - (N : Int) - tot S k) (fun _ _ i => N - (intOf i).toNat)
    case atStart => exact ⟨0, Nat.zero_le _, rfl, rfl, by simp [tot], by simp [tot]; omega⟩
    case round =>
      obtain ⟨k, hk, rfl, rfl, rfl, hv⟩ := hrel
      by_cases hlt : k < N
      · obtain ⟨b, off, rfl⟩ := h.addr (by omega)
        have hb := h.lt (by omega)
        have c0 := h.cell hlt
        have hn := h.le k hlt
        obtain ⟨v, hv2⟩ : ∃ v : Int, v = l - (N : Int) - tot S k := ⟨_, rfl⟩
        rw [← hv2] at hv ⊢
        have hvl : v ≤ 1048576 := by omega
        have HV := Lib.hid hv2
        clear hv2 h
        go_wp2_with fail
        refine (szPinS_any (S k).A (S k).n (S k).c v w hn hv hvl).mono ?_
        by_cases hs : ((S k).n : Int) ≤ v
        · rw [if_pos hs]
          rintro x w2 ⟨rfl, rfl⟩
          have hs' : 0 ≤ v - ((S k).n : Int) := by omega
          go_wp2
          go_round
          case rel => exact ⟨k + 1, by omega, by go_num, rfl, by have := HV.out; simp only [tot]; go_num, by have := HV.out; simp only [tot]; go_num⟩
          case measure => simp [intOf]; omega
        · rw [if_neg hs]
          rintro x w2 ⟨rfl, rfl⟩
          go_wp2
          go_ret
          exact ⟨_, rfl, rfl, .inl (by omega)⟩
      · have hkn : k = N := by omega
        subst hkn
        go_wp2
        go_ret
        exact ⟨_, rfl, rfl, .inr ⟨hv, by omega, by omega⟩⟩
  · go_enter Tryz.func87, Tryz.ntmps87
    go_wp2
    go_ret
    exact ⟨_, rfl, rfl, .inl (by omega)⟩

set_option maxHeartbeats 1000000 in
theorem szWheel_le (A : Option Addr) (N c : Nat) (S : Nat → Sp) (l : Int) (w : World) (hN : N ≤ 9223372036854775807) (h0 : 0 ≤ l) (h1 : l ≤ 1048576) (h : RdW w A N S) :
    Calls Tryz.prog 47 #[.agg #[.slice A N c], .int .i64 l] w fun x w' => ∃ r : Int, x = .returned (.int .i64 r) ∧ Below w.heap.size w w' ∧ (r < 0 ∨ 0 ≤ r ∧ (N : Int) + tot S N ≤ l ∧ r ≤ l) := by
  have hb1 : Below w.heap.size w (w.alloc (.cells #[.slice A N c] 49)) := by (repeat (first | with_reducible exact Below.refl _ _ | with_reducible refine Below.drew ?_ | with_reducible refine below_drewN ?_ _ | (with_reducible refine bel_alloc ?_ ?_ _; (first | omega | (simp; omega) | simp)) | (with_reducible refine bel_set ?_ ?_ _; (first | omega | (simp; omega) | simp)) | (with_reducible refine bel_tr (by assumption) ?_ ?_; (first | omega | (simp; omega) | simp))))
  have H := Lib.hid (h.below hb1)
  clear h
  go_enter Tryz.func47, Tryz.ntmps47
  go_wp2_with fail
  refine (szPinSS_le A N c S l _ hN h0 h1 H.out).mono ?_
  rintro x w2 ⟨r, rfl, rfl, hr⟩
  by_cases hr0 : r < 0
  · go_wp2
    go_ret
    exact ⟨_, rfl, hb1, .inl (by omega)⟩
  · go_wp2
    go_ret
    exact ⟨_, rfl, hb1, by omega⟩
end Go.Proofs.YtjlmcppkafjniaaGreat

namespace Go.Proofs.YtjlmcppkafjniaaGreat
open Go.RowKit

def ecells (K : Nat) (e : Nat → Int) : List Value := (List.range K).map fun j => .int .i64 (e j)
def flat (K : Nat) (es : List (Nat → Int)) : List Value := es.flatMap (ecells K)
theorem ecells_len (K : Nat) (e : Nat → Int) : (ecells K e).length = K := by simp [ecells]
theorem flat_nil (K : Nat) : flat K [] = [] := rfl
theorem flat_cons (K : Nat) (e : Nat → Int) (es : List (Nat → Int)) : flat K (e :: es) = ecells K e ++ flat K es := by simp [flat]
theorem flat_append (K : Nat) (es es2 : List (Nat → Int)) : flat K (es ++ es2) = flat K es ++ flat K es2 := by simp [flat]
theorem flat_len (K : Nat) : ∀ es : List (Nat → Int), (flat K es).length = es.length * K
  | [] => by simp [flat]
  | e :: es => by rw [flat_cons, List.length_append, ecells_len, flat_len K es, List.length_cons, Nat.succ_mul]; omega
theorem flat_get (K : Nat) : ∀ (es : List (Nat → Int)) (i j : Nat), i < es.length → j < K → (flat K es)[i * K + j]? = some (.int .i64 (fld es i j))
  | [], i, _, hi, _ => by simp at hi
  | e :: es, 0, j, _, hj => by
    rw [flat_cons, List.getElem?_append_left (by rw [ecells_len]; omega)]
    simp [ecells, hj, fld]
  | e :: es, i + 1, j, hi, hj => by
    have h1 : (i + 1) * K + j = K + (i * K + j) := by rw [Nat.succ_mul]; omega
    rw [flat_cons, List.getElem?_append_right (by rw [ecells_len, h1]; omega), ecells_len, h1, Nat.add_sub_cancel_left, flat_get K es i j (by simpa using hi) hj]
    rfl
theorem flat_one (K : Nat) (es : List (Nat → Int)) : ∀ u ∈ flat K es, u.oneCell' = true := by
  intro u hu
  simp only [flat, List.mem_flatMap, ecells, List.mem_map] at hu
  obtain ⟨_, _, _, _, rfl⟩ := hu
  rfl
/-- Each cell of a flat list is a field of an element. -/
theorem flat_at {K : Nat} {es : List (Nat → Int)} {q : Nat} {u : Value} (h : (flat K es)[q]? = some u) : 0 < K ∧ q / K < es.length ∧ u = .int .i64 (fld es (q / K) (q % K)) := by
  have hq : q < (flat K es).length := (List.getElem?_eq_some_iff.1 h).1
  rw [flat_len] at hq
  have hK : 0 < K := by
    rcases Nat.eq_zero_or_pos K with h0 | h0
    · subst h0; simp at hq
    · exact h0
  have h1 : q / K < es.length := Nat.div_lt_of_lt_mul (by rw [Nat.mul_comm]; exact hq)
  have h2 := flat_get K es (q / K) (q % K) h1 (Nat.mod_lt _ hK)
  have h3 : q / K * K + q % K = q := by have := Nat.div_add_mod q K; rw [Nat.mul_comm] at this; exact this
  rw [h3, h] at h2
  injection h2 with h2
  exact ⟨hK, h1, h2⟩

theorem _root_.Go.World.ownsRow.lower {base base' : Nat} {w : World} {e : TypeId} {K n : Nat} {v : Value} {xs : List Value} (h : w.ownsRow base e K v n xs) (hb : base' ≤ base) : w.ownsRow base' e K v n xs :=
  ⟨h.1, h.2.imp id fun ⟨g, cap, cur, h1, h2, h3⟩ => ⟨g, cap, cur, h1, Nat.le_trans hb h2, h3⟩⟩
/-- An owned row reads. -/
theorem own_of_row {base : Nat} {w : World} {e : TypeId} {K n : Nat} {v : Value} {es : List (Nat → Int)} (hl : es.length = n) (h : w.ownsRow base e K v n (flat K es)) :
    ∃ A c, v = .slice A n c ∧ Own base w K A n es := by
  obtain ⟨h1, h2⟩ := h
  rcases h2 with ⟨rfl, rfl⟩ | ⟨g, cap, cur, rfl, hg, hh, hnc, _, hsz, htk⟩
  · exact ⟨none, 0, rfl, hl, .inl rfl⟩
  · refine ⟨_, cap, rfl, hl, .inr ⟨g, 0, rfl, (Array.getElem?_eq_some_iff.1 hh).1, hg, fun o => frozen_of_heap hh, fun i hi j hj => ?_⟩⟩
    have h3 := flat_get K es i j (by omega) hj
    rw [← htk, List.getElem?_take, if_pos (idx_lt hi hj)] at h3
    rw [cell_of_heap hh, Nat.zero_add]
    simpa using h3

/-- A slice that reads, as a source of append: its cells. -/
theorem src_cells {w : World} {K n b off : Nat} {es : List (Nat → Int)} (hl : es.length = n) (hc : ∀ i, i < n → ∀ j, j < K → w.cell? ⟨b, off + i * K + j, none⟩ = some (.int .i64 (fld es i j))) :
    ∀ q u, (flat K es)[q]? = some u → w.cell? ((⟨b, off, none⟩ : Addr).add q) = some u := by
  intro q u hq
  obtain ⟨hK, h1, rfl⟩ := flat_at hq
  have h2 := hc (q / K) (by omega) (q % K) (Nat.mod_lt _ hK)
  have h3 : off + q / K * K + q % K = off + q := by have := Nat.div_add_mod q K; rw [Nat.mul_comm] at this; omega
  rw [h3] at h2
  have hadd : (⟨b, off, none⟩ : Addr).add q = ⟨b, off + q, none⟩ := by
    unfold Addr.add
    split <;> simp_all
  rw [hadd]
  exact h2

section
variable {P : Program} (w : World)

theorem run_append_nil_src (base : Nat) (t ty e : TypeId) (i : TypeInfo) (size : Nat) (ht : P.underlying t = some (.slice e)) (hi : P.info? e = some i)
    (v : Value) (n : Nat) (xs : List Value) (hown : w.ownsRow base e size v n xs) (c : Nat) : (Builtin.append_ #[t, t] ty #[v, .slice none 0 c]).run P w = .ok v w := by
  rcases hown.2 with ⟨rfl, rfl⟩ | ⟨g, cap, cur, rfl, _, _, hnc, _⟩
  · simp [Builtin.append_, run_underlying ht, sizeOf, typeInfo, hi, Builtin.lenOf, Builtin.firstCells]
  · simp [Builtin.append_, run_underlying ht, sizeOf, typeInfo, hi, Builtin.lenOf, Builtin.firstCells, hnc, storeCells]

/-- append onto a row of the call's own, the source any slice that reads. -/
theorem run_append_rd (base : Nat) (t ty e : TypeId) (i : TypeInfo) (z : Value) (K bytes : Nat) (ht : P.underlying t = some (.slice e)) (hi : P.info? e = some i) (hz : i.zero = some z)
    (hsize : i.size = K) (hby : i.bytes = bytes) (hzs : z.cells.size = K) (hK : 0 < K)
    (v : Value) (n0 : Nat) (es0 : List (Nat → Int)) (hown : w.ownsRow base e K v n0 (flat K es0))
    (A : Option Addr) (n c : Nat) (es : List (Nat → Int)) (hr : Rd w K A n es)
    (h63 : n0 + n ≤ maxLen) (hbytes : (n0 + n) * bytes ≤ 140737488355328) (hbase : base ≤ w.heap.size) :
    ∃ v' w', (Builtin.append_ #[t, t] ty #[v, .slice A n c]).run P w = .ok v' w' ∧ w'.ownsRow base e K v' (n0 + n) (flat K (es0 ++ es)) ∧ w.grownBy w' v.ownBlock ∧
      (v'.ownBlock = v.ownBlock ∨ v'.ownBlock = some w.heap.size) := by
  rw [flat_append]
  rcases Nat.eq_zero_or_pos n with h0 | h0
  · subst h0
    have hes : es = [] := List.eq_nil_of_length_eq_zero hr.1
    subst hes
    rw [flat_nil, List.append_nil, Nat.add_zero]
    rcases A with _ | ad
    · exact ⟨v, w, run_append_nil_src w base t ty e i K ht hi v n0 _ hown c, hown, World.grownBy.refl w _, .inl rfl⟩
    · obtain ⟨v', w', hrun, h2, h3, _, h5⟩ := run_append_own_at (P := P) w base t ty e i z K bytes ht hi hz hsize hby hzs hK v n0 _ hown ad 0 c [] (by simp) (fun j u hu => by simp at hu) (fun u hu => by simp at hu) (by omega) (by simpa using hbytes) hbase
      exact ⟨v', w', hrun, by simpa using h2, h3, h5⟩
  · obtain ⟨b, off, rfl, _, hc⟩ := hr.2.resolve_left (by omega)
    obtain ⟨v', w', hrun, h2, h3, _, h5⟩ := run_append_own_at (P := P) w base t ty e i z K bytes ht hi hz hsize hby hzs hK v n0 _ hown ⟨b, off, none⟩ n c (flat K es) (by rw [flat_len, hr.1]) (src_cells hr.1 hc) (flat_one K es) h63 hbytes hbase
    exact ⟨v', w', hrun, h2, h3, h5⟩

theorem wpList_append_rd {ops : Array Oper} {rest : List Oper} {o : Oper} {a : Act} {Q : Exit → Act → World → Prop} (hgd : o.guard = none) (s x : Operand) (t : TypeId)
    (ho : o.op = .call { callee := .builtin .append, args := #[s, x], argTypes := #[t, t] })
    (base : Nat) (e : TypeId) (i : TypeInfo) (z : Value) (K bytes : Nat) (ht : P.underlying t = some (.slice e)) (hi : P.info? e = some i) (hz : i.zero = some z)
    (hsize : i.size = K) (hby : i.bytes = bytes) (hzs : z.cells.size = K) (hK : 0 < K)
    (v : Value) (n0 : Nat) (es0 : List (Nat → Int)) (hs : a.eval s = v) (hown : w.ownsRow base e K v n0 (flat K es0))
    (A : Option Addr) (n c : Nat) (es : List (Nat → Int)) (hx : a.eval x = .slice A n c) (hr : Rd w K A n es)
    (h63 : n0 + n ≤ maxLen) (hbytes : (n0 + n) * bytes ≤ 140737488355328) (hbase : base ≤ w.heap.size)
    (h : ∀ v' w', w'.ownsRow base e K v' (n0 + n) (flat K (es0 ++ es)) → w.grownBy w' v.ownBlock → (v'.ownBlock = v.ownBlock ∨ v'.ownBlock = some w.heap.size) → wpList P ops Q rest (a.put o.dst v') w') : wpList P ops Q (o :: rest) a w := by
  refine wpList_plain hgd fun K' hK' => ?_
  obtain ⟨v', w', hrun, h2, h3, h4⟩ := run_append_rd (P := P) w base t o.type e i z K bytes ht hi hz hsize hby hzs hK v n0 es0 hown A n c es hr h63 hbytes hbase
  unfold Oper.wp execOp
  simp only [ho, resolve, invoke, builtin, Sem.run_bind, Sem.run_pure, Result.andThen_ok, List.map_toArray, List.map_cons, List.map_nil, hs, hx, hrun]
  exact hK' _ _ (h v' w' h2 h3 h4)

theorem step_append_rd {ops : Array Oper} {o : Oper} {a : Act} {K' : Act → World → Prop} {Q : Exit → Act → World → Prop} {E : Prop} (hgd : o.guard = none) (s x : Operand) (t : TypeId)
    (ho : o.op = .call { callee := .builtin .append, args := #[s, x], argTypes := #[t, t] })
    (base : Nat) (e : TypeId) (i : TypeInfo) (z : Value) (K bytes : Nat) (ht : P.underlying t = some (.slice e)) (hi : P.info? e = some i) (hz : i.zero = some z)
    (hsize : i.size = K) (hby : i.bytes = bytes) (hzs : z.cells.size = K) (hK : 0 < K)
    (v : Value) (n0 : Nat) (es0 : List (Nat → Int)) (hs : a.eval s = v) (hown : w.ownsRow base e K v n0 (flat K es0))
    (A : Option Addr) (n c : Nat) (es : List (Nat → Int)) (hx : a.eval x = .slice A n c) (hr : Rd w K A n es)
    (h63 : n0 + n ≤ maxLen) (hbytes : (n0 + n) * bytes ≤ 140737488355328) (hbase : base ≤ w.heap.size)
    (h : ∀ v' w', w'.ownsRow base e K v' (n0 + n) (flat K (es0 ++ es)) → w.grownBy w' v.ownBlock → (v'.ownBlock = v.ownBlock ∨ v'.ownBlock = some w.heap.size) → K' (a.put o.dst v') w') :
    if Region.wanted o (yielded ops a.tmps) = true then Oper.wp P o a w K' Q else E := by
  have hw : Region.wanted o (yielded ops a.tmps) = true := by simp [Region.wanted, hgd]
  rw [if_pos hw]
  obtain ⟨v', w', hrun, h2, h3, h4⟩ := run_append_rd (P := P) w base t o.type e i z K bytes ht hi hz hsize hby hzs hK v n0 es0 hown A n c es hr h63 hbytes hbase
  unfold Oper.wp execOp
  simp only [ho, resolve, invoke, builtin, Sem.run_bind, Sem.run_pure, Result.andThen_ok, List.map_toArray, List.map_cons, List.map_nil, hs, hx, hrun]
  exact h v' w' h2 h3 h4
end
end Go.Proofs.YtjlmcppkafjniaaGreat

namespace Go.Proofs.YtjlmcppkafjniaaGreat
open Go.RowKit

theorem copyEntries_info : (Tryz.prog.info? 82).map (fun i => (i.zero, i.size, i.bytes)) = some (some (.agg #[.int .i64 0, .int .i64 0, .int .i64 0, .int .i64 0]), 4, 32) := by kernel_rfl

theorem copyInts_info : (Tryz.prog.info? 3).map (fun i => (i.zero, i.size, i.bytes)) = some (some (.int .i64 0), 1, 8) := by kernel_rfl

theorem row_empty (w : World) (t : TypeId) (K : Nat) : (w.alloc (.cells #[] t)).ownsRow w.heap.size t K (.slice (some ⟨w.heap.size, 0, none⟩) 0 0) 0 (flat K []) :=
  ⟨by simp [flat], .inr ⟨w.heap.size, 0, #[], rfl, Nat.le_refl _, heap_alloc_new w _, Nat.le_refl _, Nat.zero_le _, by simp, by simp [flat]⟩⟩
set_option maxHeartbeats 1000000 in
theorem l7Copy_any (A : Option Addr) (n c : Nat) (es : List (Nat → Int)) (w : World) (hn : n ≤ 4194304) (h : Rd w 4 A n es) :
    Calls Tryz.prog 116 #[.slice A n c] w fun x w' => ∃ v, x = .returned v ∧ w'.ownsRow w.heap.size 82 4 v n (flat 4 es) ∧ Below w.heap.size w w' := by
  obtain ⟨i0, hi0, hz0, hz1, hz2⟩ := info_parts copyEntries_info
  have H := Lib.hid h
  clear h
  have b0 : Below w.heap.size w (w.alloc (.cells #[] 82)) := (Below.refl _ _).alloc (Nat.le_refl _) _
  go_enter Tryz.func116, Tryz.ntmps116
  go_wp2_with (at_builtin; go_must (refine wpList_append_rd _ rfl _ _ 27 rfl w.heap.size 82 i0 _ 4 32 Tryz.underlying27 hi0 hz0 hz1 hz2 rfl (by omega) (.slice (some ⟨w.heap.size, 0, none⟩) 0 0) 0 [] rfl (row_empty w _ 4) A n c es rfl (H.out.below b0) (by unfold maxLen; omega) (by omega) (by simp) ?_); intro v1 w1 hown1 hg1 hat1)
  go_ret
  refine ⟨_, rfl, ?_, b0.grown hg1 (by simp) (by simp [Value.ownBlock])⟩
  simpa using hown1

end Go.Proofs.YtjlmcppkafjniaaGreat

namespace Go.Proofs.YtjlmcppkafjniaaGreat
open Go.RowKit

theorem fld_take {es : List (Nat → Int)} {k i j : Nat} (hi : i < k) : fld (es.take k) i j = fld es i j := by
  unfold fld
  rw [List.getD_eq_getElem?_getD, List.getD_eq_getElem?_getD, List.getElem?_take, if_pos hi]
theorem fld_drop {es : List (Nat → Int)} {k i j : Nat} : fld (es.drop k) i j = fld es (k + i) j := by
  unfold fld
  rw [List.getD_eq_getElem?_getD, List.getD_eq_getElem?_getD, List.getElem?_drop]

section
variable {w : World} {K n k : Nat} {A : Option Addr} {es : List (Nat → Int)}
theorem Rd.take (h : Rd w K A n es) (hk : k ≤ n) : Rd w K A k (es.take k) := by
  refine ⟨by rw [List.length_take, h.1]; omega, ?_⟩
  rcases Nat.eq_zero_or_pos k with h0 | h0
  · exact .inl h0
  · obtain ⟨b, off, h1, h2, h5⟩ := h.2.resolve_left (by omega)
    exact .inr ⟨b, off, h1, h2, fun i hi j hj => by rw [fld_take hi]; exact h5 i (by omega) j hj⟩
theorem Rd.drop {b off : Nat} (h : Rd w K (some ⟨b, off, none⟩) n es) (hk : k ≤ n) : Rd w K (some ⟨b, off + k * K, none⟩) (n - k) (es.drop k) := by
  refine ⟨by rw [List.length_drop, h.1], ?_⟩
  rcases Nat.eq_zero_or_pos (n - k) with h0 | h0
  · exact .inl h0
  · obtain ⟨b', off', h1, h2, h5⟩ := h.2.resolve_left (by omega)
    injection h1 with h1
    injection h1 with h1 h3
    subst h1 h3
    refine .inr ⟨b, off + k * K, rfl, h2, fun i hi j hj => ?_⟩
    have h6 := h5 (k + i) (by omega) j hj
    rw [fld_drop, ← h6]
    congr 2
    rw [Nat.add_mul]
    omega
/-- No element is left: whatever the address. -/
theorem Rd.none_left {A' : Option Addr} (h : Rd w K A n es) (hk : n ≤ k) : Rd w K A' 0 (es.drop k) :=
  ⟨by rw [List.length_drop, h.1]; omega, .inl rfl⟩
end
end Go.Proofs.YtjlmcppkafjniaaGreat
