/-
  Wheels that a call gathers spoke by spoke: contracts of the two functions that copy a wheel. No conditions beyond those stated.
-/
import Derived.Test.YtjlmcppkafjniaaGreatCut
import Derived.Lib.SliceRun
import Derived.Deep.RegionLaw
import Derived.Test.YtjlmcppkafjniaaGreatW1
namespace Go.Proofs.YtjlmcppkafjniaaGreat
open Go.RowKit

/-- The list without element k. -/
def cutL (es : List (Nat → Int)) (k : Nat) : List (Nat → Int) := es.take k ++ es.drop (k + 1)
theorem cutL_len {es : List (Nat → Int)} {k n : Nat} (hl : es.length = n) (hk : k < n) : (cutL es k).length = n - 1 := by
  unfold cutL
  rw [List.length_append, List.length_take, List.length_drop]
  omega
theorem fld_cut_lt {es : List (Nat → Int)} {k i j : Nat} (hi : i < k) (hk : k ≤ es.length) : fld (cutL es k) i j = fld es i j := by
  unfold fld cutL
  rw [List.getD_eq_getElem?_getD, List.getD_eq_getElem?_getD, List.getElem?_append_left (by rw [List.length_take]; omega), List.getElem?_take, if_pos hi]
theorem fld_cut_ge {es : List (Nat → Int)} {k i j : Nat} (hi : k ≤ i) (hk : k ≤ es.length) : fld (cutL es k) i j = fld es (i + 1) j := by
  unfold fld cutL
  rw [List.getD_eq_getElem?_getD, List.getD_eq_getElem?_getD, List.getElem?_append_right (by rw [List.length_take]; omega), List.getElem?_drop, List.length_take]
  have h1 : k + 1 + (i - min k es.length) = i + 1 := by omega
  rw [h1]

theorem set2_own {B g off n k K : Nat} {es : List (Nat → Int)} {w : World} {zs : List Value} (hK : 0 < K) (hk : k < n) (h : Own B w K (some ⟨g, off, none⟩) n es) (hz : zs.length = K) :
    Own B ((w.drew.setCells g (off + k * K) (flat K (es.drop (k + 1)))).setCells g (off + (n - 1) * K) zs) K (some ⟨g, off, none⟩) (n - 1) (cutL es k)
      ∧ Below B w ((w.drew.setCells g (off + k * K) (flat K (es.drop (k + 1)))).setCells g (off + (n - 1) * K) zs) := by
  obtain ⟨hl, h2⟩ := h
  obtain ⟨b, o', he, hlt, hB, hfz, hc⟩ := h2.resolve_left (by omega)
  injection he with he
  injection he with he1 he2
  subst he1 he2
  have hfl : (flat K (es.drop (k + 1))).length = (n - (k + 1)) * K := by rw [flat_len, List.length_drop, hl]
  have hroom : ∀ o, o < n * K → (w.drew.cell? ⟨g, off + o, none⟩).isSome = true := fun o ho => by
    have h1 : o / K < n := Nat.div_lt_of_lt_mul (by rw [Nat.mul_comm]; exact ho)
    have h3 := hc (o / K) h1 (o % K) (Nat.mod_lt _ hK)
    have h4 : off + o / K * K + o % K = off + o := by have := Nat.div_add_mod o K; rw [Nat.mul_comm] at this; omega
    rw [h4] at h3
    show (w.cell? _).isSome = true
    rw [h3]
    rfl
  have hnk : k * K + (n - (k + 1)) * K = (n - 1) * K := by rw [← Nat.add_mul]; congr 1; omega
  have hn1 : (n - 1) * K + K = n * K := by rw [← Nat.succ_mul]; congr 1; omega
  have hin := World.cell?_setCells_in g (flat K (es.drop (k + 1))) (off + k * K) w.drew (fun j hj => by
    rw [hfl] at hj
    rw [Nat.add_assoc]
    exact hroom _ (by omega))
  refine ⟨⟨cutL_len hl hk, ?_⟩, below_setCells hB _ _ _ (below_setCells hB _ _ _ (Below.drew (Below.refl B w)))⟩
  rcases Nat.eq_zero_or_pos (n - 1) with h0 | h0
  · exact .inl h0
  refine .inr ⟨g, off, rfl, by rw [size_setCells, size_setCells]; exact hlt, hB, fun o => ?_, fun i hi j hj => ?_⟩
  · rw [World.frozen?_setCells, World.frozen?_setCells]
    exact hfz o
  · have hij : i * K + j < (n - 1) * K := idx_lt hi hj
    rw [World.cell?_setCells_out g zs _ _ ⟨g, off + i * K + j, none⟩ (fun _ _ => .inl (by show off + i * K + j < off + (n - 1) * K; omega))]
    rcases Nat.lt_or_ge i k with hik | hik
    · have h1 : i * K + j < k * K := idx_lt hik hj
      rw [World.cell?_setCells_out g _ _ _ ⟨g, off + i * K + j, none⟩ (fun _ _ => .inl (by show off + i * K + j < off + k * K; omega))]
      rw [fld_cut_lt hik (by omega)]
      exact hc i (by omega) j hj
    · obtain ⟨d, rfl⟩ : ∃ d, i = k + d := ⟨i - k, by omega⟩
      have h1 : d * K + j < (n - (k + 1)) * K := idx_lt (by omega) hj
      have h3 := hin (d * K + j) (by rw [hfl]; exact h1)
      have h4 : off + k * K + (d * K + j) = off + (k + d) * K + j := by rw [Nat.add_mul]; omega
      rw [h4] at h3
      rw [h3, fld_cut_ge (by omega) (by omega)]
      have h5 := flat_get K (es.drop (k + 1)) d j (by rw [List.length_drop]; omega) hj
      rw [fld_drop] at h5
      have h6 := (List.getElem?_eq_some_iff.1 h5).2
      rw [h6]
      congr 3
      omega

theorem run_clear1 {P : Program} (w : World) (t e ty : TypeId) (z : Value) (ht : P.underlying t = some (.slice e)) (hv : ∀ w, (zeroValue e).run P w = .ok z w) (h1 : ∀ u ∈ z.cells.toList, u.oneCell' = true) (b o c : Nat)
    (hc : ∀ j, j < z.cells.toList.length → (w.cell? ⟨b, o + j, none⟩).isSome = true) (hf : ∀ j, j < z.cells.toList.length → w.frozen? ⟨b, o + j, none⟩ = false) :
    (Builtin.clear_ #[t] ty #[.slice (some ⟨b, o, none⟩) 1 c]).run P w = .ok (.tuple #[]) (w.setCells b o z.cells.toList) := by
  have hzc : (Builtin.zeroCells z.cells 1).toList = z.cells.toList := by
    apply List.ext_getElem
    · simp [Builtin.zeroCells]
    · intro i h1 h2
      have h3 : i < z.cells.size := by simpa using h2
      simp [Builtin.zeroCells, Nat.mod_eq_of_lt h3, getElem!_pos z.cells i h3]
  have hst := run_storeCells_cells (P := P) b o z.cells.toList 0 w (by simpa using hc) (by simpa using hf) h1
  simp only [Nat.add_zero] at hst
  simp [Builtin.clear_, run_underlying ht, hv, hzc, hst]
theorem row_ge {base base' : Nat} {w : World} {e : TypeId} {K n : Nat} {v : Value} {xs : List Value} (h : w.ownsRow base e K v n xs) (hb : base' ≤ base) : ∀ k, v.ownBlock = some k → base' ≤ k := by
  intro k hk
  rcases h.2 with ⟨rfl, _⟩ | ⟨g, cap, cur, rfl, hg, _⟩
  · simp [Value.ownBlock] at hk
  · have : g = k := by simpa [Value.ownBlock] using hk
    omega
theorem row_below {base : Nat} {w w' : World} {e : TypeId} {K n : Nat} {v : Value} {xs : List Value} (h : w.ownsRow base e K v n xs) (hb : Below w.heap.size w w') : w'.ownsRow base e K v n xs :=
  ⟨h.1, h.2.imp id fun ⟨g, cap, cur, h1, h2, hh, h3⟩ => ⟨g, cap, cur, h1, h2, (hb.block g (Array.getElem?_eq_some_iff.1 hh).1).trans hh, h3⟩⟩
theorem row_pos {base : Nat} {w : World} {e : TypeId} {K n : Nat} {v : Value} {es : List (Nat → Int)} (hn : 0 < n) (_hK : 0 < K) (hl : es.length = n) (h : w.ownsRow base e K v n (flat K es)) :
    ∃ g cap, v = .slice (some ⟨g, 0, none⟩) n cap ∧ n ≤ cap ∧ cap ≤ 9223372036854775807 ∧ Own base w K (some ⟨g, 0, none⟩) n es := by
  rcases h.2 with ⟨_, h0⟩ | ⟨g, cap, cur, rfl, hg, hh, hnc, hcm, hsz, htk⟩
  · omega
  · obtain ⟨A, c, he, ho⟩ := own_of_row hl h
    injection he with h1 h2 h3
    subst h1 h3
    exact ⟨g, cap, rfl, hnc, by unfold maxLen at hcm; omega, ho⟩

end Go.Proofs.YtjlmcppkafjniaaGreat

namespace Go.Proofs.YtjlmcppkafjniaaGreat
open Go.RowKit

/-- A row of k slices of pins, all of the call's own, each in a block by itself. -/
structure Gat (B : Nat) (w : World) (v : Value) (k : Nat) (S : Nat → Sp) : Prop where
  row : w.ownsRow B 85 1 v k ((List.range k).map fun i => (S i).v)
  own : ∀ i, i < k → w.ownsRow B 87 2 (S i).v (S i).n (flat 2 (S i).es) ∧ (S i).es.length = (S i).n
  apart : ∀ i j a b, i < k → j < k → i ≠ j → (S i).v.ownBlock = some a → (S j).v.ownBlock = some b → a ≠ b
  nr : ∀ i a, i < k → (S i).v.ownBlock = some a → v.ownBlock ≠ some a

theorem row_lt {base : Nat} {w : World} {e : TypeId} {K n : Nat} {v : Value} {xs : List Value} (h : w.ownsRow base e K v n xs) : ∀ k, v.ownBlock = some k → k < w.heap.size := by
  intro k hk
  rcases h.2 with ⟨rfl, _⟩ | ⟨g, cap, cur, rfl, hg, hh, _⟩
  · simp [Value.ownBlock] at hk
  · have : g = k := by simpa [Value.ownBlock] using hk
    subst this
    exact (Array.getElem?_eq_some_iff.1 hh).1
theorem row_grown {base : Nat} {w w' : World} {e : TypeId} {K n : Nat} {v : Value} {xs : List Value} {row : Option Nat} (h : w.ownsRow base e K v n xs) (hg : w.grownBy w' row) (hne : ∀ k, v.ownBlock = some k → some k ≠ row) : w'.ownsRow base e K v n xs :=
  ⟨h.1, h.2.imp id fun ⟨g, cap, cur, h1, h2, hh, h3⟩ => ⟨g, cap, cur, h1, h2, (hg.block g (Array.getElem?_eq_some_iff.1 hh).1 (hne g (by subst h1; rfl))).trans hh, h3⟩⟩
theorem row_set {base : Nat} {w : World} {e : TypeId} {K n : Nat} {v : Value} {xs : List Value} (h : w.ownsRow base e K v n xs) {p : Addr} (hp : p.block < base) (u : Value) : (w.setCell p u).ownsRow base e K v n xs :=
  ⟨h.1, h.2.imp id fun ⟨g, cap, cur, h1, h2, hh, h3⟩ => ⟨g, cap, cur, h1, h2, (Below.heap_setCell w p u g (by omega)).trans hh, h3⟩⟩

section
variable {B k : Nat} {w w' : World} {v : Value} {S S' : Nat → Sp}
theorem Gat.start (B : Nat) (w : World) (S : Nat → Sp) : Gat B w (.slice none 0 0) 0 S := ⟨World.ownsRow_nil w B _ 1, fun _ h => absurd h (by omega), fun _ _ _ _ h => absurd h (by omega), fun _ _ h => absurd h (by omega)⟩
theorem Gat.below (h : Gat B w v k S) (hb : Below w.heap.size w w') : Gat B w' v k S := ⟨row_below h.row hb, fun i hi => ⟨row_below (h.own i hi).1 hb, (h.own i hi).2⟩, h.apart, h.nr⟩
theorem Gat.set_ (h : Gat B w v k S) {p : Addr} (hp : p.block < B) (u : Value) : Gat B (w.setCell p u) v k S := ⟨row_set h.row hp u, fun i hi => ⟨row_set (h.own i hi).1 hp u, (h.own i hi).2⟩, h.apart, h.nr⟩
theorem Gat.lower {B' : Nat} (h : Gat B w v k S) (hB : B' ≤ B) : Gat B' w v k S := ⟨h.row.lower hB, fun i hi => ⟨(h.own i hi).1.lower hB, (h.own i hi).2⟩, h.apart, h.nr⟩
theorem Gat.congr (h : Gat B w v k S) (hc : ∀ i, i < k → S i = S' i) : Gat B w v k S' := by
  refine ⟨?_, fun i hi => by rw [← hc i hi]; exact h.own i hi, fun i j a b hi hj => by rw [← hc i hi, ← hc j hj]; exact h.apart i j a b hi hj, fun i a hi => by rw [← hc i hi]; exact h.nr i a hi⟩
  have : (List.range k).map (fun i => (S' i).v) = (List.range k).map (fun i => (S i).v) := List.map_congr_left fun i hi => by rw [hc i (List.mem_range.1 hi)]
  rw [this]
  exact h.row
/-- One more spoke, made since, is laid behind the row. -/
theorem Gat.snoc {wr w2 w3 : World} {v v' : Value} {s : Sp} (h : Gat B wr v k S) (hB : B ≤ wr.heap.size) (hb : Below wr.heap.size wr w2) (hs : w2.ownsRow wr.heap.size 87 2 s.v s.n (flat 2 s.es)) (hl : s.es.length = s.n)
    (hown : w3.ownsRow B 85 1 v' (k + 1) ((List.range k).map (fun i => (S i).v) ++ [s.v])) (hg : w2.grownBy w3 v.ownBlock) (hat : v'.ownBlock = v.ownBlock ∨ v'.ownBlock = some w2.heap.size) :
    Gat B w3 v' (k + 1) (fun i => if i < k then S i else s) := by
  have hvlt := row_lt h.row
  have hsge := row_ge hs (Nat.le_refl _)
  have hslt := row_lt hs
  have hsz := hb.size
  refine ⟨?_, fun i hi => ?_, fun i j a b hi hj hij => ?_, fun i a hi => ?_⟩
  · have e1 : (List.range (k + 1)).map (fun i => (if i < k then S i else s).v) = (List.range k).map (fun i => (S i).v) ++ [s.v] := by
      rw [List.range_succ, List.map_append]
      congr 1
      · exact List.map_congr_left fun i hi => by rw [if_pos (List.mem_range.1 hi)]
      · simp
    rw [e1]
    exact hown
  · by_cases h1 : i < k
    · simp only [if_pos h1]
      exact ⟨row_grown (row_below (h.own i h1).1 hb) hg fun b hb2 e => h.nr i b h1 hb2 e.symm, (h.own i h1).2⟩
    · simp only [if_neg h1]
      exact ⟨(row_grown hs hg fun b hb2 e => by have := hsge b hb2; have := hvlt b e.symm; omega).lower hB, hl⟩
  · by_cases h1 : i < k <;> by_cases h2 : j < k
    · simp only [if_pos h1, if_pos h2]; exact h.apart i j a b h1 h2 hij
    · simp only [if_pos h1, if_neg h2]
      intro ha hb2
      have := row_lt (h.own i h1).1 a ha
      have := hsge b hb2
      omega
    · simp only [if_neg h1, if_pos h2]
      intro ha hb2
      have := row_lt (h.own j h2).1 b hb2
      have := hsge a ha
      omega
    · omega
  · by_cases h1 : i < k
    · simp only [if_pos h1]
      intro ha e
      have h3 := row_lt (h.own i h1).1 a ha
      rcases hat with h4 | h4
      · exact h.nr i a h1 ha (h4.symm.trans e)
      · rw [h4] at e
        injection e with e
        omega
    · simp only [if_neg h1]
      intro ha e
      have h3 := hsge a ha
      have h5 := hslt a ha
      rcases hat with h4 | h4
      · have := hvlt a (h4.symm.trans e)
        omega
      · rw [h4] at e
        injection e with e
        omega
theorem Gat.ownW {N : Nat} (h : Gat B w v N S) : ∃ A c, v = .slice A N c ∧ N ≤ c ∧ c ≤ 9223372036854775807 ∧ OwnW B w.heap.size w A N S := by
  have hsp : Spk B w N S := by
    refine ⟨fun i hi => ?_, fun i hi => ?_, fun i j hi hj hij h1 h2 a b ha hb => ?_⟩
    · obtain ⟨h1, h2⟩ := h.own i hi
      obtain ⟨A, c, he, ho⟩ := own_of_row h2 h1
      have e1 : (S i).A = A := by injection he
      rw [e1]
      exact ho
    · obtain ⟨h1, h2⟩ := h.own i hi
      rcases h1.2 with ⟨hv, hx⟩ | ⟨g, cap, cur, hv, hg, hh, hnc, hcm, hsz, htk⟩
      · injection hv with _ h3 h4
        omega
      · injection hv with _ h3 h4
        unfold maxLen at hcm
        omega
    · have hob : ∀ i (a : Addr), i < N → (S i).n ≠ 0 → (S i).A = some a → (S i).v.ownBlock = some a.block := fun i a hi h1 ha => by
        obtain ⟨h4, h5⟩ := h.own i hi
        rcases h4.2 with ⟨hv, hx⟩ | ⟨g, cap, cur, hv, _⟩
        · exact absurd hx h1
        · have h6 : (S i).A = some ⟨g, 0, none⟩ := by injection hv
          rw [ha] at h6
          injection h6 with h6
          rw [hv, h6]
          rfl
      exact h.apart i j a.block b.block hi hj hij (hob i a hi h1 ha) (hob j b hj h2 hb)
  rcases h.row.2 with ⟨hv, h0⟩ | ⟨g, cap, cur, hv, hg, hh, hnc, hcm, hsz, htk⟩
  · subst h0
    exact ⟨none, 0, hv, Nat.le_refl _, by omega, hsp.ownW (.inl rfl) fun i hi => absurd hi (by omega)⟩
  · refine ⟨_, cap, hv, hnc, by unfold maxLen at hcm; omega, hsp.ownW (.inr ⟨g, 0, rfl, (Array.getElem?_eq_some_iff.1 hh).1, hg, fun o => frozen_of_heap hh, fun i hi => ?_⟩) fun i hi h0 a b ha hb => ?_⟩
    · rw [cell_of_heap hh, Nat.zero_add]
      have h3 : ((List.range N).map fun i => (S i).v)[i]? = some (S i).v := by
        rw [List.getElem?_map, List.getElem?_range hi]
        rfl
      rw [← htk, List.getElem?_take, if_pos (by omega)] at h3
      simpa using h3
    · injection ha with ha
      subst ha
      obtain ⟨h4, h5⟩ := h.own i hi
      rcases h4.2 with ⟨hv2, hx⟩ | ⟨g2, cap2, cur2, hv2, _⟩
      · exact absurd hx h0
      · have h6 : (S i).A = some ⟨g2, 0, none⟩ := by injection hv2
        rw [hb] at h6
        injection h6 with h6
        subst h6
        have h7 := h.nr i g2 hi (by rw [hv2]; rfl)
        rw [hv] at h7
        intro e
        exact h7 (by simpa [Value.ownBlock] using e)
end

theorem Gat.own1 {B N c : Nat} {w : World} {A : Option Addr} {S : Nat → Sp} (h : Gat B w (.slice A N c) N S) : OwnW B w.heap.size w A N S ∧ N ≤ c ∧ c ≤ 9223372036854775807 := by
  obtain ⟨A', c', he, h1, h2, h3⟩ := h.ownW
  injection he with e1 _ e2
  subst e1 e2
  exact ⟨h3, h1, h2⟩
theorem one_cell {w : World} {h : Nat} {x : Value} (hc : w.cell? ⟨h, 0, none⟩ = some x) : ∀ j u, [x][j]? = some u → w.cell? ((⟨h, 0, none⟩ : Addr).add j) = some u := by
  intro j u hj
  match j, hj with
  | 0, hj =>
    simp at hj
    subst hj
    simpa [Addr.add] using hc

theorem step_append_own {P : Program} (w : World) {ops : Array Oper} {o : Oper} {a : Act} {K' : Act → World → Prop} {Q : Exit → Act → World → Prop} {E : Prop} (hgd : o.guard = none) (s x : Operand) (t : TypeId)
    (ho : o.op = .call { callee := .builtin .append, args := #[s, x], argTypes := #[t, t] })
    (base : Nat) (e : TypeId) (i : TypeInfo) (z : Value) (size bytes : Nat) (ht : P.underlying t = some (.slice e)) (hi : P.info? e = some i) (hz : i.zero = some z)
    (hsize : i.size = size) (hby : i.bytes = bytes) (hzs : z.cells.size = size) (hsz : 0 < size)
    (v : Value) (n : Nat) (xs : List Value) (hs : a.eval s = v) (hown : w.ownsRow base e size v n xs)
    (ad : Addr) (m c : Nat) (news : List Value) (hx : a.eval x = .slice (some ad) m c) (hl : news.length = m * size) (hnews : ∀ j u, news[j]? = some u → w.cell? (ad.add j) = some u) (h1 : ∀ u ∈ news, u.oneCell' = true)
    (h63 : n + m ≤ maxLen) (hbytes : (n + m) * bytes ≤ 140737488355328) (hbase : base ≤ w.heap.size)
    (h : ∀ v' w', w'.ownsRow base e size v' (n + m) (xs ++ news) → w.grownBy w' v.ownBlock → (v'.ownBlock = v.ownBlock ∨ v'.ownBlock = some w.heap.size) → K' (a.put o.dst v') w') :
    if Region.wanted o (yielded ops a.tmps) = true then Oper.wp P o a w K' Q else E := by
  have hw : Region.wanted o (yielded ops a.tmps) = true := by simp [Region.wanted, hgd]
  rw [if_pos hw]
  obtain ⟨v', w', hr, h2, h3, _, h5⟩ := run_append_own_at (P := P) w base t o.type e i z size bytes ht hi hz hsize hby hzs hsz v n xs hown ad m c news hl hnews h1 h63 hbytes hbase
  unfold Oper.wp execOp
  simp only [ho, resolve, invoke, builtin, Sem.run_bind, Sem.run_pure, Result.andThen_ok, List.map_toArray, List.map_cons, List.map_nil, hs, hx, hr]
  exact h v' w' h2 h3 h5
theorem row_one {base : Nat} {w : World} {e : TypeId} {K n : Nat} {v : Value} {xs : List Value} (h : w.ownsRow base e K v n xs) : ∀ u ∈ [v], u.oneCell' = true := by
  intro u hu
  obtain rfl : u = v := by simpa using hu
  rcases h.2 with ⟨rfl, _⟩ | ⟨g, cap, cur, rfl, _⟩ <;> rfl
theorem slice_of_row {base : Nat} {w : World} {e : TypeId} {K n : Nat} {v : Value} {xs : List Value} (h : w.ownsRow base e K v n xs) : ∃ A c, v = .slice A n c ∧ n ≤ c ∧ c ≤ 9223372036854775807 := by
  rcases h.2 with ⟨rfl, rfl⟩ | ⟨g, cap, cur, rfl, hg, hh, hnc, hcm, _⟩
  · exact ⟨none, 0, rfl, Nat.le_refl _, by omega⟩
  · exact ⟨_, cap, rfl, hnc, by unfold maxLen at hcm; omega⟩
theorem cell_alloc {w : World} {a : Addr} {v : Value} (h : w.cell? a = some v) (ob : Obj) : (w.alloc ob).cell? a = some v :=
  (World.cell?_of_block (w := w) (w' := w.alloc ob) (a := a) (Below.heap_alloc w ob a.block (lt_of_cell h))).trans h
theorem rowE (w : World) (t : TypeId) (K : Nat) : (w.alloc (.cells #[] t)).ownsRow w.heap.size t K (.slice (some ⟨w.heap.size, 0, none⟩) 0 0) 0 (flat K []) :=
  ⟨by simp [flat], .inr ⟨w.heap.size, 0, #[], rfl, Nat.le_refl _, heap_alloc_new w _, Nat.le_refl _, Nat.zero_le _, by simp, by simp [flat]⟩⟩
theorem one_cell2 (w : World) (o : Obj) (x : Value) (t : TypeId) : ((w.alloc o).alloc (.cells #[x] t)).cell? ⟨w.heap.size + 1, 0, none⟩ = some x := by
  have h := heap_alloc_new (w.alloc o) (.cells #[x] t)
  have e : (w.alloc o).heap.size = w.heap.size + 1 := by simp
  rw [e] at h
  rw [cell_of_heap h]
  rfl
theorem copyPin_info : (Tryz.prog.info? 87).map (fun i => (i.zero, i.size, i.bytes)) = some (some (.agg #[.int .i64 0, .int .i64 0]), 2, 16) := by kernel_rfl
end Go.Proofs.YtjlmcppkafjniaaGreat
