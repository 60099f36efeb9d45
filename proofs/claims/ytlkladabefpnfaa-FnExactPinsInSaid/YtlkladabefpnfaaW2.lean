/-
  Wheels that a call gathers spoke by spoke: contracts of the two functions that copy a wheel. No conditions beyond those stated.
-/
import Derived.Test.YtlkladabefpnfaaW1
import Derived.Test.YtlkladabefpnfaaApp
import Derived.Test.YtlkladabefpnfaaCo
import Derived.Test.YtlkladabefpnfaaCu
namespace Go.Proofs.Ytlkladabefpnfaa
open Go.RowKit

/-- A row of k slices of pins, all of the call's own, each in a block by itself. -/
structure Gat (B : Nat) (w : World) (v : Value) (k : Nat) (S : Nat → Sp) : Prop where
  row : w.ownsRow B 24 1 v k ((List.range k).map fun i => (S i).v)
  own : ∀ i, i < k → w.ownsRow B 42 2 (S i).v (S i).n (flat 2 (S i).es) ∧ (S i).es.length = (S i).n
  apart : ∀ i j a b, i < k → j < k → i ≠ j → (S i).v.ownBlock = some a → (S j).v.ownBlock = some b → a ≠ b
  nr : ∀ i a, i < k → (S i).v.ownBlock = some a → v.ownBlock ≠ some a

theorem row_lt {base : Nat} {w : World} {e : TypeId} {K n : Nat} {v : Value} {xs : List Value} (h : w.ownsRow base e K v n xs) : ∀ k, v.ownBlock = some k → k < w.heap.size := by
  intro k hk
  rcases h.2 with ⟨rfl, _⟩ | ⟨g, cap, cur, rfl, hg, hh, _⟩
  · simp [Value.ownBlock] at hk
  · have : g = k := by simpa [Value.ownBlock] using hk
    subst this
    exact (Array.getElem?_eq_some_iff.1 hh).1
theorem row_grown {base : Nat} {w w' : World} {e : TypeId} {K n : Nat} {v : Value} {xs : List Value} {row : Option Nat} (h : w.ownsRow base e K v n xs) (hg : w.grownBy w' row) (hne : ∀ k, v.ownBlock = some k → some k ≠ row) : w'.ownsRow base e K v n xs :=
  ⟨h.1, h.2.imp id fun ⟨g, cap, cur, h1, h2, hh, h3⟩ => ⟨g, cap, cur, h1, h2, (hg.block g (Array.getElem?_eq_some_iff.1 hh).1 (hne g (by subst h1; rfl))).trans hh, h3⟩⟩
theorem row_set {base : Nat} {w : World} {e : TypeId} {K n : Nat} {v : Value} {xs : List Value} (h : w.ownsRow base e K v n xs) {p : Addr} (hp : p.block < base) (u : Value) : (w.setCell p u).ownsRow base e K v n xs :=
  ⟨h.1, h.2.imp id fun ⟨g, cap, cur, h1, h2, hh, h3⟩ => ⟨g, cap, cur, h1, h2, (Below.heap_setCell w p u g (by omega)).trans hh, h3⟩⟩

section
variable {B k : Nat} {w w' : World} {v : Value} {S S' : Nat → Sp}
theorem Gat.start (B : Nat) (w : World) (S : Nat → Sp) : Gat B w (.slice none 0 0) 0 S := ⟨World.ownsRow_nil w B _ 1, fun _ h => absurd h (by omega), fun _ _ _ _ h => absurd h (by omega), fun _ _ h => absurd h (by omega)⟩
theorem Gat.below (h : Gat B w v k S) (hb : Below w.heap.size w w') : Gat B w' v k S := ⟨row_below h.row hb, fun i hi => ⟨row_below (h.own i hi).1 hb, (h.own i hi).2⟩, h.apart, h.nr⟩
theorem Gat.set_ (h : Gat B w v k S) {p : Addr} (hp : p.block < B) (u : Value) : Gat B (w.setCell p u) v k S := ⟨row_set h.row hp u, fun i hi => ⟨row_set (h.own i hi).1 hp u, (h.own i hi).2⟩, h.apart, h.nr⟩
theorem Gat.lower {B' : Nat} (h : Gat B w v k S) (hB : B' ≤ B) : Gat B' w v k S := ⟨h.row.lower hB, fun i hi => ⟨(h.own i hi).1.lower hB, (h.own i hi).2⟩, h.apart, h.nr⟩
theorem Gat.congr (h : Gat B w v k S) (hc : ∀ i, i < k → S i = S' i) : Gat B w v k S' := by
  refine ⟨?_, fun i hi => by rw [← hc i hi]; exact h.own i hi, fun i j a b hi hj => by rw [← hc i hi, ← hc j hj]; exact h.apart i j a b hi hj, fun i a hi => by rw [← hc i hi]; exact h.nr i a hi⟩
  have : (List.range k).map (fun i => (S' i).v) = (List.range k).map (fun i => (S i).v) := List.map_congr_left fun i hi => by rw [hc i (List.mem_range.1 hi)]
  rw [this]
  exact h.row
/-- One more spoke, made since, is laid behind the row. -/
theorem Gat.snoc {wr w2 w3 : World} {v v' : Value} {s : Sp} (h : Gat B wr v k S) (hB : B ≤ wr.heap.size) (hb : Below wr.heap.size wr w2) (hs : w2.ownsRow wr.heap.size 42 2 s.v s.n (flat 2 s.es)) (hl : s.es.length = s.n)
    (hown : w3.ownsRow B 24 1 v' (k + 1) ((List.range k).map (fun i => (S i).v) ++ [s.v])) (hg : w2.grownBy w3 v.ownBlock) (hat : v'.ownBlock = v.ownBlock ∨ v'.ownBlock = some w2.heap.size) :
    Gat B w3 v' (k + 1) (fun i => if i < k then S i else s) := by
  have hvlt := row_lt h.row
  have hsge := row_ge hs (Nat.le_refl _)
  have hslt := row_lt hs
  have hsz := hb.size
  refine ⟨?_, fun i hi => ?_, fun i j a b hi hj hij => ?_, fun i a hi => ?_⟩
  · have e1 : (List.range (k + 1)).map (fun i => (if i < k then S i else s).v) = (List.range k).map (fun i => (S i).v) ++ [s.v] := by
      rw [List.range_succ, List.map_append]
      congr 1
      · exact List.map_congr_left fun i hi => by rw [if_pos (List.mem_range.1 hi)]
      · simp
    rw [e1]
    exact hown
  · by_cases h1 : i < k
    · simp only [if_pos h1]
      exact ⟨row_grown (row_below (h.own i h1).1 hb) hg fun b hb2 e => h.nr i b h1 hb2 e.symm, (h.own i h1).2⟩
    · simp only [if_neg h1]
      exact ⟨(row_grown hs hg fun b hb2 e => by have := hsge b hb2; have := hvlt b e.symm; omega).lower hB, hl⟩
  · by_cases h1 : i < k <;> by_cases h2 : j < k
    · simp only [if_pos h1, if_pos h2]; exact h.apart i j a b h1 h2 hij
    · simp only [if_pos h1, if_neg h2]
      intro ha hb2
      have := row_lt (h.own i h1).1 a ha
      have := hsge b hb2
      omega
    · simp only [if_neg h1, if_pos h2]
      intro ha hb2
      have := row_lt (h.own j h2).1 b hb2
      have := hsge a ha
      omega
    · omega
  · by_cases h1 : i < k
    · simp only [if_pos h1]
      intro ha e
      have h3 := row_lt (h.own i h1).1 a ha
      rcases hat with h4 | h4
      · exact h.nr i a h1 ha (h4.symm.trans e)
      · rw [h4] at e
        injection e with e
        omega
    · simp only [if_neg h1]
      intro ha e
      have h3 := hsge a ha
      have h5 := hslt a ha
      rcases hat with h4 | h4
      · have := hvlt a (h4.symm.trans e)
        omega
      · rw [h4] at e
        injection e with e
        omega
theorem Gat.ownW {N : Nat} (h : Gat B w v N S) : ∃ A c, v = .slice A N c ∧ N ≤ c ∧ c ≤ 9223372036854775807 ∧ OwnW B w.heap.size w A N S := by
  have hsp : Spk B w N S := by
    refine ⟨fun i hi => ?_, fun i hi => ?_, fun i j hi hj hij h1 h2 a b ha hb => ?_⟩
    · obtain ⟨h1, h2⟩ := h.own i hi
      obtain ⟨A, c, he, ho⟩ := own_of_row h2 h1
      have e1 : (S i).A = A := by injection he
      rw [e1]
      exact ho
    · obtain ⟨h1, h2⟩ := h.own i hi
      rcases h1.2 with ⟨hv, hx⟩ | ⟨g, cap, cur, hv, hg, hh, hnc, hcm, hsz, htk⟩
      · injection hv with _ h3 h4
        omega
      · injection hv with _ h3 h4
        unfold maxLen at hcm
        omega
    · have hob : ∀ i (a : Addr), i < N → (S i).n ≠ 0 → (S i).A = some a → (S i).v.ownBlock = some a.block := fun i a hi h1 ha => by
        obtain ⟨h4, h5⟩ := h.own i hi
        rcases h4.2 with ⟨hv, hx⟩ | ⟨g, cap, cur, hv, _⟩
        · exact absurd hx h1
        · have h6 : (S i).A = some ⟨g, 0, none⟩ := by injection hv
          rw [ha] at h6
          injection h6 with h6
          rw [hv, h6]
          rfl
      exact h.apart i j a.block b.block hi hj hij (hob i a hi h1 ha) (hob j b hj h2 hb)
  rcases h.row.2 with ⟨hv, h0⟩ | ⟨g, cap, cur, hv, hg, hh, hnc, hcm, hsz, htk⟩
  · subst h0
    exact ⟨none, 0, hv, Nat.le_refl _, by omega, hsp.ownW (.inl rfl) fun i hi => absurd hi (by omega)⟩
  · refine ⟨_, cap, hv, hnc, by unfold maxLen at hcm; omega, hsp.ownW (.inr ⟨g, 0, rfl, (Array.getElem?_eq_some_iff.1 hh).1, hg, fun o => frozen_of_heap hh, fun i hi => ?_⟩) fun i hi h0 a b ha hb => ?_⟩
    · rw [cell_of_heap hh, Nat.zero_add]
      have h3 : ((List.range N).map fun i => (S i).v)[i]? = some (S i).v := by
        rw [List.getElem?_map, List.getElem?_range hi]
        rfl
      rw [← htk, List.getElem?_take, if_pos (by omega)] at h3
      simpa using h3
    · injection ha with ha
      subst ha
      obtain ⟨h4, h5⟩ := h.own i hi
      rcases h4.2 with ⟨hv2, hx⟩ | ⟨g2, cap2, cur2, hv2, _⟩
      · exact absurd hx h0
      · have h6 : (S i).A = some ⟨g2, 0, none⟩ := by injection hv2
        rw [hb] at h6
        injection h6 with h6
        subst h6
        have h7 := h.nr i g2 hi (by rw [hv2]; rfl)
        rw [hv] at h7
        intro e
        exact h7 (by simpa [Value.ownBlock] using e)
end

theorem Gat.own1 {B N c : Nat} {w : World} {A : Option Addr} {S : Nat → Sp} (h : Gat B w (.slice A N c) N S) : OwnW B w.heap.size w A N S ∧ N ≤ c ∧ c ≤ 9223372036854775807 := by
  obtain ⟨A', c', he, h1, h2, h3⟩ := h.ownW
  injection he with e1 _ e2
  subst e1 e2
  exact ⟨h3, h1, h2⟩
theorem one_cell {w : World} {h : Nat} {x : Value} (hc : w.cell? ⟨h, 0, none⟩ = some x) : ∀ j u, [x][j]? = some u → w.cell? ((⟨h, 0, none⟩ : Addr).add j) = some u := by
  intro j u hj
  match j, hj with
  | 0, hj =>
    simp at hj
    subst hj
    simpa [Addr.add] using hc

theorem step_append_own {P : Program} (w : World) {ops : Array Oper} {o : Oper} {a : Act} {K' : Act → World → Prop} {Q : Exit → Act → World → Prop} {E : Prop} (hgd : o.guard = none) (s x : Operand) (t : TypeId)
    (ho : o.op = .call { callee := .builtin .append, args := #[s, x], argTypes := #[t, t] })
    (base : Nat) (e : TypeId) (i : TypeInfo) (z : Value) (size bytes : Nat) (ht : P.underlying t = some (.slice e)) (hi : P.info? e = some i) (hz : i.zero = some z)
    (hsize : i.size = size) (hby : i.bytes = bytes) (hzs : z.cells.size = size) (hsz : 0 < size)
    (v : Value) (n : Nat) (xs : List Value) (hs : a.eval s = v) (hown : w.ownsRow base e size v n xs)
    (ad : Addr) (m c : Nat) (news : List Value) (hx : a.eval x = .slice (some ad) m c) (hl : news.length = m * size) (hnews : ∀ j u, news[j]? = some u → w.cell? (ad.add j) = some u) (h1 : ∀ u ∈ news, u.oneCell' = true)
    (h63 : n + m ≤ maxLen) (hbytes : (n + m) * bytes ≤ 140737488355328) (hbase : base ≤ w.heap.size)
    (h : ∀ v' w', w'.ownsRow base e size v' (n + m) (xs ++ news) → w.grownBy w' v.ownBlock → (v'.ownBlock = v.ownBlock ∨ v'.ownBlock = some w.heap.size) → K' (a.put o.dst v') w') :
    if Region.wanted o (yielded ops a.tmps) = true then Oper.wp P o a w K' Q else E := by
  have hw : Region.wanted o (yielded ops a.tmps) = true := by simp [Region.wanted, hgd]
  rw [if_pos hw]
  obtain ⟨v', w', hr, h2, h3, _, h5⟩ := run_append_own_at (P := P) w base t o.type e i z size bytes ht hi hz hsize hby hzs hsz v n xs hown ad m c news hl hnews h1 h63 hbytes hbase
  unfold Oper.wp execOp
  simp only [ho, resolve, invoke, builtin, Sem.run_bind, Sem.run_pure, Result.andThen_ok, List.map_toArray, List.map_cons, List.map_nil, hs, hx, hr]
  exact h v' w' h2 h3 h5
theorem row_one {base : Nat} {w : World} {e : TypeId} {K n : Nat} {v : Value} {xs : List Value} (h : w.ownsRow base e K v n xs) : ∀ u ∈ [v], u.oneCell' = true := by
  intro u hu
  obtain rfl : u = v := by simpa using hu
  rcases h.2 with ⟨rfl, _⟩ | ⟨g, cap, cur, rfl, _⟩ <;> rfl
theorem slice_of_row {base : Nat} {w : World} {e : TypeId} {K n : Nat} {v : Value} {xs : List Value} (h : w.ownsRow base e K v n xs) : ∃ A c, v = .slice A n c ∧ n ≤ c ∧ c ≤ 9223372036854775807 := by
  rcases h.2 with ⟨rfl, rfl⟩ | ⟨g, cap, cur, rfl, hg, hh, hnc, hcm, _⟩
  · exact ⟨none, 0, rfl, Nat.le_refl _, by omega⟩
  · exact ⟨_, cap, rfl, hnc, by unfold maxLen at hcm; omega⟩
theorem cell_alloc {w : World} {a : Addr} {v : Value} (h : w.cell? a = some v) (ob : Obj) : (w.alloc ob).cell? a = some v :=
  (World.cell?_of_block (w := w) (w' := w.alloc ob) (a := a) (Below.heap_alloc w ob a.block (lt_of_cell h))).trans h
theorem rowE (w : World) (t : TypeId) (K : Nat) : (w.alloc (.cells #[] t)).ownsRow w.heap.size t K (.slice (some ⟨w.heap.size, 0, none⟩) 0 0) 0 (flat K []) :=
  ⟨by simp [flat], .inr ⟨w.heap.size, 0, #[], rfl, Nat.le_refl _, heap_alloc_new w _, Nat.le_refl _, Nat.zero_le _, by simp, by simp [flat]⟩⟩
theorem one_cell2 (w : World) (o : Obj) (x : Value) (t : TypeId) : ((w.alloc o).alloc (.cells #[x] t)).cell? ⟨w.heap.size + 1, 0, none⟩ = some x := by
  have h := heap_alloc_new (w.alloc o) (.cells #[x] t)
  have e : (w.alloc o).heap.size = w.heap.size + 1 := by simp
  rw [e] at h
  rw [cell_of_heap h]
  rfl
theorem copyPin_info : (Try.prog.info? 42).map (fun i => (i.zero, i.size, i.bytes)) = some (some (.agg #[.int .i64 0, .int .i64 0]), 2, 16) := by kernel_rfl
end Go.Proofs.Ytlkladabefpnfaa
