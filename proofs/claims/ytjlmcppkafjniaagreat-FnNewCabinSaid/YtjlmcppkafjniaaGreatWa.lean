/-
  All pins of a wheel, spoke by spoke: the contract of the reference's l9All; what a good wheel is.
-/
import Derived.Test.YtjlmcppkafjniaaGreatCo
import Derived.Test.YtjlmcppkafjniaaGreatQa
import Derived.Test.YtjlmcppkafjniaaGreatSl
namespace Go.Proofs.YtjlmcppkafjniaaGreat
open Go.RowKit

/-- A row of k slices of pins, all of the call's own, each in a block by itself. -/
structure Gat (B : Nat) (w : World) (v : Value) (k : Nat) (S : Nat → Sp) : Prop where
  row : w.ownsRow B 85 1 v k ((List.range k).map fun i => (S i).v)
  own : ∀ i, i < k → w.ownsRow B 87 2 (S i).v (S i).n (flat 2 (S i).es) ∧ (S i).es.length = (S i).n
  apart : ∀ i j a b, i < k → j < k → i ≠ j → (S i).v.ownBlock = some a → (S j).v.ownBlock = some b → a ≠ b
  nr : ∀ i a, i < k → (S i).v.ownBlock = some a → v.ownBlock ≠ some a

theorem row_lt {base : Nat} {w : World} {e : TypeId} {K n : Nat} {v : Value} {xs : List Value} (h : w.ownsRow base e K v n xs) : ∀ k, v.ownBlock = some k → k < w.heap.size := by
  intro k hk
  rcases h.2 with ⟨rfl, _⟩ | ⟨g, cap, cur, rfl, hg, hh, _⟩
  · simp [Value.ownBlock] at hk
  · have : g = k := by simpa [Value.ownBlock] using hk
    subst this
    exact (Array.getElem?_eq_some_iff.1 hh).1
theorem row_grown {base : Nat} {w w' : World} {e : TypeId} {K n : Nat} {v : Value} {xs : List Value} {row : Option Nat} (h : w.ownsRow base e K v n xs) (hg : w.grownBy w' row) (hne : ∀ k, v.ownBlock = some k → some k ≠ row) : w'.ownsRow base e K v n xs :=
  ⟨h.1, h.2.imp id fun ⟨g, cap, cur, h1, h2, hh, h3⟩ => ⟨g, cap, cur, h1, h2, (hg.block g (Array.getElem?_eq_some_iff.1 hh).1 (hne g (by subst h1; rfl))).trans hh, h3⟩⟩
theorem row_set {base : Nat} {w : World} {e : TypeId} {K n : Nat} {v : Value} {xs : List Value} (h : w.ownsRow base e K v n xs) {p : Addr} (hp : p.block < base) (u : Value) : (w.setCell p u).ownsRow base e K v n xs :=
  ⟨h.1, h.2.imp id fun ⟨g, cap, cur, h1, h2, hh, h3⟩ => ⟨g, cap, cur, h1, h2, (Below.heap_setCell w p u g (by omega)).trans hh, h3⟩⟩

section
variable {B k : Nat} {w w' : World} {v : Value} {S S' : Nat → Sp}
theorem Gat.start (B : Nat) (w : World) (S : Nat → Sp) : Gat B w (.slice none 0 0) 0 S := ⟨World.ownsRow_nil w B _ 1, fun _ h => absurd h (by omega), fun _ _ _ _ h => absurd h (by omega), fun _ _ h => absurd h (by omega)⟩
theorem Gat.below (h : Gat B w v k S) (hb : Below w.heap.size w w') : Gat B w' v k S := ⟨row_below h.row hb, fun i hi => ⟨row_below (h.own i hi).1 hb, (h.own i hi).2⟩, h.apart, h.nr⟩
theorem Gat.set_ (h : Gat B w v k S) {p : Addr} (hp : p.block < B) (u : Value) : Gat B (w.setCell p u) v k S := ⟨row_set h.row hp u, fun i hi => ⟨row_set (h.own i hi).1 hp u, (h.own i hi).2⟩, h.apart, h.nr⟩
theorem Gat.lower {B' : Nat} (h : Gat B w v k S) (hB : B' ≤ B) : Gat B' w v k S := ⟨h.row.lower hB, fun i hi => ⟨(h.own i hi).1.lower hB, (h.own i hi).2⟩, h.apart, h.nr⟩
theorem Gat.congr (h : Gat B w v k S) (hc : ∀ i, i < k → S i = S' i) : Gat B w v k S' := by
  refine ⟨?_, fun i hi => by rw [← hc i hi]; exact h.own i hi, fun i j a b hi hj => by rw [← hc i hi, ← hc j hj]; exact h.apart i j a b hi hj, fun i a hi => by rw [← hc i hi]; exact h.nr i a hi⟩
  have : (List.range k).map (fun i => (S' i).v) = (List.range k).map (fun i => (S i).v) := List.map_congr_left fun i hi => by rw [hc i (List.mem_range.1 hi)]
  rw [this]
  exact h.row
/-- One more spoke, made since, is laid behind the row. -/
theorem Gat.snoc {wr w2 w3 : World} {v v' : Value} {s : Sp} (h : Gat B wr v k S) (hB : B ≤ wr.heap.size) (hb : Below wr.heap.size wr w2) (hs : w2.ownsRow wr.heap.size 87 2 s.v s.n (flat 2 s.es)) (hl : s.es.length = s.n)
    (hown : w3.ownsRow B 85 1 v' (k + 1) ((List.range k).map (fun i => (S i).v) ++ [s.v])) (hg : w2.grownBy w3 v.ownBlock) (hat : v'.ownBlock = v.ownBlock ∨ v'.ownBlock = some w2.heap.size) :
    Gat B w3 v' (k + 1) (fun i => if i < k then S i else s) := by
  have hvlt := row_lt h.row
  have hsge := row_ge hs (Nat.le_refl _)
  have hslt := row_lt hs
  have hsz := hb.size
  refine ⟨?_, fun i hi => ?_, fun i j a b hi hj hij => ?_, fun i a hi => ?_⟩
  · have e1 : (List.range (k + 1)).map (fun i => (if i < k then S i else s).v) = (List.range k).map (fun i => (S i).v) ++ [s.v] := by
      rw [List.range_succ, List.map_append]
      congr 1
      · exact List.map_congr_left fun i hi => by rw [if_pos (List.mem_range.1 hi)]
      · simp
    rw [e1]
    exact hown
  · by_cases h1 : i < k
    · simp only [if_pos h1]
      exact ⟨row_grown (row_below (h.own i h1).1 hb) hg fun b hb2 e => h.nr i b h1 hb2 e.symm, (h.own i h1).2⟩
    · simp only [if_neg h1]
      exact ⟨(row_grown hs hg fun b hb2 e => by have := hsge b hb2; have := hvlt b e.symm; omega).lower hB, hl⟩
  · by_cases h1 : i < k <;> by_cases h2 : j < k
    · simp only [if_pos h1, if_pos h2]; exact h.apart i j a b h1 h2 hij
    · simp only [if_pos h1, if_neg h2]
      intro ha hb2
      have := row_lt (h.own i h1).1 a ha
      have := hsge b hb2
      omega
    · simp only [if_neg h1, if_pos h2]
      intro ha hb2
      have := row_lt (h.own j h2).1 b hb2
      have := hsge a ha
      omega
    · omega
  · by_cases h1 : i < k
    · simp only [if_pos h1]
      intro ha e
      have h3 := row_lt (h.own i h1).1 a ha
      rcases hat with h4 | h4
      · exact h.nr i a h1 ha (h4.symm.trans e)
      · rw [h4] at e
        injection e with e
        omega
    · simp only [if_neg h1]
      intro ha e
      have h3 := hsge a ha
      have h5 := hslt a ha
      rcases hat with h4 | h4
      · have := hvlt a (h4.symm.trans e)
        omega
      · rw [h4] at e
        injection e with e
        omega
theorem Gat.ownW {N : Nat} (h : Gat B w v N S) : ∃ A c, v = .slice A N c ∧ N ≤ c ∧ c ≤ 9223372036854775807 ∧ OwnW B w.heap.size w A N S := by
  have hsp : Spk B w N S := by
    refine ⟨fun i hi => ?_, fun i hi => ?_, fun i j hi hj hij h1 h2 a b ha hb => ?_⟩
    · obtain ⟨h1, h2⟩ := h.own i hi
      obtain ⟨A, c, he, ho⟩ := own_of_row h2 h1
      have e1 : (S i).A = A := by injection he
      rw [e1]
      exact ho
    · obtain ⟨h1, h2⟩ := h.own i hi
      rcases h1.2 with ⟨hv, hx⟩ | ⟨g, cap, cur, hv, hg, hh, hnc, hcm, hsz, htk⟩
      · injection hv with _ h3 h4
        omega
      · injection hv with _ h3 h4
        unfold maxLen at hcm
        omega
    · have hob : ∀ i (a : Addr), i < N → (S i).n ≠ 0 → (S i).A = some a → (S i).v.ownBlock = some a.block := fun i a hi h1 ha => by
        obtain ⟨h4, h5⟩ := h.own i hi
        rcases h4.2 with ⟨hv, hx⟩ | ⟨g, cap, cur, hv, _⟩
        · exact absurd hx h1
        · have h6 : (S i).A = some ⟨g, 0, none⟩ := by injection hv
          rw [ha] at h6
          injection h6 with h6
          rw [hv, h6]
          rfl
      exact h.apart i j a.block b.block hi hj hij (hob i a hi h1 ha) (hob j b hj h2 hb)
  rcases h.row.2 with ⟨hv, h0⟩ | ⟨g, cap, cur, hv, hg, hh, hnc, hcm, hsz, htk⟩
  · subst h0
    exact ⟨none, 0, hv, Nat.le_refl _, by omega, hsp.ownW (.inl rfl) fun i hi => absurd hi (by omega)⟩
  · refine ⟨_, cap, hv, hnc, by unfold maxLen at hcm; omega, hsp.ownW (.inr ⟨g, 0, rfl, (Array.getElem?_eq_some_iff.1 hh).1, hg, fun o => frozen_of_heap hh, fun i hi => ?_⟩) fun i hi h0 a b ha hb => ?_⟩
    · rw [cell_of_heap hh, Nat.zero_add]
      have h3 : ((List.range N).map fun i => (S i).v)[i]? = some (S i).v := by
        rw [List.getElem?_map, List.getElem?_range hi]
        rfl
      rw [← htk, List.getElem?_take, if_pos (by omega)] at h3
      simpa using h3
    · injection ha with ha
      subst ha
      obtain ⟨h4, h5⟩ := h.own i hi
      rcases h4.2 with ⟨hv2, hx⟩ | ⟨g2, cap2, cur2, hv2, _⟩
      · exact absurd hx h0
      · have h6 : (S i).A = some ⟨g2, 0, none⟩ := by injection hv2
        rw [hb] at h6
        injection h6 with h6
        subst h6
        have h7 := h.nr i g2 hi (by rw [hv2]; rfl)
        rw [hv] at h7
        intro e
        exact h7 (by simpa [Value.ownBlock] using e)
end

theorem Gat.own1 {B N c : Nat} {w : World} {A : Option Addr} {S : Nat → Sp} (h : Gat B w (.slice A N c) N S) : OwnW B w.heap.size w A N S ∧ N ≤ c ∧ c ≤ 9223372036854775807 := by
  obtain ⟨A', c', he, h1, h2, h3⟩ := h.ownW
  injection he with e1 _ e2
  subst e1 e2
  exact ⟨h3, h1, h2⟩
theorem one_cell {w : World} {h : Nat} {x : Value} (hc : w.cell? ⟨h, 0, none⟩ = some x) : ∀ j u, [x][j]? = some u → w.cell? ((⟨h, 0, none⟩ : Addr).add j) = some u := by
  intro j u hj
  match j, hj with
  | 0, hj =>
    simp at hj
    subst hj
    simpa [Addr.add] using hc

theorem step_append_own {P : Program} (w : World) {ops : Array Oper} {o : Oper} {a : Act} {K' : Act → World → Prop} {Q : Exit → Act → World → Prop} {E : Prop} (hgd : o.guard = none) (s x : Operand) (t : TypeId)
    (ho : o.op = .call { callee := .builtin .append, args := #[s, x], argTypes := #[t, t] })
    (base : Nat) (e : TypeId) (i : TypeInfo) (z : Value) (size bytes : Nat) (ht : P.underlying t = some (.slice e)) (hi : P.info? e = some i) (hz : i.zero = some z)
    (hsize : i.size = size) (hby : i.bytes = bytes) (hzs : z.cells.size = size) (hsz : 0 < size)
    (v : Value) (n : Nat) (xs : List Value) (hs : a.eval s = v) (hown : w.ownsRow base e size v n xs)
    (ad : Addr) (m c : Nat) (news : List Value) (hx : a.eval x = .slice (some ad) m c) (hl : news.length = m * size) (hnews : ∀ j u, news[j]? = some u → w.cell? (ad.add j) = some u) (h1 : ∀ u ∈ news, u.oneCell' = true)
    (h63 : n + m ≤ maxLen) (hbytes : (n + m) * bytes ≤ 140737488355328) (hbase : base ≤ w.heap.size)
    (h : ∀ v' w', w'.ownsRow base e size v' (n + m) (xs ++ news) → w.grownBy w' v.ownBlock → (v'.ownBlock = v.ownBlock ∨ v'.ownBlock = some w.heap.size) → K' (a.put o.dst v') w') :
    if Region.wanted o (yielded ops a.tmps) = true then Oper.wp P o a w K' Q else E := by
  have hw : Region.wanted o (yielded ops a.tmps) = true := by simp [Region.wanted, hgd]
  rw [if_pos hw]
  obtain ⟨v', w', hr, h2, h3, _, h5⟩ := run_append_own_at (P := P) w base t o.type e i z size bytes ht hi hz hsize hby hzs hsz v n xs hown ad m c news hl hnews h1 h63 hbytes hbase
  unfold Oper.wp execOp
  simp only [ho, resolve, invoke, builtin, Sem.run_bind, Sem.run_pure, Result.andThen_ok, List.map_toArray, List.map_cons, List.map_nil, hs, hx, hr]
  exact h v' w' h2 h3 h5
theorem row_one {base : Nat} {w : World} {e : TypeId} {K n : Nat} {v : Value} {xs : List Value} (h : w.ownsRow base e K v n xs) : ∀ u ∈ [v], u.oneCell' = true := by
  intro u hu
  obtain rfl : u = v := by simpa using hu
  rcases h.2 with ⟨rfl, _⟩ | ⟨g, cap, cur, rfl, _⟩ <;> rfl
theorem slice_of_row {base : Nat} {w : World} {e : TypeId} {K n : Nat} {v : Value} {xs : List Value} (h : w.ownsRow base e K v n xs) : ∃ A c, v = .slice A n c ∧ n ≤ c ∧ c ≤ 9223372036854775807 := by
  rcases h.2 with ⟨rfl, rfl⟩ | ⟨g, cap, cur, rfl, hg, hh, hnc, hcm, _⟩
  · exact ⟨none, 0, rfl, Nat.le_refl _, by omega⟩
  · exact ⟨_, cap, rfl, hnc, by unfold maxLen at hcm; omega⟩
theorem cell_alloc {w : World} {a : Addr} {v : Value} (h : w.cell? a = some v) (ob : Obj) : (w.alloc ob).cell? a = some v :=
  (World.cell?_of_block (w := w) (w' := w.alloc ob) (a := a) (Below.heap_alloc w ob a.block (lt_of_cell h))).trans h
theorem rowE (w : World) (t : TypeId) (K : Nat) : (w.alloc (.cells #[] t)).ownsRow w.heap.size t K (.slice (some ⟨w.heap.size, 0, none⟩) 0 0) 0 (flat K []) :=
  ⟨by simp [flat], .inr ⟨w.heap.size, 0, #[], rfl, Nat.le_refl _, heap_alloc_new w _, Nat.le_refl _, Nat.zero_le _, by simp, by simp [flat]⟩⟩
theorem one_cell2 (w : World) (o : Obj) (x : Value) (t : TypeId) : ((w.alloc o).alloc (.cells #[x] t)).cell? ⟨w.heap.size + 1, 0, none⟩ = some x := by
  have h := heap_alloc_new (w.alloc o) (.cells #[x] t)
  have e : (w.alloc o).heap.size = w.heap.size + 1 := by simp
  rw [e] at h
  rw [cell_of_heap h]
  rfl
theorem copyPin_info : (Tryz.prog.info? 87).map (fun i => (i.zero, i.size, i.bytes)) = some (some (.agg #[.int .i64 0, .int .i64 0]), 2, 16) := by kernel_rfl
end Go.Proofs.YtjlmcppkafjniaaGreat

namespace Go.Proofs.YtjlmcppkafjniaaGreat
open Go.RowKit

def cmpI (a b : Int) : Int := if a < b then -1 else if b < a then 1 else 0
def cmpP (a b : Nat → Int) : Int := if cmpI (a 0) (b 0) = 0 then cmpI (a 1) (b 1) else cmpI (a 0) (b 0)
/-- The order of pins: by time, then by number. -/
def ltP (a b : Nat → Int) : Prop := a 0 < b 0 ∨ (a 0 = b 0 ∧ a 1 < b 1)
instance (a b : Nat → Int) : Decidable (ltP a b) := by unfold ltP; infer_instance
theorem cmpI_cases (a b : Int) : (a < b ∧ cmpI a b = -1) ∨ (a = b ∧ cmpI a b = 0) ∨ (b < a ∧ cmpI a b = 1) := by
  unfold cmpI
  split
  · exact .inl ⟨by assumption, rfl⟩
  · split
    · exact .inr (.inr ⟨by assumption, rfl⟩)
    · exact .inr (.inl ⟨by omega, rfl⟩)
theorem cmpP_neg {a b : Nat → Int} : cmpP a b < 0 ↔ ltP a b := by
  unfold cmpP ltP
  rcases cmpI_cases (a 0) (b 0) with ⟨h, e⟩ | ⟨h, e⟩ | ⟨h, e⟩ <;> rcases cmpI_cases (a 1) (b 1) with ⟨h2, e2⟩ | ⟨h2, e2⟩ | ⟨h2, e2⟩ <;> rw [e] <;> simp [e2] <;> omega
theorem cmpP_pos {a b : Nat → Int} : 0 < cmpP a b ↔ ltP b a := by
  unfold cmpP ltP
  rcases cmpI_cases (a 0) (b 0) with ⟨h, e⟩ | ⟨h, e⟩ | ⟨h, e⟩ <;> rcases cmpI_cases (a 1) (b 1) with ⟨h2, e2⟩ | ⟨h2, e2⟩ | ⟨h2, e2⟩ <;> rw [e] <;> simp [e2] <;> omega

/-- Elements j and j - 1 change places. -/
def swp (es : List (Nat → Int)) (j : Nat) : List (Nat → Int) := (es.set j (fld es (j - 1))).set (j - 1) (fld es j)
theorem swp_len (es : List (Nat → Int)) (j : Nat) : (swp es j).length = es.length := by simp [swp]
theorem fld_get {es : List (Nat → Int)} {i : Nat} (h : i < es.length) : fld es i = es[i] := by
  funext j
  simp [fld, List.getD_eq_getElem?_getD, List.getElem?_eq_getElem h]
theorem swp_perm {es : List (Nat → Int)} {j : Nat} (h0 : 0 < j) (h : j < es.length) : (swp es j).Perm es := by
  have h1 := @List.set_set_perm _ es j (j - 1) h (by omega)
  unfold swp
  rw [fld_get h, fld_get (show j - 1 < es.length by omega)]
  exact h1
theorem fld_set_same {es : List (Nat → Int)} {i : Nat} {x : Nat → Int} (h : i < es.length) : fld (es.set i x) i = x := by
  funext j
  simp [fld, List.getD_eq_getElem?_getD, h]
theorem fld_set_other {es : List (Nat → Int)} {i k : Nat} {x : Nat → Int} (h : k ≠ i) : fld (es.set i x) k = fld es k := by
  funext j
  simp [fld, List.getD_eq_getElem?_getD, Ne.symm h]
theorem swp_at {es : List (Nat → Int)} {j : Nat} (h0 : 0 < j) (h : j < es.length) : fld (swp es j) j = fld es (j - 1) := by
  unfold swp
  rw [fld_set_other (by omega), fld_set_same h]
theorem swp_pred {es : List (Nat → Int)} {j : Nat} (h : j < es.length) : fld (swp es j) (j - 1) = fld es j := by
  unfold swp
  rw [fld_set_same (by simp; omega)]
theorem swp_other {es : List (Nat → Int)} {j k : Nat} (h1 : k ≠ j) (h2 : k ≠ j - 1) : fld (swp es j) k = fld es k := by
  unfold swp
  rw [fld_set_other h2, fld_set_other h1]
theorem ltP_asymm {a b : Nat → Int} (h : ltP a b) : ¬ ltP b a := fun h2 => by unfold ltP at h h2; omega
theorem ltP_trans_not {a b c : Nat → Int} (h1 : ¬ ltP b a) (h2 : ¬ ltP c b) : ¬ ltP c a := fun h => by unfold ltP at h h1 h2; omega

/-- The first i elements stand in order. -/
def Srt (es : List (Nat → Int)) (i : Nat) : Prop := ∀ q, q + 1 < i → ¬ ltP (fld es (q + 1)) (fld es q)
/-- The first i + 1 elements stand in order but for element j, which may belong further ahead. -/
def Mid (es : List (Nat → Int)) (i j : Nat) : Prop := (∀ q, q + 1 < i + 1 → q + 1 ≠ j → ¬ ltP (fld es (q + 1)) (fld es q)) ∧ (0 < j → j < i → ¬ ltP (fld es (j + 1)) (fld es (j - 1)))
theorem Mid.start {es : List (Nat → Int)} {i : Nat} (h : Srt es i) : Mid es i i := ⟨fun q h1 h2 => h q (by omega), fun _ h => absurd h (by omega)⟩
theorem Mid.stop {es : List (Nat → Int)} {i j : Nat} (h : Mid es i j) (h2 : j = 0 ∨ ¬ ltP (fld es j) (fld es (j - 1))) : Srt es (i + 1) := fun q hq => by
  by_cases h3 : q + 1 = j
  · rcases h2 with h2 | h2
    · omega
    · rw [← h3] at h2
      exact h2
  · exact h.1 q hq h3
theorem Mid.step {es : List (Nat → Int)} {i j : Nat} (h : Mid es i j) (h0 : 0 < j) (hj : j ≤ i) (hi : i < es.length) (hl : ltP (fld es j) (fld es (j - 1))) : Mid (swp es j) i (j - 1) := by
  have hjl : j < es.length := by omega
  refine ⟨fun q hq hne => ?_, fun h1 h2 => ?_⟩
  · by_cases h3 : q + 1 = j
    · rw [h3, swp_at h0 hjl, show q = j - 1 by omega, swp_pred hjl]
      exact ltP_asymm hl
    · by_cases h4 : q = j
      · rw [h4, swp_at h0 hjl, swp_other (by omega) (by omega)]
        exact h.2 h0 (by omega)
      · rw [swp_other (k := q + 1) h3 hne, swp_other (k := q) h4 (by omega)]
        exact h.1 q hq h3
  · rw [show j - 1 + 1 = j by omega, swp_at h0 hjl, swp_other (k := j - 1 - 1) (by omega) (by omega)]
    have h5 := h.1 (j - 1 - 1) (by omega) (by omega)
    rw [show j - 1 - 1 + 1 = j - 1 by omega] at h5
    exact h5
theorem Srt.pair {es : List (Nat → Int)} (h : Srt es es.length) : ∀ a b, a < b → b < es.length → ¬ ltP (fld es b) (fld es a)
  | a, 0, hab, _ => absurd hab (by omega)
  | a, b + 1, hab, hb => by
    rcases Nat.lt_or_ge a b with h1 | h1
    · exact ltP_trans_not (Srt.pair h a b h1 (by omega)) (h b hb)
    · obtain rfl : a = b := by omega
      exact h a hb
/-- Two lists in order, of the same pins, no two of which have one number, are one. -/
theorem srt_uniq {e1 e2 : List (Nat → Int)} (h1 : Srt e1 e1.length) (h2 : Srt e2 e2.length) (hp : e1.Perm e2) (hn : (e1.map fun e => e 1).Nodup) : e1 = e2 := by
  have hne : ∀ a b : Nat → Int, a ∈ e1 → b ∈ e1 → a 1 = b 1 → a = b := fun a b ha hb hab => by
    obtain ⟨i, hi, rfl⟩ := List.mem_iff_getElem.1 ha
    obtain ⟨j, hj, rfl⟩ := List.mem_iff_getElem.1 hb
    unfold List.Nodup at hn
    rw [List.pairwise_iff_getElem] at hn
    rcases Nat.lt_trichotomy i j with h | h | h
    · have := hn i j (by simpa using hi) (by simpa using hj) h
      simp at this
      exact absurd hab this
    · subst h; rfl
    · have := hn j i (by simpa using hj) (by simpa using hi) h
      simp at this
      exact absurd hab.symm this
  have pw : ∀ e : List (Nat → Int), Srt e e.length → e.Pairwise (fun a b => ¬ ltP b a) := fun e h => by
    rw [List.pairwise_iff_getElem]
    intro i j hi hj hij
    have := Srt.pair h i j hij hj
    rw [fld_get hi, fld_get hj] at this
    exact this
  refine List.Perm.eq_of_pairwise (le := fun a b => ¬ ltP b a) (fun a b ha hb hab hba => ?_) (pw e1 h1) (pw e2 h2) hp
  exact hne a b ha (hp.mem_iff.2 hb) (by unfold ltP at hab hba; omega)
end Go.Proofs.YtjlmcppkafjniaaGreat

namespace Go.Proofs.YtjlmcppkafjniaaGreat
open Go.RowKit

def pinR (e : Nat → Int) : Prop := (1 ≤ e 0 ∧ e 0 ≤ 1000008) ∧ (1 ≤ e 1 ∧ e 1 ≤ 999)
set_option maxHeartbeats 1000000 in
theorem cmpInt_any (a b : Int) (w : World) :
    Calls Tryz.prog 104 #[.int .i64 a, .int .i64 b] w fun e w' => e = .returned (.int .i64 (cmpI a b)) ∧ w = w' := by
  rcases cmpI_cases a b with ⟨h, e⟩ | ⟨h, e⟩ | ⟨h, e⟩
  · rw [e]
    have h2 : ¬ b < a := by omega
    have h3 : ¬ a = b := by omega
    clear e
    go_enter Tryz.func104, Tryz.ntmps104
    go_wp2
    go_ret
    exact ⟨rfl, rfl⟩
  · rw [e]
    subst h
    have h2 : ¬ a < a := by omega
    clear e
    go_enter Tryz.func104, Tryz.ntmps104
    go_wp2
    go_ret
    exact ⟨rfl, rfl⟩
  · rw [e]
    have h2 : ¬ a < b := by omega
    have h3 : ¬ a = b := by omega
    clear e
    go_enter Tryz.func104, Tryz.ntmps104
    go_wp2
    go_ret
    exact ⟨rfl, rfl⟩

set_option maxHeartbeats 1000000 in
theorem comparePins_any (a b : Nat → Int) (w : World) :
    Calls Tryz.prog 81 #[.agg #[.int .i64 (a 0), .int .i64 (a 1)], .agg #[.int .i64 (b 0), .int .i64 (b 1)]] w fun e w' => e = .returned (.int .i64 (cmpP a b)) ∧ Below w.heap.size w w' := by
  by_cases h : cmpI (a 0) (b 0) = 0
  · rw [show cmpP a b = cmpI (a 1) (b 1) from if_pos h]
    go_enter Tryz.func81, Tryz.ntmps81
    go_wp2_with (go_at_call 104; refine (cmpInt_any _ _ _).mono ?_; rintro y w9 ⟨rfl, rfl⟩)
    go_ret
    exact ⟨rfl, by (repeat (first | with_reducible exact Below.refl _ _ | with_reducible refine Below.drew ?_ | with_reducible refine below_drewN ?_ _ | (with_reducible refine bel_alloc ?_ ?_ _; (first | omega | (simp; omega) | simp)) | (with_reducible refine bel_set ?_ ?_ _; (first | omega | (simp; omega) | simp)) | (with_reducible refine bel_tr (by assumption) ?_ ?_; (first | omega | (simp; omega) | simp))))⟩
  · rw [show cmpP a b = cmpI (a 0) (b 0) from if_neg h]
    go_enter Tryz.func81, Tryz.ntmps81
    go_wp2_with (go_at_call 104; refine (cmpInt_any _ _ _).mono ?_; rintro y w9 ⟨rfl, rfl⟩)
    go_ret
    exact ⟨rfl, by (repeat (first | with_reducible exact Below.refl _ _ | with_reducible refine Below.drew ?_ | with_reducible refine below_drewN ?_ _ | (with_reducible refine bel_alloc ?_ ?_ _; (first | omega | (simp; omega) | simp)) | (with_reducible refine bel_set ?_ ?_ _; (first | omega | (simp; omega) | simp)) | (with_reducible refine bel_tr (by assumption) ?_ ?_; (first | omega | (simp; omega) | simp))))⟩

set_option maxHeartbeats 1000000 in
theorem l9Less_any (a b : Nat → Int) (w : World) :
    Calls Tryz.prog 114 #[.agg #[.int .i64 (a 0), .int .i64 (a 1)], .agg #[.int .i64 (b 0), .int .i64 (b 1)]] w (TFB (ltP a b) w) := by
  by_cases h1 : a 0 < b 0
  · have HL : Hid (ltP a b) := .inl h1
    go_enter Tryz.func114, Tryz.ntmps114
    go_wp2
    go_ret
    exact .inl ⟨rfl, HL.out, by (repeat (first | with_reducible exact Below.refl _ _ | with_reducible refine Below.drew ?_ | with_reducible refine below_drewN ?_ _ | (with_reducible refine bel_alloc ?_ ?_ _; (first | omega | (simp; omega) | simp)) | (with_reducible refine bel_set ?_ ?_ _; (first | omega | (simp; omega) | simp)) | (with_reducible refine bel_tr (by assumption) ?_ ?_; (first | omega | (simp; omega) | simp))))⟩
  · by_cases h2 : a 0 = b 0
    · by_cases h3 : a 1 < b 1
      · have HL : Hid (ltP a b) := .inr ⟨h2, h3⟩
        go_enter Tryz.func114, Tryz.ntmps114
        go_wp2
        go_ret
        exact .inl ⟨by first | rfl | simp [h3], HL.out, by (repeat (first | with_reducible exact Below.refl _ _ | with_reducible refine Below.drew ?_ | with_reducible refine below_drewN ?_ _ | (with_reducible refine bel_alloc ?_ ?_ _; (first | omega | (simp; omega) | simp)) | (with_reducible refine bel_set ?_ ?_ _; (first | omega | (simp; omega) | simp)) | (with_reducible refine bel_tr (by assumption) ?_ ?_; (first | omega | (simp; omega) | simp))))⟩
      · have HL : Hid (¬ ltP a b) := fun h => by unfold ltP at h; omega
        go_enter Tryz.func114, Tryz.ntmps114
        go_wp2
        go_ret
        exact .inr ⟨by first | rfl | (simp; omega), HL.out, by (repeat (first | with_reducible exact Below.refl _ _ | with_reducible refine Below.drew ?_ | with_reducible refine below_drewN ?_ _ | (with_reducible refine bel_alloc ?_ ?_ _; (first | omega | (simp; omega) | simp)) | (with_reducible refine bel_set ?_ ?_ _; (first | omega | (simp; omega) | simp)) | (with_reducible refine bel_tr (by assumption) ?_ ?_; (first | omega | (simp; omega) | simp))))⟩
    · have HL : Hid (¬ ltP a b) := fun h => by unfold ltP at h; omega
      go_enter Tryz.func114, Tryz.ntmps114
      go_wp2
      go_ret
      exact .inr ⟨rfl, HL.out, by (repeat (first | with_reducible exact Below.refl _ _ | with_reducible refine Below.drew ?_ | with_reducible refine below_drewN ?_ _ | (with_reducible refine bel_alloc ?_ ?_ _; (first | omega | (simp; omega) | simp)) | (with_reducible refine bel_set ?_ ?_ _; (first | omega | (simp; omega) | simp)) | (with_reducible refine bel_tr (by assumption) ?_ ?_; (first | omega | (simp; omega) | simp))))⟩

set_option maxHeartbeats 1000000 in
theorem pinOk_any (e : Nat → Int) (w : World) :
    Calls Tryz.prog 80 #[.agg #[.int .i64 (e 0), .int .i64 (e 1)]] w (TFB (pinR e) w) := by
  unfold pinR
  go_enter Tryz.func80, Tryz.ntmps80
  by_cases h1 : 1 ≤ e 0 ∧ e 0 ≤ 1000008
  · by_cases h2 : 1 ≤ e 1 ∧ e 1 ≤ 999
    · go_wp2_with (go_at_call 76; first | (refine (sy (within_any _ _ _ _) (by assumption)).mono ?_; rintro y w9 ⟨rfl, rfl⟩))
      go_ret
      exact .inl ⟨rfl, ⟨h1, h2⟩, by (repeat (first | with_reducible exact Below.refl _ _ | with_reducible refine Below.drew ?_ | with_reducible refine below_drewN ?_ _ | (with_reducible refine bel_alloc ?_ ?_ _; (first | omega | (simp; omega) | simp)) | (with_reducible refine bel_set ?_ ?_ _; (first | omega | (simp; omega) | simp)) | (with_reducible refine bel_tr (by assumption) ?_ ?_; (first | omega | (simp; omega) | simp))))⟩
    · go_wp2_with (go_at_call 76; first | (refine (sy (within_any _ _ _ _) (by assumption)).mono ?_; rintro y w9 ⟨rfl, rfl⟩) | (refine (sn (within_any _ _ _ _) (by assumption)).mono ?_; rintro y w9 ⟨rfl, rfl⟩))
      go_ret
      exact .inr ⟨rfl, fun h => h2 h.2, by (repeat (first | with_reducible exact Below.refl _ _ | with_reducible refine Below.drew ?_ | with_reducible refine below_drewN ?_ _ | (with_reducible refine bel_alloc ?_ ?_ _; (first | omega | (simp; omega) | simp)) | (with_reducible refine bel_set ?_ ?_ _; (first | omega | (simp; omega) | simp)) | (with_reducible refine bel_tr (by assumption) ?_ ?_; (first | omega | (simp; omega) | simp))))⟩
  · go_wp2_with (go_at_call 76; first | (refine (sn (within_any _ _ _ _) (by assumption)).mono ?_; rintro y w9 ⟨rfl, rfl⟩))
    go_ret
    exact .inr ⟨rfl, fun h => h1 h.1, by (repeat (first | with_reducible exact Below.refl _ _ | with_reducible refine Below.drew ?_ | with_reducible refine below_drewN ?_ _ | (with_reducible refine bel_alloc ?_ ?_ _; (first | omega | (simp; omega) | simp)) | (with_reducible refine bel_set ?_ ?_ _; (first | omega | (simp; omega) | simp)) | (with_reducible refine bel_tr (by assumption) ?_ ?_; (first | omega | (simp; omega) | simp))))⟩
end Go.Proofs.YtjlmcppkafjniaaGreat

namespace Go.Proofs.YtjlmcppkafjniaaGreat
open Go.RowKit

/-- The pins of the first k spokes, one behind the other. -/
def allS (S : Nat → Sp) : Nat → List (Nat → Int)
  | 0 => []
  | k + 1 => allS S k ++ (S k).es
theorem allS_len {S : Nat → Sp} : ∀ {N : Nat}, (∀ i, i < N → (S i).es.length = (S i).n) → (allS S N).length = tot S N
  | 0, _ => rfl
  | N + 1, h => by
    simp only [allS, tot, List.length_append]
    rw [allS_len fun i hi => h i (by omega), h N (by omega)]
theorem fld_append_left {es es2 : List (Nat → Int)} {i : Nat} (h : i < es.length) : fld (es ++ es2) i = fld es i := by
  funext j
  unfold fld
  rw [List.getD_eq_getElem?_getD, List.getD_eq_getElem?_getD, List.getElem?_append_left h]
theorem fld_append_right {es es2 : List (Nat → Int)} {i : Nat} : fld (es ++ es2) (es.length + i) = fld es2 i := by
  funext j
  unfold fld
  rw [List.getD_eq_getElem?_getD, List.getD_eq_getElem?_getD, List.getElem?_append_right (by omega), Nat.add_sub_cancel_left]
theorem allS_get {S : Nat → Sp} : ∀ {N k i : Nat}, (∀ i, i < N → (S i).es.length = (S i).n) → k < N → i < (S k).n → fld (allS S N) (tot S k + i) = fld (S k).es i
  | 0, k, i, _, hk, _ => absurd hk (by omega)
  | N + 1, k, i, h, hk, hi => by
    have hl : (allS S N).length = tot S N := allS_len fun i hi => h i (by omega)
    simp only [allS]
    by_cases hkn : k < N
    · have := tot_one (S := S) hkn
      rw [fld_append_left (by omega)]
      exact allS_get (fun i hi => h i (by omega)) hkn hi
    · obtain rfl : k = N := by omega
      rw [← hl]
      exact fld_append_right
theorem tot_find {S : Nat → Sp} : ∀ {N j : Nat}, j < tot S N → ∃ k i, k < N ∧ i < (S k).n ∧ j = tot S k + i
  | 0, j, h => absurd h (by simp [tot])
  | N + 1, j, h => by
    by_cases hj : j < tot S N
    · obtain ⟨k, i, h1, h2, h3⟩ := tot_find hj
      exact ⟨k, i, by omega, h2, h3⟩
    · simp only [tot] at h
      exact ⟨N, j - tot S N, by omega, by omega, by omega⟩
theorem RdW.lens {w : World} {A : Option Addr} {N : Nat} {S : Nat → Sp} (h : RdW w A N S) : ∀ i, i < N → (S i).es.length = (S i).n := fun i hi => (h.rd i hi).1
theorem allS_sam {N : Nat} {S S' : Nat → Sp} (h : Sam N S S') : ∀ {k : Nat}, k ≤ N → allS S k = allS S' k
  | 0, _ => rfl
  | k + 1, hk => by
    simp only [allS]
    rw [allS_sam h (k := k) (by omega), (h k (by omega)).2]

/-- Pin i of spoke k stands where it belongs, behind the one ahead of it. -/
def stepW (S : Nat → Sp) (k i : Nat) : Prop := fld (S k).es i 0 % 9 = k ∧ (0 < i → ltP (fld (S k).es (i - 1)) (fld (S k).es i))
def stepL (L : List (Nat → Int)) (i : Nat) : Prop := pinR (fld L i) ∧ ∀ j, j < i → fld L j 1 ≠ fld L i 1
def WOK (N : Nat) (S : Nat → Sp) : Prop := N = 9 ∧ tot S N ≤ 10 ∧ (∀ i, i < tot S N → stepL (allS S N) i) ∧ ∀ k, k < N → ∀ i, i < (S k).n → stepW S k i
theorem WOK.sam {N : Nat} {S S' : Nat → Sp} (h : Sam N S S') (hw : WOK N S) : WOK N S' := by
  obtain ⟨h1, h2, h3, h4⟩ := hw
  have ht := h.tot (Nat.le_refl N)
  have ha := allS_sam h (Nat.le_refl N)
  refine ⟨h1, by omega, by rw [← ht, ← ha]; exact h3, fun k hk i hi => ?_⟩
  have h5 := h4 k hk i (by rw [(h k hk).1]; exact hi)
  unfold stepW at h5 ⊢
  rw [(h k hk).2] at h5
  exact h5

set_option maxRecDepth 100000 in
set_option maxHeartbeats 2000000 in
theorem l9All_any (A : Option Addr) (N c : Nat) (S : Nat → Sp) (w : World) (hN : N ≤ 4194304) (hT : tot S N ≤ 4194304) (h : RdW w A N S) :
    Calls Tryz.prog 93 #[.agg #[.slice A N c]] w fun x w' => ∃ v, x = .returned v ∧ w'.ownsRow w.heap.size 87 2 v (tot S N) (flat 2 (allS S N)) ∧ Below w.heap.size w w' := by
  obtain ⟨i0, hi0, hz0, hz1, hz2⟩ := info_parts copyPin_info
  have r0 : Hid (((w.alloc (.cells #[.slice A N c] 30)).alloc (.cells #[] 87)).ownsRow w.heap.size 87 2 (.slice (some ⟨w.heap.size + 1, 0, none⟩) 0 0) 0 (flat 2 [])) := Lib.hid (by
    have h := rowE (w.alloc (.cells #[.slice A N c] 30)) 87 2
    have e : (w.alloc (.cells #[.slice A N c] 30)).heap.size = w.heap.size + 1 := by simp
    rw [e] at h
    exact h.lower (by omega))
  go_enter Tryz.func93, Tryz.ntmps93
  go_wp2
  go_loopw [3, 4] (fun v i wr => ∃ k : Nat, k ≤ N ∧ i = .int .i64 k ∧ Hid (wr.ownsRow w.heap.size 87 2 v (tot S k) (flat 2 (allS S k))) ∧ Below w.heap.size w wr ∧ w.heap.size + 1 ≤ wr.heap.size ∧ wr.cell? ⟨w.heap.size, 0, none⟩ = some (.slice A N c) ∧ ∀ a, v.ownBlock = some a → w.heap.size + 1 ≤ a) (fun _ i _ => N - (intOf i).toNat)
  case atStart => exact ⟨0, Nat.zero_le _, rfl, r0, by (repeat (first | with_reducible exact Below.refl _ _ | with_reducible refine Below.drew ?_ | with_reducible refine below_drewN ?_ _ | (with_reducible refine bel_alloc ?_ ?_ _; (first | omega | (simp; omega) | simp)) | (with_reducible refine bel_set ?_ ?_ _; (first | omega | (simp; omega) | simp)) | (with_reducible refine bel_tr (by assumption) ?_ ?_; (first | omega | (simp; omega) | simp)))), by (first | omega | (simp; omega) | simp), by (first | (go_keep; done) | (go_simp; done)), by simp [Value.ownBlock]⟩
  case round =>
    obtain ⟨k, hk, rfl, HR, hbel, hsz, q0, hob⟩ := hrel
    clear r0
    by_cases hlt : k < N
    · have hr := h.below hbel
      obtain ⟨b, off, rfl⟩ := h.addr (by omega)
      have hb := hr.lt (by omega)
      have c0 := hr.cell hlt
      have HX := Lib.hid (hr.rd k hlt)
      have htk := tot_one (S := S) hlt
      clear h hr
      go_wp2_with (at_builtin; go_must (refine wpList_append_rd _ rfl _ _ 85 rfl w.heap.size 87 i0 _ 2 16 Tryz.underlying85 hi0 hz0 hz1 hz2 rfl (by omega) _ (tot S k) (allS S k) rfl HR.out (S k).A (S k).n (S k).c (S k).es rfl HX.out (by unfold maxLen; omega) (by omega) (by omega) ?_); intro v2 w2 hown2 hg2 hat2; have b2 : Below (w.heap.size + 1) wr w2 := (Below.refl _ wr).grown hg2 (by omega) hob; have s2 := b2.size; have x2 : w2.cell? ⟨w.heap.size, 0, none⟩ = some (.slice (some ⟨b, off, none⟩) N c) := (b2.cell (p := ⟨w.heap.size, 0, none⟩) (by (first | omega | (simp; omega) | simp))).trans q0)
      have H2 := Lib.hid hown2
      have hob2 : ∀ a, v2.ownBlock = some a → w.heap.size + 1 ≤ a := fun a ha => by
        rcases hat2 with h4 | h4
        · exact hob a (h4.symm.trans ha)
        · rw [h4] at ha
          injection ha with ha
          omega
      clear hown2 hg2 hat2 HR HX hob
      go_wp2
      go_roundw
      case rel => exact ⟨k + 1, by omega, by go_num, H2, by (repeat (first | with_reducible exact Below.refl _ _ | with_reducible refine Below.drew ?_ | with_reducible refine below_drewN ?_ _ | (with_reducible refine bel_alloc ?_ ?_ _; (first | omega | (simp; omega) | simp)) | (with_reducible refine bel_set ?_ ?_ _; (first | omega | (simp; omega) | simp)) | (with_reducible refine bel_tr (by assumption) ?_ ?_; (first | omega | (simp; omega) | simp)))), by omega, x2, hob2⟩
      case measure => simp [intOf]; omega
    · have hkn : k = N := by omega
      subst hkn
      go_wp2
      go_ret
      exact ⟨_, rfl, HR.out, hbel⟩
end Go.Proofs.YtjlmcppkafjniaaGreat
