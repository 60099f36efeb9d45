/-
  A row without one of its elements: the cells that are moved and the cells that are cleared; the plain lemmas behind slices.Delete.
-/
import Derived.Test.YtcicldcgibgnfaaApp
import Derived.Test.YtcicldcgibgnfaaCut
import Derived.Lib.SliceRun
import Derived.Deep.RegionLaw
namespace Go.Proofs.Ytcicldcgibgnfaa
open Go.RowKit

/-- The list without element k. -/
def cutL (es : List (Nat → Int)) (k : Nat) : List (Nat → Int) := es.take k ++ es.drop (k + 1)
theorem cutL_len {es : List (Nat → Int)} {k n : Nat} (hl : es.length = n) (hk : k < n) : (cutL es k).length = n - 1 := by
  unfold cutL
  rw [List.length_append, List.length_take, List.length_drop]
  omega
theorem fld_cut_lt {es : List (Nat → Int)} {k i j : Nat} (hi : i < k) (hk : k ≤ es.length) : fld (cutL es k) i j = fld es i j := by
  unfold fld cutL
  rw [List.getD_eq_getElem?_getD, List.getD_eq_getElem?_getD, List.getElem?_append_left (by rw [List.length_take]; omega), List.getElem?_take, if_pos hi]
theorem fld_cut_ge {es : List (Nat → Int)} {k i j : Nat} (hi : k ≤ i) (hk : k ≤ es.length) : fld (cutL es k) i j = fld es (i + 1) j := by
  unfold fld cutL
  rw [List.getD_eq_getElem?_getD, List.getD_eq_getElem?_getD, List.getElem?_append_right (by rw [List.length_take]; omega), List.getElem?_drop, List.length_take]
  have h1 : k + 1 + (i - min k es.length) = i + 1 := by omega
  rw [h1]

theorem set2_own {B g off n k K : Nat} {es : List (Nat → Int)} {w : World} {zs : List Value} (hK : 0 < K) (hk : k < n) (h : Own B w K (some ⟨g, off, none⟩) n es) (hz : zs.length = K) :
    Own B ((w.drew.setCells g (off + k * K) (flat K (es.drop (k + 1)))).setCells g (off + (n - 1) * K) zs) K (some ⟨g, off, none⟩) (n - 1) (cutL es k)
      ∧ Below B w ((w.drew.setCells g (off + k * K) (flat K (es.drop (k + 1)))).setCells g (off + (n - 1) * K) zs) := by
  obtain ⟨hl, h2⟩ := h
  obtain ⟨b, o', he, hlt, hB, hfz, hc⟩ := h2.resolve_left (by omega)
  injection he with he
  injection he with he1 he2
  subst he1 he2
  have hfl : (flat K (es.drop (k + 1))).length = (n - (k + 1)) * K := by rw [flat_len, List.length_drop, hl]
  have hroom : ∀ o, o < n * K → (w.drew.cell? ⟨g, off + o, none⟩).isSome = true := fun o ho => by
    have h1 : o / K < n := Nat.div_lt_of_lt_mul (by rw [Nat.mul_comm]; exact ho)
    have h3 := hc (o / K) h1 (o % K) (Nat.mod_lt _ hK)
    have h4 : off + o / K * K + o % K = off + o := by have := Nat.div_add_mod o K; rw [Nat.mul_comm] at this; omega
    rw [h4] at h3
    show (w.cell? _).isSome = true
    rw [h3]
    rfl
  have hnk : k * K + (n - (k + 1)) * K = (n - 1) * K := by rw [← Nat.add_mul]; congr 1; omega
  have hn1 : (n - 1) * K + K = n * K := by rw [← Nat.succ_mul]; congr 1; omega
  have hin := World.cell?_setCells_in g (flat K (es.drop (k + 1))) (off + k * K) w.drew (fun j hj => by
    rw [hfl] at hj
    rw [Nat.add_assoc]
    exact hroom _ (by omega))
  refine ⟨⟨cutL_len hl hk, ?_⟩, below_setCells hB _ _ _ (below_setCells hB _ _ _ (Below.drew (Below.refl B w)))⟩
  rcases Nat.eq_zero_or_pos (n - 1) with h0 | h0
  · exact .inl h0
  refine .inr ⟨g, off, rfl, by rw [size_setCells, size_setCells]; exact hlt, hB, fun o => ?_, fun i hi j hj => ?_⟩
  · rw [World.frozen?_setCells, World.frozen?_setCells]
    exact hfz o
  · have hij : i * K + j < (n - 1) * K := idx_lt hi hj
    rw [World.cell?_setCells_out g zs _ _ ⟨g, off + i * K + j, none⟩ (fun _ _ => .inl (by show off + i * K + j < off + (n - 1) * K; omega))]
    rcases Nat.lt_or_ge i k with hik | hik
    · have h1 : i * K + j < k * K := idx_lt hik hj
      rw [World.cell?_setCells_out g _ _ _ ⟨g, off + i * K + j, none⟩ (fun _ _ => .inl (by show off + i * K + j < off + k * K; omega))]
      rw [fld_cut_lt hik (by omega)]
      exact hc i (by omega) j hj
    · obtain ⟨d, rfl⟩ : ∃ d, i = k + d := ⟨i - k, by omega⟩
      have h1 : d * K + j < (n - (k + 1)) * K := idx_lt (by omega) hj
      have h3 := hin (d * K + j) (by rw [hfl]; exact h1)
      have h4 : off + k * K + (d * K + j) = off + (k + d) * K + j := by rw [Nat.add_mul]; omega
      rw [h4] at h3
      rw [h3, fld_cut_ge (by omega) (by omega)]
      have h5 := flat_get K (es.drop (k + 1)) d j (by rw [List.length_drop]; omega) hj
      rw [fld_drop] at h5
      have h6 := (List.getElem?_eq_some_iff.1 h5).2
      rw [h6]
      congr 3
      omega

theorem run_clear1 {P : Program} (w : World) (t e ty : TypeId) (z : Value) (ht : P.underlying t = some (.slice e)) (hv : ∀ w, (zeroValue e).run P w = .ok z w) (h1 : ∀ u ∈ z.cells.toList, u.oneCell' = true) (b o c : Nat)
    (hc : ∀ j, j < z.cells.toList.length → (w.cell? ⟨b, o + j, none⟩).isSome = true) (hf : ∀ j, j < z.cells.toList.length → w.frozen? ⟨b, o + j, none⟩ = false) :
    (Builtin.clear_ #[t] ty #[.slice (some ⟨b, o, none⟩) 1 c]).run P w = .ok (.tuple #[]) (w.setCells b o z.cells.toList) := by
  have hzc : (Builtin.zeroCells z.cells 1).toList = z.cells.toList := by
    apply List.ext_getElem
    · simp [Builtin.zeroCells]
    · intro i h1 h2
      have h3 : i < z.cells.size := by simpa using h2
      simp [Builtin.zeroCells, Nat.mod_eq_of_lt h3, getElem!_pos z.cells i h3]
  have hst := run_storeCells_cells (P := P) b o z.cells.toList 0 w (by simpa using hc) (by simpa using hf) h1
  simp only [Nat.add_zero] at hst
  simp [Builtin.clear_, run_underlying ht, hv, hzc, hst]
theorem row_ge {base base' : Nat} {w : World} {e : TypeId} {K n : Nat} {v : Value} {xs : List Value} (h : w.ownsRow base e K v n xs) (hb : base' ≤ base) : ∀ k, v.ownBlock = some k → base' ≤ k := by
  intro k hk
  rcases h.2 with ⟨rfl, _⟩ | ⟨g, cap, cur, rfl, hg, _⟩
  · simp [Value.ownBlock] at hk
  · have : g = k := by simpa [Value.ownBlock] using hk
    omega
theorem row_below {base : Nat} {w w' : World} {e : TypeId} {K n : Nat} {v : Value} {xs : List Value} (h : w.ownsRow base e K v n xs) (hb : Below w.heap.size w w') : w'.ownsRow base e K v n xs :=
  ⟨h.1, h.2.imp id fun ⟨g, cap, cur, h1, h2, hh, h3⟩ => ⟨g, cap, cur, h1, h2, (hb.block g (Array.getElem?_eq_some_iff.1 hh).1).trans hh, h3⟩⟩
theorem row_pos {base : Nat} {w : World} {e : TypeId} {K n : Nat} {v : Value} {es : List (Nat → Int)} (hn : 0 < n) (_hK : 0 < K) (hl : es.length = n) (h : w.ownsRow base e K v n (flat K es)) :
    ∃ g cap, v = .slice (some ⟨g, 0, none⟩) n cap ∧ n ≤ cap ∧ cap ≤ 9223372036854775807 ∧ Own base w K (some ⟨g, 0, none⟩) n es := by
  rcases h.2 with ⟨_, h0⟩ | ⟨g, cap, cur, rfl, hg, hh, hnc, hcm, hsz, htk⟩
  · omega
  · obtain ⟨A, c, he, ho⟩ := own_of_row hl h
    injection he with h1 h2 h3
    subst h1 h3
    exact ⟨g, cap, rfl, hnc, by unfold maxLen at hcm; omega, ho⟩

end Go.Proofs.Ytcicldcgibgnfaa
