/-
  Contract of slices.Insert of one element into a slice of structs (Entry), wherever. Conditions: the row may be written, the element lies in a block of its own.
-/
import Derived.Test.YtfilagmboeeclaaIe
import Derived.Test.YtfilagmboeeclaaCu
namespace Go.Proofs.Ytfilagmboeeclaa
open Go.RowKit

set_option maxRecDepth 100000 in
set_option maxHeartbeats 4000000 in
/-- At the end. -/
theorem insEntry_end (B n h hc : Nat) (v : Value) (es : List (Nat → Int)) (e : Nat → Int) (w : World) (hn : n ≤ 4194303) (hl : es.length = n) (hown : w.ownsRow B 26 4 v n (flat 4 es)) (hB : B ≤ w.heap.size) (hhw : h < w.heap.size) (hes : w.rangeAt h 0 (ecells 4 e)) :
    Calls Try.prog 14 #[v, .int .i64 n, .slice (some ⟨h, 0, none⟩) 1 hc] w fun y w' =>
      ∃ A c, y = .returned (.slice A (n + 1) c) ∧ n + 1 ≤ c ∧ c ≤ 9223372036854775807 ∧ Own B w' 4 A (n + 1) (insL es n e) ∧ Below B w w' := by
  obtain ⟨i0, hi0, hz0, hz1, hz2⟩ := info_parts insEntry_info
  have hrd : Rd w 4 (some ⟨h, 0, none⟩) 1 [e] := rd_of_range rfl (by rw [flat_cons1]; exact hes) hhw
  have hge := row_ge hown (Nat.le_refl _)
  have HL : Hid (insL es n e = es ++ [e]) := insL_end hl
  have HO := Lib.hid hown
  have HRD := Lib.hid hrd
  have hll : (es ++ [e]).length = n + 1 := by simp [hl]
  have hfin : ∀ (v2 : Value) (w2 : World), w2.ownsRow B 26 4 v2 (n + 1) (flat 4 (es ++ [e])) → Below B w w2 → ∃ A c, Ending.returned v2 = .returned (.slice A (n + 1) c) ∧ n + 1 ≤ c ∧ c ≤ 9223372036854775807 ∧ Own B w2 4 A (n + 1) (insL es n e) ∧ Below B w w2 := by
    intro v2 w2 h1 h2
    obtain ⟨g, cap, rfl, h3, h4, h5⟩ := row_pos (by omega) (by omega) hll h1
    rw [HL.out]
    exact ⟨_, _, rfl, h3, h4, h5, h2⟩
  rcases hown.2 with ⟨hv, hx⟩ | ⟨g, cap, cur, hv, hg, hh, hnc, hcm, hsz, htk⟩
  · subst hv
    have h0 : n = 0 := hx
    have hvs : Value.slice none 0 0 = Value.slice none n 0 := by rw [h0]
    subst h0
    have HF := Lib.hid hfin
    clear hown hrd hl hx hfin hll
    go_enter Try.func14, Try.ntmps14
    go_wp2_with (at_builtin; go_must (refine wpList_append_rd _ rfl _ _ 24 rfl B 26 i0 _ 4 32 Try.underlying24 hi0 hz0 hz1 hz2 rfl (by omega) (.slice none 0 0) 0 es rfl HO.out (some ⟨h, 0, none⟩) 1 hc [e] rfl HRD.out (by unfold maxLen; omega) (by omega) hB ?_); intro v2 w2 hown2 hg2 hat2)
    go_ret
    exact HF.out _ _ (by simpa using hown2) ((Below.refl _ _).grown hg2 hB hge)
  · subst hv
    have HF := Lib.hid hfin
    clear hown hrd hfin hsz htk hh hll
    go_enter Try.func14, Try.ntmps14
    go_wp2_with (at_builtin; go_must (refine wpList_append_rd _ rfl _ _ 24 rfl B 26 i0 _ 4 32 Try.underlying24 hi0 hz0 hz1 hz2 rfl (by omega) (.slice (some ⟨g, 0, none⟩) n cap) n es rfl HO.out (some ⟨h, 0, none⟩) 1 hc [e] rfl HRD.out (by unfold maxLen; omega) (by omega) hB ?_); intro v2 w2 hown2 hg2 hat2)
    all_goals (go_ret; exact HF.out _ _ hown2 ((Below.refl _ _).grown hg2 hB hge))

theorem shape_of_heap {w : World} {g : Nat} {cs : Array Value} {t : TypeId} {fz : Nat × Nat} (h : w.heap[g]? = some (.cells cs t fz)) : w.shape? g = some (t, cs.size) := by
  unfold World.shape?
  simp [h]

/-- Wherever. -/
theorem insEntry_any (B n i h hc : Nat) (v : Value) (es : List (Nat → Int)) (e : Nat → Int) (w : World) (hn : n ≤ 4194303) (hi : i ≤ n) (hl : es.length = n) (hown : w.ownsRow B 26 4 v n (flat 4 es)) (hB : B ≤ w.heap.size)
    (hh : w.heap[h]? = some (.cells (ecells 4 e).toArray 26 (0, 0))) (hne : ∀ k, v.ownBlock = some k → k ≠ h) :
    Calls Try.prog 14 #[v, .int .i64 i, .slice (some ⟨h, 0, none⟩) 1 hc] w fun y w' =>
      ∃ A c, y = .returned (.slice A (n + 1) c) ∧ n + 1 ≤ c ∧ c ≤ 9223372036854775807 ∧ Own B w' 4 A (n + 1) (insL es i e) ∧ Below B w w' := by
  have hhw : h < w.heap.size := (Array.getElem?_eq_some_iff.1 hh).1
  have hes : w.rangeAt h 0 (ecells 4 e) := fun j u hu => by
    rw [Nat.zero_add, cell_of_heap hh]
    simpa using hu
  rcases Nat.eq_or_lt_of_le hi with rfl | hi
  · exact insEntry_end B i h hc v es e w hn hl hown hB hhw hes
  · rcases hown.2 with ⟨_, hx⟩ | ⟨g, cap, cur, rfl, hg, hgh, hnc, hcm, hsz, htk⟩
    · omega
    have hgw : g < w.heap.size := (Array.getElem?_eq_some_iff.1 hgh).1
    have hcap : cap ≤ 9223372036854775807 := by unfold maxLen at hcm; omega
    have hcs : w.rangeAt g 0 (flat 4 es) := fun j u hu => by
      rw [Nat.zero_add, cell_of_heap hgh]
      have hj : j < n * 4 := by
        have := (List.getElem?_eq_some_iff.1 hu).1
        rw [flat_len, hl] at this
        exact this
      rw [← htk, List.getElem?_take, if_pos hj] at hu
      simpa using hu
    have hgne : h ≠ g := fun hx => hne g (by simp [Value.ownBlock]) hx.symm
    have hfz : ∀ o, w.frozen? ⟨g, o, none⟩ = false := fun o => frozen_of_heap hgh
    have hfh : ∀ o, w.frozen? ⟨h, o, none⟩ = false := fun o => frozen_of_heap hh
    rcases Nat.lt_or_ge cap (n + 1) with hr | hr
    · refine (insEntry_grow g 0 cap n i h hc es e w hi hnc hr (by omega) hl hhw hgw hcs hes).mono ?_
      rintro y w' ⟨c, rfl, h1, h2, h3, h4⟩
      exact ⟨_, c, rfl, h1, h2, h3.mono hB, h4.mono hB⟩
    · have hsp : ∀ o, o < (n + 1) * 4 → (w.cell? ⟨g, 0 + o, none⟩).isSome = true := fun o ho => by
        have h1 : (n + 1) * 4 ≤ cap * 4 := Nat.mul_le_mul_right 4 hr
        rw [Nat.zero_add, cell_of_heap hgh, Array.getElem?_eq_getElem (by omega)]
        rfl
      refine (insEntry_shift g 0 cap n i h hc es e w hi hr hcap (by omega) hl hgne hcs hsp hfz hes _ _ _ _ (shape_of_heap hh) (shape_of_heap hgh) (by omega) hfh).mono ?_
      rintro y w' ⟨rfl, rfl⟩
      have hdl : (flat 4 (es.drop i)).length = (n - i) * 4 := by rw [flat_len, List.length_drop, hl]
      have htl : (flat 4 (es.take i)).length = i * 4 := by rw [flat_len, List.length_take, hl, Nat.min_eq_left (by omega)]
      have hT : w.drew.rangeAt g 0 (flat 4 (es.take i)) := by
        have h1 := rangeAt_take (k := i * 4) hcs
        rw [flat_take 4 i es (by omega)] at h1
        exact h1
      have t1 : w.drew.there g (0 + (i + 1) * 4) (flat 4 (es.drop i)).length := fun j hj => by
        rw [hdl] at hj
        exact ⟨by rw [Nat.add_assoc]; exact hsp _ (by omega), hfz _⟩
      have t2 : w.drew.there g (0 + i * 4) (ecells 4 e).length := fun j hj => by
        rw [ecells_len] at hj
        exact ⟨by rw [Nat.add_assoc]; exact hsp _ (by omega), hfz _⟩
      refine ⟨_, cap, rfl, hr, hcap, own_of_range (insL_len hl (by omega)) (ins_range hl (by omega) ?_ ?_ ?_) hg (by rw [size_setCells, size_setCells]; exact hgw) (fun o => by rw [World.frozen?_setCells, World.frozen?_setCells]; exact hfz o), below_setCells hg _ _ _ (below_setCells hg _ _ _ (Below.drew (Below.refl _ _)))⟩
      · exact World.rangeAt_setCells_apart (World.rangeAt_setCells_apart hT _ _ _ (.inr (.inl (by rw [htl]; omega)))) _ _ _ (.inr (.inl (by rw [htl]; omega)))
      · exact World.rangeAt_setCells_same _ _ _ _ (World.there_setCells t2 _ _ _)
      · exact World.rangeAt_setCells_apart (World.rangeAt_setCells_same _ _ _ _ t1) _ _ _ (.inr (.inr (by rw [ecells_len]; omega)))
end Go.Proofs.Ytfilagmboeeclaa
