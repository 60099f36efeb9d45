/-
  Contract of slices.Insert of one element into a slice of structs (Pin), wherever. Conditions: the row may be written, the element lies in a block of its own.
-/
import Derived.Test.YtehmanlpgjccoaaRg
import Derived.Test.YtehmanlpgjccoaaBase
import Derived.Test.YtehmanlpgjccoaaCu
namespace Go.Proofs.Ytehmanlpgjccoaa
open Go.RowKit

theorem insPin_info : (Try.prog.info? 28).map (fun i => (i.zero, i.size, i.bytes)) = some (some (.agg #[.int .i64 0, .int .i64 0]), 2, 16) := by kernel_rfl
theorem insPin_size : ∀ w, (Go.sizeOf 28).run Try.prog w = .ok 2 w := fun _ => by kernel_rfl

theorem drew_sizePin (w : World) : w.drew.heap.size = w.heap.size := rfl
theorem drew_fzPin (w : World) (a : Addr) : w.drew.frozen? a = w.frozen? a := rfl
set_option maxRecDepth 100000 in
set_option maxHeartbeats 4000000 in
/-- There is room, ahead of the end: in place. -/
theorem insPin_shift (g off cap n i h hc : Nat) (es : List (Nat → Int)) (e : Nat → Int) (w : World) (hi : i < n) (hroom : n + 1 ≤ cap) (_hm : cap ≤ 9223372036854775807) (hn : n ≤ 4194304) (hl : es.length = n) (hne : h ≠ g)
    (hcs : w.rangeAt g off (flat 2 es)) (hsp : ∀ o, o < (n + 1) * 2 → (w.cell? ⟨g, off + o, none⟩).isSome = true) (hfz : ∀ o, w.frozen? ⟨g, o, none⟩ = false) (hes : w.rangeAt h 0 (ecells 2 e))
    (tA tB : TypeId) (kA kB : Nat) (hsa : w.shape? h = some (tA, kA)) (hsb : w.shape? g = some (tB, kB)) (hkB : kB ≠ 0) (hfa : ∀ o, w.frozen? ⟨h, o, none⟩ = false) :
    Calls Try.prog 21 #[.slice (some ⟨g, off, none⟩) n cap, .int .i64 i, .slice (some ⟨h, 0, none⟩) 1 hc] w fun y w' =>
      y = .returned (.slice (some ⟨g, off, none⟩) (n + 1) cap) ∧ w' = (w.drew.setCells g (off + (i + 1) * 2) (flat 2 (es.drop i))).setCells g (off + i * 2) (ecells 2 e) := by
  obtain ⟨i0, hi0, hz0, hz1, hz2⟩ := info_parts insPin_info
  have hz2' : ¬ ((i : Int) = (n : Int)) := by omega
  have hov : ∀ lb cb, (callFunc 36 #[.slice (some ⟨h, 0, none⟩) 1 hc, .slice (some ⟨g, off + (i + 1) * 2, none⟩) lb cb]).run Try.prog w = .ok (.value (.bool false)) w := fun lb cb => by
    rw [run_callFunc_extern Try.func36 (by kernel_rfl) (by kernel_rfl) (by kernel_rfl) (e := Extern.SlicesOverlaps.overlaps #[34, 34] #[4]) (by kernel_rfl),
      Lib.run_overlaps_apart w 34 4 28 Try.underlying34 2 insPin_size ⟨h, 0, none⟩ ⟨g, off + (i + 1) * 2, none⟩ 1 hc lb cb hne tA tB kA kB hsa hsb hkB (hfa _) (hfa _)]
    rfl
  have hdl : (flat 2 (es.drop i)).length = (n - i) * 2 := by rw [flat_len, List.length_drop, hl]
  have hnK : (n + 1 - (i + 1)) * 2 = (n - i) * 2 := by congr 1; omega
  have hcp1 : ∀ ty dc sc, (Builtin.copy_ #[34, 34] ty #[.slice (some ⟨g, off + (i + 1) * 2, none⟩) (n - i) dc, .slice (some ⟨g, off + i * 2, none⟩) (n + 1 - i) sc]).run Try.prog w.drew = .ok (goInt (n - i : Nat)) (w.drew.setCells g (off + (i + 1) * 2) (flat 2 (es.drop i))) := fun ty dc sc =>
    run_copy_K w.drew _ _ ty 28 i0 2 g (off + (i + 1) * 2) (n - i) dc ⟨g, off + i * 2, none⟩ (n + 1 - i) sc (n - i) (flat 2 (es.drop i)) Try.underlying34 hi0 hz1 (by simp only [Nat.min_def]; split <;> omega) hdl
      (fun j v hj => by
        rw [Addr.add_lit]
        have h1 := rangeAt_drop (k := i * 2) hcs
        rw [flat_drop 2 i es (by omega)] at h1
        exact h1 j v hj)
      (fun j hj => by rw [Nat.add_assoc]; exact hsp _ (by omega)) (fun j hj => hfz _) (flat_one 2 _)
  obtain ⟨W1, hW1⟩ : ∃ W1, W1 = w.drew.setCells g (off + (i + 1) * 2) (flat 2 (es.drop i)) := ⟨_, rfl⟩
  have hsp1 : ∀ o, o < (n + 1) * 2 → (W1.cell? ⟨g, off + o, none⟩).isSome = true := fun o ho => by
    rw [hW1]
    exact World.isSome_setCells g _ _ _ ⟨g, off + o, none⟩ (hsp o ho)
  have hcp2 : ∀ (W : World), (∀ x, W.cell? x = W1.cell? x) → (∀ x, W.frozen? x = W1.frozen? x) → ∀ ty dc, (Builtin.copy_ #[34, 34] ty #[.slice (some ⟨g, off + i * 2, none⟩) (n + 1 - i) dc, .slice (some ⟨h, 0, none⟩) 1 hc]).run Try.prog W = .ok (goInt (1 : Nat)) (W.setCells g (off + i * 2) (ecells 2 e)) := fun W hWc hWf ty dc =>
    run_copy_K W _ _ ty 28 i0 2 g (off + i * 2) (n + 1 - i) dc ⟨h, 0, none⟩ 1 hc 1 (ecells 2 e) Try.underlying34 hi0 hz1 (by simp only [Nat.min_def]; split <;> omega) (by rw [ecells_len, Nat.one_mul])
      (fun j v hj => by
        rw [Addr.add_lit, hWc, hW1, World.cell?_setCells_out g _ _ _ _ (fun h _ => absurd h hne)]
        exact hes j v hj)
      (fun j hj => by rw [ecells_len] at hj; rw [hWc, Nat.add_assoc]; exact hsp1 _ (by omega)) (fun j hj => by rw [hWf, hW1, World.frozen?_setCells]; exact hfz _) (fun u hu => flat_one 2 [e] u (by rw [flat_cons1]; exact hu))
  rw [← hW1] at hcp1
  have hw1 : IntKind.i64.wrap ((i : Int) + 1) = (i : Int) + 1 := by rw [IntKind.wrap_i64]; omega
  have hw2 : IntKind.i64.wrap ((n : Int) + 1) = (n : Int) + 1 := by rw [IntKind.wrap_i64]; omega
  have hb1 : (0 : Int) ≤ (i : Int) + 1 := by omega
  have hin : i ≤ n := by omega
  have htn : ((i : Int) + 1).toNat = i + 1 := by omega
  have htn2 : ((n : Int) + 1).toNat = n + 1 := by omega
  have hb2 : ¬ (cap = i + 1) := by omega
  have hb3 : (i : Int) ≤ (n : Int) + 1 := by omega
  have hb4 : ¬ (cap = i) := by omega
  have HW1 := Lib.hid hW1
  clear hW1 hdl hnK hi0 hz0 hz1 hz2 hcs hsp hfz hes hsa hsb hfa hsp1
  go_enter Try.func21, Try.ntmps21
  go_wp2_with (simp only [hov])
  go_region_law (refine step_copy_eq rfl _ _ 34 34 rfl _ _ (by simp [Act.eval, Act.put]) (by simp [Act.eval, Act.put]) (hcp1 _ _ _) ?_)
  go_wp2_with (at_builtin; refine wpList_copy_eq _ rfl _ _ 34 34 rfl _ _ rfl rfl (hcp2 _ (fun _ => rfl) (fun _ => rfl) _ _) ?_)
  go_ret
  first | exact ⟨rfl, by rw [HW1.out]⟩ | exact ⟨rfl, rfl⟩

set_option maxRecDepth 100000 in
set_option maxHeartbeats 4000000 in
/-- No room, ahead of the end: a new row. -/
theorem insPin_grow (g off cap n i h hc : Nat) (es : List (Nat → Int)) (e : Nat → Int) (w : World) (hi : i < n) (hnc : n ≤ cap) (hroom : cap < n + 1) (hn : n ≤ 4194304) (hl : es.length = n) (hhw : h < w.heap.size) (hgw : g < w.heap.size)
    (hcs : w.rangeAt g off (flat 2 es)) (hes : w.rangeAt h 0 (ecells 2 e)) :
    Calls Try.prog 21 #[.slice (some ⟨g, off, none⟩) n cap, .int .i64 i, .slice (some ⟨h, 0, none⟩) 1 hc] w fun y w' =>
      ∃ c, y = .returned (.slice (some ⟨w.heap.size, 0, none⟩) (n + 1) c) ∧ n + 1 ≤ c ∧ c ≤ 9223372036854775807 ∧ Own w.heap.size w' 2 (some ⟨w.heap.size, 0, none⟩) (n + 1) (insL es i e) ∧ Below w.heap.size w w' := by
  obtain ⟨i0, hi0, hz0, hz1, hz2⟩ := info_parts insPin_info
  have hz2' : ¬ ((i : Int) = (n : Int)) := by omega
  have hz3 : (cap : Int) < (n : Int) + 1 := by omega
  have hkk : (n : Int) + 1 - (i : Int) = ((n + 1 - i : Nat) : Int) := by omega
  have hik : i + (n + 1 - i) = n + 1 := by omega
  have htk : w.rangeAt g off (flat 2 (es.take i)) := by
    have h1 := rangeAt_take (k := i * 2) hcs
    rwa [flat_take 2 i es (by omega)] at h1
  have hdr : w.rangeAt g (off + i * 2) (flat 2 (es.drop i)) := by
    have h1 := rangeAt_drop (k := i * 2) hcs
    rwa [flat_drop 2 i es (by omega)] at h1
  have htl : (flat 2 (es.take i)).length = i * 2 := by rw [flat_len, List.length_take, hl, Nat.min_eq_left (by omega)]
  have hdl : (flat 2 (es.drop i)).length = (n - i) * 2 := by rw [flat_len, List.length_drop, hl]
  have hold : (Builtin.firstCells i0.size i (.slice (some ⟨g, off, none⟩) i cap)).run Try.prog w.drew = .ok (flat 2 (es.take i)).toArray w.drew := by
    rw [hz1]
    exact run_firstCells_some w.drew 2 i ⟨g, off, none⟩ i cap _ htl (fun j v hj => by rw [Addr.add_lit]; exact htk j v hj)
  have hrz : ∀ ty, (Builtin.append_ #[34, 3] ty #[.slice (some ⟨g, off, none⟩) i cap, .int .i64 ((n : Int) + 1 - (i : Int))]).run Try.prog w =
      .ok (.slice (some ⟨w.heap.size, 0, none⟩) (n + 1) (grownCap w (n + 1) cap 28)) (w.drew.alloc (.cells ((flat 2 (es.take i)).toArray ++ Builtin.zeroCells (.agg #[.int .i64 0, .int .i64 0] : Value).cells (n + 1 - i) ++ Builtin.zeroCells (.agg #[.int .i64 0, .int .i64 0] : Value).cells (grownCap w (n + 1) cap 28 - (n + 1))) 28)) := fun ty => by
    have h := Lib.run_append_grow_zeros w 34 3 ty 28 i0 _ .i64 .i64 Try.underlying34 Try.underlying3 hi0 hz0 (some ⟨g, off, none⟩) i cap _ hold (n + 1 - i) (by omega) (by omega) (by omega) (by omega) (by rw [hz2]; omega) (by rw [hz2, hik]; exact growslice_fits hroom (by omega))
    rw [hik] at h
    rw [hkk]
    exact h
  obtain ⟨G, hG⟩ : ∃ G, G = grownCap w (n + 1) cap 28 := ⟨_, rfl⟩
  obtain ⟨ROW, hROW⟩ : ∃ ROW : Array Value, ROW = (flat 2 (es.take i)).toArray ++ Builtin.zeroCells (.agg #[.int .i64 0, .int .i64 0] : Value).cells (n + 1 - i) ++ Builtin.zeroCells (.agg #[.int .i64 0, .int .i64 0] : Value).cells (G - (n + 1)) := ⟨_, rfl⟩
  rw [← hG] at hrz
  rw [← hROW] at hrz
  have hRl : (n + 1) * 2 ≤ ROW.size := by
    rw [hROW]
    simp only [Array.size_append, List.size_toArray, size_zeroCells, htl]
    simp only [Value.cells, List.size_toArray, List.length_cons, List.length_nil]
    omega
  have hRt : ∀ q v, (flat 2 (es.take i))[q]? = some v → ROW[q]? = some v := fun q v hq => by
    have hq1 : q < (flat 2 (es.take i)).length := (List.getElem?_eq_some_iff.1 hq).1
    rw [hROW, Array.append_assoc, Array.getElem?_append_left (by simpa using hq1)]
    simpa using hq
  obtain ⟨W1, hW1⟩ : ∃ W1, W1 = w.drew.alloc (.cells ROW 28) := ⟨_, rfl⟩
  rw [← hW1] at hrz
  have hN : ∀ o, o < (n + 1) * 2 → (W1.cell? ⟨w.heap.size, o, none⟩).isSome = true := fun o ho => by
    rw [hW1, World.cell?_alloc_at (w := w.drew) ROW _ w.heap.size o rfl, Array.getElem?_eq_getElem (by omega)]; rfl
  have hNf : ∀ o, W1.frozen? ⟨w.heap.size, o, none⟩ = false := fun o => by rw [hW1]; exact World.frozen?_alloc_at (w := w.drew) ROW _ w.heap.size o rfl
  have hOb : ∀ o v, w.cell? ⟨g, o, none⟩ = some v → W1.cell? ⟨g, o, none⟩ = some v := fun o v h => by rw [hW1, World.cell?_alloc_past (w := w.drew) _ g o hgw]; exact h
  have hOv : ∀ o v, w.cell? ⟨h, o, none⟩ = some v → W1.cell? ⟨h, o, none⟩ = some v := fun o v h' => by rw [hW1, World.cell?_alloc_past (w := w.drew) _ h o hhw]; exact h'
  have hb1 : Below w.heap.size w W1 := by rw [hW1]; exact Below.alloc (Below.drew (Below.refl _ _)) (Nat.le_refl _) _
  have hs1 : W1.heap.size = w.heap.size + 1 := by rw [hW1]; simp
  have hT1 : W1.rangeAt w.heap.size 0 (flat 2 (es.take i)) := fun q v hq => by
    rw [hW1, Nat.zero_add, World.cell?_alloc_at (w := w.drew) ROW _ w.heap.size q rfl]
    exact hRt q v hq
  have hcpA : ∀ (W : World), (∀ x, W.cell? x = W1.cell? x) → (∀ x, W.frozen? x = W1.frozen? x) → ∀ ty dc, (Builtin.copy_ #[34, 34] ty #[.slice (some ⟨w.heap.size, i * 2, none⟩) (n + 1 - i) dc, .slice (some ⟨h, 0, none⟩) 1 hc]).run Try.prog W = .ok (goInt (1 : Nat)) (W.setCells w.heap.size (i * 2) (ecells 2 e)) := fun W hWc hWf ty dc =>
    run_copy_K W _ _ ty 28 i0 2 w.heap.size (i * 2) (n + 1 - i) dc ⟨h, 0, none⟩ 1 hc 1 (ecells 2 e) Try.underlying34 hi0 hz1 (by simp only [Nat.min_def]; split <;> omega) (by rw [ecells_len, Nat.one_mul])
      (fun j v hj => by rw [Addr.add_lit, hWc]; exact hOv _ v (hes j v hj))
      (fun j hj => by rw [ecells_len] at hj; rw [hWc]; exact hN _ (by omega)) (fun j hj => by rw [hWf]; exact hNf _) (fun u hu => flat_one 2 [e] u (by rw [flat_cons1]; exact hu))
  have hGn : n + 1 ≤ G := by rw [hG]; exact grownCap_ge w _ _ _
  have hG63 : G ≤ 9223372036854775807 := by
    have := grownCap_le_maxLen w (n + 1) cap 28 (by unfold maxLen; omega)
    rw [← hG] at this
    unfold maxLen at this
    omega
  have hGi : ¬ (G = i) := by omega
  have hGim : ¬ (G = i + 1) := by omega
  have hci : ¬ (cap = i) := by omega
  have hbN : g ≠ w.heap.size := by omega
  have hcpB : ∀ (W : World), (∀ x, W.cell? x = (W1.setCells w.heap.size (i * 2) (ecells 2 e)).cell? x) → (∀ x, W.frozen? x = (W1.setCells w.heap.size (i * 2) (ecells 2 e)).frozen? x) → ∀ ty dc sc, (Builtin.copy_ #[34, 34] ty #[.slice (some ⟨w.heap.size, (i + 1) * 2, none⟩) (n - i) dc, .slice (some ⟨g, off + i * 2, none⟩) (n - i) sc]).run Try.prog W = .ok (goInt (n - i : Nat)) (W.setCells w.heap.size ((i + 1) * 2) (flat 2 (es.drop i))) := fun W hWc hWf ty dc sc =>
    run_copy_K W _ _ ty 28 i0 2 w.heap.size ((i + 1) * 2) (n - i) dc ⟨g, off + i * 2, none⟩ (n - i) sc (n - i) (flat 2 (es.drop i)) Try.underlying34 hi0 hz1 (by simp only [Nat.min_def]; split <;> omega) hdl
      (fun j v hj => by
        rw [Addr.add_lit, hWc, World.cell?_setCells_out _ _ _ _ _ (fun h _ => absurd h hbN)]
        exact hOb _ v (hdr j v hj))
      (fun j hj => by rw [hWc]; exact World.isSome_setCells _ _ _ _ _ (hN _ (by omega)))
      (fun j hj => by rw [hWf, World.frozen?_setCells]; exact hNf _) (flat_one 2 _)
  -- what the row holds at the end
  have hfin : ∀ W2 : World, W2 = (W1.setCells w.heap.size (i * 2) (ecells 2 e)).drew.setCells w.heap.size ((i + 1) * 2) (flat 2 (es.drop i)) →
      Own w.heap.size W2 2 (some ⟨w.heap.size, 0, none⟩) (n + 1) (insL es i e) ∧ Below w.heap.size w W2 := by
    rintro W2 rfl
    have t1 : W1.there w.heap.size (i * 2) (ecells 2 e).length := fun j hj => by
      rw [ecells_len] at hj
      exact ⟨hN _ (by omega), hNf _⟩
    have t2 : W1.there w.heap.size ((i + 1) * 2) (flat 2 (es.drop i)).length := fun j hj => by
      rw [hdl] at hj
      exact ⟨hN _ (by omega), hNf _⟩
    refine ⟨own_of_range (insL_len hl (by omega)) (ins_range hl (by omega) ?_ ?_ ?_) (Nat.le_refl _) (by rw [size_setCells, drew_sizePin, size_setCells, hs1]; omega) (fun o => by rw [World.frozen?_setCells, drew_fzPin, World.frozen?_setCells]; exact hNf o), below_setCells (Nat.le_refl _) _ _ _ (Below.drew (below_setCells (Nat.le_refl _) _ _ _ hb1))⟩
    · exact World.rangeAt_setCells_apart ((World.rangeAt_drew _ _ _ _).2 (World.rangeAt_setCells_apart hT1 _ _ _ (.inr (.inl (by rw [htl]; omega))))) _ _ _ (.inr (.inl (by rw [htl]; omega)))
    · rw [Nat.zero_add]
      exact World.rangeAt_setCells_apart ((World.rangeAt_drew _ _ _ _).2 (World.rangeAt_setCells_same _ _ _ _ t1)) _ _ _ (.inr (.inl (by rw [ecells_len]; omega)))
    · rw [Nat.zero_add]
      exact World.rangeAt_setCells_same _ _ _ _ ((World.there_drew _ _ _ _).2 (World.there_setCells t2 _ _ _))
  have HFIN := Lib.hid hfin
  clear hfin hT1 hRt hRl htk hdr htl hold hROW hG hkk hik
  subst hW1
  have hE1 : ∀ x, ((w.alloc (.cells ROW 28)).drew).cell? x = (w.drew.alloc (.cells ROW 28)).cell? x := fun x => rfl
  have hE2 : ∀ x, ((w.alloc (.cells ROW 28)).drew).frozen? x = (w.drew.alloc (.cells ROW 28)).frozen? x := fun x => rfl
  have hF1 : ∀ x, (((w.alloc (.cells ROW 28)).drew.setCells w.heap.size (i * 2) (ecells 2 e)).drew).cell? x = ((w.drew.alloc (.cells ROW 28)).setCells w.heap.size (i * 2) (ecells 2 e)).cell? x := by
    generalize ecells 2 e = EC
    exact fun x => rfl
  have hF2 : ∀ x, (((w.alloc (.cells ROW 28)).drew.setCells w.heap.size (i * 2) (ecells 2 e)).drew).frozen? x = ((w.drew.alloc (.cells ROW 28)).setCells w.heap.size (i * 2) (ecells 2 e)).frozen? x := by
    generalize ecells 2 e = EC
    exact fun x => rfl
  have hw1 : IntKind.i64.wrap ((i : Int) + 1) = (i : Int) + 1 := by rw [IntKind.wrap_i64]; omega
  have hw2 : IntKind.i64.wrap ((n : Int) + 1) = (n : Int) + 1 := by rw [IntKind.wrap_i64]; omega
  have hb1' : (0 : Int) ≤ (i : Int) + 1 := by omega
  have hin : i ≤ n := by omega
  have htn : ((i : Int) + 1).toNat = i + 1 := by omega
  have hb3 : (i : Int) ≤ (n : Int) := by omega
  clear hb1 hs1 hi0 hz0 hz1 hz2
  go_enter Try.func21, Try.ntmps21
  go_wp2_with (first
    | (at_builtin; refine Lib.wpList_append_run _ rfl _ _ _ _ rfl _ _ rfl rfl _ _ (hrz _) ?_)
    | (at_builtin; refine wpList_copy_eq _ rfl _ _ 34 34 rfl _ _ rfl rfl (hcpA _ hE1 hE2 _ _) ?_)
    | (at_builtin; refine wpList_copy_eq _ rfl _ _ 34 34 rfl _ _ rfl rfl (hcpB _ (fun _ => rfl) (fun _ => rfl) _ _ _) ?_))
  go_region_law (refine step_copy_eq rfl _ _ 34 34 rfl (.slice (some ⟨w.heap.size, (i + 1) * 2, none⟩) (n - i) (G - (i + 1))) (.slice (some ⟨g, off + i * 2, none⟩) (n - i) (cap - i)) (by simp [Act.eval, Act.put]) (by simp [Act.eval, Act.put]) (hcpB _ hF1 hF2 3 (G - (i + 1)) (cap - i)) ?_)
  go_wp2
  go_ret
  exact ⟨_, rfl, hGn, hG63, HFIN.out _ rfl⟩
end Go.Proofs.Ytehmanlpgjccoaa

namespace Go.Proofs.Ytehmanlpgjccoaa
open Go.RowKit

set_option maxRecDepth 100000 in
set_option maxHeartbeats 4000000 in
/-- At the end. -/
theorem insPin_end (B n h hc : Nat) (v : Value) (es : List (Nat → Int)) (e : Nat → Int) (w : World) (hn : n ≤ 4194303) (hl : es.length = n) (hown : w.ownsRow B 28 2 v n (flat 2 es)) (hB : B ≤ w.heap.size) (hhw : h < w.heap.size) (hes : w.rangeAt h 0 (ecells 2 e)) :
    Calls Try.prog 21 #[v, .int .i64 n, .slice (some ⟨h, 0, none⟩) 1 hc] w fun y w' =>
      ∃ A c, y = .returned (.slice A (n + 1) c) ∧ n + 1 ≤ c ∧ c ≤ 9223372036854775807 ∧ Own B w' 2 A (n + 1) (insL es n e) ∧ Below B w w' ∧ w.grownBy w' v.ownBlock ∧ ∀ a, A = some a → v.ownBlock = some a.block ∨ w.heap.size ≤ a.block := by
  obtain ⟨i0, hi0, hz0, hz1, hz2⟩ := info_parts insPin_info
  have hrd : Rd w 2 (some ⟨h, 0, none⟩) 1 [e] := rd_of_range rfl (by rw [flat_cons1]; exact hes) hhw
  have hge := row_ge hown (Nat.le_refl _)
  have HL : Hid (insL es n e = es ++ [e]) := insL_end hl
  have HO := Lib.hid hown
  have HRD := Lib.hid hrd
  have hll : (es ++ [e]).length = n + 1 := by simp [hl]
  have hfin : ∀ (v2 : Value) (w2 : World), w2.ownsRow B 28 2 v2 (n + 1) (flat 2 (es ++ [e])) → Below B w w2 → w.grownBy w2 v.ownBlock → (v2.ownBlock = v.ownBlock ∨ v2.ownBlock = some w.heap.size) → ∃ A c, Ending.returned v2 = .returned (.slice A (n + 1) c) ∧ n + 1 ≤ c ∧ c ≤ 9223372036854775807 ∧ Own B w2 2 A (n + 1) (insL es n e) ∧ Below B w w2 ∧ w.grownBy w2 v.ownBlock ∧ ∀ a, A = some a → v.ownBlock = some a.block ∨ w.heap.size ≤ a.block := by
    intro v2 w2 h1 h2 h6 h7
    obtain ⟨g, cap, rfl, h3, h4, h5⟩ := row_pos (by omega) (by omega) hll h1
    rw [HL.out]
    refine ⟨_, _, rfl, h3, h4, h5, h2, h6, fun a ha => ?_⟩
    cases ha
    rcases h7 with h7 | h7
    · exact .inl (h7.symm.trans rfl)
    · refine .inr (Nat.le_of_eq ?_)
      have h8 : some g = some w.heap.size := h7
      injection h8 with h8
      exact h8.symm
  rcases hown.2 with ⟨hv, hx⟩ | ⟨g, cap, cur, hv, hg, hh, hnc, hcm, hsz, htk⟩
  · subst hv
    have h0 : n = 0 := hx
    have hvs : Value.slice none 0 0 = Value.slice none n 0 := by rw [h0]
    subst h0
    have HF := Lib.hid hfin
    clear hown hrd hl hx hfin hll
    go_enter Try.func21, Try.ntmps21
    go_wp2_with (at_builtin; go_must (refine wpList_append_rd _ rfl _ _ 34 rfl B 28 i0 _ 2 16 Try.underlying34 hi0 hz0 hz1 hz2 rfl (by omega) (.slice none 0 0) 0 es rfl HO.out (some ⟨h, 0, none⟩) 1 hc [e] rfl HRD.out (by unfold maxLen; omega) (by omega) hB ?_); intro v2 w2 hown2 hg2 hat2)
    go_ret
    exact HF.out _ _ (by simpa using hown2) ((Below.refl _ _).grown hg2 hB hge) hg2 hat2
  · subst hv
    have HF := Lib.hid hfin
    clear hown hrd hfin hsz htk hh hll
    go_enter Try.func21, Try.ntmps21
    go_wp2_with (at_builtin; go_must (refine wpList_append_rd _ rfl _ _ 34 rfl B 28 i0 _ 2 16 Try.underlying34 hi0 hz0 hz1 hz2 rfl (by omega) (.slice (some ⟨g, 0, none⟩) n cap) n es rfl HO.out (some ⟨h, 0, none⟩) 1 hc [e] rfl HRD.out (by unfold maxLen; omega) (by omega) hB ?_); intro v2 w2 hown2 hg2 hat2)
    all_goals (go_ret; exact HF.out _ _ hown2 ((Below.refl _ _).grown hg2 hB hge) hg2 hat2)

theorem shape_of_heap {w : World} {g : Nat} {cs : Array Value} {t : TypeId} {fz : Nat × Nat} (h : w.heap[g]? = some (.cells cs t fz)) : w.shape? g = some (t, cs.size) := by
  unfold World.shape?
  simp [h]

/-- Wherever. -/
theorem insPin_any (B n i h hc : Nat) (v : Value) (es : List (Nat → Int)) (e : Nat → Int) (w : World) (hn : n ≤ 4194303) (hi : i ≤ n) (hl : es.length = n) (hown : w.ownsRow B 28 2 v n (flat 2 es)) (hB : B ≤ w.heap.size)
    (hh : w.heap[h]? = some (.cells (ecells 2 e).toArray 28 (0, 0))) (hne : ∀ k, v.ownBlock = some k → k ≠ h) :
    Calls Try.prog 21 #[v, .int .i64 i, .slice (some ⟨h, 0, none⟩) 1 hc] w fun y w' =>
      ∃ A c, y = .returned (.slice A (n + 1) c) ∧ n + 1 ≤ c ∧ c ≤ 9223372036854775807 ∧ Own B w' 2 A (n + 1) (insL es i e) ∧ Below B w w' ∧ w.grownBy w' v.ownBlock ∧ ∀ a, A = some a → v.ownBlock = some a.block ∨ w.heap.size ≤ a.block := by
  have hhw : h < w.heap.size := (Array.getElem?_eq_some_iff.1 hh).1
  have hes : w.rangeAt h 0 (ecells 2 e) := fun j u hu => by
    rw [Nat.zero_add, cell_of_heap hh]
    simpa using hu
  rcases Nat.eq_or_lt_of_le hi with rfl | hi
  · exact insPin_end B i h hc v es e w hn hl hown hB hhw hes
  · rcases hown.2 with ⟨_, hx⟩ | ⟨g, cap, cur, rfl, hg, hgh, hnc, hcm, hsz, htk⟩
    · omega
    have hgw : g < w.heap.size := (Array.getElem?_eq_some_iff.1 hgh).1
    have hcap : cap ≤ 9223372036854775807 := by unfold maxLen at hcm; omega
    have hcs : w.rangeAt g 0 (flat 2 es) := fun j u hu => by
      rw [Nat.zero_add, cell_of_heap hgh]
      have hj : j < n * 2 := by
        have := (List.getElem?_eq_some_iff.1 hu).1
        rw [flat_len, hl] at this
        exact this
      rw [← htk, List.getElem?_take, if_pos hj] at hu
      simpa using hu
    have hgne : h ≠ g := fun hx => hne g (by simp [Value.ownBlock]) hx.symm
    have hfz : ∀ o, w.frozen? ⟨g, o, none⟩ = false := fun o => frozen_of_heap hgh
    have hfh : ∀ o, w.frozen? ⟨h, o, none⟩ = false := fun o => frozen_of_heap hh
    rcases Nat.lt_or_ge cap (n + 1) with hr | hr
    · refine (insPin_grow g 0 cap n i h hc es e w hi hnc hr (by omega) hl hhw hgw hcs hes).mono ?_
      rintro y w' ⟨c, rfl, h1, h2, h3, h4⟩
      exact ⟨_, c, rfl, h1, h2, h3.mono hB, h4.mono hB, ⟨h4.os, h4.tape, h4.output, h4.size, fun k hk _ => h4.block k hk⟩, fun a ha => .inr (by cases ha; exact Nat.le_refl _)⟩
    · have hsp : ∀ o, o < (n + 1) * 2 → (w.cell? ⟨g, 0 + o, none⟩).isSome = true := fun o ho => by
        have h1 : (n + 1) * 2 ≤ cap * 2 := Nat.mul_le_mul_right 2 hr
        rw [Nat.zero_add, cell_of_heap hgh, Array.getElem?_eq_getElem (by omega)]
        rfl
      refine (insPin_shift g 0 cap n i h hc es e w hi hr hcap (by omega) hl hgne hcs hsp hfz hes _ _ _ _ (shape_of_heap hh) (shape_of_heap hgh) (by omega) hfh).mono ?_
      rintro y w' ⟨rfl, rfl⟩
      have hdl : (flat 2 (es.drop i)).length = (n - i) * 2 := by rw [flat_len, List.length_drop, hl]
      have htl : (flat 2 (es.take i)).length = i * 2 := by rw [flat_len, List.length_take, hl, Nat.min_eq_left (by omega)]
      have hT : w.drew.rangeAt g 0 (flat 2 (es.take i)) := by
        have h1 := rangeAt_take (k := i * 2) hcs
        rw [flat_take 2 i es (by omega)] at h1
        exact h1
      have t1 : w.drew.there g (0 + (i + 1) * 2) (flat 2 (es.drop i)).length := fun j hj => by
        rw [hdl] at hj
        exact ⟨by rw [Nat.add_assoc]; exact hsp _ (by omega), hfz _⟩
      have t2 : w.drew.there g (0 + i * 2) (ecells 2 e).length := fun j hj => by
        rw [ecells_len] at hj
        exact ⟨by rw [Nat.add_assoc]; exact hsp _ (by omega), hfz _⟩
      refine ⟨_, cap, rfl, hr, hcap, own_of_range (insL_len hl (by omega)) (ins_range hl (by omega) ?_ ?_ ?_) hg (by rw [size_setCells, size_setCells]; exact hgw) (fun o => by rw [World.frozen?_setCells, World.frozen?_setCells]; exact hfz o), below_setCells hg _ _ _ (below_setCells hg _ _ _ (Below.drew (Below.refl _ _))), grownBy_setCells _ _ _ (grownBy_setCells _ _ _ ⟨rfl, rfl, rfl, Nat.le_refl _, fun _ _ _ => rfl⟩), fun a ha => .inl (by cases ha; rfl)⟩
      · exact World.rangeAt_setCells_apart (World.rangeAt_setCells_apart hT _ _ _ (.inr (.inl (by rw [htl]; omega)))) _ _ _ (.inr (.inl (by rw [htl]; omega)))
      · exact World.rangeAt_setCells_same _ _ _ _ (World.there_setCells t2 _ _ _)
      · exact World.rangeAt_setCells_apart (World.rangeAt_setCells_same _ _ _ _ t1) _ _ _ (.inr (.inr (by rw [ecells_len]; omega)))
end Go.Proofs.Ytehmanlpgjccoaa
