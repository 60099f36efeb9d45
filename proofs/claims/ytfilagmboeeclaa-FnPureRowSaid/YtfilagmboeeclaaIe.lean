/-
  Contract of slices.Insert of one element into a slice of structs (Entry). Conditions: the row may be written, the element lies in a block of its own.
-/
import Derived.Test.YtfilagmboeeclaaRg
import Derived.Test.YtfilagmboeeclaaBase
import Derived.Test.YtfilagmboeeclaaCu
namespace Go.Proofs.Ytfilagmboeeclaa
open Go.RowKit

theorem insEntry_info : (Try.prog.info? 26).map (fun i => (i.zero, i.size, i.bytes)) = some (some (.agg #[.int .i64 0, .int .i64 0, .int .i64 0, .int .i64 0]), 4, 32) := by kernel_rfl
theorem insEntry_size : ∀ w, (Go.sizeOf 26).run Try.prog w = .ok 4 w := fun _ => by kernel_rfl

theorem drew_sizeEntry (w : World) : w.drew.heap.size = w.heap.size := rfl
theorem drew_fzEntry (w : World) (a : Addr) : w.drew.frozen? a = w.frozen? a := rfl
set_option maxRecDepth 100000 in
set_option maxHeartbeats 4000000 in
/-- There is room, ahead of the end: in place. -/
theorem insEntry_shift (g off cap n i h hc : Nat) (es : List (Nat → Int)) (e : Nat → Int) (w : World) (hi : i < n) (hroom : n + 1 ≤ cap) (_hm : cap ≤ 9223372036854775807) (hn : n ≤ 4194304) (hl : es.length = n) (hne : h ≠ g)
    (hcs : w.rangeAt g off (flat 4 es)) (hsp : ∀ o, o < (n + 1) * 4 → (w.cell? ⟨g, off + o, none⟩).isSome = true) (hfz : ∀ o, w.frozen? ⟨g, o, none⟩ = false) (hes : w.rangeAt h 0 (ecells 4 e))
    (tA tB : TypeId) (kA kB : Nat) (hsa : w.shape? h = some (tA, kA)) (hsb : w.shape? g = some (tB, kB)) (hkB : kB ≠ 0) (hfa : ∀ o, w.frozen? ⟨h, o, none⟩ = false) :
    Calls Try.prog 14 #[.slice (some ⟨g, off, none⟩) n cap, .int .i64 i, .slice (some ⟨h, 0, none⟩) 1 hc] w fun y w' =>
      y = .returned (.slice (some ⟨g, off, none⟩) (n + 1) cap) ∧ w' = (w.drew.setCells g (off + (i + 1) * 4) (flat 4 (es.drop i))).setCells g (off + i * 4) (ecells 4 e) := by
  obtain ⟨i0, hi0, hz0, hz1, hz2⟩ := info_parts insEntry_info
  have hz2' : ¬ ((i : Int) = (n : Int)) := by omega
  have hov : ∀ lb cb, (callFunc 25 #[.slice (some ⟨h, 0, none⟩) 1 hc, .slice (some ⟨g, off + (i + 1) * 4, none⟩) lb cb]).run Try.prog w = .ok (.value (.bool false)) w := fun lb cb => by
    rw [run_callFunc_extern Try.func25 (by kernel_rfl) (by kernel_rfl) (by kernel_rfl) (e := Extern.SlicesOverlaps.overlaps #[24, 24] #[4]) (by kernel_rfl),
      Lib.run_overlaps_apart w 24 4 26 Try.underlying24 4 insEntry_size ⟨h, 0, none⟩ ⟨g, off + (i + 1) * 4, none⟩ 1 hc lb cb hne tA tB kA kB hsa hsb hkB (hfa _) (hfa _)]
    rfl
  have hdl : (flat 4 (es.drop i)).length = (n - i) * 4 := by rw [flat_len, List.length_drop, hl]
  have hnK : (n + 1 - (i + 1)) * 4 = (n - i) * 4 := by congr 1; omega
  have hcp1 : ∀ ty dc sc, (Builtin.copy_ #[24, 24] ty #[.slice (some ⟨g, off + (i + 1) * 4, none⟩) (n - i) dc, .slice (some ⟨g, off + i * 4, none⟩) (n + 1 - i) sc]).run Try.prog w.drew = .ok (goInt (n - i : Nat)) (w.drew.setCells g (off + (i + 1) * 4) (flat 4 (es.drop i))) := fun ty dc sc =>
    run_copy_K w.drew _ _ ty 26 i0 4 g (off + (i + 1) * 4) (n - i) dc ⟨g, off + i * 4, none⟩ (n + 1 - i) sc (n - i) (flat 4 (es.drop i)) Try.underlying24 hi0 hz1 (by simp only [Nat.min_def]; split <;> omega) hdl
      (fun j v hj => by
        rw [Addr.add_lit]
        have h1 := rangeAt_drop (k := i * 4) hcs
        rw [flat_drop 4 i es (by omega)] at h1
        exact h1 j v hj)
      (fun j hj => by rw [Nat.add_assoc]; exact hsp _ (by omega)) (fun j hj => hfz _) (flat_one 4 _)
  obtain ⟨W1, hW1⟩ : ∃ W1, W1 = w.drew.setCells g (off + (i + 1) * 4) (flat 4 (es.drop i)) := ⟨_, rfl⟩
  have hsp1 : ∀ o, o < (n + 1) * 4 → (W1.cell? ⟨g, off + o, none⟩).isSome = true := fun o ho => by
    rw [hW1]
    exact World.isSome_setCells g _ _ _ ⟨g, off + o, none⟩ (hsp o ho)
  have hcp2 : ∀ (W : World), (∀ x, W.cell? x = W1.cell? x) → (∀ x, W.frozen? x = W1.frozen? x) → ∀ ty dc, (Builtin.copy_ #[24, 24] ty #[.slice (some ⟨g, off + i * 4, none⟩) (n + 1 - i) dc, .slice (some ⟨h, 0, none⟩) 1 hc]).run Try.prog W = .ok (goInt (1 : Nat)) (W.setCells g (off + i * 4) (ecells 4 e)) := fun W hWc hWf ty dc =>
    run_copy_K W _ _ ty 26 i0 4 g (off + i * 4) (n + 1 - i) dc ⟨h, 0, none⟩ 1 hc 1 (ecells 4 e) Try.underlying24 hi0 hz1 (by simp only [Nat.min_def]; split <;> omega) (by rw [ecells_len, Nat.one_mul])
      (fun j v hj => by
        rw [Addr.add_lit, hWc, hW1, World.cell?_setCells_out g _ _ _ _ (fun h _ => absurd h hne)]
        exact hes j v hj)
      (fun j hj => by rw [ecells_len] at hj; rw [hWc, Nat.add_assoc]; exact hsp1 _ (by omega)) (fun j hj => by rw [hWf, hW1, World.frozen?_setCells]; exact hfz _) (fun u hu => flat_one 4 [e] u (by rw [flat_cons1]; exact hu))
  rw [← hW1] at hcp1
  have hw1 : IntKind.i64.wrap ((i : Int) + 1) = (i : Int) + 1 := by rw [IntKind.wrap_i64]; omega
  have hw2 : IntKind.i64.wrap ((n : Int) + 1) = (n : Int) + 1 := by rw [IntKind.wrap_i64]; omega
  have hb1 : (0 : Int) ≤ (i : Int) + 1 := by omega
  have hin : i ≤ n := by omega
  have htn : ((i : Int) + 1).toNat = i + 1 := by omega
  have htn2 : ((n : Int) + 1).toNat = n + 1 := by omega
  have hb2 : ¬ (cap = i + 1) := by omega
  have hb3 : (i : Int) ≤ (n : Int) + 1 := by omega
  have hb4 : ¬ (cap = i) := by omega
  have HW1 := Lib.hid hW1
  clear hW1 hdl hnK hi0 hz0 hz1 hz2 hcs hsp hfz hes hsa hsb hfa hsp1
  go_enter Try.func14, Try.ntmps14
  go_wp2_with (simp only [hov])
  go_region_law (refine step_copy_eq rfl _ _ 24 24 rfl _ _ (by simp [Act.eval, Act.put]) (by simp [Act.eval, Act.put]) (hcp1 _ _ _) ?_)
  go_wp2_with (at_builtin; refine wpList_copy_eq _ rfl _ _ 24 24 rfl _ _ rfl rfl (hcp2 _ (fun _ => rfl) (fun _ => rfl) _ _) ?_)
  go_ret
  first | exact ⟨rfl, by rw [HW1.out]⟩ | exact ⟨rfl, rfl⟩

set_option maxRecDepth 100000 in
set_option maxHeartbeats 4000000 in
/-- No room, ahead of the end: a new row. -/
theorem insEntry_grow (g off cap n i h hc : Nat) (es : List (Nat → Int)) (e : Nat → Int) (w : World) (hi : i < n) (hnc : n ≤ cap) (hroom : cap < n + 1) (hn : n ≤ 4194304) (hl : es.length = n) (hhw : h < w.heap.size) (hgw : g < w.heap.size)
    (hcs : w.rangeAt g off (flat 4 es)) (hes : w.rangeAt h 0 (ecells 4 e)) :
    Calls Try.prog 14 #[.slice (some ⟨g, off, none⟩) n cap, .int .i64 i, .slice (some ⟨h, 0, none⟩) 1 hc] w fun y w' =>
      ∃ c, y = .returned (.slice (some ⟨w.heap.size, 0, none⟩) (n + 1) c) ∧ n + 1 ≤ c ∧ c ≤ 9223372036854775807 ∧ Own w.heap.size w' 4 (some ⟨w.heap.size, 0, none⟩) (n + 1) (insL es i e) ∧ Below w.heap.size w w' := by
  obtain ⟨i0, hi0, hz0, hz1, hz2⟩ := info_parts insEntry_info
  have hz2' : ¬ ((i : Int) = (n : Int)) := by omega
  have hz3 : (cap : Int) < (n : Int) + 1 := by omega
  have hkk : (n : Int) + 1 - (i : Int) = ((n + 1 - i : Nat) : Int) := by omega
  have hik : i + (n + 1 - i) = n + 1 := by omega
  have htk : w.rangeAt g off (flat 4 (es.take i)) := by
    have h1 := rangeAt_take (k := i * 4) hcs
    rwa [flat_take 4 i es (by omega)] at h1
  have hdr : w.rangeAt g (off + i * 4) (flat 4 (es.drop i)) := by
    have h1 := rangeAt_drop (k := i * 4) hcs
    rwa [flat_drop 4 i es (by omega)] at h1
  have htl : (flat 4 (es.take i)).length = i * 4 := by rw [flat_len, List.length_take, hl, Nat.min_eq_left (by omega)]
  have hdl : (flat 4 (es.drop i)).length = (n - i) * 4 := by rw [flat_len, List.length_drop, hl]
  have hold : (Builtin.firstCells i0.size i (.slice (some ⟨g, off, none⟩) i cap)).run Try.prog w.drew = .ok (flat 4 (es.take i)).toArray w.drew := by
    rw [hz1]
    exact run_firstCells_some w.drew 4 i ⟨g, off, none⟩ i cap _ htl (fun j v hj => by rw [Addr.add_lit]; exact htk j v hj)
  have hrz : ∀ ty, (Builtin.append_ #[24, 3] ty #[.slice (some ⟨g, off, none⟩) i cap, .int .i64 ((n : Int) + 1 - (i : Int))]).run Try.prog w =
      .ok (.slice (some ⟨w.heap.size, 0, none⟩) (n + 1) (grownCap w (n + 1) cap 26)) (w.drew.alloc (.cells ((flat 4 (es.take i)).toArray ++ Builtin.zeroCells (.agg #[.int .i64 0, .int .i64 0, .int .i64 0, .int .i64 0] : Value).cells (n + 1 - i) ++ Builtin.zeroCells (.agg #[.int .i64 0, .int .i64 0, .int .i64 0, .int .i64 0] : Value).cells (grownCap w (n + 1) cap 26 - (n + 1))) 26)) := fun ty => by
    have h := Lib.run_append_grow_zeros w 24 3 ty 26 i0 _ .i64 .i64 Try.underlying24 Try.underlying3 hi0 hz0 (some ⟨g, off, none⟩) i cap _ hold (n + 1 - i) (by omega) (by omega) (by omega) (by omega) (by rw [hz2]; omega) (by rw [hz2, hik]; exact growslice_fits hroom (by omega))
    rw [hik] at h
    rw [hkk]
    exact h
  obtain ⟨G, hG⟩ : ∃ G, G = grownCap w (n + 1) cap 26 := ⟨_, rfl⟩
  obtain ⟨ROW, hROW⟩ : ∃ ROW : Array Value, ROW = (flat 4 (es.take i)).toArray ++ Builtin.zeroCells (.agg #[.int .i64 0, .int .i64 0, .int .i64 0, .int .i64 0] : Value).cells (n + 1 - i) ++ Builtin.zeroCells (.agg #[.int .i64 0, .int .i64 0, .int .i64 0, .int .i64 0] : Value).cells (G - (n + 1)) := ⟨_, rfl⟩
  rw [← hG] at hrz
  rw [← hROW] at hrz
  have hRl : (n + 1) * 4 ≤ ROW.size := by
    rw [hROW]
    simp only [Array.size_append, List.size_toArray, size_zeroCells, htl]
    simp only [Value.cells, List.size_toArray, List.length_cons, List.length_nil]
    omega
  have hRt : ∀ q v, (flat 4 (es.take i))[q]? = some v → ROW[q]? = some v := fun q v hq => by
    have hq1 : q < (flat 4 (es.take i)).length := (List.getElem?_eq_some_iff.1 hq).1
    rw [hROW, Array.append_assoc, Array.getElem?_append_left (by simpa using hq1)]
    simpa using hq
  obtain ⟨W1, hW1⟩ : ∃ W1, W1 = w.drew.alloc (.cells ROW 26) := ⟨_, rfl⟩
  rw [← hW1] at hrz
  have hN : ∀ o, o < (n + 1) * 4 → (W1.cell? ⟨w.heap.size, o, none⟩).isSome = true := fun o ho => by
    rw [hW1, World.cell?_alloc_at (w := w.drew) ROW _ w.heap.size o rfl, Array.getElem?_eq_getElem (by omega)]; rfl
  have hNf : ∀ o, W1.frozen? ⟨w.heap.size, o, none⟩ = false := fun o => by rw [hW1]; exact World.frozen?_alloc_at (w := w.drew) ROW _ w.heap.size o rfl
  have hOb : ∀ o v, w.cell? ⟨g, o, none⟩ = some v → W1.cell? ⟨g, o, none⟩ = some v := fun o v h => by rw [hW1, World.cell?_alloc_past (w := w.drew) _ g o hgw]; exact h
  have hOv : ∀ o v, w.cell? ⟨h, o, none⟩ = some v → W1.cell? ⟨h, o, none⟩ = some v := fun o v h' => by rw [hW1, World.cell?_alloc_past (w := w.drew) _ h o hhw]; exact h'
  have hb1 : Below w.heap.size w W1 := by rw [hW1]; exact Below.alloc (Below.drew (Below.refl _ _)) (Nat.le_refl _) _
  have hs1 : W1.heap.size = w.heap.size + 1 := by rw [hW1]; simp
  have hT1 : W1.rangeAt w.heap.size 0 (flat 4 (es.take i)) := fun q v hq => by
    rw [hW1, Nat.zero_add, World.cell?_alloc_at (w := w.drew) ROW _ w.heap.size q rfl]
    exact hRt q v hq
  have hcpA : ∀ (W : World), (∀ x, W.cell? x = W1.cell? x) → (∀ x, W.frozen? x = W1.frozen? x) → ∀ ty dc, (Builtin.copy_ #[24, 24] ty #[.slice (some ⟨w.heap.size, i * 4, none⟩) (n + 1 - i) dc, .slice (some ⟨h, 0, none⟩) 1 hc]).run Try.prog W = .ok (goInt (1 : Nat)) (W.setCells w.heap.size (i * 4) (ecells 4 e)) := fun W hWc hWf ty dc =>
    run_copy_K W _ _ ty 26 i0 4 w.heap.size (i * 4) (n + 1 - i) dc ⟨h, 0, none⟩ 1 hc 1 (ecells 4 e) Try.underlying24 hi0 hz1 (by simp only [Nat.min_def]; split <;> omega) (by rw [ecells_len, Nat.one_mul])
      (fun j v hj => by rw [Addr.add_lit, hWc]; exact hOv _ v (hes j v hj))
      (fun j hj => by rw [ecells_len] at hj; rw [hWc]; exact hN _ (by omega)) (fun j hj => by rw [hWf]; exact hNf _) (fun u hu => flat_one 4 [e] u (by rw [flat_cons1]; exact hu))
  have hGn : n + 1 ≤ G := by rw [hG]; exact grownCap_ge w _ _ _
  have hG63 : G ≤ 9223372036854775807 := by
    have := grownCap_le_maxLen w (n + 1) cap 26 (by unfold maxLen; omega)
    rw [← hG] at this
    unfold maxLen at this
    omega
  have hGi : ¬ (G = i) := by omega
  have hGim : ¬ (G = i + 1) := by omega
  have hci : ¬ (cap = i) := by omega
  have hbN : g ≠ w.heap.size := by omega
  have hcpB : ∀ (W : World), (∀ x, W.cell? x = (W1.setCells w.heap.size (i * 4) (ecells 4 e)).cell? x) → (∀ x, W.frozen? x = (W1.setCells w.heap.size (i * 4) (ecells 4 e)).frozen? x) → ∀ ty dc sc, (Builtin.copy_ #[24, 24] ty #[.slice (some ⟨w.heap.size, (i + 1) * 4, none⟩) (n - i) dc, .slice (some ⟨g, off + i * 4, none⟩) (n - i) sc]).run Try.prog W = .ok (goInt (n - i : Nat)) (W.setCells w.heap.size ((i + 1) * 4) (flat 4 (es.drop i))) := fun W hWc hWf ty dc sc =>
    run_copy_K W _ _ ty 26 i0 4 w.heap.size ((i + 1) * 4) (n - i) dc ⟨g, off + i * 4, none⟩ (n - i) sc (n - i) (flat 4 (es.drop i)) Try.underlying24 hi0 hz1 (by simp only [Nat.min_def]; split <;> omega) hdl
      (fun j v hj => by
        rw [Addr.add_lit, hWc, World.cell?_setCells_out _ _ _ _ _ (fun h _ => absurd h hbN)]
        exact hOb _ v (hdr j v hj))
      (fun j hj => by rw [hWc]; exact World.isSome_setCells _ _ _ _ _ (hN _ (by omega)))
      (fun j hj => by rw [hWf, World.frozen?_setCells]; exact hNf _) (flat_one 4 _)
  -- what the row holds at the end
  have hfin : ∀ W2 : World, W2 = (W1.setCells w.heap.size (i * 4) (ecells 4 e)).drew.setCells w.heap.size ((i + 1) * 4) (flat 4 (es.drop i)) →
      Own w.heap.size W2 4 (some ⟨w.heap.size, 0, none⟩) (n + 1) (insL es i e) ∧ Below w.heap.size w W2 := by
    rintro W2 rfl
    have t1 : W1.there w.heap.size (i * 4) (ecells 4 e).length := fun j hj => by
      rw [ecells_len] at hj
      exact ⟨hN _ (by omega), hNf _⟩
    have t2 : W1.there w.heap.size ((i + 1) * 4) (flat 4 (es.drop i)).length := fun j hj => by
      rw [hdl] at hj
      exact ⟨hN _ (by omega), hNf _⟩
    refine ⟨own_of_range (insL_len hl (by omega)) (ins_range hl (by omega) ?_ ?_ ?_) (Nat.le_refl _) (by rw [size_setCells, drew_sizeEntry, size_setCells, hs1]; omega) (fun o => by rw [World.frozen?_setCells, drew_fzEntry, World.frozen?_setCells]; exact hNf o), below_setCells (Nat.le_refl _) _ _ _ (Below.drew (below_setCells (Nat.le_refl _) _ _ _ hb1))⟩
    · exact World.rangeAt_setCells_apart ((World.rangeAt_drew _ _ _ _).2 (World.rangeAt_setCells_apart hT1 _ _ _ (.inr (.inl (by rw [htl]; omega))))) _ _ _ (.inr (.inl (by rw [htl]; omega)))
    · rw [Nat.zero_add]
      exact World.rangeAt_setCells_apart ((World.rangeAt_drew _ _ _ _).2 (World.rangeAt_setCells_same _ _ _ _ t1)) _ _ _ (.inr (.inl (by rw [ecells_len]; omega)))
    · rw [Nat.zero_add]
      exact World.rangeAt_setCells_same _ _ _ _ ((World.there_drew _ _ _ _).2 (World.there_setCells t2 _ _ _))
  have HFIN := Lib.hid hfin
  clear hfin hT1 hRt hRl htk hdr htl hold hROW hG hkk hik
  subst hW1
  have hE1 : ∀ x, ((w.alloc (.cells ROW 26)).drew).cell? x = (w.drew.alloc (.cells ROW 26)).cell? x := fun x => rfl
  have hE2 : ∀ x, ((w.alloc (.cells ROW 26)).drew).frozen? x = (w.drew.alloc (.cells ROW 26)).frozen? x := fun x => rfl
  have hF1 : ∀ x, (((w.alloc (.cells ROW 26)).drew.setCells w.heap.size (i * 4) (ecells 4 e)).drew).cell? x = ((w.drew.alloc (.cells ROW 26)).setCells w.heap.size (i * 4) (ecells 4 e)).cell? x := by
    generalize ecells 4 e = EC
    exact fun x => rfl
  have hF2 : ∀ x, (((w.alloc (.cells ROW 26)).drew.setCells w.heap.size (i * 4) (ecells 4 e)).drew).frozen? x = ((w.drew.alloc (.cells ROW 26)).setCells w.heap.size (i * 4) (ecells 4 e)).frozen? x := by
    generalize ecells 4 e = EC
    exact fun x => rfl
  have hw1 : IntKind.i64.wrap ((i : Int) + 1) = (i : Int) + 1 := by rw [IntKind.wrap_i64]; omega
  have hw2 : IntKind.i64.wrap ((n : Int) + 1) = (n : Int) + 1 := by rw [IntKind.wrap_i64]; omega
  have hb1' : (0 : Int) ≤ (i : Int) + 1 := by omega
  have hin : i ≤ n := by omega
  have htn : ((i : Int) + 1).toNat = i + 1 := by omega
  have hb3 : (i : Int) ≤ (n : Int) := by omega
  clear hb1 hs1 hi0 hz0 hz1 hz2
  go_enter Try.func14, Try.ntmps14
  go_wp2_with (first
    | (at_builtin; refine Lib.wpList_append_run _ rfl _ _ _ _ rfl _ _ rfl rfl _ _ (hrz _) ?_)
    | (at_builtin; refine wpList_copy_eq _ rfl _ _ 24 24 rfl _ _ rfl rfl (hcpA _ hE1 hE2 _ _) ?_)
    | (at_builtin; refine wpList_copy_eq _ rfl _ _ 24 24 rfl _ _ rfl rfl (hcpB _ (fun _ => rfl) (fun _ => rfl) _ _ _) ?_))
  go_region_law (refine step_copy_eq rfl _ _ 24 24 rfl (.slice (some ⟨w.heap.size, (i + 1) * 4, none⟩) (n - i) (G - (i + 1))) (.slice (some ⟨g, off + i * 4, none⟩) (n - i) (cap - i)) (by simp [Act.eval, Act.put]) (by simp [Act.eval, Act.put]) (hcpB _ hF1 hF2 3 (G - (i + 1)) (cap - i)) ?_)
  go_wp2
  go_ret
  exact ⟨_, rfl, hGn, hG63, HFIN.out _ rfl⟩
end Go.Proofs.Ytfilagmboeeclaa
