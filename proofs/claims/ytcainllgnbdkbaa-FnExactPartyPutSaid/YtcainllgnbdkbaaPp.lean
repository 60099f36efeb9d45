/-
  Contracts of PartyPut of the program and of the reference. No conditions beyond those stated.
-/
import Derived.Test.YtcainllgnbdkbaaPt
import Derived.Test.YtcainllgnbdkbaaInp
import Derived.Test.YtcainllgnbdkbaaMk
import Derived.Test.YtcainllgnbdkbaaBw
import Derived.Deep.DeepCutAuto
namespace Go.Proofs.Ytcainllgnbdkbaa
open Go.RowKit

/-- The place of p: the first element with a greater Id. -/
def ppl (es : List (Nat → Int)) (p : Nat → Int) (n : Nat) : Nat := match ixOf (fun i => decide (p 0 < fld es i 0)) n with | none => n | some k => k
theorem ppl_le {es : List (Nat → Int)} {p : Nat → Int} {n : Nat} : ppl es p n ≤ n := by
  unfold ppl
  split
  · omega
  · rename_i k hk
    have := ixOf_some hk
    omega
theorem ppl_of {es : List (Nat → Int)} {p : Nat → Int} {n k : Nat} (h1 : ∀ i, i < k → ¬ p 0 < fld es i 0) (h2 : k = n ∨ (k < n ∧ p 0 < fld es k 0)) : k = ppl es p n := by
  unfold ppl
  split
  · rename_i hx
    rcases h2 with h2 | ⟨h2, h3⟩
    · exact h2
    · have := ixOf_none hx k h2
      simp at this
      omega
  · rename_i j hj
    obtain ⟨h4, h5, h6⟩ := ixOf_some hj
    simp at h5
    rcases Nat.lt_trichotomy j k with h | h | h
    · exact absurd h5 (h1 j h)
    · exact h.symm
    · rcases h2 with h2 | ⟨h2, h3⟩
      · omega
      · have := h6 k h
        simp at this
        omega
theorem fld_set {es : List (Nat → Int)} {k i j : Nat} {p : Nat → Int} (hk : k < es.length) : fld (es.set k p) i j = if i = k then p j else fld es i j := by
  unfold fld
  rw [List.getD_eq_getElem?_getD, List.getD_eq_getElem?_getD, List.getElem?_set]
  split
  · subst_vars
    simp [hk]
  · rw [if_neg (by omega)]
theorem own_set {B : Nat} {w : World} {K g n k : Nat} {es : List (Nat → Int)} {p : Nat → Int} {vs : List Value} (h : Own B w K (some ⟨g, 0, none⟩) n es) (hk : k < n) (hl : vs.length = K) (hv : ∀ j, j < K → vs[j]? = some (.int .i64 (p j))) :
    Own B (w.setCells g (k * K) vs) K (some ⟨g, 0, none⟩) n (es.set k p) := by
  obtain ⟨h1, h2⟩ := h
  obtain ⟨b, off, he, hlt, hB, hfz, hc⟩ := h2.resolve_left (by omega)
  injection he with he
  injection he with he1 he2
  subst he1 he2
  refine ⟨by rw [List.length_set]; exact h1, .inr ⟨g, 0, rfl, by rw [size_setCells]; exact hlt, hB, fun o => by rw [World.frozen?_setCells]; exact hfz o, fun i hi j hj => ?_⟩⟩
  have hin := World.cell?_setCells_in g vs (k * K) w (fun j hj => by
    have h3 := hc k hk j (by omega)
    rw [Nat.zero_add] at h3
    rw [h3]
    rfl)
  rw [fld_set (by omega), Nat.zero_add]
  rcases Nat.lt_trichotomy i k with hik | hik | hik
  · rw [if_neg (by omega), World.cell?_setCells_out g vs (k * K) w ⟨g, i * K + j, none⟩ (fun _ _ => .inl (idx_lt hik hj))]
    have h3 := hc i hi j hj
    rwa [Nat.zero_add] at h3
  · subst hik
    rw [if_pos rfl, hin j (by omega)]
    have := hv j hj
    rw [List.getElem?_eq_getElem (by omega)] at this
    exact this
  · have h4 : k * K + K ≤ i * K := by
      have := Nat.mul_le_mul_right K (show k + 1 ≤ i by omega)
      rwa [Nat.succ_mul] at this
    rw [if_neg (by omega), World.cell?_setCells_out g vs (k * K) w ⟨g, i * K + j, none⟩ (fun _ _ => .inr (by show k * K + vs.length ≤ i * K + j; omega))]
    have h3 := hc i hi j hj
    rwa [Nat.zero_add] at h3
theorem rd_one10 {w : World} {h : Nat} {p : Nat → Int} (hh : h < w.heap.size) (h0 : w.cell? ⟨h, 0, none⟩ = some (.int .i64 (p 0))) (h1 : w.cell? ⟨h, 1, none⟩ = some (.int .i64 (p 1))) (h2 : w.cell? ⟨h, 2, none⟩ = some (.int .i64 (p 2))) (h3 : w.cell? ⟨h, 3, none⟩ = some (.int .i64 (p 3))) (h4 : w.cell? ⟨h, 4, none⟩ = some (.int .i64 (p 4))) (h5 : w.cell? ⟨h, 5, none⟩ = some (.int .i64 (p 5))) (h6 : w.cell? ⟨h, 6, none⟩ = some (.int .i64 (p 6))) (h7 : w.cell? ⟨h, 7, none⟩ = some (.int .i64 (p 7))) (h8 : w.cell? ⟨h, 8, none⟩ = some (.int .i64 (p 8))) (h9 : w.cell? ⟨h, 9, none⟩ = some (.int .i64 (p 9))) :
    Rd w 10 (some ⟨h, 0, none⟩) 1 [p] :=
  ⟨rfl, .inr ⟨h, 0, rfl, hh, fun i hi j hj => by
    obtain rfl : i = 0 := by omega
    match j, hj with
    | 0, _ => exact h0
    | 1, _ => exact h1
    | 2, _ => exact h2
    | 3, _ => exact h3
    | 4, _ => exact h4
    | 5, _ => exact h5
    | 6, _ => exact h6
    | 7, _ => exact h7
    | 8, _ => exact h8
    | 9, _ => exact h9⟩⟩
theorem delParty_info : (Try.prog.info? 31).map (fun i => (i.zero, i.size, i.bytes)) = some (some (.agg #[.int .i64 0, .int .i64 0, .int .i64 0, .int .i64 0, .int .i64 0, .int .i64 0, .int .i64 0, .int .i64 0, .int .i64 0, .int .i64 0]), 10, 80) := by kernel_rfl
theorem row_empty (w : World) (t : TypeId) (K : Nat) : (w.alloc (.cells #[] t)).ownsRow w.heap.size t K (.slice (some ⟨w.heap.size, 0, none⟩) 0 0) 0 (flat K []) :=
  ⟨by simp [flat], .inr ⟨w.heap.size, 0, #[], rfl, Nat.le_refl _, heap_alloc_new w _, Nat.le_refl _, Nat.zero_le _, by simp, by simp [flat]⟩⟩
theorem row_empty' (w : World) (t : TypeId) (K b B : Nat) (h : b = w.heap.size) (hB : B ≤ w.heap.size) : (w.alloc (.cells #[] t)).ownsRow B t K (.slice (some ⟨b, 0, none⟩) 0 0) 0 (flat K []) :=
  h ▸ (row_empty w t K).lower hB
theorem alloc_heap (w : World) (o : Obj) : (w.alloc o).heap[w.heap.size]? = some o := by
  unfold World.alloc
  exact Array.getElem?_push_size
theorem alloc_heap' (w : World) (o : Obj) (i : Nat) (h : i = w.heap.size) : (w.alloc o).heap[i]? = some o := h ▸ alloc_heap w o
theorem alloc_old (w : World) (o : Obj) (i : Nat) (h : i < w.heap.size) : (w.alloc o).heap[i]? = w.heap[i]? := by
  unfold World.alloc
  show (w.heap.push o)[i]? = _
  rw [Array.getElem?_push, if_neg (by omega)]
theorem rd_box10 {w : World} {h : Nat} {p : Nat → Int} (hh : w.heap[h]? = some (.cells #[.int .i64 (p 0), .int .i64 (p 1), .int .i64 (p 2), .int .i64 (p 3), .int .i64 (p 4), .int .i64 (p 5), .int .i64 (p 6), .int .i64 (p 7), .int .i64 (p 8), .int .i64 (p 9)] 31 (0, 0))) : Rd w 10 (some ⟨h, 0, none⟩) 1 [p] :=
  rd_one10 (Array.getElem?_eq_some_iff.1 hh).1 (cell_of_heap hh) (cell_of_heap hh) (cell_of_heap hh) (cell_of_heap hh) (cell_of_heap hh) (cell_of_heap hh) (cell_of_heap hh) (cell_of_heap hh) (cell_of_heap hh) (cell_of_heap hh)
theorem pbox_heap (w : World) (p : Nat → Int) : (w.alloc (.cells #[.int .i64 (p 0), .int .i64 (p 1), .int .i64 (p 2), .int .i64 (p 3), .int .i64 (p 4), .int .i64 (p 5), .int .i64 (p 6), .int .i64 (p 7), .int .i64 (p 8), .int .i64 (p 9)] 31)).heap[w.heap.size]? = some (.cells (ecells 10 p).toArray 31 (0, 0)) :=
  alloc_heap w _
theorem row_lt {base : Nat} {w : World} {e : TypeId} {K n : Nat} {v : Value} {xs : List Value} (h : w.ownsRow base e K v n xs) : ∀ k, v.ownBlock = some k → k < w.heap.size := by
  intro k hk
  rcases h.2 with ⟨rfl, _⟩ | ⟨g, cap, cur, rfl, hg, hh, _⟩
  · simp [Value.ownBlock] at hk
  · obtain rfl : g = k := by simpa [Value.ownBlock] using hk
    exact (Array.getElem?_eq_some_iff.1 hh).1
set_option maxRecDepth 100000 in
set_option maxHeartbeats 1000000 in
theorem indexFunc_pp (p0 : Nat) (p : (Nat → Int) → Bool) (A : Option Addr) (n c : Nat) (es : List (Nat → Int)) (w : World) (hn : n ≤ 4194304) (h : Rd w 10 A n es)
    (hp : ∀ (w1 : World) (e : Nat → Int), Below w.heap.size w w1 → Calls Try.prog 84 #[.agg #[.int .i64 (e 0), .int .i64 (e 1), .int .i64 (e 2), .int .i64 (e 3), .int .i64 (e 4), .int .i64 (e 5), .int .i64 (e 6), .int .i64 (e 7), .int .i64 (e 8), .int .i64 (e 9)], .pointer (some ⟨p0, 0, none⟩)] w1 fun x w' => x = .returned (.bool (p e)) ∧ Below w1.heap.size w1 w') :
    Calls Try.prog 83 #[.slice A n c, .func (.func 84) #[] #[.pointer (some ⟨p0, 0, none⟩)]] w (IntP (FirstAt (fun i => p (fld es i)) n) w) := by
  have hcases := h.2
  have HP := Lib.hid hp
  clear h hp
  go_enter Try.func83, Try.ntmps83
  go_wp2
  go_loopw [5, 8] (fun j i wr => ∃ k : Nat, k ≤ n ∧ i = .int .i64 k ∧ Below w.heap.size w wr ∧ Hid (∀ i, i < k → p (fld es i) = false)) (fun _ i _ => n - (intOf i).toNat)
  case atStart => exact ⟨0, Nat.zero_le _, rfl, Below.refl _ _, fun i hi => absurd hi (by omega)⟩
  case round =>
    obtain ⟨k, hk, rfl, hbel, hno⟩ := hrel
    by_cases hlt : k < n
    · obtain ⟨b, off, rfl, hb, hc⟩ := hcases.resolve_left (by omega)
      have c0 : wr.cell? ⟨b, off + k * 10, none⟩ = some (.int .i64 (fld es k 0)) := (hbel.cell (p := ⟨b, off + k * 10, none⟩) hb).trans (hc k hlt 0 (by omega))
      have c1 : wr.cell? ⟨b, off + k * 10 + 1, none⟩ = some (.int .i64 (fld es k 1)) := (hbel.cell (p := ⟨b, off + k * 10 + 1, none⟩) hb).trans (hc k hlt 1 (by omega))
      have c2 : wr.cell? ⟨b, off + k * 10 + 2, none⟩ = some (.int .i64 (fld es k 2)) := (hbel.cell (p := ⟨b, off + k * 10 + 2, none⟩) hb).trans (hc k hlt 2 (by omega))
      have c3 : wr.cell? ⟨b, off + k * 10 + 3, none⟩ = some (.int .i64 (fld es k 3)) := (hbel.cell (p := ⟨b, off + k * 10 + 3, none⟩) hb).trans (hc k hlt 3 (by omega))
      have c4 : wr.cell? ⟨b, off + k * 10 + 4, none⟩ = some (.int .i64 (fld es k 4)) := (hbel.cell (p := ⟨b, off + k * 10 + 4, none⟩) hb).trans (hc k hlt 4 (by omega))
      have c5 : wr.cell? ⟨b, off + k * 10 + 5, none⟩ = some (.int .i64 (fld es k 5)) := (hbel.cell (p := ⟨b, off + k * 10 + 5, none⟩) hb).trans (hc k hlt 5 (by omega))
      have c6 : wr.cell? ⟨b, off + k * 10 + 6, none⟩ = some (.int .i64 (fld es k 6)) := (hbel.cell (p := ⟨b, off + k * 10 + 6, none⟩) hb).trans (hc k hlt 6 (by omega))
      have c7 : wr.cell? ⟨b, off + k * 10 + 7, none⟩ = some (.int .i64 (fld es k 7)) := (hbel.cell (p := ⟨b, off + k * 10 + 7, none⟩) hb).trans (hc k hlt 7 (by omega))
      have c8 : wr.cell? ⟨b, off + k * 10 + 8, none⟩ = some (.int .i64 (fld es k 8)) := (hbel.cell (p := ⟨b, off + k * 10 + 8, none⟩) hb).trans (hc k hlt 8 (by omega))
      have c9 : wr.cell? ⟨b, off + k * 10 + 9, none⟩ = some (.int .i64 (fld es k 9)) := (hbel.cell (p := ⟨b, off + k * 10 + 9, none⟩) hb).trans (hc k hlt 9 (by omega))
      clear hcases hc
      have hsz := hbel.size
      go_wp2_with fail
      refine (HP.out wr (fld es k) hbel).mono ?_
      rintro x w2 ⟨rfl, hb2⟩
      have hbel2 := hbel.trans (hb2.mono hsz)
      rcases Bool.eq_false_or_eq_true (p (fld es k)) with hpk | hpk
      · clear hbel hb2
        go_wp2
        go_ret
        exact ⟨k, .inl ⟨k, hlt, rfl, hpk, hno.out⟩, rfl, hbel2⟩
      · have hno' : Hid (∀ i, i < k + 1 → p (fld es i) = false) := fun i hi => by
          rcases Nat.lt_or_ge i k with h | h
          · exact hno.out i h
          · obtain rfl : i = k := by omega
            exact hpk
        clear hno hbel hb2
        go_wp2
        go_roundw
        case rel => exact ⟨k + 1, by omega, by go_num, hbel2, hno'⟩
        case measure => simp [intOf]; omega
    · have hkn : k = n := by omega
      subst hkn
      go_wp2
      go_ret
      exact ⟨-1, .inr ⟨rfl, hno.out⟩, rfl, hbel⟩

set_option maxRecDepth 100000 in
set_option maxHeartbeats 400000 in
theorem ppClo_any (bid : Nat) (id : Int) (e : Nat → Int) (w : World) (hb : bid < w.heap.size) (hc : w.cell? ⟨bid, 0, none⟩ = some (.int .i64 id)) :
    Calls Try.prog 84 #[.agg #[.int .i64 (e 0), .int .i64 (e 1), .int .i64 (e 2), .int .i64 (e 3), .int .i64 (e 4), .int .i64 (e 5), .int .i64 (e 6), .int .i64 (e 7), .int .i64 (e 8), .int .i64 (e 9)], .pointer (some ⟨bid, 0, none⟩)] w fun x w' => x = .returned (.bool (decide (id < e 0))) ∧ Below w.heap.size w w' := by
  go_enter Try.func84, Try.ntmps84
  go_wp2
  go_ret
  refine ⟨rfl, ?_⟩
  (repeat (first | with_reducible exact Below.refl _ _ | with_reducible refine Below.drew ?_ | with_reducible refine below_drewN ?_ _ | (with_reducible refine bel_alloc ?_ ?_ _; (first | omega | (simp; omega) | simp)) | (with_reducible refine bel_set ?_ ?_ _; (first | omega | (simp; omega) | simp)) | (with_reducible refine bel_tr (by assumption) ?_ ?_; (first | omega | (simp; omega) | simp))))


theorem own_cell {B : Nat} {w : World} {K g n k j : Nat} {es : List (Nat → Int)} (h : Own B w K (some ⟨g, 0, none⟩) n es) (hk : k < n) (hj : j < K) : w.cell? ⟨g, k * K + j, none⟩ = some (.int .i64 (fld es k j)) := by
  obtain ⟨b, off, he, _, _, _, hc⟩ := h.2.resolve_left (by omega)
  injection he with he
  injection he with he1 he2
  subst he1 he2
  have := hc k hk j hj
  rwa [Nat.zero_add] at this
theorem own_fz {B : Nat} {w : World} {K g n k : Nat} {es : List (Nat → Int)} (h : Own B w K (some ⟨g, 0, none⟩) n es) (hk : k < n) (o : Nat) : w.frozen? ⟨g, o, none⟩ = false := by
  obtain ⟨b, off, he, _, _, hf, _⟩ := h.2.resolve_left (by omega)
  injection he with he
  injection he with he1 he2
  subst he1 he2
  exact hf o
theorem own_blk {B : Nat} {w : World} {K g n : Nat} {es : List (Nat → Int)} (h : Own B w K (some ⟨g, 0, none⟩) n es) (hk : 0 < n) : B ≤ g := by
  obtain ⟨b, off, he, _, hB, _, _⟩ := h.2.resolve_left (by omega)
  injection he with he
  injection he with he1 he2
  subst he1 he2
  exact hB

set_option maxRecDepth 100000 in
set_option maxHeartbeats 4000000 in
theorem sPP_y (A : Option Addr) (n c k : Nat) (es : List (Nat → Int)) (p : Nat → Int) (w : World) (hn : n ≤ 1048576) (h : Rd w 10 A n es) (hk : k < n) (hp : hasPid es (p 0) k = true) (hb : ∀ i, i < k → hasPid es (p 0) i = false) :
    Calls Try.prog 36 #[.slice A n c, .agg #[.int .i64 (p 0), .int .i64 (p 1), .int .i64 (p 2), .int .i64 (p 3), .int .i64 (p 4), .int .i64 (p 5), .int .i64 (p 6), .int .i64 (p 7), .int .i64 (p 8), .int .i64 (p 9)]] w fun y w' => ∃ A' c', y = .returned (.slice A' n c') ∧ Own w.heap.size w' 10 A' n (es.set k p) ∧ Below w.heap.size w w' := by
  have H := Lib.hid h
  have HL := Lib.hid h.1
  have HF : Hid (FirstAt (hasPid es (p 0)) n (k : Int)) := .inl ⟨k, hk, rfl, hp, hb⟩
  clear h hp hb
  obtain ⟨i0, hi0, hz0, hz1, hz2⟩ := info_parts delParty_info
  have hki : (k : Int) < (n : Int) := by omega
  have hk0 : (0 : Int) ≤ (k : Int) := by omega
  go_enter Try.func36, Try.ntmps36
  go_wp2_with fail
  refine (sPartyAt_any A n c (p 0) es _ (by omega) (H.out.below (by (repeat (first | with_reducible exact Below.refl _ _ | with_reducible refine Below.drew ?_ | with_reducible refine below_drewN ?_ _ | (with_reducible refine bel_alloc ?_ ?_ _; (first | omega | (simp; omega) | simp)) | (with_reducible refine bel_set ?_ ?_ _; (first | omega | (simp; omega) | simp)) | (with_reducible refine bel_tr (by assumption) ?_ ?_; (first | omega | (simp; omega) | simp))))))).mono ?_
  rintro y w1 ⟨r, hr, rfl, b1⟩
  obtain rfl : r = (k : Int) := hr.uniq HF.out
  clear hr
  have s1 := b1.size
  (try simp at s1)
  have x0 : w1.cell? ⟨w.heap.size, 0, none⟩ = some (.int .i64 (p 0)) := (b1.cell (p := ⟨w.heap.size, 0, none⟩) (by (first | omega | (simp; omega) | simp))).trans (by (first | (go_keep; done) | (go_simp; done)))
  have x1 : w1.cell? ⟨w.heap.size, 1, none⟩ = some (.int .i64 (p 1)) := (b1.cell (p := ⟨w.heap.size, 1, none⟩) (by (first | omega | (simp; omega) | simp))).trans (by (first | (go_keep; done) | (go_simp; done)))
  have x2 : w1.cell? ⟨w.heap.size, 2, none⟩ = some (.int .i64 (p 2)) := (b1.cell (p := ⟨w.heap.size, 2, none⟩) (by (first | omega | (simp; omega) | simp))).trans (by (first | (go_keep; done) | (go_simp; done)))
  have x3 : w1.cell? ⟨w.heap.size, 3, none⟩ = some (.int .i64 (p 3)) := (b1.cell (p := ⟨w.heap.size, 3, none⟩) (by (first | omega | (simp; omega) | simp))).trans (by (first | (go_keep; done) | (go_simp; done)))
  have x4 : w1.cell? ⟨w.heap.size, 4, none⟩ = some (.int .i64 (p 4)) := (b1.cell (p := ⟨w.heap.size, 4, none⟩) (by (first | omega | (simp; omega) | simp))).trans (by (first | (go_keep; done) | (go_simp; done)))
  have x5 : w1.cell? ⟨w.heap.size, 5, none⟩ = some (.int .i64 (p 5)) := (b1.cell (p := ⟨w.heap.size, 5, none⟩) (by (first | omega | (simp; omega) | simp))).trans (by (first | (go_keep; done) | (go_simp; done)))
  have x6 : w1.cell? ⟨w.heap.size, 6, none⟩ = some (.int .i64 (p 6)) := (b1.cell (p := ⟨w.heap.size, 6, none⟩) (by (first | omega | (simp; omega) | simp))).trans (by (first | (go_keep; done) | (go_simp; done)))
  have x7 : w1.cell? ⟨w.heap.size, 7, none⟩ = some (.int .i64 (p 7)) := (b1.cell (p := ⟨w.heap.size, 7, none⟩) (by (first | omega | (simp; omega) | simp))).trans (by (first | (go_keep; done) | (go_simp; done)))
  have x8 : w1.cell? ⟨w.heap.size, 8, none⟩ = some (.int .i64 (p 8)) := (b1.cell (p := ⟨w.heap.size, 8, none⟩) (by (first | omega | (simp; omega) | simp))).trans (by (first | (go_keep; done) | (go_simp; done)))
  have x9 : w1.cell? ⟨w.heap.size, 9, none⟩ = some (.int .i64 (p 9)) := (b1.cell (p := ⟨w.heap.size, 9, none⟩) (by (first | omega | (simp; omega) | simp))).trans (by (first | (go_keep; done) | (go_simp; done)))
  have b2 : Below w.heap.size w (w1.alloc (.cells #[] 31)) := by (repeat (first | with_reducible exact Below.refl _ _ | with_reducible refine Below.drew ?_ | with_reducible refine below_drewN ?_ _ | (with_reducible refine bel_alloc ?_ ?_ _; (first | omega | (simp; omega) | simp)) | (with_reducible refine bel_set ?_ ?_ _; (first | omega | (simp; omega) | simp)) | (with_reducible refine bel_tr (by assumption) ?_ ?_; (first | omega | (simp; omega) | simp))))
  go_wp2_with (at_builtin; go_must (refine wpList_append_rd _ rfl _ _ 56 rfl w1.heap.size 31 i0 _ 10 80 Try.underlying56 hi0 hz0 hz1 hz2 rfl (by omega) (.slice (some ⟨w1.heap.size, 0, none⟩) 0 0) 0 [] rfl (row_empty w1 _ 10) A n c es rfl (H.out.below b2) (by unfold maxLen; omega) (by omega) (by simp) ?_); intro v3 w3 hown3 hg3 hat3; have b3 : Below w1.heap.size _ w3 := Below.grown (Below.refl w1.heap.size _) hg3 (by simp) (by simp [Value.ownBlock]); have b3w : Below w.heap.size w w3 := b2.grown hg3 (by simp; omega) (by simp [Value.ownBlock]; omega); have x0 : w3.cell? ⟨w.heap.size, 0, none⟩ = some (.int .i64 (p 0)) := (b3.cell (p := ⟨w.heap.size, 0, none⟩) (by (first | omega | (simp; omega) | simp))).trans (by (first | (go_keep; done) | (go_simp; done))); have x1 : w3.cell? ⟨w.heap.size, 1, none⟩ = some (.int .i64 (p 1)) := (b3.cell (p := ⟨w.heap.size, 1, none⟩) (by (first | omega | (simp; omega) | simp))).trans (by (first | (go_keep; done) | (go_simp; done))); have x2 : w3.cell? ⟨w.heap.size, 2, none⟩ = some (.int .i64 (p 2)) := (b3.cell (p := ⟨w.heap.size, 2, none⟩) (by (first | omega | (simp; omega) | simp))).trans (by (first | (go_keep; done) | (go_simp; done))); have x3 : w3.cell? ⟨w.heap.size, 3, none⟩ = some (.int .i64 (p 3)) := (b3.cell (p := ⟨w.heap.size, 3, none⟩) (by (first | omega | (simp; omega) | simp))).trans (by (first | (go_keep; done) | (go_simp; done))); have x4 : w3.cell? ⟨w.heap.size, 4, none⟩ = some (.int .i64 (p 4)) := (b3.cell (p := ⟨w.heap.size, 4, none⟩) (by (first | omega | (simp; omega) | simp))).trans (by (first | (go_keep; done) | (go_simp; done))); have x5 : w3.cell? ⟨w.heap.size, 5, none⟩ = some (.int .i64 (p 5)) := (b3.cell (p := ⟨w.heap.size, 5, none⟩) (by (first | omega | (simp; omega) | simp))).trans (by (first | (go_keep; done) | (go_simp; done))); have x6 : w3.cell? ⟨w.heap.size, 6, none⟩ = some (.int .i64 (p 6)) := (b3.cell (p := ⟨w.heap.size, 6, none⟩) (by (first | omega | (simp; omega) | simp))).trans (by (first | (go_keep; done) | (go_simp; done))); have x7 : w3.cell? ⟨w.heap.size, 7, none⟩ = some (.int .i64 (p 7)) := (b3.cell (p := ⟨w.heap.size, 7, none⟩) (by (first | omega | (simp; omega) | simp))).trans (by (first | (go_keep; done) | (go_simp; done))); have x8 : w3.cell? ⟨w.heap.size, 8, none⟩ = some (.int .i64 (p 8)) := (b3.cell (p := ⟨w.heap.size, 8, none⟩) (by (first | omega | (simp; omega) | simp))).trans (by (first | (go_keep; done) | (go_simp; done))); have x9 : w3.cell? ⟨w.heap.size, 9, none⟩ = some (.int .i64 (p 9)) := (b3.cell (p := ⟨w.heap.size, 9, none⟩) (by (first | omega | (simp; omega) | simp))).trans (by (first | (go_keep; done) | (go_simp; done))); obtain ⟨g, cap, rfl, hnc, hcm, o3⟩ := row_pos (w := w3) (v := v3) (n := n) (es := es) (base := w1.heap.size) (e := 31) (K := 10) (by omega) (by omega) HL.out (by simpa using hown3); have O3 := Lib.hid o3; have q0 := own_cell o3 hk (j := 0) (by omega); have q1 := own_cell o3 hk (j := 1) (by omega); have q2 := own_cell o3 hk (j := 2) (by omega); have q3 := own_cell o3 hk (j := 3) (by omega); have q4 := own_cell o3 hk (j := 4) (by omega); have q5 := own_cell o3 hk (j := 5) (by omega); have q6 := own_cell o3 hk (j := 6) (by omega); have q7 := own_cell o3 hk (j := 7) (by omega); have q8 := own_cell o3 hk (j := 8) (by omega); have q9 := own_cell o3 hk (j := 9) (by omega); have z0 := own_fz o3 hk (k * 10 + 0); have z1 := own_fz o3 hk (k * 10 + 1); have z2 := own_fz o3 hk (k * 10 + 2); have z3 := own_fz o3 hk (k * 10 + 3); have z4 := own_fz o3 hk (k * 10 + 4); have z5 := own_fz o3 hk (k * 10 + 5); have z6 := own_fz o3 hk (k * 10 + 6); have z7 := own_fz o3 hk (k * 10 + 7); have z8 := own_fz o3 hk (k * 10 + 8); have z9 := own_fz o3 hk (k * 10 + 9); have z := own_fz o3 hk (k * 10); (try simp only [Nat.add_zero, Nat.zero_add] at q0); clear hown3 hg3 hat3 o3)
  go_ret
  exact ⟨_, _, rfl, (own_set (vs := [.int .i64 (p 0), .int .i64 (p 1), .int .i64 (p 2), .int .i64 (p 3), .int .i64 (p 4), .int .i64 (p 5), .int .i64 (p 6), .int .i64 (p 7), .int .i64 (p 8), .int .i64 (p 9)]) O3.out hk rfl (by intro j hj; match j, hj with | 0, _ => rfl | 1, _ => rfl | 2, _ => rfl | 3, _ => rfl | 4, _ => rfl | 5, _ => rfl | 6, _ => rfl | 7, _ => rfl | 8, _ => rfl | 9, _ => rfl)).mono (by omega), below_setCells (by have := own_blk O3.out (by omega); omega) [.int .i64 (p 0), .int .i64 (p 1), .int .i64 (p 2), .int .i64 (p 3), .int .i64 (p 4), .int .i64 (p 5), .int .i64 (p 6), .int .i64 (p 7), .int .i64 (p 8), .int .i64 (p 9)] _ _ b3w⟩

set_option maxRecDepth 100000 in
set_option maxHeartbeats 4000000 in
theorem sPP_n (A : Option Addr) (n c : Nat) (es : List (Nat → Int)) (p : Nat → Int) (w : World) (hn : n ≤ 1048576) (h : Rd w 10 A n es) (hnc : n ≤ c) (hcm : c ≤ 9223372036854775807) (hn0 : 0 < n) (hall : ∀ i, i < n → hasPid es (p 0) i = false) :
    Calls Try.prog 36 #[.slice A n c, .agg #[.int .i64 (p 0), .int .i64 (p 1), .int .i64 (p 2), .int .i64 (p 3), .int .i64 (p 4), .int .i64 (p 5), .int .i64 (p 6), .int .i64 (p 7), .int .i64 (p 8), .int .i64 (p 9)]] w fun y w' => ∃ A' c', y = .returned (.slice A' (n + 1) c') ∧ Own w.heap.size w' 10 A' (n + 1) (insL es (ppl es p n) p) ∧ Below w.heap.size w w' := by
  have HL := Lib.hid h.1
  have HF : Hid (FirstAt (hasPid es (p 0)) n (-1)) := .inr ⟨rfl, hall⟩
  have HALL : Hid (∀ i, i < n → fld es i 0 ≠ p 0) := fun i hi => by simpa [hasPid] using hall i hi
  have hcc := h.2
  have H := Lib.hid h
  clear h hall
  obtain ⟨b, off, rfl, hb, hcc⟩ := hcc.resolve_left (by omega)
  have hcc := Lib.hid hcc
  obtain ⟨i0, hi0, hz0, hz1, hz2⟩ := info_parts delParty_info
  go_enter Try.func36, Try.ntmps36
  go_wp2_with fail
  refine (sPartyAt_any _ n c (p 0) es _ (by omega) (H.out.below (by (repeat (first | with_reducible exact Below.refl _ _ | with_reducible refine Below.drew ?_ | with_reducible refine below_drewN ?_ _ | (with_reducible refine bel_alloc ?_ ?_ _; (first | omega | (simp; omega) | simp)) | (with_reducible refine bel_set ?_ ?_ _; (first | omega | (simp; omega) | simp)) | (with_reducible refine bel_tr (by assumption) ?_ ?_; (first | omega | (simp; omega) | simp))))))).mono ?_
  rintro y w1 ⟨r, hr, rfl, b1⟩
  obtain rfl : r = -1 := hr.uniq HF.out
  clear hr
  have s1 := b1.size
  (try simp at s1)
  have x0 : w1.cell? ⟨w.heap.size, 0, none⟩ = some (.int .i64 (p 0)) := (b1.cell (p := ⟨w.heap.size, 0, none⟩) (by (first | omega | (simp; omega) | simp))).trans (by (first | (go_keep; done) | (go_simp; done)))
  have x1 : w1.cell? ⟨w.heap.size, 1, none⟩ = some (.int .i64 (p 1)) := (b1.cell (p := ⟨w.heap.size, 1, none⟩) (by (first | omega | (simp; omega) | simp))).trans (by (first | (go_keep; done) | (go_simp; done)))
  have x2 : w1.cell? ⟨w.heap.size, 2, none⟩ = some (.int .i64 (p 2)) := (b1.cell (p := ⟨w.heap.size, 2, none⟩) (by (first | omega | (simp; omega) | simp))).trans (by (first | (go_keep; done) | (go_simp; done)))
  have x3 : w1.cell? ⟨w.heap.size, 3, none⟩ = some (.int .i64 (p 3)) := (b1.cell (p := ⟨w.heap.size, 3, none⟩) (by (first | omega | (simp; omega) | simp))).trans (by (first | (go_keep; done) | (go_simp; done)))
  have x4 : w1.cell? ⟨w.heap.size, 4, none⟩ = some (.int .i64 (p 4)) := (b1.cell (p := ⟨w.heap.size, 4, none⟩) (by (first | omega | (simp; omega) | simp))).trans (by (first | (go_keep; done) | (go_simp; done)))
  have x5 : w1.cell? ⟨w.heap.size, 5, none⟩ = some (.int .i64 (p 5)) := (b1.cell (p := ⟨w.heap.size, 5, none⟩) (by (first | omega | (simp; omega) | simp))).trans (by (first | (go_keep; done) | (go_simp; done)))
  have x6 : w1.cell? ⟨w.heap.size, 6, none⟩ = some (.int .i64 (p 6)) := (b1.cell (p := ⟨w.heap.size, 6, none⟩) (by (first | omega | (simp; omega) | simp))).trans (by (first | (go_keep; done) | (go_simp; done)))
  have x7 : w1.cell? ⟨w.heap.size, 7, none⟩ = some (.int .i64 (p 7)) := (b1.cell (p := ⟨w.heap.size, 7, none⟩) (by (first | omega | (simp; omega) | simp))).trans (by (first | (go_keep; done) | (go_simp; done)))
  have x8 : w1.cell? ⟨w.heap.size, 8, none⟩ = some (.int .i64 (p 8)) := (b1.cell (p := ⟨w.heap.size, 8, none⟩) (by (first | omega | (simp; omega) | simp))).trans (by (first | (go_keep; done) | (go_simp; done)))
  have x9 : w1.cell? ⟨w.heap.size, 9, none⟩ = some (.int .i64 (p 9)) := (b1.cell (p := ⟨w.heap.size, 9, none⟩) (by (first | omega | (simp; omega) | simp))).trans (by (first | (go_keep; done) | (go_simp; done)))
  have b2 : Below w.heap.size w (w1.alloc (.cells #[] 31)) := by (repeat (first | with_reducible exact Below.refl _ _ | with_reducible refine Below.drew ?_ | with_reducible refine below_drewN ?_ _ | (with_reducible refine bel_alloc ?_ ?_ _; (first | omega | (simp; omega) | simp)) | (with_reducible refine bel_set ?_ ?_ _; (first | omega | (simp; omega) | simp)) | (with_reducible refine bel_tr (by assumption) ?_ ?_; (first | omega | (simp; omega) | simp))))
  go_wp2_with (at_builtin; go_must (refine wpList_append_rd _ rfl _ _ 56 rfl w1.heap.size 31 i0 _ 10 80 Try.underlying56 hi0 hz0 hz1 hz2 rfl (by omega) (.slice (some ⟨w1.heap.size, 0, none⟩) 0 0) 0 [] rfl (row_empty w1 _ 10) _ n c es rfl (H.out.below b2) (by unfold maxLen; omega) (by omega) (by simp) ?_); intro v3 w3 hown3 hg3 hat3; have b3 : Below w1.heap.size _ w3 := Below.grown (Below.refl w1.heap.size _) hg3 (by simp) (by simp [Value.ownBlock]); have b3w : Below w.heap.size w w3 := b2.grown hg3 (by simp; omega) (by simp [Value.ownBlock]; omega); have s3 := hg3.size; (try simp at s3); have x0 : w3.cell? ⟨w.heap.size, 0, none⟩ = some (.int .i64 (p 0)) := (b3.cell (p := ⟨w.heap.size, 0, none⟩) (by (first | omega | (simp; omega) | simp))).trans (by (first | (go_keep; done) | (go_simp; done))); have x1 : w3.cell? ⟨w.heap.size, 1, none⟩ = some (.int .i64 (p 1)) := (b3.cell (p := ⟨w.heap.size, 1, none⟩) (by (first | omega | (simp; omega) | simp))).trans (by (first | (go_keep; done) | (go_simp; done))); have x2 : w3.cell? ⟨w.heap.size, 2, none⟩ = some (.int .i64 (p 2)) := (b3.cell (p := ⟨w.heap.size, 2, none⟩) (by (first | omega | (simp; omega) | simp))).trans (by (first | (go_keep; done) | (go_simp; done))); have x3 : w3.cell? ⟨w.heap.size, 3, none⟩ = some (.int .i64 (p 3)) := (b3.cell (p := ⟨w.heap.size, 3, none⟩) (by (first | omega | (simp; omega) | simp))).trans (by (first | (go_keep; done) | (go_simp; done))); have x4 : w3.cell? ⟨w.heap.size, 4, none⟩ = some (.int .i64 (p 4)) := (b3.cell (p := ⟨w.heap.size, 4, none⟩) (by (first | omega | (simp; omega) | simp))).trans (by (first | (go_keep; done) | (go_simp; done))); have x5 : w3.cell? ⟨w.heap.size, 5, none⟩ = some (.int .i64 (p 5)) := (b3.cell (p := ⟨w.heap.size, 5, none⟩) (by (first | omega | (simp; omega) | simp))).trans (by (first | (go_keep; done) | (go_simp; done))); have x6 : w3.cell? ⟨w.heap.size, 6, none⟩ = some (.int .i64 (p 6)) := (b3.cell (p := ⟨w.heap.size, 6, none⟩) (by (first | omega | (simp; omega) | simp))).trans (by (first | (go_keep; done) | (go_simp; done))); have x7 : w3.cell? ⟨w.heap.size, 7, none⟩ = some (.int .i64 (p 7)) := (b3.cell (p := ⟨w.heap.size, 7, none⟩) (by (first | omega | (simp; omega) | simp))).trans (by (first | (go_keep; done) | (go_simp; done))); have x8 : w3.cell? ⟨w.heap.size, 8, none⟩ = some (.int .i64 (p 8)) := (b3.cell (p := ⟨w.heap.size, 8, none⟩) (by (first | omega | (simp; omega) | simp))).trans (by (first | (go_keep; done) | (go_simp; done))); have x9 : w3.cell? ⟨w.heap.size, 9, none⟩ = some (.int .i64 (p 9)) := (b3.cell (p := ⟨w.heap.size, 9, none⟩) (by (first | omega | (simp; omega) | simp))).trans (by (first | (go_keep; done) | (go_simp; done))); clear hown3 hg3 hat3)
  go_loopw [5] (fun i wr => ∃ k : Nat, k ≤ n ∧ i = .int .i64 k ∧ Hid (∀ i, i < k → fld es i 0 < p 0) ∧ Below w.heap.size w wr ∧ w.heap.size < wr.heap.size ∧ wr.cell? ⟨w.heap.size, 0, none⟩ = some (.int .i64 (p 0)) ∧ wr.cell? ⟨w.heap.size, 1, none⟩ = some (.int .i64 (p 1)) ∧ wr.cell? ⟨w.heap.size, 2, none⟩ = some (.int .i64 (p 2)) ∧ wr.cell? ⟨w.heap.size, 3, none⟩ = some (.int .i64 (p 3)) ∧ wr.cell? ⟨w.heap.size, 4, none⟩ = some (.int .i64 (p 4)) ∧ wr.cell? ⟨w.heap.size, 5, none⟩ = some (.int .i64 (p 5)) ∧ wr.cell? ⟨w.heap.size, 6, none⟩ = some (.int .i64 (p 6)) ∧ wr.cell? ⟨w.heap.size, 7, none⟩ = some (.int .i64 (p 7)) ∧ wr.cell? ⟨w.heap.size, 8, none⟩ = some (.int .i64 (p 8)) ∧ wr.cell? ⟨w.heap.size, 9, none⟩ = some (.int .i64 (p 9))) (fun i _ => n - (intOf i).toNat)
  case atStart => exact ⟨0, Nat.zero_le _, rfl, Lib.hid (fun i hi => absurd hi (by omega)), by (repeat (first | with_reducible exact Below.refl _ _ | with_reducible refine Below.drew ?_ | with_reducible refine below_drewN ?_ _ | (with_reducible refine bel_alloc ?_ ?_ _; (first | omega | (simp; omega) | simp)) | (with_reducible refine bel_set ?_ ?_ _; (first | omega | (simp; omega) | simp)) | (with_reducible refine bel_tr (by assumption) ?_ ?_; (first | omega | (simp; omega) | simp)))), by (first | omega | (simp; omega) | simp), x0, x1, x2, x3, x4, x5, x6, x7, x8, x9⟩
  case round =>
    obtain ⟨k, hk, rfl, HQ, hbel0, hxr, x0, x1, x2, x3, x4, x5, x6, x7, x8, x9⟩ := hrel
    have hsz := hbel0.size
    have hkl : (k : Int) ≤ (n : Int) := by omega
    have hk0 : (0 : Int) ≤ (k : Int) := by omega
    by_cases hlt : k < n
    case neg =>
      have hkn : k = n := by omega
      have HP : Hid (k = ppl es p n) := ppl_of (fun i hi => by have := HQ.out i hi; omega) (.inl hkn)
      have hd : decide (k < n) = false := by simpa using hlt
      have HLT := Lib.hid hlt
      clear hlt hkn
      go_wp2
      refine wp_region_bw (by kernel_rfl) (by kernel_rfl) (fun W hW => ?_)
      have q1 : ∀ p' : BW W, p'.w.cell? ⟨w.heap.size, 0, none⟩ = some (.int .i64 (p 0)) := fun p' => p'.cell (by rw [hW]; (first | omega | (simp; omega) | simp)) (by rw [hW]; (first | (go_keep; done) | (go_simp; done)))
      have hbW : Below w.heap.size w W := by rw [hW]; (repeat (first | with_reducible exact Below.refl _ _ | with_reducible refine Below.drew ?_ | with_reducible refine below_drewN ?_ _ | (with_reducible refine bel_alloc ?_ ?_ _; (first | omega | (simp; omega) | simp)) | (with_reducible refine bel_set ?_ ?_ _; (first | omega | (simp; omega) | simp)) | (with_reducible refine bel_tr (by assumption) ?_ ?_; (first | omega | (simp; omega) | simp))))
      have hxW : w.heap.size < W.heap.size := by rw [hW]; (first | omega | (simp; omega) | simp)
      have y0 : W.cell? ⟨w.heap.size, 0, none⟩ = some (.int .i64 (p 0)) := by rw [hW]; (first | (go_keep; done) | (go_simp; done))
      have y1 : W.cell? ⟨w.heap.size, 1, none⟩ = some (.int .i64 (p 1)) := by rw [hW]; (first | (go_keep; done) | (go_simp; done))
      have y2 : W.cell? ⟨w.heap.size, 2, none⟩ = some (.int .i64 (p 2)) := by rw [hW]; (first | (go_keep; done) | (go_simp; done))
      have y3 : W.cell? ⟨w.heap.size, 3, none⟩ = some (.int .i64 (p 3)) := by rw [hW]; (first | (go_keep; done) | (go_simp; done))
      have y4 : W.cell? ⟨w.heap.size, 4, none⟩ = some (.int .i64 (p 4)) := by rw [hW]; (first | (go_keep; done) | (go_simp; done))
      have y5 : W.cell? ⟨w.heap.size, 5, none⟩ = some (.int .i64 (p 5)) := by rw [hW]; (first | (go_keep; done) | (go_simp; done))
      have y6 : W.cell? ⟨w.heap.size, 6, none⟩ = some (.int .i64 (p 6)) := by rw [hW]; (first | (go_keep; done) | (go_simp; done))
      have y7 : W.cell? ⟨w.heap.size, 7, none⟩ = some (.int .i64 (p 7)) := by rw [hW]; (first | (go_keep; done) | (go_simp; done))
      have y8 : W.cell? ⟨w.heap.size, 8, none⟩ = some (.int .i64 (p 8)) := by rw [hW]; (first | (go_keep; done) | (go_simp; done))
      have y9 : W.cell? ⟨w.heap.size, 9, none⟩ = some (.int .i64 (p 9)) := by rw [hW]; (first | (go_keep; done) | (go_simp; done))
      have HW := Lib.hid hW
      clear hW
      repeat (go_big_quiet_step (fail))
      refine wpQuiet_nil ?_
      intro wq hq
      have hbq : Below W.heap.size W wq := by (obtain ⟨p', hp'⟩ := hq; rw [hp']; exact p'.below)
      clear hq HW
      have sW := hbW.size
      have hbel : Below w.heap.size w wq := hbW.trans (hbq.mono sW)
      have hxq : w.heap.size < wq.heap.size := by have := hbq.size; omega
      have x0 : wq.cell? ⟨w.heap.size, 0, none⟩ = some (.int .i64 (p 0)) := (hbq.cell (p := ⟨w.heap.size, 0, none⟩) hxW).trans y0
      have x1 : wq.cell? ⟨w.heap.size, 1, none⟩ = some (.int .i64 (p 1)) := (hbq.cell (p := ⟨w.heap.size, 1, none⟩) hxW).trans y1
      have x2 : wq.cell? ⟨w.heap.size, 2, none⟩ = some (.int .i64 (p 2)) := (hbq.cell (p := ⟨w.heap.size, 2, none⟩) hxW).trans y2
      have x3 : wq.cell? ⟨w.heap.size, 3, none⟩ = some (.int .i64 (p 3)) := (hbq.cell (p := ⟨w.heap.size, 3, none⟩) hxW).trans y3
      have x4 : wq.cell? ⟨w.heap.size, 4, none⟩ = some (.int .i64 (p 4)) := (hbq.cell (p := ⟨w.heap.size, 4, none⟩) hxW).trans y4
      have x5 : wq.cell? ⟨w.heap.size, 5, none⟩ = some (.int .i64 (p 5)) := (hbq.cell (p := ⟨w.heap.size, 5, none⟩) hxW).trans y5
      have x6 : wq.cell? ⟨w.heap.size, 6, none⟩ = some (.int .i64 (p 6)) := (hbq.cell (p := ⟨w.heap.size, 6, none⟩) hxW).trans y6
      have x7 : wq.cell? ⟨w.heap.size, 7, none⟩ = some (.int .i64 (p 7)) := (hbq.cell (p := ⟨w.heap.size, 7, none⟩) hxW).trans y7
      have x8 : wq.cell? ⟨w.heap.size, 8, none⟩ = some (.int .i64 (p 8)) := (hbq.cell (p := ⟨w.heap.size, 8, none⟩) hxW).trans y8
      have x9 : wq.cell? ⟨w.heap.size, 9, none⟩ = some (.int .i64 (p 9)) := (hbq.cell (p := ⟨w.heap.size, 9, none⟩) hxW).trans y9
      clear q1 y0 y1 y2 y3 y4 y5 y6 y7 y8 y9
      obtain ⟨AD, hAD, HSRC⟩ : ∃ AD : Option Addr, (if c = k then some (⟨b, off, none⟩ : Addr) else some ⟨b, off + k * 10, none⟩) = AD ∧ Hid (∀ W : World, Below w.heap.size w W → Rd W 10 AD (n - k) (es.drop k)) := by
        by_cases hck : c = k
        · refine ⟨_, if_pos hck, fun W hW => ?_⟩
          rw [show n - k = 0 by omega]
          exact (H.out.below hW).none_left (by omega)
        · exact ⟨_, if_neg hck, fun W hW => (H.out.below hW).drop (by omega)⟩
      have hkn8 : k ≤ n := hk
      have hkc8 : k ≤ c := by omega
      have sq0 : w.heap.size ≤ wq.heap.size := by omega
      go_upto_region 9 with fail
      go_cut [6] (fun s6 wx => wx.ownsRow w.heap.size 31 10 s6 (k + 1) (flat 10 (es.take k ++ [p])) ∧ Below w.heap.size w wx)
      case first =>
        go_region_held3 (fun w' => w'.cell? ⟨w.heap.size, 0, none⟩ = some (.int .i64 (p 0)) ∧ w'.cell? ⟨w.heap.size, 1, none⟩ = some (.int .i64 (p 1)) ∧ w'.cell? ⟨w.heap.size, 2, none⟩ = some (.int .i64 (p 2)) ∧ w'.cell? ⟨w.heap.size, 3, none⟩ = some (.int .i64 (p 3)) ∧ w'.cell? ⟨w.heap.size, 4, none⟩ = some (.int .i64 (p 4)) ∧ w'.cell? ⟨w.heap.size, 5, none⟩ = some (.int .i64 (p 5)) ∧ w'.cell? ⟨w.heap.size, 6, none⟩ = some (.int .i64 (p 6)) ∧ w'.cell? ⟨w.heap.size, 7, none⟩ = some (.int .i64 (p 7)) ∧ w'.cell? ⟨w.heap.size, 8, none⟩ = some (.int .i64 (p 8)) ∧ w'.cell? ⟨w.heap.size, 9, none⟩ = some (.int .i64 (p 9))) ((first | (go_keep; done) | (go_simp; done))) (first
          | (refine step_append_rd _ (by rfl) (.tmp 37) (.tmp 40) 56 (by rfl) wq.heap.size 31 i0 _ 10 80 Try.underlying56 hi0 hz0 hz1 hz2 (by rfl) (by omega) (.slice (some ⟨_, 0, none⟩) 0 0) 0 [] (by rfl) (by first | exact row_empty wq _ 10 | exact World.ownsRow.alloc (row_empty wq _ 10) _ | exact row_empty' (wq.alloc _) _ 10 _ _ (by simp) (by simp)) (some ⟨b, off, none⟩) k c (es.take k) (by rfl) ((H.out.below (by (repeat (first | with_reducible exact Below.refl _ _ | with_reducible refine Below.drew ?_ | with_reducible refine below_drewN ?_ _ | (with_reducible refine bel_alloc ?_ ?_ _; (first | omega | (simp; omega) | simp)) | (with_reducible refine bel_set ?_ ?_ _; (first | omega | (simp; omega) | simp)) | (with_reducible refine bel_tr (by assumption) ?_ ?_; (first | omega | (simp; omega) | simp)))))).take hkn8) (by unfold maxLen; omega) (by omega) (by (first | omega | (simp; omega) | simp)) ?_; intro v3 w3 hown3 hg3 hat3; have O3 := Lib.hid hown3; have s3 := hg3.size; (try simp at s3); have b3 := Below.grown (Below.refl wq.heap.size _) hg3 (by (first | omega | (simp; omega) | simp)) (by simp [Value.ownBlock] <;> omega); have kc3 := fun (o : Nat) => b3.cell (p := ⟨w.heap.size, o, none⟩) hxq; have kd3 := hg3.block; clear hown3 hg3)
          | (refine step_append_rd _ (by rfl) (.tmp 41) (.tmp 43) 56 (by rfl) wq.heap.size 31 i0 _ 10 80 Try.underlying56 hi0 hz0 hz1 hz2 (by rfl) (by omega) v3 (0 + k) ([] ++ es.take k) (by rfl) ?_ (some ⟨_, 0, none⟩) 1 1 [p] (by rfl) ?_ (by unfold maxLen; omega) (by omega) ?_ ?_; (first | exact O3.out | exact World.ownsRow.alloc O3.out _); refine rd_box10 ?_; (first | exact alloc_heap _ _ | (refine (kd3 _ ?_ ?_).trans (alloc_heap' _ _ _ ?_); ((first | omega | (simp; omega) | (solve | simp))); (simp [Value.ownBlock] <;> omega); ((first | omega | (simp; omega) | (solve | simp)))) | (refine (kd3 _ ?_ ?_).trans ((alloc_old _ _ _ ?_).trans (alloc_heap _ _)); ((first | omega | (simp; omega) | (solve | simp))); (simp [Value.ownBlock] <;> omega); ((first | omega | (simp; omega) | (solve | simp))))); ((first | omega | (simp; omega) | simp)); intro v4 w4 hown4 hg4 hat4; have kc4 := fun (o : Nat) => (Below.grown (Below.refl wq.heap.size _) hg4 (by (first | omega | (simp; omega) | simp)) (row_ge O3.out (by (first | omega | (simp; omega) | simp)))).cell (p := ⟨w.heap.size, o, none⟩) hxq))
        all_goals (go_wp2_with fail; go_meet; refine ⟨by simpa using hown4.lower sq0, Below.grown (show Below w.heap.size w _ from by (repeat (first | with_reducible exact Below.refl _ _ | with_reducible refine Below.drew ?_ | with_reducible refine below_drewN ?_ _ | (with_reducible refine bel_alloc ?_ ?_ _; (first | omega | (simp; omega) | simp)) | (with_reducible refine bel_set ?_ ?_ _; (first | omega | (simp; omega) | simp)) | (with_reducible refine bel_tr (by assumption) ?_ ?_; (first | omega | (simp; omega) | simp))))) hg4 (by (first | omega | (simp; omega) | simp)) (row_ge O3.out (by (first | omega | (simp; omega) | simp)))⟩)
      case rest =>
        obtain ⟨hown6, hb6⟩ := hcut
        have O6 := Lib.hid hown6
        have s6 := hb6.size
        clear hown6
        go_wp2_with (at_builtin; go_must (refine wpList_append_rd _ rfl _ _ 56 rfl w.heap.size 31 i0 _ 10 80 Try.underlying56 hi0 hz0 hz1 hz2 rfl (by omega) _ (k + 1) (es.take k ++ [p]) rfl O6.out AD (n - k) (c - k) (es.drop k) rfl (HSRC.out _ hb6) (by unfold maxLen; omega) (by omega) s6 ?_); intro v8 w8 hown8 hg8 hat8)
        all_goals (go_ret; have q8 : w8.ownsRow w.heap.size 31 10 v8 (n + 1) (flat 10 (insL es (ppl es p n) p)) := (by rw [← HP.out, show n + 1 = k + 1 + (n - k) by omega]; simpa [insL] using hown8); obtain ⟨A9, c9, rfl, o9⟩ := own_of_row (insL_len HL.out ppl_le) q8; have b9 := Below.grown hb6 hg8 s6 (row_ge O6.out (Nat.le_refl _)); first | exact ⟨A9, c9, rfl, o9, b9⟩ | exact ⟨A9, ⟨c9, rfl⟩, o9, b9⟩)
    have hc := hcc.out
    have hbr : b < wr.heap.size := by omega
    have c0 : wr.cell? ⟨b, off + k * 10, none⟩ = some (.int .i64 (fld es k 0)) := (hbel0.cell (p := ⟨b, off + k * 10, none⟩) hb).trans (hc k hlt 0 (by omega))
    have hd : decide (k < n) = true := by simpa using hlt
    have hki : (k : Int) < (n : Int) := by omega
    by_cases hL : fld es k 0 < p 0
    · have HQ1 : Hid (∀ i, i < k + 1 → fld es i 0 < p 0) := fun i hi => by
        rcases Nat.lt_or_ge i k with h3 | h3
        · exact HQ.out i h3
        · obtain rfl : i = k := by omega
          exact hL
      clear hc
      go_wp2
      refine wp_region_bw (by kernel_rfl) (by kernel_rfl) (fun W hW => ?_)
      have q0 : ∀ p' : BW W, p'.w.cell? ⟨b, off + k * 10, none⟩ = some (.int .i64 (fld es k 0)) := fun p' => p'.cell (by rw [hW]; (first | omega | (simp; omega) | simp)) (by rw [hW]; (first | (go_keep; done) | (go_simp; done)))
      have q1 : ∀ p' : BW W, p'.w.cell? ⟨w.heap.size, 0, none⟩ = some (.int .i64 (p 0)) := fun p' => p'.cell (by rw [hW]; (first | omega | (simp; omega) | simp)) (by rw [hW]; (first | (go_keep; done) | (go_simp; done)))
      have hbW : Below w.heap.size w W := by rw [hW]; (repeat (first | with_reducible exact Below.refl _ _ | with_reducible refine Below.drew ?_ | with_reducible refine below_drewN ?_ _ | (with_reducible refine bel_alloc ?_ ?_ _; (first | omega | (simp; omega) | simp)) | (with_reducible refine bel_set ?_ ?_ _; (first | omega | (simp; omega) | simp)) | (with_reducible refine bel_tr (by assumption) ?_ ?_; (first | omega | (simp; omega) | simp))))
      have hxW : w.heap.size < W.heap.size := by rw [hW]; (first | omega | (simp; omega) | simp)
      have y0 : W.cell? ⟨w.heap.size, 0, none⟩ = some (.int .i64 (p 0)) := by rw [hW]; (first | (go_keep; done) | (go_simp; done))
      have y1 : W.cell? ⟨w.heap.size, 1, none⟩ = some (.int .i64 (p 1)) := by rw [hW]; (first | (go_keep; done) | (go_simp; done))
      have y2 : W.cell? ⟨w.heap.size, 2, none⟩ = some (.int .i64 (p 2)) := by rw [hW]; (first | (go_keep; done) | (go_simp; done))
      have y3 : W.cell? ⟨w.heap.size, 3, none⟩ = some (.int .i64 (p 3)) := by rw [hW]; (first | (go_keep; done) | (go_simp; done))
      have y4 : W.cell? ⟨w.heap.size, 4, none⟩ = some (.int .i64 (p 4)) := by rw [hW]; (first | (go_keep; done) | (go_simp; done))
      have y5 : W.cell? ⟨w.heap.size, 5, none⟩ = some (.int .i64 (p 5)) := by rw [hW]; (first | (go_keep; done) | (go_simp; done))
      have y6 : W.cell? ⟨w.heap.size, 6, none⟩ = some (.int .i64 (p 6)) := by rw [hW]; (first | (go_keep; done) | (go_simp; done))
      have y7 : W.cell? ⟨w.heap.size, 7, none⟩ = some (.int .i64 (p 7)) := by rw [hW]; (first | (go_keep; done) | (go_simp; done))
      have y8 : W.cell? ⟨w.heap.size, 8, none⟩ = some (.int .i64 (p 8)) := by rw [hW]; (first | (go_keep; done) | (go_simp; done))
      have y9 : W.cell? ⟨w.heap.size, 9, none⟩ = some (.int .i64 (p 9)) := by rw [hW]; (first | (go_keep; done) | (go_simp; done))
      have HW := Lib.hid hW
      clear hW
      repeat (go_big_quiet_step (fail))
      refine wpQuiet_nil ?_
      intro wq hq
      have hbq : Below W.heap.size W wq := by (obtain ⟨p', hp'⟩ := hq; rw [hp']; exact p'.below)
      clear hq HW
      have sW := hbW.size
      have hbel : Below w.heap.size w wq := hbW.trans (hbq.mono sW)
      have hxq : w.heap.size < wq.heap.size := by have := hbq.size; omega
      have x0 : wq.cell? ⟨w.heap.size, 0, none⟩ = some (.int .i64 (p 0)) := (hbq.cell (p := ⟨w.heap.size, 0, none⟩) hxW).trans y0
      have x1 : wq.cell? ⟨w.heap.size, 1, none⟩ = some (.int .i64 (p 1)) := (hbq.cell (p := ⟨w.heap.size, 1, none⟩) hxW).trans y1
      have x2 : wq.cell? ⟨w.heap.size, 2, none⟩ = some (.int .i64 (p 2)) := (hbq.cell (p := ⟨w.heap.size, 2, none⟩) hxW).trans y2
      have x3 : wq.cell? ⟨w.heap.size, 3, none⟩ = some (.int .i64 (p 3)) := (hbq.cell (p := ⟨w.heap.size, 3, none⟩) hxW).trans y3
      have x4 : wq.cell? ⟨w.heap.size, 4, none⟩ = some (.int .i64 (p 4)) := (hbq.cell (p := ⟨w.heap.size, 4, none⟩) hxW).trans y4
      have x5 : wq.cell? ⟨w.heap.size, 5, none⟩ = some (.int .i64 (p 5)) := (hbq.cell (p := ⟨w.heap.size, 5, none⟩) hxW).trans y5
      have x6 : wq.cell? ⟨w.heap.size, 6, none⟩ = some (.int .i64 (p 6)) := (hbq.cell (p := ⟨w.heap.size, 6, none⟩) hxW).trans y6
      have x7 : wq.cell? ⟨w.heap.size, 7, none⟩ = some (.int .i64 (p 7)) := (hbq.cell (p := ⟨w.heap.size, 7, none⟩) hxW).trans y7
      have x8 : wq.cell? ⟨w.heap.size, 8, none⟩ = some (.int .i64 (p 8)) := (hbq.cell (p := ⟨w.heap.size, 8, none⟩) hxW).trans y8
      have x9 : wq.cell? ⟨w.heap.size, 9, none⟩ = some (.int .i64 (p 9)) := (hbq.cell (p := ⟨w.heap.size, 9, none⟩) hxW).trans y9
      clear q1 y0 y1 y2 y3 y4 y5 y6 y7 y8 y9
      clear q0
      go_wp2
      go_roundw
      case rel => exact ⟨k + 1, by omega, by go_num, HQ1, by (repeat (first | with_reducible exact Below.refl _ _ | with_reducible refine Below.drew ?_ | with_reducible refine below_drewN ?_ _ | (with_reducible refine bel_alloc ?_ ?_ _; (first | omega | (simp; omega) | simp)) | (with_reducible refine bel_set ?_ ?_ _; (first | omega | (simp; omega) | simp)) | (with_reducible refine bel_tr (by assumption) ?_ ?_; (first | omega | (simp; omega) | simp)))), by omega, x0, x1, x2, x3, x4, x5, x6, x7, x8, x9⟩
      case measure => simp [intOf]; omega
    · have HP : Hid (k = ppl es p n) := ppl_of (fun i hi => by have := HQ.out i hi; omega) (.inr ⟨hlt, by have := HALL.out k hlt; omega⟩)
      clear hc
      go_wp2
      refine wp_region_bw (by kernel_rfl) (by kernel_rfl) (fun W hW => ?_)
      have q0 : ∀ p' : BW W, p'.w.cell? ⟨b, off + k * 10, none⟩ = some (.int .i64 (fld es k 0)) := fun p' => p'.cell (by rw [hW]; (first | omega | (simp; omega) | simp)) (by rw [hW]; (first | (go_keep; done) | (go_simp; done)))
      have q1 : ∀ p' : BW W, p'.w.cell? ⟨w.heap.size, 0, none⟩ = some (.int .i64 (p 0)) := fun p' => p'.cell (by rw [hW]; (first | omega | (simp; omega) | simp)) (by rw [hW]; (first | (go_keep; done) | (go_simp; done)))
      have hbW : Below w.heap.size w W := by rw [hW]; (repeat (first | with_reducible exact Below.refl _ _ | with_reducible refine Below.drew ?_ | with_reducible refine below_drewN ?_ _ | (with_reducible refine bel_alloc ?_ ?_ _; (first | omega | (simp; omega) | simp)) | (with_reducible refine bel_set ?_ ?_ _; (first | omega | (simp; omega) | simp)) | (with_reducible refine bel_tr (by assumption) ?_ ?_; (first | omega | (simp; omega) | simp))))
      have hxW : w.heap.size < W.heap.size := by rw [hW]; (first | omega | (simp; omega) | simp)
      have y0 : W.cell? ⟨w.heap.size, 0, none⟩ = some (.int .i64 (p 0)) := by rw [hW]; (first | (go_keep; done) | (go_simp; done))
      have y1 : W.cell? ⟨w.heap.size, 1, none⟩ = some (.int .i64 (p 1)) := by rw [hW]; (first | (go_keep; done) | (go_simp; done))
      have y2 : W.cell? ⟨w.heap.size, 2, none⟩ = some (.int .i64 (p 2)) := by rw [hW]; (first | (go_keep; done) | (go_simp; done))
      have y3 : W.cell? ⟨w.heap.size, 3, none⟩ = some (.int .i64 (p 3)) := by rw [hW]; (first | (go_keep; done) | (go_simp; done))
      have y4 : W.cell? ⟨w.heap.size, 4, none⟩ = some (.int .i64 (p 4)) := by rw [hW]; (first | (go_keep; done) | (go_simp; done))
      have y5 : W.cell? ⟨w.heap.size, 5, none⟩ = some (.int .i64 (p 5)) := by rw [hW]; (first | (go_keep; done) | (go_simp; done))
      have y6 : W.cell? ⟨w.heap.size, 6, none⟩ = some (.int .i64 (p 6)) := by rw [hW]; (first | (go_keep; done) | (go_simp; done))
      have y7 : W.cell? ⟨w.heap.size, 7, none⟩ = some (.int .i64 (p 7)) := by rw [hW]; (first | (go_keep; done) | (go_simp; done))
      have y8 : W.cell? ⟨w.heap.size, 8, none⟩ = some (.int .i64 (p 8)) := by rw [hW]; (first | (go_keep; done) | (go_simp; done))
      have y9 : W.cell? ⟨w.heap.size, 9, none⟩ = some (.int .i64 (p 9)) := by rw [hW]; (first | (go_keep; done) | (go_simp; done))
      have HW := Lib.hid hW
      clear hW
      repeat (go_big_quiet_step (fail))
      refine wpQuiet_nil ?_
      intro wq hq
      have hbq : Below W.heap.size W wq := by (obtain ⟨p', hp'⟩ := hq; rw [hp']; exact p'.below)
      clear hq HW
      have sW := hbW.size
      have hbel : Below w.heap.size w wq := hbW.trans (hbq.mono sW)
      have hxq : w.heap.size < wq.heap.size := by have := hbq.size; omega
      have x0 : wq.cell? ⟨w.heap.size, 0, none⟩ = some (.int .i64 (p 0)) := (hbq.cell (p := ⟨w.heap.size, 0, none⟩) hxW).trans y0
      have x1 : wq.cell? ⟨w.heap.size, 1, none⟩ = some (.int .i64 (p 1)) := (hbq.cell (p := ⟨w.heap.size, 1, none⟩) hxW).trans y1
      have x2 : wq.cell? ⟨w.heap.size, 2, none⟩ = some (.int .i64 (p 2)) := (hbq.cell (p := ⟨w.heap.size, 2, none⟩) hxW).trans y2
      have x3 : wq.cell? ⟨w.heap.size, 3, none⟩ = some (.int .i64 (p 3)) := (hbq.cell (p := ⟨w.heap.size, 3, none⟩) hxW).trans y3
      have x4 : wq.cell? ⟨w.heap.size, 4, none⟩ = some (.int .i64 (p 4)) := (hbq.cell (p := ⟨w.heap.size, 4, none⟩) hxW).trans y4
      have x5 : wq.cell? ⟨w.heap.size, 5, none⟩ = some (.int .i64 (p 5)) := (hbq.cell (p := ⟨w.heap.size, 5, none⟩) hxW).trans y5
      have x6 : wq.cell? ⟨w.heap.size, 6, none⟩ = some (.int .i64 (p 6)) := (hbq.cell (p := ⟨w.heap.size, 6, none⟩) hxW).trans y6
      have x7 : wq.cell? ⟨w.heap.size, 7, none⟩ = some (.int .i64 (p 7)) := (hbq.cell (p := ⟨w.heap.size, 7, none⟩) hxW).trans y7
      have x8 : wq.cell? ⟨w.heap.size, 8, none⟩ = some (.int .i64 (p 8)) := (hbq.cell (p := ⟨w.heap.size, 8, none⟩) hxW).trans y8
      have x9 : wq.cell? ⟨w.heap.size, 9, none⟩ = some (.int .i64 (p 9)) := (hbq.cell (p := ⟨w.heap.size, 9, none⟩) hxW).trans y9
      clear q1 y0 y1 y2 y3 y4 y5 y6 y7 y8 y9
      clear q0
      have hkn8 : k ≤ n := hk
      have hkc8 : k ≤ c := by omega
      have sq0 : w.heap.size ≤ wq.heap.size := by omega
      go_upto_region 9 with fail
      go_cut [6] (fun s6 wx => wx.ownsRow w.heap.size 31 10 s6 (k + 1) (flat 10 (es.take k ++ [p])) ∧ Below w.heap.size w wx)
      case first =>
        go_region_held3 (fun w' => w'.cell? ⟨w.heap.size, 0, none⟩ = some (.int .i64 (p 0)) ∧ w'.cell? ⟨w.heap.size, 1, none⟩ = some (.int .i64 (p 1)) ∧ w'.cell? ⟨w.heap.size, 2, none⟩ = some (.int .i64 (p 2)) ∧ w'.cell? ⟨w.heap.size, 3, none⟩ = some (.int .i64 (p 3)) ∧ w'.cell? ⟨w.heap.size, 4, none⟩ = some (.int .i64 (p 4)) ∧ w'.cell? ⟨w.heap.size, 5, none⟩ = some (.int .i64 (p 5)) ∧ w'.cell? ⟨w.heap.size, 6, none⟩ = some (.int .i64 (p 6)) ∧ w'.cell? ⟨w.heap.size, 7, none⟩ = some (.int .i64 (p 7)) ∧ w'.cell? ⟨w.heap.size, 8, none⟩ = some (.int .i64 (p 8)) ∧ w'.cell? ⟨w.heap.size, 9, none⟩ = some (.int .i64 (p 9))) ((first | (go_keep; done) | (go_simp; done))) (first
          | (refine step_append_rd _ (by rfl) (.tmp 37) (.tmp 40) 56 (by rfl) wq.heap.size 31 i0 _ 10 80 Try.underlying56 hi0 hz0 hz1 hz2 (by rfl) (by omega) (.slice (some ⟨_, 0, none⟩) 0 0) 0 [] (by rfl) (by first | exact row_empty wq _ 10 | exact World.ownsRow.alloc (row_empty wq _ 10) _ | exact row_empty' (wq.alloc _) _ 10 _ _ (by simp) (by simp)) (some ⟨b, off, none⟩) k c (es.take k) (by rfl) ((H.out.below (by (repeat (first | with_reducible exact Below.refl _ _ | with_reducible refine Below.drew ?_ | with_reducible refine below_drewN ?_ _ | (with_reducible refine bel_alloc ?_ ?_ _; (first | omega | (simp; omega) | simp)) | (with_reducible refine bel_set ?_ ?_ _; (first | omega | (simp; omega) | simp)) | (with_reducible refine bel_tr (by assumption) ?_ ?_; (first | omega | (simp; omega) | simp)))))).take hkn8) (by unfold maxLen; omega) (by omega) (by (first | omega | (simp; omega) | simp)) ?_; intro v3 w3 hown3 hg3 hat3; have O3 := Lib.hid hown3; have s3 := hg3.size; (try simp at s3); have b3 := Below.grown (Below.refl wq.heap.size _) hg3 (by (first | omega | (simp; omega) | simp)) (by simp [Value.ownBlock] <;> omega); have kc3 := fun (o : Nat) => b3.cell (p := ⟨w.heap.size, o, none⟩) hxq; have kd3 := hg3.block; clear hown3 hg3)
          | (refine step_append_rd _ (by rfl) (.tmp 41) (.tmp 43) 56 (by rfl) wq.heap.size 31 i0 _ 10 80 Try.underlying56 hi0 hz0 hz1 hz2 (by rfl) (by omega) v3 (0 + k) ([] ++ es.take k) (by rfl) ?_ (some ⟨_, 0, none⟩) 1 1 [p] (by rfl) ?_ (by unfold maxLen; omega) (by omega) ?_ ?_; (first | exact O3.out | exact World.ownsRow.alloc O3.out _); refine rd_box10 ?_; (first | exact alloc_heap _ _ | (refine (kd3 _ ?_ ?_).trans (alloc_heap' _ _ _ ?_); ((first | omega | (simp; omega) | (solve | simp))); (simp [Value.ownBlock] <;> omega); ((first | omega | (simp; omega) | (solve | simp)))) | (refine (kd3 _ ?_ ?_).trans ((alloc_old _ _ _ ?_).trans (alloc_heap _ _)); ((first | omega | (simp; omega) | (solve | simp))); (simp [Value.ownBlock] <;> omega); ((first | omega | (simp; omega) | (solve | simp))))); ((first | omega | (simp; omega) | simp)); intro v4 w4 hown4 hg4 hat4; have kc4 := fun (o : Nat) => (Below.grown (Below.refl wq.heap.size _) hg4 (by (first | omega | (simp; omega) | simp)) (row_ge O3.out (by (first | omega | (simp; omega) | simp)))).cell (p := ⟨w.heap.size, o, none⟩) hxq))
        all_goals (go_wp2_with fail; go_meet; refine ⟨by simpa using hown4.lower sq0, Below.grown (show Below w.heap.size w _ from by (repeat (first | with_reducible exact Below.refl _ _ | with_reducible refine Below.drew ?_ | with_reducible refine below_drewN ?_ _ | (with_reducible refine bel_alloc ?_ ?_ _; (first | omega | (simp; omega) | simp)) | (with_reducible refine bel_set ?_ ?_ _; (first | omega | (simp; omega) | simp)) | (with_reducible refine bel_tr (by assumption) ?_ ?_; (first | omega | (simp; omega) | simp))))) hg4 (by (first | omega | (simp; omega) | simp)) (row_ge O3.out (by (first | omega | (simp; omega) | simp)))⟩)
      case rest =>
        obtain ⟨hown6, hb6⟩ := hcut
        have O6 := Lib.hid hown6
        have s6 := hb6.size
        clear hown6
        go_wp2_with (at_builtin; go_must (refine wpList_append_rd _ rfl _ _ 56 rfl w.heap.size 31 i0 _ 10 80 Try.underlying56 hi0 hz0 hz1 hz2 rfl (by omega) _ (k + 1) (es.take k ++ [p]) rfl O6.out (some ⟨b, off + k * 10, none⟩) (n - k) (c - k) (es.drop k) rfl ((H.out.below hb6).drop (by omega)) (by unfold maxLen; omega) (by omega) s6 ?_); intro v8 w8 hown8 hg8 hat8)
        all_goals (go_ret; have q8 : w8.ownsRow w.heap.size 31 10 v8 (n + 1) (flat 10 (insL es (ppl es p n) p)) := (by rw [← HP.out, show n + 1 = k + 1 + (n - k) by omega]; simpa [insL] using hown8); obtain ⟨A9, c9, rfl, o9⟩ := own_of_row (insL_len HL.out ppl_le) q8; have b9 := Below.grown hb6 hg8 s6 (row_ge O6.out (Nat.le_refl _)); first | exact ⟨A9, c9, rfl, o9, b9⟩ | exact ⟨A9, ⟨c9, rfl⟩, o9, b9⟩)

set_option maxRecDepth 100000 in
set_option maxHeartbeats 4000000 in
theorem sPP_0 (A : Option Addr) (n c : Nat) (es : List (Nat → Int)) (p : Nat → Int) (w : World) (hn : n ≤ 1048576) (h : Rd w 10 A n es) (_hnc : n ≤ c) (_hcm : c ≤ 9223372036854775807) (hn0 : n = 0) (hall : ∀ i, i < n → hasPid es (p 0) i = false) :
    Calls Try.prog 36 #[.slice A n c, .agg #[.int .i64 (p 0), .int .i64 (p 1), .int .i64 (p 2), .int .i64 (p 3), .int .i64 (p 4), .int .i64 (p 5), .int .i64 (p 6), .int .i64 (p 7), .int .i64 (p 8), .int .i64 (p 9)]] w fun y w' => ∃ A' c', y = .returned (.slice A' (n + 1) c') ∧ Own w.heap.size w' 10 A' (n + 1) (insL es (ppl es p n) p) ∧ Below w.heap.size w w' := by
  rcases A with _ | a
  · skip
    have HL := Lib.hid h.1
    have HF : Hid (FirstAt (hasPid es (p 0)) n (-1)) := .inr ⟨rfl, hall⟩
    have HALL : Hid (∀ i, i < n → fld es i 0 ≠ p 0) := fun i hi => by simpa [hasPid] using hall i hi
    have hcc := h.2
    have H := Lib.hid h
    have HN0 : Hid (∀ (W : World) (A2 : Option Addr) (k : Nat), Rd W 10 A2 (n - k) (es.drop k)) := fun W A2 k => ⟨by rw [List.length_drop, h.1], .inl (by omega)⟩
    have HT0 : Hid (∀ (W : World) (A2 : Option Addr) (k : Nat), k ≤ n → Rd W 10 A2 k (es.take k)) := fun W A2 k hk => ⟨by rw [List.length_take, h.1]; omega, .inl (by omega)⟩
    have HZ := Lib.hid hn0
    clear h hall hn0 hcc
    obtain ⟨i0, hi0, hz0, hz1, hz2⟩ := info_parts delParty_info
    go_enter Try.func36, Try.ntmps36
    go_wp2_with fail
    refine (sPartyAt_any _ n c (p 0) es _ (by omega) (H.out.below (by (repeat (first | with_reducible exact Below.refl _ _ | with_reducible refine Below.drew ?_ | with_reducible refine below_drewN ?_ _ | (with_reducible refine bel_alloc ?_ ?_ _; (first | omega | (simp; omega) | simp)) | (with_reducible refine bel_set ?_ ?_ _; (first | omega | (simp; omega) | simp)) | (with_reducible refine bel_tr (by assumption) ?_ ?_; (first | omega | (simp; omega) | simp))))))).mono ?_
    rintro y w1 ⟨r, hr, rfl, b1⟩
    obtain rfl : r = -1 := hr.uniq HF.out
    clear hr
    have s1 := b1.size
    (try simp at s1)
    have x0 : w1.cell? ⟨w.heap.size, 0, none⟩ = some (.int .i64 (p 0)) := (b1.cell (p := ⟨w.heap.size, 0, none⟩) (by (first | omega | (simp; omega) | simp))).trans (by (first | (go_keep; done) | (go_simp; done)))
    have x1 : w1.cell? ⟨w.heap.size, 1, none⟩ = some (.int .i64 (p 1)) := (b1.cell (p := ⟨w.heap.size, 1, none⟩) (by (first | omega | (simp; omega) | simp))).trans (by (first | (go_keep; done) | (go_simp; done)))
    have x2 : w1.cell? ⟨w.heap.size, 2, none⟩ = some (.int .i64 (p 2)) := (b1.cell (p := ⟨w.heap.size, 2, none⟩) (by (first | omega | (simp; omega) | simp))).trans (by (first | (go_keep; done) | (go_simp; done)))
    have x3 : w1.cell? ⟨w.heap.size, 3, none⟩ = some (.int .i64 (p 3)) := (b1.cell (p := ⟨w.heap.size, 3, none⟩) (by (first | omega | (simp; omega) | simp))).trans (by (first | (go_keep; done) | (go_simp; done)))
    have x4 : w1.cell? ⟨w.heap.size, 4, none⟩ = some (.int .i64 (p 4)) := (b1.cell (p := ⟨w.heap.size, 4, none⟩) (by (first | omega | (simp; omega) | simp))).trans (by (first | (go_keep; done) | (go_simp; done)))
    have x5 : w1.cell? ⟨w.heap.size, 5, none⟩ = some (.int .i64 (p 5)) := (b1.cell (p := ⟨w.heap.size, 5, none⟩) (by (first | omega | (simp; omega) | simp))).trans (by (first | (go_keep; done) | (go_simp; done)))
    have x6 : w1.cell? ⟨w.heap.size, 6, none⟩ = some (.int .i64 (p 6)) := (b1.cell (p := ⟨w.heap.size, 6, none⟩) (by (first | omega | (simp; omega) | simp))).trans (by (first | (go_keep; done) | (go_simp; done)))
    have x7 : w1.cell? ⟨w.heap.size, 7, none⟩ = some (.int .i64 (p 7)) := (b1.cell (p := ⟨w.heap.size, 7, none⟩) (by (first | omega | (simp; omega) | simp))).trans (by (first | (go_keep; done) | (go_simp; done)))
    have x8 : w1.cell? ⟨w.heap.size, 8, none⟩ = some (.int .i64 (p 8)) := (b1.cell (p := ⟨w.heap.size, 8, none⟩) (by (first | omega | (simp; omega) | simp))).trans (by (first | (go_keep; done) | (go_simp; done)))
    have x9 : w1.cell? ⟨w.heap.size, 9, none⟩ = some (.int .i64 (p 9)) := (b1.cell (p := ⟨w.heap.size, 9, none⟩) (by (first | omega | (simp; omega) | simp))).trans (by (first | (go_keep; done) | (go_simp; done)))
    have b2 : Below w.heap.size w (w1.alloc (.cells #[] 31)) := by (repeat (first | with_reducible exact Below.refl _ _ | with_reducible refine Below.drew ?_ | with_reducible refine below_drewN ?_ _ | (with_reducible refine bel_alloc ?_ ?_ _; (first | omega | (simp; omega) | simp)) | (with_reducible refine bel_set ?_ ?_ _; (first | omega | (simp; omega) | simp)) | (with_reducible refine bel_tr (by assumption) ?_ ?_; (first | omega | (simp; omega) | simp))))
    go_wp2_with (at_builtin; go_must (refine wpList_append_rd _ rfl _ _ 56 rfl w1.heap.size 31 i0 _ 10 80 Try.underlying56 hi0 hz0 hz1 hz2 rfl (by omega) (.slice (some ⟨w1.heap.size, 0, none⟩) 0 0) 0 [] rfl (row_empty w1 _ 10) _ n c es rfl (H.out.below b2) (by unfold maxLen; omega) (by omega) (by simp) ?_); intro v3 w3 hown3 hg3 hat3; have b3 : Below w1.heap.size _ w3 := Below.grown (Below.refl w1.heap.size _) hg3 (by simp) (by simp [Value.ownBlock]); have b3w : Below w.heap.size w w3 := b2.grown hg3 (by simp; omega) (by simp [Value.ownBlock]; omega); have s3 := hg3.size; (try simp at s3); have x0 : w3.cell? ⟨w.heap.size, 0, none⟩ = some (.int .i64 (p 0)) := (b3.cell (p := ⟨w.heap.size, 0, none⟩) (by (first | omega | (simp; omega) | simp))).trans (by (first | (go_keep; done) | (go_simp; done))); have x1 : w3.cell? ⟨w.heap.size, 1, none⟩ = some (.int .i64 (p 1)) := (b3.cell (p := ⟨w.heap.size, 1, none⟩) (by (first | omega | (simp; omega) | simp))).trans (by (first | (go_keep; done) | (go_simp; done))); have x2 : w3.cell? ⟨w.heap.size, 2, none⟩ = some (.int .i64 (p 2)) := (b3.cell (p := ⟨w.heap.size, 2, none⟩) (by (first | omega | (simp; omega) | simp))).trans (by (first | (go_keep; done) | (go_simp; done))); have x3 : w3.cell? ⟨w.heap.size, 3, none⟩ = some (.int .i64 (p 3)) := (b3.cell (p := ⟨w.heap.size, 3, none⟩) (by (first | omega | (simp; omega) | simp))).trans (by (first | (go_keep; done) | (go_simp; done))); have x4 : w3.cell? ⟨w.heap.size, 4, none⟩ = some (.int .i64 (p 4)) := (b3.cell (p := ⟨w.heap.size, 4, none⟩) (by (first | omega | (simp; omega) | simp))).trans (by (first | (go_keep; done) | (go_simp; done))); have x5 : w3.cell? ⟨w.heap.size, 5, none⟩ = some (.int .i64 (p 5)) := (b3.cell (p := ⟨w.heap.size, 5, none⟩) (by (first | omega | (simp; omega) | simp))).trans (by (first | (go_keep; done) | (go_simp; done))); have x6 : w3.cell? ⟨w.heap.size, 6, none⟩ = some (.int .i64 (p 6)) := (b3.cell (p := ⟨w.heap.size, 6, none⟩) (by (first | omega | (simp; omega) | simp))).trans (by (first | (go_keep; done) | (go_simp; done))); have x7 : w3.cell? ⟨w.heap.size, 7, none⟩ = some (.int .i64 (p 7)) := (b3.cell (p := ⟨w.heap.size, 7, none⟩) (by (first | omega | (simp; omega) | simp))).trans (by (first | (go_keep; done) | (go_simp; done))); have x8 : w3.cell? ⟨w.heap.size, 8, none⟩ = some (.int .i64 (p 8)) := (b3.cell (p := ⟨w.heap.size, 8, none⟩) (by (first | omega | (simp; omega) | simp))).trans (by (first | (go_keep; done) | (go_simp; done))); have x9 : w3.cell? ⟨w.heap.size, 9, none⟩ = some (.int .i64 (p 9)) := (b3.cell (p := ⟨w.heap.size, 9, none⟩) (by (first | omega | (simp; omega) | simp))).trans (by (first | (go_keep; done) | (go_simp; done))); clear hown3 hg3 hat3)
    go_loopw [5] (fun i wr => ∃ k : Nat, k ≤ n ∧ i = .int .i64 k ∧ Hid (∀ i, i < k → fld es i 0 < p 0) ∧ Below w.heap.size w wr ∧ w.heap.size < wr.heap.size ∧ wr.cell? ⟨w.heap.size, 0, none⟩ = some (.int .i64 (p 0)) ∧ wr.cell? ⟨w.heap.size, 1, none⟩ = some (.int .i64 (p 1)) ∧ wr.cell? ⟨w.heap.size, 2, none⟩ = some (.int .i64 (p 2)) ∧ wr.cell? ⟨w.heap.size, 3, none⟩ = some (.int .i64 (p 3)) ∧ wr.cell? ⟨w.heap.size, 4, none⟩ = some (.int .i64 (p 4)) ∧ wr.cell? ⟨w.heap.size, 5, none⟩ = some (.int .i64 (p 5)) ∧ wr.cell? ⟨w.heap.size, 6, none⟩ = some (.int .i64 (p 6)) ∧ wr.cell? ⟨w.heap.size, 7, none⟩ = some (.int .i64 (p 7)) ∧ wr.cell? ⟨w.heap.size, 8, none⟩ = some (.int .i64 (p 8)) ∧ wr.cell? ⟨w.heap.size, 9, none⟩ = some (.int .i64 (p 9))) (fun i _ => n - (intOf i).toNat)
    case atStart => exact ⟨0, Nat.zero_le _, rfl, Lib.hid (fun i hi => absurd hi (by omega)), by (repeat (first | with_reducible exact Below.refl _ _ | with_reducible refine Below.drew ?_ | with_reducible refine below_drewN ?_ _ | (with_reducible refine bel_alloc ?_ ?_ _; (first | omega | (simp; omega) | simp)) | (with_reducible refine bel_set ?_ ?_ _; (first | omega | (simp; omega) | simp)) | (with_reducible refine bel_tr (by assumption) ?_ ?_; (first | omega | (simp; omega) | simp)))), by (first | omega | (simp; omega) | simp), x0, x1, x2, x3, x4, x5, x6, x7, x8, x9⟩
    case round =>
      obtain ⟨k, hk, rfl, HQ, hbel0, hxr, x0, x1, x2, x3, x4, x5, x6, x7, x8, x9⟩ := hrel
      have hsz := hbel0.size
      have hkl : (k : Int) ≤ (n : Int) := by omega
      have hk0 : (0 : Int) ≤ (k : Int) := by omega
      by_cases hlt : k < n
      case neg =>
        have hkn : k = n := by omega
        have HP : Hid (k = ppl es p n) := ppl_of (fun i hi => by have := HQ.out i hi; omega) (.inl hkn)
        have hd : decide (k < n) = false := by simpa using hlt
        have HLT := Lib.hid hlt
        clear hlt hkn
        go_wp2
        refine wp_region_bw (by kernel_rfl) (by kernel_rfl) (fun W hW => ?_)
        have q1 : ∀ p' : BW W, p'.w.cell? ⟨w.heap.size, 0, none⟩ = some (.int .i64 (p 0)) := fun p' => p'.cell (by rw [hW]; (first | omega | (simp; omega) | simp)) (by rw [hW]; (first | (go_keep; done) | (go_simp; done)))
        have hbW : Below w.heap.size w W := by rw [hW]; (repeat (first | with_reducible exact Below.refl _ _ | with_reducible refine Below.drew ?_ | with_reducible refine below_drewN ?_ _ | (with_reducible refine bel_alloc ?_ ?_ _; (first | omega | (simp; omega) | simp)) | (with_reducible refine bel_set ?_ ?_ _; (first | omega | (simp; omega) | simp)) | (with_reducible refine bel_tr (by assumption) ?_ ?_; (first | omega | (simp; omega) | simp))))
        have hxW : w.heap.size < W.heap.size := by rw [hW]; (first | omega | (simp; omega) | simp)
        have y0 : W.cell? ⟨w.heap.size, 0, none⟩ = some (.int .i64 (p 0)) := by rw [hW]; (first | (go_keep; done) | (go_simp; done))
        have y1 : W.cell? ⟨w.heap.size, 1, none⟩ = some (.int .i64 (p 1)) := by rw [hW]; (first | (go_keep; done) | (go_simp; done))
        have y2 : W.cell? ⟨w.heap.size, 2, none⟩ = some (.int .i64 (p 2)) := by rw [hW]; (first | (go_keep; done) | (go_simp; done))
        have y3 : W.cell? ⟨w.heap.size, 3, none⟩ = some (.int .i64 (p 3)) := by rw [hW]; (first | (go_keep; done) | (go_simp; done))
        have y4 : W.cell? ⟨w.heap.size, 4, none⟩ = some (.int .i64 (p 4)) := by rw [hW]; (first | (go_keep; done) | (go_simp; done))
        have y5 : W.cell? ⟨w.heap.size, 5, none⟩ = some (.int .i64 (p 5)) := by rw [hW]; (first | (go_keep; done) | (go_simp; done))
        have y6 : W.cell? ⟨w.heap.size, 6, none⟩ = some (.int .i64 (p 6)) := by rw [hW]; (first | (go_keep; done) | (go_simp; done))
        have y7 : W.cell? ⟨w.heap.size, 7, none⟩ = some (.int .i64 (p 7)) := by rw [hW]; (first | (go_keep; done) | (go_simp; done))
        have y8 : W.cell? ⟨w.heap.size, 8, none⟩ = some (.int .i64 (p 8)) := by rw [hW]; (first | (go_keep; done) | (go_simp; done))
        have y9 : W.cell? ⟨w.heap.size, 9, none⟩ = some (.int .i64 (p 9)) := by rw [hW]; (first | (go_keep; done) | (go_simp; done))
        have HW := Lib.hid hW
        clear hW
        repeat (go_big_quiet_step (fail))
        refine wpQuiet_nil ?_
        intro wq hq
        have hbq : Below W.heap.size W wq := by (obtain ⟨p', hp'⟩ := hq; rw [hp']; exact p'.below)
        clear hq HW
        have sW := hbW.size
        have hbel : Below w.heap.size w wq := hbW.trans (hbq.mono sW)
        have hxq : w.heap.size < wq.heap.size := by have := hbq.size; omega
        have x0 : wq.cell? ⟨w.heap.size, 0, none⟩ = some (.int .i64 (p 0)) := (hbq.cell (p := ⟨w.heap.size, 0, none⟩) hxW).trans y0
        have x1 : wq.cell? ⟨w.heap.size, 1, none⟩ = some (.int .i64 (p 1)) := (hbq.cell (p := ⟨w.heap.size, 1, none⟩) hxW).trans y1
        have x2 : wq.cell? ⟨w.heap.size, 2, none⟩ = some (.int .i64 (p 2)) := (hbq.cell (p := ⟨w.heap.size, 2, none⟩) hxW).trans y2
        have x3 : wq.cell? ⟨w.heap.size, 3, none⟩ = some (.int .i64 (p 3)) := (hbq.cell (p := ⟨w.heap.size, 3, none⟩) hxW).trans y3
        have x4 : wq.cell? ⟨w.heap.size, 4, none⟩ = some (.int .i64 (p 4)) := (hbq.cell (p := ⟨w.heap.size, 4, none⟩) hxW).trans y4
        have x5 : wq.cell? ⟨w.heap.size, 5, none⟩ = some (.int .i64 (p 5)) := (hbq.cell (p := ⟨w.heap.size, 5, none⟩) hxW).trans y5
        have x6 : wq.cell? ⟨w.heap.size, 6, none⟩ = some (.int .i64 (p 6)) := (hbq.cell (p := ⟨w.heap.size, 6, none⟩) hxW).trans y6
        have x7 : wq.cell? ⟨w.heap.size, 7, none⟩ = some (.int .i64 (p 7)) := (hbq.cell (p := ⟨w.heap.size, 7, none⟩) hxW).trans y7
        have x8 : wq.cell? ⟨w.heap.size, 8, none⟩ = some (.int .i64 (p 8)) := (hbq.cell (p := ⟨w.heap.size, 8, none⟩) hxW).trans y8
        have x9 : wq.cell? ⟨w.heap.size, 9, none⟩ = some (.int .i64 (p 9)) := (hbq.cell (p := ⟨w.heap.size, 9, none⟩) hxW).trans y9
        clear q1 y0 y1 y2 y3 y4 y5 y6 y7 y8 y9
        have hkn8 : k ≤ n := hk
        have hkc8 : k ≤ c := by omega
        have sq0 : w.heap.size ≤ wq.heap.size := by omega
        go_upto_region 9 with fail
        go_cut [6] (fun s6 wx => wx.ownsRow w.heap.size 31 10 s6 (k + 1) (flat 10 (es.take k ++ [p])) ∧ Below w.heap.size w wx)
        case first =>
          go_region_held3 (fun w' => w'.cell? ⟨w.heap.size, 0, none⟩ = some (.int .i64 (p 0)) ∧ w'.cell? ⟨w.heap.size, 1, none⟩ = some (.int .i64 (p 1)) ∧ w'.cell? ⟨w.heap.size, 2, none⟩ = some (.int .i64 (p 2)) ∧ w'.cell? ⟨w.heap.size, 3, none⟩ = some (.int .i64 (p 3)) ∧ w'.cell? ⟨w.heap.size, 4, none⟩ = some (.int .i64 (p 4)) ∧ w'.cell? ⟨w.heap.size, 5, none⟩ = some (.int .i64 (p 5)) ∧ w'.cell? ⟨w.heap.size, 6, none⟩ = some (.int .i64 (p 6)) ∧ w'.cell? ⟨w.heap.size, 7, none⟩ = some (.int .i64 (p 7)) ∧ w'.cell? ⟨w.heap.size, 8, none⟩ = some (.int .i64 (p 8)) ∧ w'.cell? ⟨w.heap.size, 9, none⟩ = some (.int .i64 (p 9))) ((first | (go_keep; done) | (go_simp; done))) (first
            | (refine step_append_rd _ (by rfl) (.tmp 37) (.tmp 40) 56 (by rfl) wq.heap.size 31 i0 _ 10 80 Try.underlying56 hi0 hz0 hz1 hz2 (by rfl) (by omega) (.slice (some ⟨_, 0, none⟩) 0 0) 0 [] (by rfl) (by first | exact row_empty wq _ 10 | exact World.ownsRow.alloc (row_empty wq _ 10) _ | exact row_empty' (wq.alloc _) _ 10 _ _ (by simp) (by simp)) _ k c (es.take k) (by rfl) (HT0.out _ _ _ hkn8) (by unfold maxLen; omega) (by omega) (by (first | omega | (simp; omega) | simp)) ?_; intro v3 w3 hown3 hg3 hat3; have O3 := Lib.hid hown3; have s3 := hg3.size; (try simp at s3); have b3 := Below.grown (Below.refl wq.heap.size _) hg3 (by (first | omega | (simp; omega) | simp)) (by simp [Value.ownBlock] <;> omega); have kc3 := fun (o : Nat) => b3.cell (p := ⟨w.heap.size, o, none⟩) hxq; have kd3 := hg3.block; clear hown3 hg3)
            | (refine step_append_rd _ (by rfl) (.tmp 41) (.tmp 43) 56 (by rfl) wq.heap.size 31 i0 _ 10 80 Try.underlying56 hi0 hz0 hz1 hz2 (by rfl) (by omega) v3 (0 + k) ([] ++ es.take k) (by rfl) ?_ (some ⟨_, 0, none⟩) 1 1 [p] (by rfl) ?_ (by unfold maxLen; omega) (by omega) ?_ ?_; (first | exact O3.out | exact World.ownsRow.alloc O3.out _); refine rd_box10 ?_; (first | exact alloc_heap _ _ | (refine (kd3 _ ?_ ?_).trans (alloc_heap' _ _ _ ?_); ((first | omega | (simp; omega) | (solve | simp))); (simp [Value.ownBlock] <;> omega); ((first | omega | (simp; omega) | (solve | simp)))) | (refine (kd3 _ ?_ ?_).trans ((alloc_old _ _ _ ?_).trans (alloc_heap _ _)); ((first | omega | (simp; omega) | (solve | simp))); (simp [Value.ownBlock] <;> omega); ((first | omega | (simp; omega) | (solve | simp))))); ((first | omega | (simp; omega) | simp)); intro v4 w4 hown4 hg4 hat4; have kc4 := fun (o : Nat) => (Below.grown (Below.refl wq.heap.size _) hg4 (by (first | omega | (simp; omega) | simp)) (row_ge O3.out (by (first | omega | (simp; omega) | simp)))).cell (p := ⟨w.heap.size, o, none⟩) hxq))
          all_goals (go_wp2_with fail; go_meet; refine ⟨by simpa using hown4.lower sq0, Below.grown (show Below w.heap.size w _ from by (repeat (first | with_reducible exact Below.refl _ _ | with_reducible refine Below.drew ?_ | with_reducible refine below_drewN ?_ _ | (with_reducible refine bel_alloc ?_ ?_ _; (first | omega | (simp; omega) | simp)) | (with_reducible refine bel_set ?_ ?_ _; (first | omega | (simp; omega) | simp)) | (with_reducible refine bel_tr (by assumption) ?_ ?_; (first | omega | (simp; omega) | simp))))) hg4 (by (first | omega | (simp; omega) | simp)) (row_ge O3.out (by (first | omega | (simp; omega) | simp)))⟩)
        case rest =>
          obtain ⟨hown6, hb6⟩ := hcut
          have O6 := Lib.hid hown6
          have s6 := hb6.size
          clear hown6
          go_wp2_with (at_builtin; go_must (refine wpList_append_rd _ rfl _ _ 56 rfl w.heap.size 31 i0 _ 10 80 Try.underlying56 hi0 hz0 hz1 hz2 rfl (by omega) _ (k + 1) (es.take k ++ [p]) rfl O6.out _ (n - k) (c - k) (es.drop k) rfl (HN0.out _ _ _) (by unfold maxLen; omega) (by omega) s6 ?_); intro v8 w8 hown8 hg8 hat8)
          all_goals (go_ret; have q8 : w8.ownsRow w.heap.size 31 10 v8 (n + 1) (flat 10 (insL es (ppl es p n) p)) := (by rw [← HP.out, show n + 1 = k + 1 + (n - k) by omega]; simpa [insL] using hown8); obtain ⟨A9, c9, rfl, o9⟩ := own_of_row (insL_len HL.out ppl_le) q8; have b9 := Below.grown hb6 hg8 s6 (row_ge O6.out (Nat.le_refl _)); first | exact ⟨A9, c9, rfl, o9, b9⟩ | exact ⟨A9, ⟨c9, rfl⟩, o9, b9⟩)
      exact absurd hlt (by have := HZ.out; omega)
  · skip
    have HL := Lib.hid h.1
    have HF : Hid (FirstAt (hasPid es (p 0)) n (-1)) := .inr ⟨rfl, hall⟩
    have HALL : Hid (∀ i, i < n → fld es i 0 ≠ p 0) := fun i hi => by simpa [hasPid] using hall i hi
    have hcc := h.2
    have H := Lib.hid h
    have HN0 : Hid (∀ (W : World) (A2 : Option Addr) (k : Nat), Rd W 10 A2 (n - k) (es.drop k)) := fun W A2 k => ⟨by rw [List.length_drop, h.1], .inl (by omega)⟩
    have HT0 : Hid (∀ (W : World) (A2 : Option Addr) (k : Nat), k ≤ n → Rd W 10 A2 k (es.take k)) := fun W A2 k hk => ⟨by rw [List.length_take, h.1]; omega, .inl (by omega)⟩
    have HZ := Lib.hid hn0
    clear h hall hn0 hcc
    obtain ⟨i0, hi0, hz0, hz1, hz2⟩ := info_parts delParty_info
    go_enter Try.func36, Try.ntmps36
    go_wp2_with fail
    refine (sPartyAt_any _ n c (p 0) es _ (by omega) (H.out.below (by (repeat (first | with_reducible exact Below.refl _ _ | with_reducible refine Below.drew ?_ | with_reducible refine below_drewN ?_ _ | (with_reducible refine bel_alloc ?_ ?_ _; (first | omega | (simp; omega) | simp)) | (with_reducible refine bel_set ?_ ?_ _; (first | omega | (simp; omega) | simp)) | (with_reducible refine bel_tr (by assumption) ?_ ?_; (first | omega | (simp; omega) | simp))))))).mono ?_
    rintro y w1 ⟨r, hr, rfl, b1⟩
    obtain rfl : r = -1 := hr.uniq HF.out
    clear hr
    have s1 := b1.size
    (try simp at s1)
    have x0 : w1.cell? ⟨w.heap.size, 0, none⟩ = some (.int .i64 (p 0)) := (b1.cell (p := ⟨w.heap.size, 0, none⟩) (by (first | omega | (simp; omega) | simp))).trans (by (first | (go_keep; done) | (go_simp; done)))
    have x1 : w1.cell? ⟨w.heap.size, 1, none⟩ = some (.int .i64 (p 1)) := (b1.cell (p := ⟨w.heap.size, 1, none⟩) (by (first | omega | (simp; omega) | simp))).trans (by (first | (go_keep; done) | (go_simp; done)))
    have x2 : w1.cell? ⟨w.heap.size, 2, none⟩ = some (.int .i64 (p 2)) := (b1.cell (p := ⟨w.heap.size, 2, none⟩) (by (first | omega | (simp; omega) | simp))).trans (by (first | (go_keep; done) | (go_simp; done)))
    have x3 : w1.cell? ⟨w.heap.size, 3, none⟩ = some (.int .i64 (p 3)) := (b1.cell (p := ⟨w.heap.size, 3, none⟩) (by (first | omega | (simp; omega) | simp))).trans (by (first | (go_keep; done) | (go_simp; done)))
    have x4 : w1.cell? ⟨w.heap.size, 4, none⟩ = some (.int .i64 (p 4)) := (b1.cell (p := ⟨w.heap.size, 4, none⟩) (by (first | omega | (simp; omega) | simp))).trans (by (first | (go_keep; done) | (go_simp; done)))
    have x5 : w1.cell? ⟨w.heap.size, 5, none⟩ = some (.int .i64 (p 5)) := (b1.cell (p := ⟨w.heap.size, 5, none⟩) (by (first | omega | (simp; omega) | simp))).trans (by (first | (go_keep; done) | (go_simp; done)))
    have x6 : w1.cell? ⟨w.heap.size, 6, none⟩ = some (.int .i64 (p 6)) := (b1.cell (p := ⟨w.heap.size, 6, none⟩) (by (first | omega | (simp; omega) | simp))).trans (by (first | (go_keep; done) | (go_simp; done)))
    have x7 : w1.cell? ⟨w.heap.size, 7, none⟩ = some (.int .i64 (p 7)) := (b1.cell (p := ⟨w.heap.size, 7, none⟩) (by (first | omega | (simp; omega) | simp))).trans (by (first | (go_keep; done) | (go_simp; done)))
    have x8 : w1.cell? ⟨w.heap.size, 8, none⟩ = some (.int .i64 (p 8)) := (b1.cell (p := ⟨w.heap.size, 8, none⟩) (by (first | omega | (simp; omega) | simp))).trans (by (first | (go_keep; done) | (go_simp; done)))
    have x9 : w1.cell? ⟨w.heap.size, 9, none⟩ = some (.int .i64 (p 9)) := (b1.cell (p := ⟨w.heap.size, 9, none⟩) (by (first | omega | (simp; omega) | simp))).trans (by (first | (go_keep; done) | (go_simp; done)))
    have b2 : Below w.heap.size w (w1.alloc (.cells #[] 31)) := by (repeat (first | with_reducible exact Below.refl _ _ | with_reducible refine Below.drew ?_ | with_reducible refine below_drewN ?_ _ | (with_reducible refine bel_alloc ?_ ?_ _; (first | omega | (simp; omega) | simp)) | (with_reducible refine bel_set ?_ ?_ _; (first | omega | (simp; omega) | simp)) | (with_reducible refine bel_tr (by assumption) ?_ ?_; (first | omega | (simp; omega) | simp))))
    go_wp2_with (at_builtin; go_must (refine wpList_append_rd _ rfl _ _ 56 rfl w1.heap.size 31 i0 _ 10 80 Try.underlying56 hi0 hz0 hz1 hz2 rfl (by omega) (.slice (some ⟨w1.heap.size, 0, none⟩) 0 0) 0 [] rfl (row_empty w1 _ 10) _ n c es rfl (H.out.below b2) (by unfold maxLen; omega) (by omega) (by simp) ?_); intro v3 w3 hown3 hg3 hat3; have b3 : Below w1.heap.size _ w3 := Below.grown (Below.refl w1.heap.size _) hg3 (by simp) (by simp [Value.ownBlock]); have b3w : Below w.heap.size w w3 := b2.grown hg3 (by simp; omega) (by simp [Value.ownBlock]; omega); have s3 := hg3.size; (try simp at s3); have x0 : w3.cell? ⟨w.heap.size, 0, none⟩ = some (.int .i64 (p 0)) := (b3.cell (p := ⟨w.heap.size, 0, none⟩) (by (first | omega | (simp; omega) | simp))).trans (by (first | (go_keep; done) | (go_simp; done))); have x1 : w3.cell? ⟨w.heap.size, 1, none⟩ = some (.int .i64 (p 1)) := (b3.cell (p := ⟨w.heap.size, 1, none⟩) (by (first | omega | (simp; omega) | simp))).trans (by (first | (go_keep; done) | (go_simp; done))); have x2 : w3.cell? ⟨w.heap.size, 2, none⟩ = some (.int .i64 (p 2)) := (b3.cell (p := ⟨w.heap.size, 2, none⟩) (by (first | omega | (simp; omega) | simp))).trans (by (first | (go_keep; done) | (go_simp; done))); have x3 : w3.cell? ⟨w.heap.size, 3, none⟩ = some (.int .i64 (p 3)) := (b3.cell (p := ⟨w.heap.size, 3, none⟩) (by (first | omega | (simp; omega) | simp))).trans (by (first | (go_keep; done) | (go_simp; done))); have x4 : w3.cell? ⟨w.heap.size, 4, none⟩ = some (.int .i64 (p 4)) := (b3.cell (p := ⟨w.heap.size, 4, none⟩) (by (first | omega | (simp; omega) | simp))).trans (by (first | (go_keep; done) | (go_simp; done))); have x5 : w3.cell? ⟨w.heap.size, 5, none⟩ = some (.int .i64 (p 5)) := (b3.cell (p := ⟨w.heap.size, 5, none⟩) (by (first | omega | (simp; omega) | simp))).trans (by (first | (go_keep; done) | (go_simp; done))); have x6 : w3.cell? ⟨w.heap.size, 6, none⟩ = some (.int .i64 (p 6)) := (b3.cell (p := ⟨w.heap.size, 6, none⟩) (by (first | omega | (simp; omega) | simp))).trans (by (first | (go_keep; done) | (go_simp; done))); have x7 : w3.cell? ⟨w.heap.size, 7, none⟩ = some (.int .i64 (p 7)) := (b3.cell (p := ⟨w.heap.size, 7, none⟩) (by (first | omega | (simp; omega) | simp))).trans (by (first | (go_keep; done) | (go_simp; done))); have x8 : w3.cell? ⟨w.heap.size, 8, none⟩ = some (.int .i64 (p 8)) := (b3.cell (p := ⟨w.heap.size, 8, none⟩) (by (first | omega | (simp; omega) | simp))).trans (by (first | (go_keep; done) | (go_simp; done))); have x9 : w3.cell? ⟨w.heap.size, 9, none⟩ = some (.int .i64 (p 9)) := (b3.cell (p := ⟨w.heap.size, 9, none⟩) (by (first | omega | (simp; omega) | simp))).trans (by (first | (go_keep; done) | (go_simp; done))); clear hown3 hg3 hat3)
    go_loopw [5] (fun i wr => ∃ k : Nat, k ≤ n ∧ i = .int .i64 k ∧ Hid (∀ i, i < k → fld es i 0 < p 0) ∧ Below w.heap.size w wr ∧ w.heap.size < wr.heap.size ∧ wr.cell? ⟨w.heap.size, 0, none⟩ = some (.int .i64 (p 0)) ∧ wr.cell? ⟨w.heap.size, 1, none⟩ = some (.int .i64 (p 1)) ∧ wr.cell? ⟨w.heap.size, 2, none⟩ = some (.int .i64 (p 2)) ∧ wr.cell? ⟨w.heap.size, 3, none⟩ = some (.int .i64 (p 3)) ∧ wr.cell? ⟨w.heap.size, 4, none⟩ = some (.int .i64 (p 4)) ∧ wr.cell? ⟨w.heap.size, 5, none⟩ = some (.int .i64 (p 5)) ∧ wr.cell? ⟨w.heap.size, 6, none⟩ = some (.int .i64 (p 6)) ∧ wr.cell? ⟨w.heap.size, 7, none⟩ = some (.int .i64 (p 7)) ∧ wr.cell? ⟨w.heap.size, 8, none⟩ = some (.int .i64 (p 8)) ∧ wr.cell? ⟨w.heap.size, 9, none⟩ = some (.int .i64 (p 9))) (fun i _ => n - (intOf i).toNat)
    case atStart => exact ⟨0, Nat.zero_le _, rfl, Lib.hid (fun i hi => absurd hi (by omega)), by (repeat (first | with_reducible exact Below.refl _ _ | with_reducible refine Below.drew ?_ | with_reducible refine below_drewN ?_ _ | (with_reducible refine bel_alloc ?_ ?_ _; (first | omega | (simp; omega) | simp)) | (with_reducible refine bel_set ?_ ?_ _; (first | omega | (simp; omega) | simp)) | (with_reducible refine bel_tr (by assumption) ?_ ?_; (first | omega | (simp; omega) | simp)))), by (first | omega | (simp; omega) | simp), x0, x1, x2, x3, x4, x5, x6, x7, x8, x9⟩
    case round =>
      obtain ⟨k, hk, rfl, HQ, hbel0, hxr, x0, x1, x2, x3, x4, x5, x6, x7, x8, x9⟩ := hrel
      have hsz := hbel0.size
      have hkl : (k : Int) ≤ (n : Int) := by omega
      have hk0 : (0 : Int) ≤ (k : Int) := by omega
      by_cases hlt : k < n
      case neg =>
        have hkn : k = n := by omega
        have HP : Hid (k = ppl es p n) := ppl_of (fun i hi => by have := HQ.out i hi; omega) (.inl hkn)
        have hd : decide (k < n) = false := by simpa using hlt
        have HLT := Lib.hid hlt
        clear hlt hkn
        go_wp2
        refine wp_region_bw (by kernel_rfl) (by kernel_rfl) (fun W hW => ?_)
        have q1 : ∀ p' : BW W, p'.w.cell? ⟨w.heap.size, 0, none⟩ = some (.int .i64 (p 0)) := fun p' => p'.cell (by rw [hW]; (first | omega | (simp; omega) | simp)) (by rw [hW]; (first | (go_keep; done) | (go_simp; done)))
        have hbW : Below w.heap.size w W := by rw [hW]; (repeat (first | with_reducible exact Below.refl _ _ | with_reducible refine Below.drew ?_ | with_reducible refine below_drewN ?_ _ | (with_reducible refine bel_alloc ?_ ?_ _; (first | omega | (simp; omega) | simp)) | (with_reducible refine bel_set ?_ ?_ _; (first | omega | (simp; omega) | simp)) | (with_reducible refine bel_tr (by assumption) ?_ ?_; (first | omega | (simp; omega) | simp))))
        have hxW : w.heap.size < W.heap.size := by rw [hW]; (first | omega | (simp; omega) | simp)
        have y0 : W.cell? ⟨w.heap.size, 0, none⟩ = some (.int .i64 (p 0)) := by rw [hW]; (first | (go_keep; done) | (go_simp; done))
        have y1 : W.cell? ⟨w.heap.size, 1, none⟩ = some (.int .i64 (p 1)) := by rw [hW]; (first | (go_keep; done) | (go_simp; done))
        have y2 : W.cell? ⟨w.heap.size, 2, none⟩ = some (.int .i64 (p 2)) := by rw [hW]; (first | (go_keep; done) | (go_simp; done))
        have y3 : W.cell? ⟨w.heap.size, 3, none⟩ = some (.int .i64 (p 3)) := by rw [hW]; (first | (go_keep; done) | (go_simp; done))
        have y4 : W.cell? ⟨w.heap.size, 4, none⟩ = some (.int .i64 (p 4)) := by rw [hW]; (first | (go_keep; done) | (go_simp; done))
        have y5 : W.cell? ⟨w.heap.size, 5, none⟩ = some (.int .i64 (p 5)) := by rw [hW]; (first | (go_keep; done) | (go_simp; done))
        have y6 : W.cell? ⟨w.heap.size, 6, none⟩ = some (.int .i64 (p 6)) := by rw [hW]; (first | (go_keep; done) | (go_simp; done))
        have y7 : W.cell? ⟨w.heap.size, 7, none⟩ = some (.int .i64 (p 7)) := by rw [hW]; (first | (go_keep; done) | (go_simp; done))
        have y8 : W.cell? ⟨w.heap.size, 8, none⟩ = some (.int .i64 (p 8)) := by rw [hW]; (first | (go_keep; done) | (go_simp; done))
        have y9 : W.cell? ⟨w.heap.size, 9, none⟩ = some (.int .i64 (p 9)) := by rw [hW]; (first | (go_keep; done) | (go_simp; done))
        have HW := Lib.hid hW
        clear hW
        repeat (go_big_quiet_step (fail))
        refine wpQuiet_nil ?_
        intro wq hq
        have hbq : Below W.heap.size W wq := by (obtain ⟨p', hp'⟩ := hq; rw [hp']; exact p'.below)
        clear hq HW
        have sW := hbW.size
        have hbel : Below w.heap.size w wq := hbW.trans (hbq.mono sW)
        have hxq : w.heap.size < wq.heap.size := by have := hbq.size; omega
        have x0 : wq.cell? ⟨w.heap.size, 0, none⟩ = some (.int .i64 (p 0)) := (hbq.cell (p := ⟨w.heap.size, 0, none⟩) hxW).trans y0
        have x1 : wq.cell? ⟨w.heap.size, 1, none⟩ = some (.int .i64 (p 1)) := (hbq.cell (p := ⟨w.heap.size, 1, none⟩) hxW).trans y1
        have x2 : wq.cell? ⟨w.heap.size, 2, none⟩ = some (.int .i64 (p 2)) := (hbq.cell (p := ⟨w.heap.size, 2, none⟩) hxW).trans y2
        have x3 : wq.cell? ⟨w.heap.size, 3, none⟩ = some (.int .i64 (p 3)) := (hbq.cell (p := ⟨w.heap.size, 3, none⟩) hxW).trans y3
        have x4 : wq.cell? ⟨w.heap.size, 4, none⟩ = some (.int .i64 (p 4)) := (hbq.cell (p := ⟨w.heap.size, 4, none⟩) hxW).trans y4
        have x5 : wq.cell? ⟨w.heap.size, 5, none⟩ = some (.int .i64 (p 5)) := (hbq.cell (p := ⟨w.heap.size, 5, none⟩) hxW).trans y5
        have x6 : wq.cell? ⟨w.heap.size, 6, none⟩ = some (.int .i64 (p 6)) := (hbq.cell (p := ⟨w.heap.size, 6, none⟩) hxW).trans y6
        have x7 : wq.cell? ⟨w.heap.size, 7, none⟩ = some (.int .i64 (p 7)) := (hbq.cell (p := ⟨w.heap.size, 7, none⟩) hxW).trans y7
        have x8 : wq.cell? ⟨w.heap.size, 8, none⟩ = some (.int .i64 (p 8)) := (hbq.cell (p := ⟨w.heap.size, 8, none⟩) hxW).trans y8
        have x9 : wq.cell? ⟨w.heap.size, 9, none⟩ = some (.int .i64 (p 9)) := (hbq.cell (p := ⟨w.heap.size, 9, none⟩) hxW).trans y9
        clear q1 y0 y1 y2 y3 y4 y5 y6 y7 y8 y9
        have hkn8 : k ≤ n := hk
        have hkc8 : k ≤ c := by omega
        have sq0 : w.heap.size ≤ wq.heap.size := by omega
        go_upto_region 9 with fail
        go_cut [6] (fun s6 wx => wx.ownsRow w.heap.size 31 10 s6 (k + 1) (flat 10 (es.take k ++ [p])) ∧ Below w.heap.size w wx)
        case first =>
          go_region_held3 (fun w' => w'.cell? ⟨w.heap.size, 0, none⟩ = some (.int .i64 (p 0)) ∧ w'.cell? ⟨w.heap.size, 1, none⟩ = some (.int .i64 (p 1)) ∧ w'.cell? ⟨w.heap.size, 2, none⟩ = some (.int .i64 (p 2)) ∧ w'.cell? ⟨w.heap.size, 3, none⟩ = some (.int .i64 (p 3)) ∧ w'.cell? ⟨w.heap.size, 4, none⟩ = some (.int .i64 (p 4)) ∧ w'.cell? ⟨w.heap.size, 5, none⟩ = some (.int .i64 (p 5)) ∧ w'.cell? ⟨w.heap.size, 6, none⟩ = some (.int .i64 (p 6)) ∧ w'.cell? ⟨w.heap.size, 7, none⟩ = some (.int .i64 (p 7)) ∧ w'.cell? ⟨w.heap.size, 8, none⟩ = some (.int .i64 (p 8)) ∧ w'.cell? ⟨w.heap.size, 9, none⟩ = some (.int .i64 (p 9))) ((first | (go_keep; done) | (go_simp; done))) (first
            | (refine step_append_rd _ (by rfl) (.tmp 37) (.tmp 40) 56 (by rfl) wq.heap.size 31 i0 _ 10 80 Try.underlying56 hi0 hz0 hz1 hz2 (by rfl) (by omega) (.slice (some ⟨_, 0, none⟩) 0 0) 0 [] (by rfl) (by first | exact row_empty wq _ 10 | exact World.ownsRow.alloc (row_empty wq _ 10) _ | exact row_empty' (wq.alloc _) _ 10 _ _ (by simp) (by simp)) _ k c (es.take k) (by rfl) (HT0.out _ _ _ hkn8) (by unfold maxLen; omega) (by omega) (by (first | omega | (simp; omega) | simp)) ?_; intro v3 w3 hown3 hg3 hat3; have O3 := Lib.hid hown3; have s3 := hg3.size; (try simp at s3); have b3 := Below.grown (Below.refl wq.heap.size _) hg3 (by (first | omega | (simp; omega) | simp)) (by simp [Value.ownBlock] <;> omega); have kc3 := fun (o : Nat) => b3.cell (p := ⟨w.heap.size, o, none⟩) hxq; have kd3 := hg3.block; clear hown3 hg3)
            | (refine step_append_rd _ (by rfl) (.tmp 41) (.tmp 43) 56 (by rfl) wq.heap.size 31 i0 _ 10 80 Try.underlying56 hi0 hz0 hz1 hz2 (by rfl) (by omega) v3 (0 + k) ([] ++ es.take k) (by rfl) ?_ (some ⟨_, 0, none⟩) 1 1 [p] (by rfl) ?_ (by unfold maxLen; omega) (by omega) ?_ ?_; (first | exact O3.out | exact World.ownsRow.alloc O3.out _); refine rd_box10 ?_; (first | exact alloc_heap _ _ | (refine (kd3 _ ?_ ?_).trans (alloc_heap' _ _ _ ?_); ((first | omega | (simp; omega) | (solve | simp))); (simp [Value.ownBlock] <;> omega); ((first | omega | (simp; omega) | (solve | simp)))) | (refine (kd3 _ ?_ ?_).trans ((alloc_old _ _ _ ?_).trans (alloc_heap _ _)); ((first | omega | (simp; omega) | (solve | simp))); (simp [Value.ownBlock] <;> omega); ((first | omega | (simp; omega) | (solve | simp))))); ((first | omega | (simp; omega) | simp)); intro v4 w4 hown4 hg4 hat4; have kc4 := fun (o : Nat) => (Below.grown (Below.refl wq.heap.size _) hg4 (by (first | omega | (simp; omega) | simp)) (row_ge O3.out (by (first | omega | (simp; omega) | simp)))).cell (p := ⟨w.heap.size, o, none⟩) hxq))
          all_goals (go_wp2_with fail; go_meet; refine ⟨by simpa using hown4.lower sq0, Below.grown (show Below w.heap.size w _ from by (repeat (first | with_reducible exact Below.refl _ _ | with_reducible refine Below.drew ?_ | with_reducible refine below_drewN ?_ _ | (with_reducible refine bel_alloc ?_ ?_ _; (first | omega | (simp; omega) | simp)) | (with_reducible refine bel_set ?_ ?_ _; (first | omega | (simp; omega) | simp)) | (with_reducible refine bel_tr (by assumption) ?_ ?_; (first | omega | (simp; omega) | simp))))) hg4 (by (first | omega | (simp; omega) | simp)) (row_ge O3.out (by (first | omega | (simp; omega) | simp)))⟩)
        case rest =>
          obtain ⟨hown6, hb6⟩ := hcut
          have O6 := Lib.hid hown6
          have s6 := hb6.size
          clear hown6
          go_wp2_with (at_builtin; go_must (refine wpList_append_rd _ rfl _ _ 56 rfl w.heap.size 31 i0 _ 10 80 Try.underlying56 hi0 hz0 hz1 hz2 rfl (by omega) _ (k + 1) (es.take k ++ [p]) rfl O6.out _ (n - k) (c - k) (es.drop k) rfl (HN0.out _ _ _) (by unfold maxLen; omega) (by omega) s6 ?_); intro v8 w8 hown8 hg8 hat8)
          all_goals (go_ret; have q8 : w8.ownsRow w.heap.size 31 10 v8 (n + 1) (flat 10 (insL es (ppl es p n) p)) := (by rw [← HP.out, show n + 1 = k + 1 + (n - k) by omega]; simpa [insL] using hown8); obtain ⟨A9, c9, rfl, o9⟩ := own_of_row (insL_len HL.out ppl_le) q8; have b9 := Below.grown hb6 hg8 s6 (row_ge O6.out (Nat.le_refl _)); first | exact ⟨A9, c9, rfl, o9, b9⟩ | exact ⟨A9, ⟨c9, rfl⟩, o9, b9⟩)
      exact absurd hlt (by have := HZ.out; omega)

set_option maxRecDepth 100000 in
set_option maxHeartbeats 4000000 in
theorem iPP_y (A : Option Addr) (n c k : Nat) (es : List (Nat → Int)) (p : Nat → Int) (w : World) (hn : n ≤ 1048576) (h : Rd w 10 A n es) (hk : k < n) (hp : hasPid es (p 0) k = true) (hb : ∀ i, i < k → hasPid es (p 0) i = false) :
    Calls Try.prog 38 #[.slice A n c, .agg #[.int .i64 (p 0), .int .i64 (p 1), .int .i64 (p 2), .int .i64 (p 3), .int .i64 (p 4), .int .i64 (p 5), .int .i64 (p 6), .int .i64 (p 7), .int .i64 (p 8), .int .i64 (p 9)]] w fun y w' => ∃ A' c', y = .returned (.slice A' n c') ∧ Own w.heap.size w' 10 A' n (es.set k p) ∧ Below w.heap.size w w' := by
  have H := Lib.hid h
  have HL := Lib.hid h.1
  have HF : Hid (FirstAt (hasPid es (p 0)) n (k : Int)) := .inl ⟨k, hk, rfl, hp, hb⟩
  clear h hp hb
  obtain ⟨i0, hi0, hz0, hz1, hz2⟩ := info_parts delParty_info
  have hki : (k : Int) < (n : Int) := by omega
  have hk0 : (0 : Int) ≤ (k : Int) := by omega
  go_enter Try.func38, Try.ntmps38
  go_wp2_with (at_builtin; go_must (refine wpList_append_rd _ rfl _ _ 56 rfl (w.heap.size + 1) 31 i0 _ 10 80 Try.underlying56 hi0 hz0 hz1 hz2 rfl (by omega) (.slice none 0 0) 0 [] rfl (World.ownsRow_nil _ _ _ _) A n c es rfl (H.out.below (by (repeat (first | with_reducible exact Below.refl _ _ | with_reducible refine Below.drew ?_ | with_reducible refine below_drewN ?_ _ | (with_reducible refine bel_alloc ?_ ?_ _; (first | omega | (simp; omega) | simp)) | (with_reducible refine bel_set ?_ ?_ _; (first | omega | (simp; omega) | simp)) | (with_reducible refine bel_tr (by assumption) ?_ ?_; (first | omega | (simp; omega) | simp)))))) (by unfold maxLen; omega) (by omega) (by simp) ?_; intro v1 w1 hown1 hg1 hat1; have b1 : Below (w.heap.size + 1) _ w1 := Below.grown (Below.refl (w.heap.size + 1) _) hg1 (by simp) (by simp [Value.ownBlock]); have b1w : Below w.heap.size w w1 := (by (repeat (first | with_reducible exact Below.refl _ _ | with_reducible refine Below.drew ?_ | with_reducible refine below_drewN ?_ _ | (with_reducible refine bel_alloc ?_ ?_ _; (first | omega | (simp; omega) | simp)) | (with_reducible refine bel_set ?_ ?_ _; (first | omega | (simp; omega) | simp)) | (with_reducible refine bel_tr (by assumption) ?_ ?_; (first | omega | (simp; omega) | simp))))); have s1 := hg1.size; (try simp at s1); have x0 : w1.cell? ⟨w.heap.size, 0, none⟩ = some (.int .i64 (p 0)) := (b1.cell (p := ⟨w.heap.size, 0, none⟩) (Nat.lt_succ_self w.heap.size)).trans (by (first | (go_keep; done) | (go_simp; done))); have x1 : w1.cell? ⟨w.heap.size, 1, none⟩ = some (.int .i64 (p 1)) := (b1.cell (p := ⟨w.heap.size, 1, none⟩) (Nat.lt_succ_self w.heap.size)).trans (by (first | (go_keep; done) | (go_simp; done))); have x2 : w1.cell? ⟨w.heap.size, 2, none⟩ = some (.int .i64 (p 2)) := (b1.cell (p := ⟨w.heap.size, 2, none⟩) (Nat.lt_succ_self w.heap.size)).trans (by (first | (go_keep; done) | (go_simp; done))); have x3 : w1.cell? ⟨w.heap.size, 3, none⟩ = some (.int .i64 (p 3)) := (b1.cell (p := ⟨w.heap.size, 3, none⟩) (Nat.lt_succ_self w.heap.size)).trans (by (first | (go_keep; done) | (go_simp; done))); have x4 : w1.cell? ⟨w.heap.size, 4, none⟩ = some (.int .i64 (p 4)) := (b1.cell (p := ⟨w.heap.size, 4, none⟩) (Nat.lt_succ_self w.heap.size)).trans (by (first | (go_keep; done) | (go_simp; done))); have x5 : w1.cell? ⟨w.heap.size, 5, none⟩ = some (.int .i64 (p 5)) := (b1.cell (p := ⟨w.heap.size, 5, none⟩) (Nat.lt_succ_self w.heap.size)).trans (by (first | (go_keep; done) | (go_simp; done))); have x6 : w1.cell? ⟨w.heap.size, 6, none⟩ = some (.int .i64 (p 6)) := (b1.cell (p := ⟨w.heap.size, 6, none⟩) (Nat.lt_succ_self w.heap.size)).trans (by (first | (go_keep; done) | (go_simp; done))); have x7 : w1.cell? ⟨w.heap.size, 7, none⟩ = some (.int .i64 (p 7)) := (b1.cell (p := ⟨w.heap.size, 7, none⟩) (Nat.lt_succ_self w.heap.size)).trans (by (first | (go_keep; done) | (go_simp; done))); have x8 : w1.cell? ⟨w.heap.size, 8, none⟩ = some (.int .i64 (p 8)) := (b1.cell (p := ⟨w.heap.size, 8, none⟩) (Nat.lt_succ_self w.heap.size)).trans (by (first | (go_keep; done) | (go_simp; done))); have x9 : w1.cell? ⟨w.heap.size, 9, none⟩ = some (.int .i64 (p 9)) := (b1.cell (p := ⟨w.heap.size, 9, none⟩) (Nat.lt_succ_self w.heap.size)).trans (by (first | (go_keep; done) | (go_simp; done))); obtain ⟨g, cap, rfl, hnc, hcm, o1⟩ := row_pos (w := w1) (v := v1) (n := n) (es := es) (base := w.heap.size + 1) (e := 31) (K := 10) (by omega) (by omega) HL.out (by simpa using hown1); have O1 := Lib.hid o1; clear o1; clear hown1 hg1 hat1))
  refine (iPartyAt_any A n c (p 0) es _ (by omega) (H.out.below b1w)).mono ?_
  rintro y w2 ⟨r, hr, rfl, b2⟩
  obtain rfl : r = (k : Int) := hr.uniq HF.out
  clear hr
  have s2 := b2.size
  have x0 : w2.cell? ⟨w.heap.size, 0, none⟩ = some (.int .i64 (p 0)) := (b2.cell (p := ⟨w.heap.size, 0, none⟩) (by (first | omega | (simp; omega) | simp))).trans (by (first | (go_keep; done) | (go_simp; done)))
  have x1 : w2.cell? ⟨w.heap.size, 1, none⟩ = some (.int .i64 (p 1)) := (b2.cell (p := ⟨w.heap.size, 1, none⟩) (by (first | omega | (simp; omega) | simp))).trans (by (first | (go_keep; done) | (go_simp; done)))
  have x2 : w2.cell? ⟨w.heap.size, 2, none⟩ = some (.int .i64 (p 2)) := (b2.cell (p := ⟨w.heap.size, 2, none⟩) (by (first | omega | (simp; omega) | simp))).trans (by (first | (go_keep; done) | (go_simp; done)))
  have x3 : w2.cell? ⟨w.heap.size, 3, none⟩ = some (.int .i64 (p 3)) := (b2.cell (p := ⟨w.heap.size, 3, none⟩) (by (first | omega | (simp; omega) | simp))).trans (by (first | (go_keep; done) | (go_simp; done)))
  have x4 : w2.cell? ⟨w.heap.size, 4, none⟩ = some (.int .i64 (p 4)) := (b2.cell (p := ⟨w.heap.size, 4, none⟩) (by (first | omega | (simp; omega) | simp))).trans (by (first | (go_keep; done) | (go_simp; done)))
  have x5 : w2.cell? ⟨w.heap.size, 5, none⟩ = some (.int .i64 (p 5)) := (b2.cell (p := ⟨w.heap.size, 5, none⟩) (by (first | omega | (simp; omega) | simp))).trans (by (first | (go_keep; done) | (go_simp; done)))
  have x6 : w2.cell? ⟨w.heap.size, 6, none⟩ = some (.int .i64 (p 6)) := (b2.cell (p := ⟨w.heap.size, 6, none⟩) (by (first | omega | (simp; omega) | simp))).trans (by (first | (go_keep; done) | (go_simp; done)))
  have x7 : w2.cell? ⟨w.heap.size, 7, none⟩ = some (.int .i64 (p 7)) := (b2.cell (p := ⟨w.heap.size, 7, none⟩) (by (first | omega | (simp; omega) | simp))).trans (by (first | (go_keep; done) | (go_simp; done)))
  have x8 : w2.cell? ⟨w.heap.size, 8, none⟩ = some (.int .i64 (p 8)) := (b2.cell (p := ⟨w.heap.size, 8, none⟩) (by (first | omega | (simp; omega) | simp))).trans (by (first | (go_keep; done) | (go_simp; done)))
  have x9 : w2.cell? ⟨w.heap.size, 9, none⟩ = some (.int .i64 (p 9)) := (b2.cell (p := ⟨w.heap.size, 9, none⟩) (by (first | omega | (simp; omega) | simp))).trans (by (first | (go_keep; done) | (go_simp; done)))
  have b3w : Below w.heap.size w w2 := by (repeat (first | with_reducible exact Below.refl _ _ | with_reducible refine Below.drew ?_ | with_reducible refine below_drewN ?_ _ | (with_reducible refine bel_alloc ?_ ?_ _; (first | omega | (simp; omega) | simp)) | (with_reducible refine bel_set ?_ ?_ _; (first | omega | (simp; omega) | simp)) | (with_reducible refine bel_tr (by assumption) ?_ ?_; (first | omega | (simp; omega) | simp))))
  have o3 := O1.out.below b2
  have O3 := Lib.hid o3
  have q0 := own_cell o3 hk (j := 0) (by omega)
  have q1 := own_cell o3 hk (j := 1) (by omega)
  have q2 := own_cell o3 hk (j := 2) (by omega)
  have q3 := own_cell o3 hk (j := 3) (by omega)
  have q4 := own_cell o3 hk (j := 4) (by omega)
  have q5 := own_cell o3 hk (j := 5) (by omega)
  have q6 := own_cell o3 hk (j := 6) (by omega)
  have q7 := own_cell o3 hk (j := 7) (by omega)
  have q8 := own_cell o3 hk (j := 8) (by omega)
  have q9 := own_cell o3 hk (j := 9) (by omega)
  have z0 := own_fz o3 hk (k * 10 + 0)
  have z1 := own_fz o3 hk (k * 10 + 1)
  have z2 := own_fz o3 hk (k * 10 + 2)
  have z3 := own_fz o3 hk (k * 10 + 3)
  have z4 := own_fz o3 hk (k * 10 + 4)
  have z5 := own_fz o3 hk (k * 10 + 5)
  have z6 := own_fz o3 hk (k * 10 + 6)
  have z7 := own_fz o3 hk (k * 10 + 7)
  have z8 := own_fz o3 hk (k * 10 + 8)
  have z9 := own_fz o3 hk (k * 10 + 9)
  have z := own_fz o3 hk (k * 10)
  (try simp only [Nat.add_zero, Nat.zero_add] at q0)
  clear o3
  go_wp2
  go_ret
  exact ⟨_, _, rfl, (own_set (vs := [.int .i64 (p 0), .int .i64 (p 1), .int .i64 (p 2), .int .i64 (p 3), .int .i64 (p 4), .int .i64 (p 5), .int .i64 (p 6), .int .i64 (p 7), .int .i64 (p 8), .int .i64 (p 9)]) O3.out hk rfl (by intro j hj; match j, hj with | 0, _ => rfl | 1, _ => rfl | 2, _ => rfl | 3, _ => rfl | 4, _ => rfl | 5, _ => rfl | 6, _ => rfl | 7, _ => rfl | 8, _ => rfl | 9, _ => rfl)).mono (by omega), below_setCells (by have := own_blk O3.out (by omega); omega) [.int .i64 (p 0), .int .i64 (p 1), .int .i64 (p 2), .int .i64 (p 3), .int .i64 (p 4), .int .i64 (p 5), .int .i64 (p 6), .int .i64 (p 7), .int .i64 (p 8), .int .i64 (p 9)] _ _ b3w⟩

set_option maxRecDepth 100000 in
set_option maxHeartbeats 4000000 in
theorem iPP_n (A : Option Addr) (n c : Nat) (es : List (Nat → Int)) (p : Nat → Int) (w : World) (hn : n ≤ 1048576) (h : Rd w 10 A n es) (hall : ∀ i, i < n → hasPid es (p 0) i = false) :
    Calls Try.prog 38 #[.slice A n c, .agg #[.int .i64 (p 0), .int .i64 (p 1), .int .i64 (p 2), .int .i64 (p 3), .int .i64 (p 4), .int .i64 (p 5), .int .i64 (p 6), .int .i64 (p 7), .int .i64 (p 8), .int .i64 (p 9)]] w fun y w' => ∃ A' c', y = .returned (.slice A' (n + 1) c') ∧ Own w.heap.size w' 10 A' (n + 1) (insL es (ppl es p n) p) ∧ Below w.heap.size w w' := by
  have H := Lib.hid h
  have HL := Lib.hid h.1
  have HF : Hid (FirstAt (hasPid es (p 0)) n (-1)) := .inr ⟨rfl, hall⟩
  clear h hall
  obtain ⟨i0, hi0, hz0, hz1, hz2⟩ := info_parts delParty_info
  go_enter Try.func38, Try.ntmps38
  go_wp2_with (at_builtin; go_must (refine wpList_append_rd _ rfl _ _ 56 rfl (w.heap.size + 1) 31 i0 _ 10 80 Try.underlying56 hi0 hz0 hz1 hz2 rfl (by omega) (.slice none 0 0) 0 [] rfl (World.ownsRow_nil _ _ _ _) A n c es rfl (H.out.below (by (repeat (first | with_reducible exact Below.refl _ _ | with_reducible refine Below.drew ?_ | with_reducible refine below_drewN ?_ _ | (with_reducible refine bel_alloc ?_ ?_ _; (first | omega | (simp; omega) | simp)) | (with_reducible refine bel_set ?_ ?_ _; (first | omega | (simp; omega) | simp)) | (with_reducible refine bel_tr (by assumption) ?_ ?_; (first | omega | (simp; omega) | simp)))))) (by unfold maxLen; omega) (by omega) (by simp) ?_; intro v1 w1 hown1 hg1 hat1; have b1 : Below (w.heap.size + 1) _ w1 := Below.grown (Below.refl (w.heap.size + 1) _) hg1 (by simp) (by simp [Value.ownBlock]); have b1w : Below w.heap.size w w1 := (by (repeat (first | with_reducible exact Below.refl _ _ | with_reducible refine Below.drew ?_ | with_reducible refine below_drewN ?_ _ | (with_reducible refine bel_alloc ?_ ?_ _; (first | omega | (simp; omega) | simp)) | (with_reducible refine bel_set ?_ ?_ _; (first | omega | (simp; omega) | simp)) | (with_reducible refine bel_tr (by assumption) ?_ ?_; (first | omega | (simp; omega) | simp))))); have s1 := hg1.size; (try simp at s1); have x0 : w1.cell? ⟨w.heap.size, 0, none⟩ = some (.int .i64 (p 0)) := (b1.cell (p := ⟨w.heap.size, 0, none⟩) (Nat.lt_succ_self w.heap.size)).trans (by (first | (go_keep; done) | (go_simp; done))); have x1 : w1.cell? ⟨w.heap.size, 1, none⟩ = some (.int .i64 (p 1)) := (b1.cell (p := ⟨w.heap.size, 1, none⟩) (Nat.lt_succ_self w.heap.size)).trans (by (first | (go_keep; done) | (go_simp; done))); have x2 : w1.cell? ⟨w.heap.size, 2, none⟩ = some (.int .i64 (p 2)) := (b1.cell (p := ⟨w.heap.size, 2, none⟩) (Nat.lt_succ_self w.heap.size)).trans (by (first | (go_keep; done) | (go_simp; done))); have x3 : w1.cell? ⟨w.heap.size, 3, none⟩ = some (.int .i64 (p 3)) := (b1.cell (p := ⟨w.heap.size, 3, none⟩) (Nat.lt_succ_self w.heap.size)).trans (by (first | (go_keep; done) | (go_simp; done))); have x4 : w1.cell? ⟨w.heap.size, 4, none⟩ = some (.int .i64 (p 4)) := (b1.cell (p := ⟨w.heap.size, 4, none⟩) (Nat.lt_succ_self w.heap.size)).trans (by (first | (go_keep; done) | (go_simp; done))); have x5 : w1.cell? ⟨w.heap.size, 5, none⟩ = some (.int .i64 (p 5)) := (b1.cell (p := ⟨w.heap.size, 5, none⟩) (Nat.lt_succ_self w.heap.size)).trans (by (first | (go_keep; done) | (go_simp; done))); have x6 : w1.cell? ⟨w.heap.size, 6, none⟩ = some (.int .i64 (p 6)) := (b1.cell (p := ⟨w.heap.size, 6, none⟩) (Nat.lt_succ_self w.heap.size)).trans (by (first | (go_keep; done) | (go_simp; done))); have x7 : w1.cell? ⟨w.heap.size, 7, none⟩ = some (.int .i64 (p 7)) := (b1.cell (p := ⟨w.heap.size, 7, none⟩) (Nat.lt_succ_self w.heap.size)).trans (by (first | (go_keep; done) | (go_simp; done))); have x8 : w1.cell? ⟨w.heap.size, 8, none⟩ = some (.int .i64 (p 8)) := (b1.cell (p := ⟨w.heap.size, 8, none⟩) (Nat.lt_succ_self w.heap.size)).trans (by (first | (go_keep; done) | (go_simp; done))); have x9 : w1.cell? ⟨w.heap.size, 9, none⟩ = some (.int .i64 (p 9)) := (b1.cell (p := ⟨w.heap.size, 9, none⟩) (Nat.lt_succ_self w.heap.size)).trans (by (first | (go_keep; done) | (go_simp; done))); have hown2 : w1.ownsRow (w.heap.size + 1) 31 10 v1 n (flat 10 es) := (by simpa using hown1); obtain ⟨A1, c1, rfl, _⟩ := own_of_row HL.out hown2; have O1 := Lib.hid hown2; clear hown2; clear hown1 hg1 hat1))
  refine (iPartyAt_any A n c (p 0) es _ (by omega) (H.out.below b1w)).mono ?_
  rintro y w2 ⟨r, hr, rfl, b2⟩
  obtain rfl : r = -1 := hr.uniq HF.out
  clear hr
  have s2 := b2.size
  have x0 : w2.cell? ⟨w.heap.size, 0, none⟩ = some (.int .i64 (p 0)) := (b2.cell (p := ⟨w.heap.size, 0, none⟩) (by (first | omega | (simp; omega) | simp))).trans (by (first | (go_keep; done) | (go_simp; done)))
  have x1 : w2.cell? ⟨w.heap.size, 1, none⟩ = some (.int .i64 (p 1)) := (b2.cell (p := ⟨w.heap.size, 1, none⟩) (by (first | omega | (simp; omega) | simp))).trans (by (first | (go_keep; done) | (go_simp; done)))
  have x2 : w2.cell? ⟨w.heap.size, 2, none⟩ = some (.int .i64 (p 2)) := (b2.cell (p := ⟨w.heap.size, 2, none⟩) (by (first | omega | (simp; omega) | simp))).trans (by (first | (go_keep; done) | (go_simp; done)))
  have x3 : w2.cell? ⟨w.heap.size, 3, none⟩ = some (.int .i64 (p 3)) := (b2.cell (p := ⟨w.heap.size, 3, none⟩) (by (first | omega | (simp; omega) | simp))).trans (by (first | (go_keep; done) | (go_simp; done)))
  have x4 : w2.cell? ⟨w.heap.size, 4, none⟩ = some (.int .i64 (p 4)) := (b2.cell (p := ⟨w.heap.size, 4, none⟩) (by (first | omega | (simp; omega) | simp))).trans (by (first | (go_keep; done) | (go_simp; done)))
  have x5 : w2.cell? ⟨w.heap.size, 5, none⟩ = some (.int .i64 (p 5)) := (b2.cell (p := ⟨w.heap.size, 5, none⟩) (by (first | omega | (simp; omega) | simp))).trans (by (first | (go_keep; done) | (go_simp; done)))
  have x6 : w2.cell? ⟨w.heap.size, 6, none⟩ = some (.int .i64 (p 6)) := (b2.cell (p := ⟨w.heap.size, 6, none⟩) (by (first | omega | (simp; omega) | simp))).trans (by (first | (go_keep; done) | (go_simp; done)))
  have x7 : w2.cell? ⟨w.heap.size, 7, none⟩ = some (.int .i64 (p 7)) := (b2.cell (p := ⟨w.heap.size, 7, none⟩) (by (first | omega | (simp; omega) | simp))).trans (by (first | (go_keep; done) | (go_simp; done)))
  have x8 : w2.cell? ⟨w.heap.size, 8, none⟩ = some (.int .i64 (p 8)) := (b2.cell (p := ⟨w.heap.size, 8, none⟩) (by (first | omega | (simp; omega) | simp))).trans (by (first | (go_keep; done) | (go_simp; done)))
  have x9 : w2.cell? ⟨w.heap.size, 9, none⟩ = some (.int .i64 (p 9)) := (b2.cell (p := ⟨w.heap.size, 9, none⟩) (by (first | omega | (simp; omega) | simp))).trans (by (first | (go_keep; done) | (go_simp; done)))
  go_wp2_with fail
  refine (indexFunc_pp w.heap.size (fun e => decide (p 0 < e 0)) A n c es _ (by omega) (H.out.below (by (repeat (first | with_reducible exact Below.refl _ _ | with_reducible refine Below.drew ?_ | with_reducible refine below_drewN ?_ _ | (with_reducible refine bel_alloc ?_ ?_ _; (first | omega | (simp; omega) | simp)) | (with_reducible refine bel_set ?_ ?_ _; (first | omega | (simp; omega) | simp)) | (with_reducible refine bel_tr (by assumption) ?_ ?_; (first | omega | (simp; omega) | simp)))))) ?_).mono ?_
  · intro w9 e9 hb9
    refine ppClo_any w.heap.size (p 0) e9 w9 (by have := hb9.size; omega) ?_
    exact (hb9.cell (p := ⟨w.heap.size, 0, none⟩) (show w.heap.size < w2.heap.size by omega)).trans x0
  rintro y w3 ⟨r, hr, rfl, b3⟩
  rcases hr with ⟨k, hk, rfl, hpk, hbk⟩ | ⟨rfl, hbk⟩
  · have HP : Hid (k = ppl es p n) := ppl_of (fun i hi => by simpa using hbk i hi) (.inr ⟨hk, by simpa using hpk⟩)
    clear hpk hbk
    have hkk8 : k ≤ n := by omega
    have hk0 : (0 : Int) ≤ (k : Int) := by omega
    have s3 := b3.size
    have x0 : w3.cell? ⟨w.heap.size, 0, none⟩ = some (.int .i64 (p 0)) := (b3.cell (p := ⟨w.heap.size, 0, none⟩) (by (first | omega | (simp; omega) | simp))).trans (by (first | (go_keep; done) | (go_simp; done)))
    have x1 : w3.cell? ⟨w.heap.size, 1, none⟩ = some (.int .i64 (p 1)) := (b3.cell (p := ⟨w.heap.size, 1, none⟩) (by (first | omega | (simp; omega) | simp))).trans (by (first | (go_keep; done) | (go_simp; done)))
    have x2 : w3.cell? ⟨w.heap.size, 2, none⟩ = some (.int .i64 (p 2)) := (b3.cell (p := ⟨w.heap.size, 2, none⟩) (by (first | omega | (simp; omega) | simp))).trans (by (first | (go_keep; done) | (go_simp; done)))
    have x3 : w3.cell? ⟨w.heap.size, 3, none⟩ = some (.int .i64 (p 3)) := (b3.cell (p := ⟨w.heap.size, 3, none⟩) (by (first | omega | (simp; omega) | simp))).trans (by (first | (go_keep; done) | (go_simp; done)))
    have x4 : w3.cell? ⟨w.heap.size, 4, none⟩ = some (.int .i64 (p 4)) := (b3.cell (p := ⟨w.heap.size, 4, none⟩) (by (first | omega | (simp; omega) | simp))).trans (by (first | (go_keep; done) | (go_simp; done)))
    have x5 : w3.cell? ⟨w.heap.size, 5, none⟩ = some (.int .i64 (p 5)) := (b3.cell (p := ⟨w.heap.size, 5, none⟩) (by (first | omega | (simp; omega) | simp))).trans (by (first | (go_keep; done) | (go_simp; done)))
    have x6 : w3.cell? ⟨w.heap.size, 6, none⟩ = some (.int .i64 (p 6)) := (b3.cell (p := ⟨w.heap.size, 6, none⟩) (by (first | omega | (simp; omega) | simp))).trans (by (first | (go_keep; done) | (go_simp; done)))
    have x7 : w3.cell? ⟨w.heap.size, 7, none⟩ = some (.int .i64 (p 7)) := (b3.cell (p := ⟨w.heap.size, 7, none⟩) (by (first | omega | (simp; omega) | simp))).trans (by (first | (go_keep; done) | (go_simp; done)))
    have x8 : w3.cell? ⟨w.heap.size, 8, none⟩ = some (.int .i64 (p 8)) := (b3.cell (p := ⟨w.heap.size, 8, none⟩) (by (first | omega | (simp; omega) | simp))).trans (by (first | (go_keep; done) | (go_simp; done)))
    have x9 : w3.cell? ⟨w.heap.size, 9, none⟩ = some (.int .i64 (p 9)) := (b3.cell (p := ⟨w.heap.size, 9, none⟩) (by (first | omega | (simp; omega) | simp))).trans (by (first | (go_keep; done) | (go_simp; done)))
    go_wp2_with fail
    refine (insParty_any (w.heap.size + 1) n k _ 1 (.slice A1 n c1) es p _ (by omega) hkk8 HL.out (World.ownsRow.alloc (row_below O1.out (show Below w1.heap.size w1 w3 from by (repeat (first | with_reducible exact Below.refl _ _ | with_reducible refine Below.drew ?_ | with_reducible refine below_drewN ?_ _ | (with_reducible refine bel_alloc ?_ ?_ _; (first | omega | (simp; omega) | simp)) | (with_reducible refine bel_set ?_ ?_ _; (first | omega | (simp; omega) | simp)) | (with_reducible refine bel_tr (by assumption) ?_ ?_; (first | omega | (simp; omega) | simp)))))) _) (by simp; omega) (alloc_heap _ _) (by intro q hq; have := row_lt O1.out q hq; (try simp); omega)).mono ?_
    rintro y w4 ⟨A4, c4, rfl, _, _, o4, b4⟩
    have O4 := Lib.hid (o4.mono (show w.heap.size ≤ w.heap.size + 1 by omega))
    have s4 := b4.size
    clear o4
    go_wp2
    go_ret
    rw [HP.out] at O4
    exact ⟨A4, c4, rfl, O4.out, by (repeat (first | with_reducible exact Below.refl _ _ | with_reducible refine Below.drew ?_ | with_reducible refine below_drewN ?_ _ | (with_reducible refine bel_alloc ?_ ?_ _; (first | omega | (simp; omega) | simp)) | (with_reducible refine bel_set ?_ ?_ _; (first | omega | (simp; omega) | simp)) | (with_reducible refine bel_tr (by assumption) ?_ ?_; (first | omega | (simp; omega) | simp))))⟩
  · have HP : Hid (n = ppl es p n) := ppl_of (fun i hi => by simpa using hbk i hi) (.inl rfl)
    clear hbk
    have hkk8 : n ≤ n := Nat.le_refl n
    have s3 := b3.size
    have x0 : w3.cell? ⟨w.heap.size, 0, none⟩ = some (.int .i64 (p 0)) := (b3.cell (p := ⟨w.heap.size, 0, none⟩) (by (first | omega | (simp; omega) | simp))).trans (by (first | (go_keep; done) | (go_simp; done)))
    have x1 : w3.cell? ⟨w.heap.size, 1, none⟩ = some (.int .i64 (p 1)) := (b3.cell (p := ⟨w.heap.size, 1, none⟩) (by (first | omega | (simp; omega) | simp))).trans (by (first | (go_keep; done) | (go_simp; done)))
    have x2 : w3.cell? ⟨w.heap.size, 2, none⟩ = some (.int .i64 (p 2)) := (b3.cell (p := ⟨w.heap.size, 2, none⟩) (by (first | omega | (simp; omega) | simp))).trans (by (first | (go_keep; done) | (go_simp; done)))
    have x3 : w3.cell? ⟨w.heap.size, 3, none⟩ = some (.int .i64 (p 3)) := (b3.cell (p := ⟨w.heap.size, 3, none⟩) (by (first | omega | (simp; omega) | simp))).trans (by (first | (go_keep; done) | (go_simp; done)))
    have x4 : w3.cell? ⟨w.heap.size, 4, none⟩ = some (.int .i64 (p 4)) := (b3.cell (p := ⟨w.heap.size, 4, none⟩) (by (first | omega | (simp; omega) | simp))).trans (by (first | (go_keep; done) | (go_simp; done)))
    have x5 : w3.cell? ⟨w.heap.size, 5, none⟩ = some (.int .i64 (p 5)) := (b3.cell (p := ⟨w.heap.size, 5, none⟩) (by (first | omega | (simp; omega) | simp))).trans (by (first | (go_keep; done) | (go_simp; done)))
    have x6 : w3.cell? ⟨w.heap.size, 6, none⟩ = some (.int .i64 (p 6)) := (b3.cell (p := ⟨w.heap.size, 6, none⟩) (by (first | omega | (simp; omega) | simp))).trans (by (first | (go_keep; done) | (go_simp; done)))
    have x7 : w3.cell? ⟨w.heap.size, 7, none⟩ = some (.int .i64 (p 7)) := (b3.cell (p := ⟨w.heap.size, 7, none⟩) (by (first | omega | (simp; omega) | simp))).trans (by (first | (go_keep; done) | (go_simp; done)))
    have x8 : w3.cell? ⟨w.heap.size, 8, none⟩ = some (.int .i64 (p 8)) := (b3.cell (p := ⟨w.heap.size, 8, none⟩) (by (first | omega | (simp; omega) | simp))).trans (by (first | (go_keep; done) | (go_simp; done)))
    have x9 : w3.cell? ⟨w.heap.size, 9, none⟩ = some (.int .i64 (p 9)) := (b3.cell (p := ⟨w.heap.size, 9, none⟩) (by (first | omega | (simp; omega) | simp))).trans (by (first | (go_keep; done) | (go_simp; done)))
    go_wp2_with fail
    refine (insParty_any (w.heap.size + 1) n n _ 1 (.slice A1 n c1) es p _ (by omega) hkk8 HL.out (World.ownsRow.alloc (row_below O1.out (show Below w1.heap.size w1 w3 from by (repeat (first | with_reducible exact Below.refl _ _ | with_reducible refine Below.drew ?_ | with_reducible refine below_drewN ?_ _ | (with_reducible refine bel_alloc ?_ ?_ _; (first | omega | (simp; omega) | simp)) | (with_reducible refine bel_set ?_ ?_ _; (first | omega | (simp; omega) | simp)) | (with_reducible refine bel_tr (by assumption) ?_ ?_; (first | omega | (simp; omega) | simp)))))) _) (by simp; omega) (alloc_heap _ _) (by intro q hq; have := row_lt O1.out q hq; (try simp); omega)).mono ?_
    rintro y w4 ⟨A4, c4, rfl, _, _, o4, b4⟩
    have O4 := Lib.hid (o4.mono (show w.heap.size ≤ w.heap.size + 1 by omega))
    have s4 := b4.size
    clear o4
    go_wp2
    go_ret
    rw [show insL es n p = insL es (ppl es p n) p by rw [← HP.out]] at O4
    exact ⟨A4, c4, rfl, O4.out, by (repeat (first | with_reducible exact Below.refl _ _ | with_reducible refine Below.drew ?_ | with_reducible refine below_drewN ?_ _ | (with_reducible refine bel_alloc ?_ ?_ _; (first | omega | (simp; omega) | simp)) | (with_reducible refine bel_set ?_ ?_ _; (first | omega | (simp; omega) | simp)) | (with_reducible refine bel_tr (by assumption) ?_ ?_; (first | omega | (simp; omega) | simp))))⟩
end Go.Proofs.Ytcainllgnbdkbaa
