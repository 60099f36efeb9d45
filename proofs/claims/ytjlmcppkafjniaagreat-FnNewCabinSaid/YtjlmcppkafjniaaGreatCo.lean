/-
  Contracts of the functions that copy lists. No conditions beyond those stated.
-/
import Derived.Test.YtjlmcppkafjniaaGreatW
import Derived.Test.YtjlmcppkafjniaaGreatQs
import Derived.Test.YtjlmcppkafjniaaGreatQa
import Derived.Test.YtjlmcppkafjniaaGreatSl
namespace Go.Proofs.YtjlmcppkafjniaaGreat
open Go.RowKit

theorem toPinSS_info : (Tryz.prog.info? 85).map (fun i => (i.zero, i.size, i.bytes)) = some (some (.slice none 0 0), 1, 24) := by kernel_rfl
/-- A row of N spokes, the first k of them filled. -/
structure FillW (B g N : Nat) (W wr : World) (k : Nat) (S : Nat → Sp) : Prop where
  below : Below B W wr
  lt : g < wr.heap.size
  fz : ∀ o, wr.frozen? ⟨g, o, none⟩ = false
  done : ∀ i, i < k → wr.cell? ⟨g, i, none⟩ = some (S i).v
  room : ∀ o, o < N → (wr.cell? ⟨g, o, none⟩).isSome = true
  spk : Spk (g + 1) wr k S
theorem FillW.call {B g N k : Nat} {W wr w1 : World} {S : Nat → Sp} (h : FillW B g N W wr k S) (hB : B ≤ wr.heap.size) (hb : Below wr.heap.size wr w1) : FillW B g N W w1 k S :=
  ⟨h.below.trans (hb.mono hB), Nat.lt_of_lt_of_le h.lt hb.size, fun o => (hb.frozen (p := ⟨g, o, none⟩) h.lt).trans (h.fz o), fun i hi => (hb.cell (p := ⟨g, i, none⟩) h.lt).trans (h.done i hi), fun o ho => by rw [hb.cell (p := ⟨g, o, none⟩) h.lt]; exact h.room o ho, h.spk.below hb⟩
theorem FillW.set {B g N k m : Nat} {W w1 : World} {S : Nat → Sp} {s : Sp} (h : FillW B g N W w1 k S) (hg : B ≤ g) (hk : k < N) (hw : ∀ i, i < k → ∀ a, (S i).n ≠ 0 → (S i).A = some a → a.block < m) (ho : Own (g + 1) w1 2 s.A s.n s.es) (hc : s.n ≤ s.c ∧ s.c ≤ 9223372036854775807) (hm : ∀ a, s.n ≠ 0 → s.A = some a → m ≤ a.block) :
    FillW B g N W (w1.setCell ⟨g, k, none⟩ s.v) (k + 1) (fun i => if i < k then S i else s) := by
  have ho' : ∀ {i : Nat}, i < k → Own (g + 1) (w1.setCell ⟨g, k, none⟩ s.v) 2 (S i).A (S i).n (S i).es := fun {i} hi => (h.spk.own i hi).set_ (show g < g + 1 by omega) s.v
  refine ⟨h.below.setCell hg _, by simpa [World.setCell] using h.lt, fun o => (World.frozen?_setCell _ _ _ _).trans (h.fz o), fun i hi => ?_, fun o ho => ?_, h.spk.snoc hw (fun i hi => ho' hi) (ho.set_ (show g < g + 1 by omega) s.v) hc hm⟩
  · by_cases h1 : i < k
    · simp only [if_pos h1]
      exact (World.cell?_setCell_other (w := w1) (a := ⟨g, k, none⟩) (b := ⟨g, i, none⟩) (v := s.v) (by simp <;> omega)).trans (h.done i h1)
    · obtain rfl : i = k := by omega
      simp only [if_neg h1]
      exact World.cell?_setCell_same' _ _ _ (h.room i hk)
  · by_cases h1 : o = k
    · subst h1
      rw [World.cell?_setCell_same' _ _ _ (h.room o hk)]
      rfl
    · rw [World.cell?_setCell_other (w := w1) (a := ⟨g, k, none⟩) (b := ⟨g, o, none⟩) (v := s.v) (by simp <;> omega)]
      exact h.room o ho
theorem FillW.start {B g N : Nat} {W w w1 : World} {e : TypeId} {base : Nat} {xs : List Value} {S : Nat → Sp} (hW : Below B W w) (hB : B ≤ w.heap.size) (_hg : g = w.heap.size)
    (hown : w1.ownsRow base e 1 (.slice (some ⟨g, 0, none⟩) N N) N xs) (hgr : w.grownBy w1 none) : FillW B g N W w1 0 S := by
  obtain ⟨h1, h2⟩ := hown
  rcases h2 with ⟨h2, _⟩ | ⟨g', cap, cur, hv, _, hh, _, _, hsz, htk⟩
  · cases h2
  · injection hv with hv1 _ hv3
    injection hv1 with hv1
    injection hv1 with hv1
    subst hv1 hv3
    have hlt : g < w1.heap.size := (Array.getElem?_eq_some_iff.1 hh).1
    refine ⟨hW.grown hgr hB (fun k hk => by cases hk), hlt, fun o => frozen_of_heap hh, fun i hi => absurd hi (by omega), fun o ho => ?_, Spk.start _ _ _⟩
    rw [cell_of_heap hh, Array.getElem?_eq_getElem (by omega)]
    rfl
theorem FillW.own {B g N : Nat} {W w1 : World} {S : Nat → Sp} (h : FillW B g N W w1 N S) (hg : B ≤ g) : OwnW B w1.heap.size w1 (some ⟨g, 0, none⟩) N S := by
  have h1 : Spk B w1 N S := ⟨fun i hi => (h.spk.own i hi).mono (by omega), h.spk.cap, h.spk.apart⟩
  refine h1.ownW (.inr ⟨g, 0, rfl, h.lt, hg, h.fz, fun i hi => by rw [Nat.zero_add]; exact h.done i hi⟩) fun i hi h0 a b ha hb => ?_
  injection ha with ha
  subst ha
  obtain ⟨b', off', h3, _, h4, _⟩ := (h.spk.own i hi).2.resolve_left h0
  rw [hb] at h3
  injection h3 with h3
  subst h3
  show g ≠ b'
  omega

/-- What marking a wheel does: new blocks, and the wheel's own stretch of blocks. -/
def Mk (lo hi : Nat) (w w' : World) : Prop := ∃ w1, Below w.heap.size w w1 ∧ Btw lo hi w1 w'
section
variable {w w' : World} {lo hi lo' hi' B N : Nat} {A : Option Addr} {S : Nat → Sp}
theorem Mk.size (h : Mk lo hi w w') : w.heap.size ≤ w'.heap.size := by
  obtain ⟨w1, h1, h2⟩ := h
  rw [h2.size]
  exact h1.size
theorem Mk.cell (h : Mk lo hi w w') {p : Addr} (hp : p.block < w.heap.size) (hd : p.block < lo ∨ hi ≤ p.block) : w'.cell? p = w.cell? p := by
  obtain ⟨w1, h1, h2⟩ := h
  exact (World.cell?_of_block (h2.block _ hd)).trans (h1.cell hp)
theorem Mk.frozen (h : Mk lo hi w w') {p : Addr} (hp : p.block < w.heap.size) (hd : p.block < lo ∨ hi ≤ p.block) : w'.frozen? p = w.frozen? p := by
  obtain ⟨w1, h1, h2⟩ := h
  exact (World.frozen?_of_block (h2.block _ hd)).trans (h1.frozen hp)
theorem Mk.below (h : Mk lo hi w w') (hB : B ≤ lo) (hw : B ≤ w.heap.size) : Below B w w' := by
  obtain ⟨w1, h1, h2⟩ := h
  exact (h1.mono hw).trans (h2.below hB)
theorem OwnW.marked (h : OwnW lo' hi' w A N S) (hm : Mk lo hi w w') (hd : hi' ≤ lo ∨ hi ≤ lo') : OwnW lo' hi' w' A N S := by
  obtain ⟨w1, h1, h2⟩ := hm
  exact (h.below h1).btw h2 hd
end

end Go.Proofs.YtjlmcppkafjniaaGreat


namespace Go.Proofs.YtjlmcppkafjniaaGreat
open Go.RowKit

theorem copyEntries_info : (Tryz.prog.info? 82).map (fun i => (i.zero, i.size, i.bytes)) = some (some (.agg #[.int .i64 0, .int .i64 0, .int .i64 0, .int .i64 0]), 4, 32) := by kernel_rfl

theorem copyInts_info : (Tryz.prog.info? 3).map (fun i => (i.zero, i.size, i.bytes)) = some (some (.int .i64 0), 1, 8) := by kernel_rfl

theorem row_empty (w : World) (t : TypeId) (K : Nat) : (w.alloc (.cells #[] t)).ownsRow w.heap.size t K (.slice (some ⟨w.heap.size, 0, none⟩) 0 0) 0 (flat K []) :=
  ⟨by simp [flat], .inr ⟨w.heap.size, 0, #[], rfl, Nat.le_refl _, heap_alloc_new w _, Nat.le_refl _, Nat.zero_le _, by simp, by simp [flat]⟩⟩
set_option maxHeartbeats 1000000 in
theorem l7Copy_any (A : Option Addr) (n c : Nat) (es : List (Nat → Int)) (w : World) (hn : n ≤ 4194304) (h : Rd w 4 A n es) :
    Calls Tryz.prog 116 #[.slice A n c] w fun x w' => ∃ v, x = .returned v ∧ w'.ownsRow w.heap.size 82 4 v n (flat 4 es) ∧ Below w.heap.size w w' := by
  obtain ⟨i0, hi0, hz0, hz1, hz2⟩ := info_parts copyEntries_info
  have H := Lib.hid h
  clear h
  have b0 : Below w.heap.size w (w.alloc (.cells #[] 82)) := (Below.refl _ _).alloc (Nat.le_refl _) _
  go_enter Tryz.func116, Tryz.ntmps116
  go_wp2_with (at_builtin; go_must (refine wpList_append_rd _ rfl _ _ 27 rfl w.heap.size 82 i0 _ 4 32 Tryz.underlying27 hi0 hz0 hz1 hz2 rfl (by omega) (.slice (some ⟨w.heap.size, 0, none⟩) 0 0) 0 [] rfl (row_empty w _ 4) A n c es rfl (H.out.below b0) (by unfold maxLen; omega) (by omega) (by simp) ?_); intro v1 w1 hown1 hg1 hat1)
  go_ret
  refine ⟨_, rfl, ?_, b0.grown hg1 (by simp) (by simp [Value.ownBlock])⟩
  simpa using hown1

end Go.Proofs.YtjlmcppkafjniaaGreat
