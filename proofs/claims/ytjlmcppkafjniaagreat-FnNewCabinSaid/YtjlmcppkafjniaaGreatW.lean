/-
  Slices of slices of pins: the predicates, how they are kept, what marking does, and how an argument of such a type is opened.
-/
import Derived.Test.YtjlmcppkafjniaaGreatMk
namespace Go.Proofs.YtjlmcppkafjniaaGreat
open Go.ChangeShapes Go.WideShapes Go.ChangeAt Go.RowKit Go.Deep

/-- One spoke: where it lies, and what it reads as. -/
structure Sp where
  A : Option Addr
  n : Nat
  c : Nat
  es : List (Nat → Int)
def Sp.v (s : Sp) : Value := .slice s.A s.n s.c

/-- How many pins the first k spokes hold. -/
def tot (S : Nat → Sp) : Nat → Nat
  | 0 => 0
  | k + 1 => tot S k + (S k).n
theorem tot_le {S : Nat → Sp} : ∀ {k m : Nat}, k ≤ m → tot S k ≤ tot S m
  | k, 0, h => by
    obtain rfl : k = 0 := by omega
    exact Nat.le_refl _
  | k, m + 1, h => by
    rcases Nat.lt_or_ge k (m + 1) with hk | hk
    · have := tot_le (S := S) (k := k) (m := m) (by omega)
      simp only [tot]
      omega
    · obtain rfl : k = m + 1 := by omega
      exact Nat.le_refl _
theorem tot_one {S : Nat → Sp} {k N : Nat} (h : k < N) : tot S k + (S k).n ≤ tot S N := tot_le (S := S) (k := k + 1) (m := N) h
theorem tot_congr {S S' : Nat → Sp} : ∀ {N : Nat}, (∀ i, i < N → (S i).n = (S' i).n) → tot S N = tot S' N
  | 0, _ => rfl
  | N + 1, h => by
    simp only [tot]
    rw [tot_congr (N := N) fun i hi => h i (by omega), h N (by omega)]

/-- A slice of N slices of pins, as it is read. -/
structure RdW (w : World) (A : Option Addr) (N : Nat) (S : Nat → Sp) : Prop where
  row : N = 0 ∨ ∃ b off, A = some ⟨b, off, none⟩ ∧ b < w.heap.size ∧ ∀ i, i < N → w.cell? ⟨b, off + i, none⟩ = some (S i).v
  rd : ∀ i, i < N → Rd w 2 (S i).A (S i).n (S i).es
  cap : ∀ i, i < N → (S i).n ≤ (S i).c ∧ (S i).c ≤ 9223372036854775807

section
variable {w w' : World} {lo hi lo' hi' N : Nat} {A : Option Addr} {S S' : Nat → Sp}
theorem RdW.below (h : RdW w A N S) (hb : Below w.heap.size w w') : RdW w' A N S :=
  ⟨h.row.imp id fun ⟨b, off, h1, h2, h3⟩ => ⟨b, off, h1, Nat.lt_of_lt_of_le h2 hb.size, fun i hi => (hb.cell (p := ⟨b, _, none⟩) h2).trans (h3 i hi)⟩, fun i hi => (h.rd i hi).below hb, h.cap⟩
theorem RdW.congr (h : RdW w A N S) (hc : ∀ i, i < N → S i = S' i) : RdW w A N S' :=
  ⟨h.row.imp id fun ⟨b, off, h1, h2, h3⟩ => ⟨b, off, h1, h2, fun i hi => by rw [h3 i hi, hc i hi]⟩, fun i hi => by rw [← hc i hi]; exact h.rd i hi, fun i hi => by rw [← hc i hi]; exact h.cap i hi⟩
theorem RdW.le (h : RdW w A N S) (i : Nat) (hi : i < N) : (S i).n ≤ 9223372036854775807 := Nat.le_trans (h.cap i hi).1 (h.cap i hi).2

/-- The same among the blocks from lo on, below hi: unfrozen, and no two of its rows in one block. -/
structure OwnW (lo hi : Nat) (w : World) (A : Option Addr) (N : Nat) (S : Nat → Sp) : Prop where
  rdw : RdW w A N S
  up : hi ≤ w.heap.size
  rowIn : InB A N lo hi
  fzRow : N ≠ 0 → ∀ a, A = some a → ∀ o, w.frozen? ⟨a.block, o, none⟩ = false
  spIn : ∀ i, i < N → InB (S i).A (S i).n lo hi
  fzSp : ∀ i, i < N → (S i).n ≠ 0 → ∀ a, (S i).A = some a → ∀ o, w.frozen? ⟨a.block, o, none⟩ = false
  apart : ∀ i j, i < N → j < N → i ≠ j → (S i).n ≠ 0 → (S j).n ≠ 0 → ∀ a b, (S i).A = some a → (S j).A = some b → a.block ≠ b.block
  apartRow : ∀ i, i < N → (S i).n ≠ 0 → ∀ a b, A = some a → (S i).A = some b → a.block ≠ b.block

theorem OwnW.congr (h : OwnW lo hi w A N S) (hc : ∀ i, i < N → S i = S' i) : OwnW lo hi w A N S' :=
  ⟨h.rdw.congr hc, h.up, h.rowIn, h.fzRow, fun i hi => by rw [← hc i hi]; exact h.spIn i hi, fun i hi => by rw [← hc i hi]; exact h.fzSp i hi, fun i j hi hj => by rw [← hc i hi, ← hc j hj]; exact h.apart i j hi hj, fun i hi => by rw [← hc i hi]; exact h.apartRow i hi⟩
theorem OwnW.below (h : OwnW lo hi w A N S) (hb : Below w.heap.size w w') : OwnW lo hi w' A N S := by
  refine ⟨h.rdw.below hb, Nat.le_trans h.up hb.size, h.rowIn, fun hn a ha o => ?_, h.spIn, fun i hi hn a ha o => ?_, h.apart, h.apartRow⟩
  · obtain ⟨a', ha', h3, h4⟩ := h.rowIn.resolve_left hn
    rw [ha] at ha'
    injection ha' with ha'
    subst ha'
    exact (hb.frozen (p := ⟨a.block, o, none⟩) (Nat.lt_of_lt_of_le h4 h.up)).trans (h.fzRow hn a ha o)
  · obtain ⟨a', ha', h3, h4⟩ := (h.spIn i hi).resolve_left hn
    rw [ha] at ha'
    injection ha' with ha'
    subst ha'
    exact (hb.frozen (p := ⟨a.block, o, none⟩) (Nat.lt_of_lt_of_le h4 h.up)).trans (h.fzSp i hi hn a ha o)
theorem OwnW.wide (h : OwnW lo hi w A N S) (h1 : lo' ≤ lo) (h2 : hi ≤ hi') (h3 : hi' ≤ w.heap.size) : OwnW lo' hi' w A N S :=
  ⟨h.rdw, h3, h.rowIn.imp id fun ⟨a, h4, h5, h6⟩ => ⟨a, h4, by omega, by omega⟩, h.fzRow, fun i hi => (h.spIn i hi).imp id fun ⟨a, h4, h5, h6⟩ => ⟨a, h4, by omega, by omega⟩, h.fzSp, h.apart, h.apartRow⟩
theorem OwnW.sp (h : OwnW lo hi w A N S) {i : Nat} (hi : i < N) : Own lo w 2 (S i).A (S i).n (S i).es := by
  have h1 := h.rdw.rd i hi
  refine ⟨h1.1, ?_⟩
  rcases Nat.eq_zero_or_pos (S i).n with h0 | h0
  · exact .inl h0
  · obtain ⟨b, off, h2, h3, h4⟩ := h1.2.resolve_left (by omega)
    obtain ⟨a, ha, h5, h6⟩ := (h.spIn i hi).resolve_left (by omega)
    have h7 := h.fzSp i hi (by omega) _ h2
    rw [h2] at ha
    injection ha with ha
    subst ha
    exact .inr ⟨b, off, h2, h3, h5, h7, h4⟩
end

/-- Only the blocks from lo on, below hi, have turned; none is new. -/
structure Btw (lo hi : Nat) (w w' : World) : Prop where
  os : w'.os = w.os
  tape : w'.tape = w.tape
  output : w'.output = w.output
  size : w'.heap.size = w.heap.size
  block : ∀ k, k < lo ∨ hi ≤ k → w'.heap[k]? = w.heap[k]?
theorem Btw.refl (lo hi : Nat) (w : World) : Btw lo hi w w := ⟨rfl, rfl, rfl, rfl, fun _ _ => rfl⟩
theorem Btw.trans {lo hi : Nat} {a b c : World} (h : Btw lo hi a b) (k : Btw lo hi b c) : Btw lo hi a c :=
  ⟨k.os.trans h.os, k.tape.trans h.tape, k.output.trans h.output, k.size.trans h.size, fun i hi => (k.block i hi).trans (h.block i hi)⟩
theorem Btw.below {lo hi B : Nat} {a b : World} (h : Btw lo hi a b) (hB : B ≤ lo) : Below B a b :=
  ⟨h.os, h.tape, h.output, Nat.le_of_eq h.size.symm, fun k hk => h.block k (.inl (by omega))⟩
theorem grown_oob {w w' : World} {row : Option Nat} (hg : w.grownBy w' row) (hs : w'.heap.size = w.heap.size) : ∀ k, some k ≠ row → w'.heap[k]? = w.heap[k]? := by
  intro k hk
  rcases Nat.lt_or_ge k w.heap.size with h | h
  · exact hg.block k h hk
  · rw [Array.getElem?_eq_none (by omega), Array.getElem?_eq_none (by omega)]
theorem Marked.btw {B K n m lo hi : Nat} {A : Option Addr} {w w' : World} (h : Marked B K A n m w w') (hA : InB A n lo hi) : Btw lo hi w w' := by
  obtain ⟨_, hg, hs⟩ := h
  refine ⟨hg.os, hg.tape, hg.output, hs, fun k hk => grown_oob hg hs k ?_⟩
  by_cases h0 : n = 0
  · rw [if_pos h0]
    simp
  · rw [if_neg h0]
    obtain ⟨a, rfl, h3, h4⟩ := hA.resolve_left h0
    simp only [Option.map_some, ne_eq, Option.some.injEq]
    omega

section
variable {w w' : World} {lo hi lo' hi' N : Nat} {A : Option Addr} {S S' : Nat → Sp}
/-- What lies elsewhere is kept. -/
theorem Own.btw {B K n : Nat} {es : List (Nat → Int)} (h : Own B w K A n es) (hA : InB A n lo' hi') (hb : Btw lo hi w w') (hd : hi' ≤ lo ∨ hi ≤ lo') : Own B w' K A n es := by
  refine ⟨h.1, ?_⟩
  rcases Nat.eq_zero_or_pos n with h0 | h0
  · exact .inl h0
  · obtain ⟨b, off, h1, h2, h3, h4, h5⟩ := h.2.resolve_left (by omega)
    obtain ⟨a, ha, h6, h7⟩ := hA.resolve_left (by omega)
    rw [h1] at ha
    injection ha with ha
    subst ha
    have hk := hb.block b (by simp at h6 h7; omega)
    exact .inr ⟨b, off, h1, by rw [hb.size]; exact h2, h3, fun o => (World.frozen?_of_block (w := w) (w' := w') (a := ⟨b, o, none⟩) hk).trans (h4 o), fun i hi j hj => (World.cell?_of_block (w := w) (w' := w') (a := ⟨b, off + i * K + j, none⟩) hk).trans (h5 i hi j hj)⟩
theorem Rd.btw {K n : Nat} {es : List (Nat → Int)} (h : Rd w K A n es) (hA : InB A n lo' hi') (hb : Btw lo hi w w') (hd : hi' ≤ lo ∨ hi ≤ lo') : Rd w' K A n es := by
  refine ⟨h.1, ?_⟩
  rcases Nat.eq_zero_or_pos n with h0 | h0
  · exact .inl h0
  · obtain ⟨b, off, h1, h2, h5⟩ := h.2.resolve_left (by omega)
    obtain ⟨a, ha, h6, h7⟩ := hA.resolve_left (by omega)
    rw [h1] at ha
    injection ha with ha
    subst ha
    have hk := hb.block b (by simp at h6 h7; omega)
    exact .inr ⟨b, off, h1, by rw [hb.size]; exact h2, fun i hi j hj => (World.cell?_of_block (w := w) (w' := w') (a := ⟨b, off + i * K + j, none⟩) hk).trans (h5 i hi j hj)⟩
theorem OwnW.btw (h : OwnW lo' hi' w A N S) (hb : Btw lo hi w w') (hd : hi' ≤ lo ∨ hi ≤ lo') : OwnW lo' hi' w' A N S := by
  refine ⟨⟨?_, fun i hi => (h.rdw.rd i hi).btw (h.spIn i hi) hb hd, h.rdw.cap⟩, by rw [hb.size]; exact h.up, h.rowIn, fun hn a ha o => ?_, h.spIn, fun i hi hn a ha o => ?_, h.apart, h.apartRow⟩
  · rcases Nat.eq_zero_or_pos N with h0 | h0
    · exact .inl h0
    · obtain ⟨b, off, h1, h2, h3⟩ := h.rdw.row.resolve_left (by omega)
      obtain ⟨a, ha, h6, h7⟩ := h.rowIn.resolve_left (by omega)
      rw [h1] at ha
      injection ha with ha
      subst ha
      have hk := hb.block b (by simp at h6 h7; omega)
      exact .inr ⟨b, off, h1, by rw [hb.size]; exact h2, fun i hi => (World.cell?_of_block (w := w) (w' := w') (a := ⟨b, off + i, none⟩) hk).trans (h3 i hi)⟩
  · obtain ⟨a', ha', h3, h4⟩ := h.rowIn.resolve_left hn
    rw [ha] at ha'
    injection ha' with ha'
    subst ha'
    exact (World.frozen?_of_block (w := w) (w' := w') (a := ⟨a.block, o, none⟩) (hb.block a.block (by omega))).trans (h.fzRow hn a ha o)
  · obtain ⟨a', ha', h3, h4⟩ := (h.spIn i hi).resolve_left hn
    rw [ha] at ha'
    injection ha' with ha'
    subst ha'
    exact (World.frozen?_of_block (w := w) (w' := w') (a := ⟨a.block, o, none⟩) (hb.block a.block (by omega))).trans (h.fzSp i hi hn a ha o)

theorem btw_set (w : World) (p : Addr) (v : Value) : Btw p.block (p.block + 1) w (w.setCell p v) :=
  ⟨rfl, rfl, rfl, by simp [World.setCell], fun k hk => Below.heap_setCell w p v k (by omega)⟩
theorem OwnW.set_ (h : OwnW lo hi w A N S) {p : Addr} (hp : p.block < lo ∨ hi ≤ p.block) (v : Value) : OwnW lo hi (w.setCell p v) A N S := h.btw (btw_set w p v) (by omega)
theorem OwnW.alloc_ (h : OwnW lo hi w A N S) (o : Obj) : OwnW lo hi (w.alloc o) A N S := h.below ((Below.refl _ _).alloc (Nat.le_refl _) o)

/-- Marking one spoke leaves the others. -/
theorem OwnW.mark {k m : Nat} (h : OwnW lo hi w A N S) (hk : k < N) (hm : Marked lo 2 (S k).A (S k).n m w w') :
    OwnW lo hi w' A N (fun i => if i = k then ⟨(S k).A, (S k).n, (S k).c, marks 2 m (S k).n⟩ else S i) := by
  have hA : ∀ i, (if i = k then (⟨(S k).A, (S k).n, (S k).c, marks 2 m (S k).n⟩ : Sp) else S i).A = (S i).A := fun i => by split <;> simp_all
  have hn : ∀ i, (if i = k then (⟨(S k).A, (S k).n, (S k).c, marks 2 m (S k).n⟩ : Sp) else S i).n = (S i).n := fun i => by split <;> simp_all
  have hc : ∀ i, (if i = k then (⟨(S k).A, (S k).n, (S k).c, marks 2 m (S k).n⟩ : Sp) else S i).c = (S i).c := fun i => by split <;> simp_all
  obtain ⟨ho, hg, hs⟩ := hm
  have hne : ∀ b, ((S k).n ≠ 0 → ∀ a, (S k).A = some a → b ≠ a.block) → some b ≠ (if (S k).n = 0 then none else (S k).A.map (·.block)) := by
    intro b hb
    by_cases h0 : (S k).n = 0
    · rw [if_pos h0]
      simp
    · rw [if_neg h0]
      obtain ⟨a, ha, _⟩ := (h.spIn k hk).resolve_left h0
      rw [ha]
      simp only [Option.map_some, ne_eq, Option.some.injEq]
      exact hb h0 a ha
  have hrow : ∀ a, N ≠ 0 → A = some a → w'.heap[a.block]? = w.heap[a.block]? := fun a _ ha => grown_oob hg hs _ (hne _ fun h0 a' ha' => h.apartRow k hk h0 a a' ha ha')
  have hsp : ∀ i, i < N → i ≠ k → (S i).n ≠ 0 → ∀ a, (S i).A = some a → w'.heap[a.block]? = w.heap[a.block]? := fun i hi hik h1 a ha => grown_oob hg hs _ (hne _ fun h0 a' ha' => h.apart i k hi hk hik h1 h0 a a' ha ha')
  refine ⟨⟨?_, fun i hi => ?_, fun i hi => ?_⟩, by rw [hs]; exact h.up, h.rowIn, fun h0 a ha o => ?_, fun i hi => ?_, fun i hi h0 a ha o => ?_, fun i j hi hj hij h1 h2 a b ha hb => ?_, fun i hi h1 a b ha hb => ?_⟩
  · rcases Nat.eq_zero_or_pos N with h0 | h0
    · exact .inl h0
    · obtain ⟨b, off, h1, h2, h3⟩ := h.rdw.row.resolve_left (by omega)
      refine .inr ⟨b, off, h1, by rw [hs]; exact h2, fun i hi => ?_⟩
      rw [World.cell?_of_block (w := w) (w' := w') (a := ⟨b, off + i, none⟩) (hrow ⟨b, off, none⟩ (by omega) h1), h3 i hi]
      unfold Sp.v
      rw [hA, hn, hc]
  · by_cases hik : i = k
    · subst hik
      simp only [if_true]
      exact ho.rd
    · simp only [if_neg hik]
      exact (h.rdw.rd i hi).grown_ hg fun a h1 ha => hne _ fun h0 a' ha' => h.apart i k hi hk hik h1 h0 a a' ha ha'
  · rw [hn, hc]
    exact h.rdw.cap i hi
  · exact (World.frozen?_of_block (w := w) (w' := w') (a := ⟨a.block, o, none⟩) (hrow a h0 ha)).trans (h.fzRow h0 a ha o)
  · rw [hA, hn]
    exact h.spIn i hi
  · rw [hA] at ha
    rw [hn] at h0
    by_cases hik : i = k
    · subst hik
      obtain ⟨b, off, h1, h2, _, h4, _⟩ := ho.2.resolve_left h0
      rw [ha] at h1
      injection h1 with h1
      subst h1
      exact h4 o
    · exact (World.frozen?_of_block (w := w) (w' := w') (a := ⟨a.block, o, none⟩) (hsp i hi hik h0 a ha)).trans (h.fzSp i hi h0 a ha o)
  · rw [hn] at h1 h2
    rw [hA] at ha hb
    exact h.apart i j hi hj hij h1 h2 a b ha hb
  · rw [hn] at h1
    rw [hA] at hb
    exact h.apartRow i hi h1 a b ha hb
end

/-- The spokes with running numbers from m on. -/
def markS (S : Nat → Sp) (m : Nat) (i : Nat) : Sp := ⟨(S i).A, (S i).n, (S i).c, marks 2 (m + 2 * tot S i) (S i).n⟩

section
variable {w w' : World} {lo hi N i b off : Nat} {A : Option Addr} {S S' : Nat → Sp}
theorem RdW.addr (h : RdW w A N S) (h0 : 0 < N) : ∃ b off, A = some ⟨b, off, none⟩ := by
  obtain ⟨b, off, h1, _⟩ := h.row.resolve_left (by omega)
  exact ⟨b, off, h1⟩
theorem RdW.lt (h : RdW w (some ⟨b, off, none⟩) N S) (h0 : 0 < N) : b < w.heap.size := by
  obtain ⟨b', off', h1, h2, _⟩ := h.row.resolve_left (by omega)
  injection h1 with h1
  injection h1 with h3 h4
  subst h3
  exact h2
theorem RdW.cell (h : RdW w (some ⟨b, off, none⟩) N S) (hi : i < N) : w.cell? ⟨b, off + i, none⟩ = some (.slice (S i).A (S i).n (S i).c) := by
  obtain ⟨b', off', h1, h2, h3⟩ := h.row.resolve_left (by omega)
  injection h1 with h1
  injection h1 with h4 h5
  subst h4 h5
  exact h3 i hi
/-- Two wheels hold the same pins. -/
def Sam (N : Nat) (S S' : Nat → Sp) : Prop := ∀ i, i < N → (S i).n = (S' i).n ∧ (S i).es = (S' i).es
theorem Sam.refl (N : Nat) (S : Nat → Sp) : Sam N S S := fun _ _ => ⟨rfl, rfl⟩
theorem Sam.symm (h : Sam N S S') : Sam N S' S := fun i hi => ⟨(h i hi).1.symm, (h i hi).2.symm⟩
theorem Sam.trans {S2 : Nat → Sp} (h : Sam N S S') (h' : Sam N S' S2) : Sam N S S2 := fun i hi => ⟨(h i hi).1.trans (h' i hi).1, (h i hi).2.trans (h' i hi).2⟩
theorem Sam.tot (h : Sam N S S') {k : Nat} (hk : k ≤ N) : tot S k = tot S' k := tot_congr fun i hi => (h i (by omega)).1

/-- Spokes of the call's own, each in a block by itself. -/
structure Spk (B : Nat) (wr : World) (k : Nat) (S : Nat → Sp) : Prop where
  own : ∀ i, i < k → Own B wr 2 (S i).A (S i).n (S i).es
  cap : ∀ i, i < k → (S i).n ≤ (S i).c ∧ (S i).c ≤ 9223372036854775807
  apart : ∀ i j, i < k → j < k → i ≠ j → (S i).n ≠ 0 → (S j).n ≠ 0 → ∀ a b, (S i).A = some a → (S j).A = some b → a.block ≠ b.block
theorem Spk.start (B : Nat) (wr : World) (S : Nat → Sp) : Spk B wr 0 S := ⟨fun _ h => absurd h (by omega), fun _ h => absurd h (by omega), fun _ _ h => absurd h (by omega)⟩
theorem Spk.below {B k : Nat} (h : Spk B w k S) (hb : Below w.heap.size w w') : Spk B w' k S := ⟨fun i hi => (h.own i hi).below hb, h.cap, h.apart⟩
theorem Spk.blk {B k : Nat} (h : Spk B w k S) (hi : i < k) : ∀ a, (S i).n ≠ 0 → (S i).A = some a → a.block < w.heap.size := (h.own i hi).rd.blk
/-- One more, in a block that is new. -/
theorem Spk.snoc {B k m : Nat} {s : Sp} (h : Spk B w k S) (hw : ∀ i, i < k → ∀ a, (S i).n ≠ 0 → (S i).A = some a → a.block < m) (h' : ∀ i, i < k → Own B w' 2 (S i).A (S i).n (S i).es) (ho : Own B w' 2 s.A s.n s.es) (hc : s.n ≤ s.c ∧ s.c ≤ 9223372036854775807) (hm : ∀ a, s.n ≠ 0 → s.A = some a → m ≤ a.block) :
    Spk B w' (k + 1) (fun i => if i < k then S i else s) := by
  refine ⟨fun i hi => ?_, fun i hi => ?_, fun i j hi hj hij => ?_⟩
  · by_cases h1 : i < k
    · simp only [if_pos h1]; exact h' i h1
    · simp only [if_neg h1]; exact ho
  · by_cases h1 : i < k
    · simp only [if_pos h1]; exact h.cap i h1
    · simp only [if_neg h1]; exact hc
  · by_cases h1 : i < k <;> by_cases h2 : j < k
    · simp only [if_pos h1, if_pos h2]; exact h.apart i j h1 h2 hij
    · simp only [if_pos h1, if_neg h2]
      intro h3 h4 a b ha hb
      have := hw i h1 a h3 ha
      have := hm b h4 hb
      omega
    · simp only [if_neg h1, if_pos h2]
      intro h3 h4 a b ha hb
      have := hw j h2 b h4 hb
      have := hm a h3 ha
      omega
    · omega
theorem Spk.ownW (h : Spk lo w N S) (hr : N = 0 ∨ ∃ b off, A = some ⟨b, off, none⟩ ∧ b < w.heap.size ∧ lo ≤ b ∧ (∀ o, w.frozen? ⟨b, o, none⟩ = false) ∧ ∀ i, i < N → w.cell? ⟨b, off + i, none⟩ = some (S i).v)
    (har : ∀ i, i < N → (S i).n ≠ 0 → ∀ a b, A = some a → (S i).A = some b → a.block ≠ b.block) : OwnW lo w.heap.size w A N S := by
  refine ⟨⟨hr.imp id fun ⟨b, off, h1, h2, _, _, h5⟩ => ⟨b, off, h1, h2, h5⟩, fun i hi => (h.own i hi).rd, h.cap⟩, Nat.le_refl _, hr.imp id fun ⟨b, off, h1, h2, h3, _, _⟩ => ⟨_, h1, h3, h2⟩, fun h0 a ha => ?_, fun i hi => (h.own i hi).inB, fun i hi h0 a ha => ?_, h.apart, har⟩
  · obtain ⟨b, off, h1, _, _, h4, _⟩ := hr.resolve_left h0
    rw [ha] at h1
    injection h1 with h1
    subst h1
    exact h4
  · obtain ⟨b, off, h1, _, _, h4, _⟩ := (h.own i hi).2.resolve_left h0
    rw [ha] at h1
    injection h1 with h1
    subst h1
    exact h4
end

section
variable {H : Type} {enc : TypeId × Value → H} {P : Program} {w : World} {base : Nat} {spare : Nat → Bool} {held : Bool}

/-- A slice of slices of structs of two integers, as it is read. -/
theorem wheel_of_trod {t t1 e ti : TypeId} {fs : Array Field} {v : Value} {fuel : Nat} {x : DataW H × List MemPlace} (ht : P.underlying t = some (.slice t1)) (ht1 : P.underlying t1 = some (.slice e)) (he : P.underlying e = some (.struct fs)) (hti : P.underlying ti = some (.int .i64))
    (hone : oneCellFields P fs = true) (hall : fs.toList.all (fun f => f.type == ti) = true) (hC1 : P.cellsOf t1 = 1) (hC : P.cellsOf e = fs.size) (hs0 : fs.size = 2)
    (hf : DataW.trod enc P w base spare held fuel t [v] = some x) :
    ∃ (A : Option Addr) (N c : Nat) (S : Nat → Sp), v = .slice A N c ∧ N ≤ c ∧ c ≤ maxLen ∧ RdW w A N S := by
  rcases open_slice ht hf with ⟨hcs, _⟩ | ⟨a, n, c, m, nn, D, Pl, hcs, hb, hl, hm, hmm, _, hi⟩
  · exact ⟨none, 0, 0, fun _ => ⟨none, 0, 0, []⟩, by simpa using hcs, Nat.le_refl _, Nat.zero_le _, .inl rfl, fun i hi => by omega, fun i hi => by omega⟩
  · have hcs' : v = .slice (some a) n c := by simpa using hcs
    subst hcs'
    have hlm : n ≤ m := by rw [hmm]; split <;> omega
    have key : ∀ i, ∃ s : Sp, i < n → w.cell? (a.add i) = some s.v ∧ Rd w 2 s.A s.n s.es ∧ s.n ≤ s.c ∧ s.c ≤ 9223372036854775807 := by
      intro i
      by_cases hin : i < n
      · obtain ⟨cs', hc, ht'⟩ := hi i (by omega)
        rw [hC1] at hc
        obtain ⟨_, hcl, hat⟩ := World.cells?_some hc
        match cs', hcl with
        | [u], _ =>
          have h1 := hat 0 (by omega)
          obtain ⟨A', n', c', es', rfl, h2, h3, h4⟩ := slice_of_trod (t := t1) ht1 he hti hone hall hC (by omega) ht'
          refine ⟨⟨A', n', c', es'⟩, fun _ => ⟨?_, by rw [hs0] at h4; exact h4, h2, by unfold maxLen at h3; omega⟩⟩
          have h5 : ((a.add (i * 1)).add 0) = a.add i := by rw [Go.Deep.add_add, Nat.mul_one, Nat.add_zero]
          rw [h5] at h1
          exact h1
      · exact ⟨⟨none, 0, 0, []⟩, fun h => absurd h hin⟩
    have key2 := Classical.skolem.1 key
    obtain ⟨S, hS⟩ := key2
    refine ⟨some a, n, c, S, rfl, hl, hm, ?_, fun i hi => (hS i hi).2.1, fun i hi => (hS i hi).2.2⟩
    rcases Nat.eq_zero_or_pos n with h0 | h0
    · exact .inl h0
    refine .inr ?_
    obtain ⟨b, off, spot⟩ := a
    have hz0 := (hS 0 h0).1
    have hspot : spot = none := by
      have := World.cell?_spot hz0
      simpa [Addr.add] using this
    subst hspot
    have hadd : ∀ m, (⟨b, off, none⟩ : Addr).add m = ⟨b, off + m, none⟩ := fun m => by
      unfold Addr.add
      split <;> simp_all
    exact ⟨b, off, rfl, by simpa [hadd] using lt_of_cell hz0, fun i hi => by rw [← hadd]; exact (hS i hi).1⟩

/-- An argument of a struct type whose only field is such a slice. -/
theorem open_wheel {r0 : Reach} {b0 : Nat} {t t0 t1 e ti : TypeId} {fs0 fs : Array Field} {v : Value} {d : DataW H} {p : List MemPlace} (hs : P.underlying t = some (.struct fs0)) (hone0 : oneCellFields P fs0 = true) (hty : fs0.toList.map (·.type) = [t0]) (hC0 : P.cellsOf t = fs0.size)
    (ht : P.underlying t0 = some (.slice t1)) (ht1 : P.underlying t1 = some (.slice e)) (he : P.underlying e = some (.struct fs)) (hti : P.underlying ti = some (.int .i64))
    (hone : oneCellFields P fs = true) (hall : fs.toList.all (fun f => f.type == ti) = true) (hC1 : P.cellsOf t1 = 1) (hC : P.cellsOf e = fs.size) (hs0 : fs.size = 2)
    (hv : Value.okWide P w r0 b0 t v) (h : DataW.Trod enc P w base spare held t v d p) :
    ∃ (A : Option Addr) (N c : Nat) (S : Nat → Sp), v = .agg #[.slice A N c] ∧ N ≤ c ∧ c ≤ maxLen ∧ RdW w A N S := by
  obtain ⟨cs, rfl, hsz⟩ := okWide_struct hs hv
  obtain ⟨fuel, hf⟩ := h
  obtain ⟨xs, n, _, _, _, hlen, hg⟩ := DataW.trod_struct hs hf
  have h1 : fs0.size = 1 := by
    have := congrArg List.length hty
    simpa using this
  have hcl : cs.toList.length = 1 := by simpa [hC0, h1] using hsz
  obtain ⟨u, hu⟩ : ∃ u, cs.toList = [u] := by
    match hq : cs.toList, hcl with
    | [u], _ => exact ⟨u, rfl⟩
  have hi : (0 : Nat) < fs0.size := by omega
  have hf0 : fs0[0]? = some fs0[0] := Array.getElem?_eq_getElem hi
  have ht0 : fs0[0].type = t0 := by
    have : (fs0.toList.map (·.type))[0]? = [t0][0]? := by rw [hty]
    rw [List.getElem?_map, List.getElem?_eq_getElem (by simpa using hi)] at this
    simpa using this
  obtain ⟨ho, hc⟩ := hone_of hone0 0 fs0[0] hf0
  have h2 := hg 0 fs0[0] hf0
  rw [ho, hc, ht0] at h2
  have hx : xs[0]? = some (xs[0]'(by omega)) := List.getElem?_eq_getElem (by omega)
  have hcells : (Value.agg cs).cells.toList = [u] := by simpa [Value.cells] using hu
  rw [hcells, hx] at h2
  obtain ⟨A, N, c, S, hv', h3, h4, h5⟩ := wheel_of_trod ht ht1 he hti hone hall hC1 hC hs0 (v := u) (by simpa using h2)
  refine ⟨A, N, c, S, ?_, h3, h4, h5⟩
  refine congrArg Value.agg (Array.toList_inj.1 ?_)
  rw [hu, hv']
end
end Go.Proofs.YtjlmcppkafjniaaGreat
