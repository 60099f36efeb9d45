/-
  Contracts of the functions that measure, copy and compare slices of cabins. No conditions beyond those stated.
-/
import Derived.Test.YtcicldcgibgnfaaKb
namespace Go.Proofs.Ytcicldcgibgnfaa
open Go.RowKit

/-- One cabin: what its cells hold, and what its slices read as. -/
structure Cb where
  x : Nat → Int
  E : Option Addr
  n : Nat
  c : Nat
  es : List (Nat → Int)
  W : Option Addr
  N : Nat
  cw : Nat
  S : Nat → Sp
def Cb.v (c : Cb) : Nat → Value
  | 5 => .slice c.E c.n c.c
  | 6 => .slice c.W c.N c.cw
  | j => .int .i64 (c.x j)
/-- A slice of n cabins, as it is read. -/
structure RdC (w : World) (A : Option Addr) (n : Nat) (C : Nat → Cb) : Prop where
  row : n = 0 ∨ ∃ b off, A = some ⟨b, off, none⟩ ∧ b < w.heap.size ∧ ∀ i, i < n → ∀ j, j < 7 → w.cell? ⟨b, off + i * 7 + j, none⟩ = some ((C i).v j)
  re : ∀ i, i < n → Rd w 4 (C i).E (C i).n (C i).es
  rw_ : ∀ i, i < n → RdW w (C i).W (C i).N (C i).S
  cap : ∀ i, i < n → (C i).n ≤ 9223372036854775807 ∧ (C i).N ≤ 9223372036854775807
theorem RdC.below {w w' : World} {A : Option Addr} {n : Nat} {C : Nat → Cb} (h : RdC w A n C) (hb : Below w.heap.size w w') : RdC w' A n C :=
  ⟨h.row.imp id fun ⟨b, off, h1, h2, h3⟩ => ⟨b, off, h1, Nat.lt_of_lt_of_le h2 hb.size, fun i hi j hj => (hb.cell (p := ⟨b, _, none⟩) h2).trans (h3 i hi j hj)⟩, fun i hi => (h.re i hi).below hb, fun i hi => (h.rw_ i hi).below hb, h.cap⟩
/-- Two cabins hold the same. -/
def SamC (a b : Cb) : Prop := b.x = a.x ∧ b.n = a.n ∧ b.es = a.es ∧ b.N = a.N ∧ Sam a.N a.S b.S
theorem SamC.symm {a b : Cb} (h : SamC a b) : SamC b a := ⟨h.1.symm, h.2.1.symm, h.2.2.1.symm, h.2.2.2.1.symm, by rw [h.2.2.2.1]; exact h.2.2.2.2.symm⟩
theorem SamC.trans {a b c : Cb} (h : SamC a b) (h2 : SamC b c) : SamC a c := ⟨h2.1.trans h.1, h2.2.1.trans h.2.1, h2.2.2.1.trans h.2.2.1, h2.2.2.2.1.trans h.2.2.2.1, h.2.2.2.2.trans (by have h3 := h2.2.2.2.2; rw [h.2.2.2.1] at h3; exact h3)⟩
def SmC (l : Int) (c : Cb) : Prop := (c.n : Int) ≤ l ∧ (c.N : Int) + tot c.S c.N ≤ l

/-- Block g of N elements of K cells: the first k elements hold the values V. -/
structure FillV (B g K N : Nat) (W wr : World) (k : Nat) (V : Nat → Nat → Value) : Prop where
  below : Below B W wr
  lt : g < wr.heap.size
  fz : ∀ o, wr.frozen? ⟨g, o, none⟩ = false
  done : ∀ i, i < k → ∀ j, j < K → wr.cell? ⟨g, i * K + j, none⟩ = some (V i j)
  room : ∀ o, o < N * K → (wr.cell? ⟨g, o, none⟩).isSome = true
theorem FillV.start {B g K N : Nat} {W w1 : World} {es : List (Nat → Int)} (h : Fill B g K N W w1 0 es) (V : Nat → Nat → Value) : FillV B g K N W w1 0 V :=
  ⟨h.below, h.lt, h.fz, fun i hi => absurd hi (by omega), h.room⟩
theorem FillV.congr {B g K N k : Nat} {W w1 : World} {V V' : Nat → Nat → Value} (h : FillV B g K N W w1 k V) (e : ∀ i, i < k → V i = V' i) : FillV B g K N W w1 k V' :=
  ⟨h.below, h.lt, h.fz, fun i hi j hj => by rw [← e i hi]; exact h.done i hi j hj, h.room⟩
theorem FillV.call {B g K N k : Nat} {W wr w1 : World} {V : Nat → Nat → Value} (h : FillV B g K N W wr k V) (hB : B ≤ wr.heap.size) (hb : Below wr.heap.size wr w1) : FillV B g K N W w1 k V :=
  ⟨h.below.trans (hb.mono hB), Nat.lt_of_lt_of_le h.lt hb.size, fun o => (hb.frozen (p := ⟨g, o, none⟩) h.lt).trans (h.fz o), fun i hi j hj => (hb.cell (p := ⟨g, i * K + j, none⟩) h.lt).trans (h.done i hi j hj), fun o ho => by rw [hb.cell (p := ⟨g, o, none⟩) h.lt]; exact h.room o ho⟩
theorem FillV.set {B g K N k : Nat} {W w1 : World} {V : Nat → Nat → Value} {vs : List Value} (h : FillV B g K N W w1 k V) (hg : B ≤ g) (hk : k < N) (hl : vs.length = K) (hv : ∀ j, j < K → vs[j]? = some (V k j)) :
    FillV B g K N W (w1.setCells g (k * K) vs) (k + 1) V := by
  have hsome : ∀ j, j < vs.length → (w1.cell? ⟨g, k * K + j, none⟩).isSome = true := fun j hj => h.room (k * K + j) (idx_lt hk (by omega))
  have hin := World.cell?_setCells_in g vs (k * K) w1 hsome
  have hfz : ∀ o, (w1.setCells g (k * K) vs).frozen? ⟨g, o, none⟩ = false := fun o => (World.frozen?_setCells g vs (k * K) w1 ⟨g, o, none⟩).trans (h.fz o)
  have hroom : ∀ o, o < N * K → ((w1.setCells g (k * K) vs).cell? ⟨g, o, none⟩).isSome = true := fun o ho => World.isSome_setCells g vs (k * K) w1 ⟨g, o, none⟩ (h.room o ho)
  refine ⟨below_setCells hg vs (k * K) w1 h.below, by rw [size_setCells]; exact h.lt, hfz, ?_, hroom⟩
  intro i hi j hj
  rcases Nat.lt_or_ge i k with hik | hik
  · rw [World.cell?_setCells_out g vs (k * K) w1 ⟨g, i * K + j, none⟩ (fun _ _ => .inl (idx_lt hik hj))]
    exact h.done i hik j hj
  · obtain rfl : i = k := by omega
    rw [hin j (by omega)]
    have := hv j hj
    rw [List.getElem?_eq_getElem (by omega)] at this
    exact this
/-- A cabin copied into fresh memory. -/
structure CpC (B : Nat) (w : World) (c c' : Cb) : Prop where
  sam : SamC c c'
  oe : Own B w 4 c'.E c'.n c'.es
  ow : OwnW B w.heap.size w c'.W c'.N c'.S
theorem CpC.below {B : Nat} {w w' : World} {c c' : Cb} (h : CpC B w c c') (hb : Below w.heap.size w w') : CpC B w' c c' :=
  ⟨h.sam, h.oe.below hb, (h.ow.below hb).wide (Nat.le_refl _) hb.size (Nat.le_refl _)⟩
theorem CpC.sets {B g : Nat} {c c' : Cb} (hg : g < B) : ∀ (vs : List Value) (o : Nat) (w : World), CpC B w c c' → CpC B (w.setCells g o vs) c c'
  | [], _, _, h => h
  | v :: r, o, w, h => CpC.sets hg r (o + 1) _ ⟨h.sam, h.oe.set_ hg v, by
      have hs : (w.setCell ⟨g, o, none⟩ v).heap.size = w.heap.size := by simp [World.setCell]
      rw [hs]
      exact h.ow.set_ (.inl hg) v⟩
/-- A slice of cabins in fresh memory, from block B on. -/
structure OwnC (B : Nat) (w : World) (A : Option Addr) (n : Nat) (C : Nat → Cb) : Prop where
  rd : RdC w A n C
  blk : n ≠ 0 → ∀ a, A = some a → B ≤ a.block
  oe : ∀ i, i < n → Own B w 4 (C i).E (C i).n (C i).es
  ow : ∀ i, i < n → OwnW B w.heap.size w (C i).W (C i).N (C i).S
theorem OwnC.below {B : Nat} {w w' : World} {A : Option Addr} {n : Nat} {C : Nat → Cb} (h : OwnC B w A n C) (hb : Below w.heap.size w w') : OwnC B w' A n C :=
  ⟨h.rd.below hb, h.blk, fun i hi => (h.oe i hi).below hb, fun i hi => ((h.ow i hi).below hb).wide (Nat.le_refl _) hb.size (Nat.le_refl _)⟩
theorem OwnC.mono {B B' : Nat} {w : World} {A : Option Addr} {n : Nat} {C : Nat → Cb} (h : OwnC B w A n C) (hB : B' ≤ B) : OwnC B' w A n C :=
  ⟨h.rd, fun h0 a ha => Nat.le_trans hB (h.blk h0 a ha), fun i hi => (h.oe i hi).mono hB, fun i hi => (h.ow i hi).wide hB (Nat.le_refl _) (Nat.le_refl _)⟩
theorem OwnC.set_ {B : Nat} {w : World} {A : Option Addr} {n : Nat} {C : Nat → Cb} {p : Addr} (hp : p.block < B) (h : OwnC B w A n C) (v : Value) : OwnC B (w.setCell p v) A n C := by
  have hs : (w.setCell p v).heap.size = w.heap.size := by simp [World.setCell]
  refine ⟨⟨?_, fun i hi => (Own.set_ hp (h.oe i hi) v).rd, fun i hi => ((h.ow i hi).set_ (.inl hp) v).rdw, h.rd.cap⟩, h.blk, fun i hi => Own.set_ hp (h.oe i hi) v, fun i hi => by rw [hs]; exact (h.ow i hi).set_ (.inl hp) v⟩
  rcases Nat.eq_zero_or_pos n with h0 | h0
  · exact .inl h0
  obtain ⟨b, off, h1, h2, h3⟩ := h.rd.row.resolve_left (by omega)
  have hb : B ≤ b := h.blk (by omega) _ h1
  have hh := Below.heap_setCell w p v b (by omega)
  exact .inr ⟨b, off, h1, by rw [hs]; exact h2, fun i hi j hj => (World.cell?_of_block (w := w) (w' := w.setCell p v) (a := ⟨b, _, none⟩) hh).trans (h3 i hi j hj)⟩
theorem cabS_info : (Try.prog.info? 71).map (fun i => (i.zero, i.size, i.bytes)) = some (some (.agg #[.int .i64 0, .int .i64 0, .int .i64 0, .int .i64 0, .int .i64 0, .slice none 0 0, .slice none 0 0]), 7, 88) := by kernel_rfl

set_option maxRecDepth 100000 in
set_option maxHeartbeats 4000000 in
theorem szCabinS_le (A : Option Addr) (n c : Nat) (C : Nat → Cb) (l : Int) (w : World) (hn : n ≤ 9223372036854775807) (h0 : 0 ≤ l) (h1 : l ≤ 1048576) (h : RdC w A n C) :
    Calls Try.prog 11 #[.slice A n c, .int .i64 l] w fun x w' => ∃ r : Int, x = .returned (.int .i64 r) ∧ Below w.heap.size w w' ∧ (r < 0 ∨ 0 ≤ r ∧ r ≤ l ∧ (n : Int) ≤ l ∧ ∀ i, i < n → SmC l (C i)) := by
  have H := Lib.hid h
  clear h
  by_cases hnl : (n : Int) ≤ l
  case neg =>
    have hneg : l - (n : Int) < 0 := by omega
    go_enter Try.func11, Try.ntmps11
    go_wp2
    go_ret
    exact ⟨_, rfl, Below.refl _ _, .inl (by omega)⟩
  have e0 : ¬ l - (n : Int) < 0 := by omega
  go_enter Try.func11, Try.ntmps11
  go_wp2
  go_loopw [1, 4, 5] (fun s1 _ s5 wr => ∃ (k : Nat) (r : Int), k ≤ n ∧ s1 = .int .i64 r ∧ s5 = .int .i64 k ∧ 0 ≤ r ∧ r ≤ l ∧ Hid (∀ i, i < k → SmC l (C i)) ∧ Below w.heap.size w wr) (fun _ _ s5 _ => n - (intOf s5).toNat)
  case atStart => exact ⟨0, l - n, Nat.zero_le _, rfl, rfl, by omega, by omega, Lib.hid (fun i hi => absurd hi (by omega)), Below.refl _ _⟩
  case round =>
    obtain ⟨k, r, hk, rfl, rfl, hr0, hr1, HS, hbel⟩ := hrel
    by_cases hlt : k < n
    · have HR := Lib.hid H.out
      obtain ⟨b, off, hA, hb, hc⟩ := H.out.row.resolve_left (by omega)
      subst hA
      have c0 : wr.cell? ⟨b, off + k * 7, none⟩ = some (.int .i64 ((C k).x 0)) := (hbel.cell (p := ⟨b, off + k * 7, none⟩) hb).trans (hc k hlt 0 (by omega))
      have c1 : wr.cell? ⟨b, off + k * 7 + 1, none⟩ = some (.int .i64 ((C k).x 1)) := (hbel.cell (p := ⟨b, off + k * 7 + 1, none⟩) hb).trans (hc k hlt 1 (by omega))
      have c2 : wr.cell? ⟨b, off + k * 7 + 2, none⟩ = some (.int .i64 ((C k).x 2)) := (hbel.cell (p := ⟨b, off + k * 7 + 2, none⟩) hb).trans (hc k hlt 2 (by omega))
      have c3 : wr.cell? ⟨b, off + k * 7 + 3, none⟩ = some (.int .i64 ((C k).x 3)) := (hbel.cell (p := ⟨b, off + k * 7 + 3, none⟩) hb).trans (hc k hlt 3 (by omega))
      have c4 : wr.cell? ⟨b, off + k * 7 + 4, none⟩ = some (.int .i64 ((C k).x 4)) := (hbel.cell (p := ⟨b, off + k * 7 + 4, none⟩) hb).trans (hc k hlt 4 (by omega))
      have c5 : wr.cell? ⟨b, off + k * 7 + 5, none⟩ = some (.slice (C k).E (C k).n (C k).c) := (hbel.cell (p := ⟨b, off + k * 7 + 5, none⟩) hb).trans (hc k hlt 5 (by omega))
      have c6 : wr.cell? ⟨b, off + k * 7 + 6, none⟩ = some (.slice (C k).W (C k).N (C k).cw) := (hbel.cell (p := ⟨b, off + k * 7 + 6, none⟩) hb).trans (hc k hlt 6 (by omega))
      have hki : (k : Int) < (n : Int) := by omega
      have hk0 : (0 : Int) ≤ (k : Int) := by omega
      have hcp := H.out.cap k hlt
      have hr2 : r ≤ 1048576 := by omega
      clear hc
      go_wp2_with fail
      refine (szCabin_le ((C k).x 0) ((C k).x 1) ((C k).x 2) ((C k).x 3) ((C k).x 4) (C k).E (C k).n (C k).c (C k).es (C k).W (C k).N (C k).cw (C k).S r _ hcp.1 hcp.2 hr0 hr2 ((HR.out.rw_ k hlt).below hbel)).mono ?_
      rintro y w2 ⟨r2, rfl, hb2, hq⟩
      have hbel2 : Below w.heap.size w w2 := hbel.trans (hb2.mono hbel.size)
      rcases hq with hq | ⟨hq, q1, q2, q3⟩
      · go_wp2
        go_ret
        exact ⟨_, rfl, hbel2, .inl (by omega)⟩
      · have hqn : ¬ r2 < 0 := by omega
        have HS2 : Hid (∀ i, i < k + 1 → SmC l (C i)) := Lib.hid fun i hi => by
          rcases Nat.lt_or_ge i k with h | h
          · exact HS.out i h
          · obtain rfl : i = k := by omega
            exact ⟨by omega, by omega⟩
        go_wp2
        go_roundw
        case rel => exact ⟨k + 1, r2, by omega, rfl, by go_num, by omega, by omega, HS2, hbel2⟩
        case measure => simp [intOf]; omega
    · have hkn : k = n := by omega
      subst hkn
      go_wp2
      go_ret
      exact ⟨_, rfl, hbel, .inr ⟨by omega, by omega, by omega, HS.out⟩⟩

set_option maxRecDepth 100000 in
set_option maxHeartbeats 4000000 in
theorem toCabinS_any (A : Option Addr) (n c : Nat) (C : Nat → Cb) (w : World) (hn : n ≤ 1048576) (hs : ∀ i, i < n → SmC 1048576 (C i)) (h : RdC w A n C) :
    Calls Try.prog 16 #[.slice A n c] w fun x w' => ∃ A' C', x = .returned (.slice A' n n) ∧ OwnC w.heap.size w' A' n C' ∧ (∀ i, i < n → SamC (C i) (C' i)) ∧ Below w.heap.size w w' := by
  obtain ⟨i0, hi0, hz0, hz1, hz2⟩ := info_parts cabS_info
  have hb0 : i0.bytes * n ≤ 281474976710656 := by rw [hz2]; omega
  have H := Lib.hid h
  have HS := Lib.hid hs
  clear h hs
  go_enter Try.func16, Try.ntmps16
  go_wp2_with (at_make; refine wpList_make_full _ rfl _ _ 33 rfl w.heap.size 71 i0 _ 7 Try.underlying33 hi0 hz0 hz1 .i64 .i64 _ _ n rfl rfl rfl rfl hb0 (by unfold maxLen; omega) (by simp) ?_; intro w1 hown hgr)
  have hfill0 : Hid (FillV w.heap.size w.heap.size 7 n w w1 0 fun i => (C i).v) := Lib.hid (FillV.start (Fill.start (g := w.heap.size) (es := []) (Below.refl w.heap.size w) (Nat.le_refl _) rfl hown hgr) _)
  clear hown hgr hi0 hz0 hz1 hz2 hb0
  go_wp2
  go_loopw [4] (fun i wr => ∃ k : Nat, k ≤ n ∧ i = .int .i64 k ∧ ∃ C' : Nat → Cb, Hid (FillV w.heap.size w.heap.size 7 n w wr k fun i => (C' i).v) ∧ Hid (∀ i, i < k → CpC (w.heap.size + 1) wr (C i) (C' i))) (fun i _ => n - (intOf i).toNat)
  case atStart => exact ⟨0, Nat.zero_le _, rfl, C, hfill0, Lib.hid (fun i hi => absurd hi (by omega))⟩
  case round =>
    obtain ⟨k, hk, rfl, C', HF, HC⟩ := hrel
    clear hfill0
    have hbel := HF.out.below
    have hgl := HF.out.lt
    by_cases hlt : k < n
    · obtain ⟨b, off, hA, hb, hc⟩ := H.out.row.resolve_left (by omega)
      subst hA
      have c0 : wr.cell? ⟨b, off + k * 7, none⟩ = some (.int .i64 ((C k).x 0)) := (hbel.cell (p := ⟨b, off + k * 7, none⟩) hb).trans (hc k hlt 0 (by omega))
      have c1 : wr.cell? ⟨b, off + k * 7 + 1, none⟩ = some (.int .i64 ((C k).x 1)) := (hbel.cell (p := ⟨b, off + k * 7 + 1, none⟩) hb).trans (hc k hlt 1 (by omega))
      have c2 : wr.cell? ⟨b, off + k * 7 + 2, none⟩ = some (.int .i64 ((C k).x 2)) := (hbel.cell (p := ⟨b, off + k * 7 + 2, none⟩) hb).trans (hc k hlt 2 (by omega))
      have c3 : wr.cell? ⟨b, off + k * 7 + 3, none⟩ = some (.int .i64 ((C k).x 3)) := (hbel.cell (p := ⟨b, off + k * 7 + 3, none⟩) hb).trans (hc k hlt 3 (by omega))
      have c4 : wr.cell? ⟨b, off + k * 7 + 4, none⟩ = some (.int .i64 ((C k).x 4)) := (hbel.cell (p := ⟨b, off + k * 7 + 4, none⟩) hb).trans (hc k hlt 4 (by omega))
      have c5 : wr.cell? ⟨b, off + k * 7 + 5, none⟩ = some (.slice (C k).E (C k).n (C k).c) := (hbel.cell (p := ⟨b, off + k * 7 + 5, none⟩) hb).trans (hc k hlt 5 (by omega))
      have c6 : wr.cell? ⟨b, off + k * 7 + 6, none⟩ = some (.slice (C k).W (C k).N (C k).cw) := (hbel.cell (p := ⟨b, off + k * 7 + 6, none⟩) hb).trans (hc k hlt 6 (by omega))
      clear hc
      obtain ⟨s1, s2⟩ := HS.out k hlt
      have m1 : (C k).n ≤ 1048576 := by omega
      have m2 : (C k).N ≤ 1048576 := by omega
      have m3 : tot (C k).S (C k).N ≤ 1048576 := by omega
      clear s1 s2
      go_wp2_with fail
      refine (toCabin_any ((C k).x 0) ((C k).x 1) ((C k).x 2) ((C k).x 3) ((C k).x 4) (C k).E (C k).n (C k).c (C k).es (C k).W (C k).N (C k).cw (C k).S _ m1 m2 m3 ((H.out.re k hlt).below hbel) ((H.out.rw_ k hlt).below hbel)).mono ?_
      rintro x w2 ⟨E2, W2, S2, rfl, oe, ow, sm, hb2⟩
      obtain ⟨D, hD⟩ : ∃ D : Cb, D = ⟨(C k).x, E2, (C k).n, (C k).n, (C k).es, W2, (C k).N, (C k).N, S2⟩ := ⟨_, rfl⟩
      obtain ⟨C2, hC2⟩ : ∃ C2 : Nat → Cb, C2 = fun i => if i = k then D else C' i := ⟨_, rfl⟩
      have hCk : C2 k = D := by rw [hC2]; exact if_pos rfl
      have hCi : ∀ i, i < k → C2 i = C' i := fun i hi => by rw [hC2]; exact if_neg (by omega)
      have hcp : CpC (w.heap.size + 1) w2 (C k) D := by
        rw [hD]
        exact ⟨⟨rfl, rfl, rfl, rfl, sm⟩, oe.mono (by omega), ow.wide (by omega) (Nat.le_refl _) (Nat.le_refl _)⟩
      have hf1 : FillV w.heap.size w.heap.size 7 n w w2 k fun i => (C2 i).v := (HF.out.call (by omega) hb2).congr (fun i hi => by simp only [hCi i hi])
      have hset := Lib.hid (hf1.set (vs := [.int .i64 ((C k).x 0), .int .i64 ((C k).x 1), .int .i64 ((C k).x 2), .int .i64 ((C k).x 3), .int .i64 ((C k).x 4), .slice E2 (C k).n (C k).n, .slice W2 (C k).N (C k).N]) (Nat.le_refl _) hlt rfl (by intro j hj; simp only [hCk, hD]; match j, hj with | 0, _ => rfl | 1, _ => rfl | 2, _ => rfl | 3, _ => rfl | 4, _ => rfl | 5, _ => rfl | 6, _ => rfl))
      have hcps : Hid (∀ i, i < k + 1 → CpC (w.heap.size + 1) (w2.setCells w.heap.size (k * 7) [.int .i64 ((C k).x 0), .int .i64 ((C k).x 1), .int .i64 ((C k).x 2), .int .i64 ((C k).x 3), .int .i64 ((C k).x 4), .slice E2 (C k).n (C k).n, .slice W2 (C k).N (C k).N]) (C i) (C2 i)) := Lib.hid fun i hi => by
        rcases Nat.lt_or_ge i k with h | h
        · rw [hCi i h]
          exact CpC.sets (by omega) _ _ _ ((HC.out i h).below hb2)
        · obtain rfl : i = k := by omega
          rw [hCk]
          exact CpC.sets (by omega) _ _ _ hcp
      obtain ⟨r0, q0⟩ := Option.isSome_iff_exists.1 (hf1.room (k * 7) (by omega))
      obtain ⟨r1, q1⟩ := Option.isSome_iff_exists.1 (hf1.room (k * 7 + 1) (by omega))
      obtain ⟨r2, q2⟩ := Option.isSome_iff_exists.1 (hf1.room (k * 7 + 2) (by omega))
      obtain ⟨r3, q3⟩ := Option.isSome_iff_exists.1 (hf1.room (k * 7 + 3) (by omega))
      obtain ⟨r4, q4⟩ := Option.isSome_iff_exists.1 (hf1.room (k * 7 + 4) (by omega))
      obtain ⟨r5, q5⟩ := Option.isSome_iff_exists.1 (hf1.room (k * 7 + 5) (by omega))
      obtain ⟨r6, q6⟩ := Option.isSome_iff_exists.1 (hf1.room (k * 7 + 6) (by omega))
      have z0 := hf1.fz (k * 7)
      have z1 := hf1.fz (k * 7 + 1)
      have z2 := hf1.fz (k * 7 + 2)
      have z3 := hf1.fz (k * 7 + 3)
      have z4 := hf1.fz (k * 7 + 4)
      have z5 := hf1.fz (k * 7 + 5)
      have z6 := hf1.fz (k * 7 + 6)
      clear hf1 hb2 hcp hD hC2 hCk hCi oe ow sm
      go_wp2
      go_roundw
      case rel => exact ⟨k + 1, by omega, by go_num, C2, hset, hcps⟩
      case measure => simp [intOf]; omega
    · have hkn : k = n := by omega
      subst hkn
      have hfin : Hid (OwnC w.heap.size wr (some ⟨w.heap.size, 0, none⟩) k C') := Lib.hid ⟨⟨.inr ⟨w.heap.size, 0, rfl, hgl, fun i hi j hj => by rw [Nat.zero_add]; exact HF.out.done i hi j hj⟩, fun i hi => (HC.out i hi).oe.rd, fun i hi => (HC.out i hi).ow.rdw, fun i hi => by
        have h1 := HS.out i hi
        have h2 := (HC.out i hi).sam
        have h3 := h2.2.1
        have h4 := h2.2.2.2.1
        have h5 := h1.1
        have h6 := h1.2
        omega⟩, fun _ a ha => by injection ha with ha; rw [← ha]; exact Nat.le_refl _, fun i hi => (HC.out i hi).oe.mono (by omega), fun i hi => (HC.out i hi).ow.wide (by omega) (Nat.le_refl _) (Nat.le_refl _)⟩
      go_wp2
      go_ret
      exact ⟨_, C', rfl, hfin.out, fun i hi => (HC.out i hi).sam, hbel⟩

set_option maxRecDepth 100000 in
set_option maxHeartbeats 4000000 in
theorem eqCabinS_same (A A2 : Option Addr) (n c c2 : Nat) (C C2 : Nat → Cb) (w : World) (hn : n ≤ 4194304) (hs : ∀ i, i < n → SmC 1048576 (C i)) (h : RdC w A n C) (h2 : RdC w A2 n C2) (he : ∀ i, i < n → SamC (C i) (C2 i)) :
    Calls Try.prog 21 #[.slice A n c, .slice A2 n c2] w fun x w' => x = .returned (.bool true) ∧ Below w.heap.size w w' := by
  have H := Lib.hid h
  have H2 := Lib.hid h2
  have HS := Lib.hid hs
  have HE := Lib.hid he
  clear h h2 hs he
  go_enter Try.func21, Try.ntmps21
  go_wp2
  go_loopw [5] (fun i wr => ∃ k : Nat, k ≤ n ∧ i = .int .i64 k ∧ Below w.heap.size w wr) (fun i _ => n - (intOf i).toNat)
  case atStart => exact ⟨0, Nat.zero_le _, rfl, Below.refl _ _⟩
  case round =>
    obtain ⟨k, hk, rfl, hbel⟩ := hrel
    by_cases hlt : k < n
    · obtain ⟨b, off, hA, hb, hc⟩ := H.out.row.resolve_left (by omega)
      obtain ⟨b2, off2, hA2, hb2, hc2⟩ := H2.out.row.resolve_left (by omega)
      subst hA hA2
      obtain ⟨p1, p2, p3, p4, p5⟩ := HE.out k hlt
      have hc3 : ∀ j, j < 7 → w.cell? ⟨b2, off2 + k * 7 + j, none⟩ = some ((⟨(C k).x, (C2 k).E, (C k).n, (C2 k).c, (C k).es, (C2 k).W, (C k).N, (C2 k).cw, (C2 k).S⟩ : Cb).v j) := fun j hj => by
        rw [hc2 k hlt j hj, ← p1, ← p2, ← p3, ← p4]
      have c0 : wr.cell? ⟨b, off + k * 7, none⟩ = some (.int .i64 ((C k).x 0)) := (hbel.cell (p := ⟨b, off + k * 7, none⟩) hb).trans (hc k hlt 0 (by omega))
      have c1 : wr.cell? ⟨b, off + k * 7 + 1, none⟩ = some (.int .i64 ((C k).x 1)) := (hbel.cell (p := ⟨b, off + k * 7 + 1, none⟩) hb).trans (hc k hlt 1 (by omega))
      have c2 : wr.cell? ⟨b, off + k * 7 + 2, none⟩ = some (.int .i64 ((C k).x 2)) := (hbel.cell (p := ⟨b, off + k * 7 + 2, none⟩) hb).trans (hc k hlt 2 (by omega))
      have c3 : wr.cell? ⟨b, off + k * 7 + 3, none⟩ = some (.int .i64 ((C k).x 3)) := (hbel.cell (p := ⟨b, off + k * 7 + 3, none⟩) hb).trans (hc k hlt 3 (by omega))
      have c4 : wr.cell? ⟨b, off + k * 7 + 4, none⟩ = some (.int .i64 ((C k).x 4)) := (hbel.cell (p := ⟨b, off + k * 7 + 4, none⟩) hb).trans (hc k hlt 4 (by omega))
      have c5 : wr.cell? ⟨b, off + k * 7 + 5, none⟩ = some (.slice (C k).E (C k).n (C k).c) := (hbel.cell (p := ⟨b, off + k * 7 + 5, none⟩) hb).trans (hc k hlt 5 (by omega))
      have c6 : wr.cell? ⟨b, off + k * 7 + 6, none⟩ = some (.slice (C k).W (C k).N (C k).cw) := (hbel.cell (p := ⟨b, off + k * 7 + 6, none⟩) hb).trans (hc k hlt 6 (by omega))
      have d0 : wr.cell? ⟨b2, off2 + k * 7, none⟩ = some (.int .i64 ((C k).x 0)) := (hbel.cell (p := ⟨b2, off2 + k * 7, none⟩) hb2).trans (hc3 0 (by omega))
      have d1 : wr.cell? ⟨b2, off2 + k * 7 + 1, none⟩ = some (.int .i64 ((C k).x 1)) := (hbel.cell (p := ⟨b2, off2 + k * 7 + 1, none⟩) hb2).trans (hc3 1 (by omega))
      have d2 : wr.cell? ⟨b2, off2 + k * 7 + 2, none⟩ = some (.int .i64 ((C k).x 2)) := (hbel.cell (p := ⟨b2, off2 + k * 7 + 2, none⟩) hb2).trans (hc3 2 (by omega))
      have d3 : wr.cell? ⟨b2, off2 + k * 7 + 3, none⟩ = some (.int .i64 ((C k).x 3)) := (hbel.cell (p := ⟨b2, off2 + k * 7 + 3, none⟩) hb2).trans (hc3 3 (by omega))
      have d4 : wr.cell? ⟨b2, off2 + k * 7 + 4, none⟩ = some (.int .i64 ((C k).x 4)) := (hbel.cell (p := ⟨b2, off2 + k * 7 + 4, none⟩) hb2).trans (hc3 4 (by omega))
      have d5 : wr.cell? ⟨b2, off2 + k * 7 + 5, none⟩ = some (.slice (C2 k).E (C k).n (C2 k).c) := (hbel.cell (p := ⟨b2, off2 + k * 7 + 5, none⟩) hb2).trans (hc3 5 (by omega))
      have d6 : wr.cell? ⟨b2, off2 + k * 7 + 6, none⟩ = some (.slice (C2 k).W (C k).N (C2 k).cw) := (hbel.cell (p := ⟨b2, off2 + k * 7 + 6, none⟩) hb2).trans (hc3 6 (by omega))
      have re2 : Hid (Rd w 4 (C2 k).E (C k).n (C k).es) := Lib.hid (by have h := H2.out.re k hlt; rw [p2, p3] at h; exact h)
      have rw2 : Hid (RdW w (C2 k).W (C k).N (C2 k).S) := Lib.hid (by have h := H2.out.rw_ k hlt; rw [p4] at h; exact h)
      have P5 := Lib.hid p5
      have m0 := HS.out k hlt
      have m1 : (C k).n ≤ 4194304 := by have := m0.1; omega
      have m2 : (C k).N ≤ 4194304 := by have := m0.2; omega
      have m3 : tot (C k).S (C k).N ≤ 4194304 := by have := m0.2; omega
      have hsz := hbel.size
      have hbr : b < wr.heap.size := by omega
      have hb2r : b2 < wr.heap.size := by omega
      clear hc hc2 hc3 p1 p2 p3 p4 p5 m0
      go_wp2
      go_region_held3 (fun w' => w'.cell? ⟨b, off + k * 7, none⟩ = some (.int .i64 ((C k).x 0)) ∧ w'.cell? ⟨b, off + k * 7 + 1, none⟩ = some (.int .i64 ((C k).x 1)) ∧ w'.cell? ⟨b, off + k * 7 + 2, none⟩ = some (.int .i64 ((C k).x 2)) ∧ w'.cell? ⟨b, off + k * 7 + 3, none⟩ = some (.int .i64 ((C k).x 3)) ∧ w'.cell? ⟨b, off + k * 7 + 4, none⟩ = some (.int .i64 ((C k).x 4)) ∧ w'.cell? ⟨b, off + k * 7 + 5, none⟩ = some (.slice (C k).E (C k).n (C k).c) ∧ w'.cell? ⟨b, off + k * 7 + 6, none⟩ = some (.slice (C k).W (C k).N (C k).cw) ∧ w'.cell? ⟨b2, off2 + k * 7, none⟩ = some (.int .i64 ((C k).x 0)) ∧ w'.cell? ⟨b2, off2 + k * 7 + 1, none⟩ = some (.int .i64 ((C k).x 1)) ∧ w'.cell? ⟨b2, off2 + k * 7 + 2, none⟩ = some (.int .i64 ((C k).x 2)) ∧ w'.cell? ⟨b2, off2 + k * 7 + 3, none⟩ = some (.int .i64 ((C k).x 3)) ∧ w'.cell? ⟨b2, off2 + k * 7 + 4, none⟩ = some (.int .i64 ((C k).x 4)) ∧ w'.cell? ⟨b2, off2 + k * 7 + 5, none⟩ = some (.slice (C2 k).E (C k).n (C2 k).c) ∧ w'.cell? ⟨b2, off2 + k * 7 + 6, none⟩ = some (.slice (C2 k).W (C k).N (C2 k).cw)) ((first | (go_keep; done) | (go_simp; done))) ((go_at_call 29; refine (eqCabK_same ((C k).x 0) ((C k).x 1) ((C k).x 2) ((C k).x 3) ((C k).x 4) (C k).E (C k).n (C k).c (C k).es (C k).W (C k).N (C k).cw (C k).S (C2 k).E (C2 k).c (C2 k).W (C2 k).cw (C2 k).S _ m1 m2 m3 ((H.out.re k hlt).below (by (repeat (first | with_reducible exact Below.refl _ _ | with_reducible refine Below.drew ?_ | with_reducible refine below_drewN ?_ _ | (with_reducible refine bel_alloc ?_ ?_ _; (first | omega | (simp; omega) | simp)) | (with_reducible refine bel_set ?_ ?_ _; (first | omega | (simp; omega) | simp)) | (with_reducible refine bel_tr (by assumption) ?_ ?_; (first | omega | (simp; omega) | simp)))))) (re2.out.below (by (repeat (first | with_reducible exact Below.refl _ _ | with_reducible refine Below.drew ?_ | with_reducible refine below_drewN ?_ _ | (with_reducible refine bel_alloc ?_ ?_ _; (first | omega | (simp; omega) | simp)) | (with_reducible refine bel_set ?_ ?_ _; (first | omega | (simp; omega) | simp)) | (with_reducible refine bel_tr (by assumption) ?_ ?_; (first | omega | (simp; omega) | simp)))))) ((H.out.rw_ k hlt).below (by (repeat (first | with_reducible exact Below.refl _ _ | with_reducible refine Below.drew ?_ | with_reducible refine below_drewN ?_ _ | (with_reducible refine bel_alloc ?_ ?_ _; (first | omega | (simp; omega) | simp)) | (with_reducible refine bel_set ?_ ?_ _; (first | omega | (simp; omega) | simp)) | (with_reducible refine bel_tr (by assumption) ?_ ?_; (first | omega | (simp; omega) | simp)))))) (rw2.out.below (by (repeat (first | with_reducible exact Below.refl _ _ | with_reducible refine Below.drew ?_ | with_reducible refine below_drewN ?_ _ | (with_reducible refine bel_alloc ?_ ?_ _; (first | omega | (simp; omega) | simp)) | (with_reducible refine bel_set ?_ ?_ _; (first | omega | (simp; omega) | simp)) | (with_reducible refine bel_tr (by assumption) ?_ ?_; (first | omega | (simp; omega) | simp)))))) P5.out).mono ?_; rintro y w3 ⟨rfl, hb3⟩; have hbw : Below wr.heap.size wr w3 := (Below.drew (Below.refl _ wr)).trans hb3; clear hb3; have g0 := (hbw.cell (p := ⟨b, off + k * 7, none⟩) hbr).trans c0; have f0 := (hbw.cell (p := ⟨b2, off2 + k * 7, none⟩) hb2r).trans d0; have g1 := (hbw.cell (p := ⟨b, off + k * 7 + 1, none⟩) hbr).trans c1; have f1 := (hbw.cell (p := ⟨b2, off2 + k * 7 + 1, none⟩) hb2r).trans d1; have g2 := (hbw.cell (p := ⟨b, off + k * 7 + 2, none⟩) hbr).trans c2; have f2 := (hbw.cell (p := ⟨b2, off2 + k * 7 + 2, none⟩) hb2r).trans d2; have g3 := (hbw.cell (p := ⟨b, off + k * 7 + 3, none⟩) hbr).trans c3; have f3 := (hbw.cell (p := ⟨b2, off2 + k * 7 + 3, none⟩) hb2r).trans d3; have g4 := (hbw.cell (p := ⟨b, off + k * 7 + 4, none⟩) hbr).trans c4; have f4 := (hbw.cell (p := ⟨b2, off2 + k * 7 + 4, none⟩) hb2r).trans d4; have g5 := (hbw.cell (p := ⟨b, off + k * 7 + 5, none⟩) hbr).trans c5; have f5 := (hbw.cell (p := ⟨b2, off2 + k * 7 + 5, none⟩) hb2r).trans d5; have g6 := (hbw.cell (p := ⟨b, off + k * 7 + 6, none⟩) hbr).trans c6; have f6 := (hbw.cell (p := ⟨b2, off2 + k * 7 + 6, none⟩) hb2r).trans d6))
      go_wp2
      go_roundw
      case rel => exact ⟨k + 1, by omega, by go_num, hbel.trans (hbw.mono hsz)⟩
      case measure => simp [intOf]; omega
    · go_wp2
      go_ret
      exact ⟨rfl, hbel⟩
end Go.Proofs.Ytcicldcgibgnfaa
