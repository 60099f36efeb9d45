/-
  Contracts of the functions that copy, compare, mark and check wheels, that is slices of slices of pins. No conditions beyond those stated.
-/
import Derived.Test.YtjlmcppkafjniaaGreatW
import Derived.Test.YtjlmcppkafjniaaGreatQs
namespace Go.Proofs.YtjlmcppkafjniaaGreat
open Go.RowKit

set_option maxHeartbeats 1000000 in
theorem szPinSS_any (A : Option Addr) (N c : Nat) (S : Nat → Sp) (l : Int) (w : World) (hN : N ≤ 9223372036854775807) (h0 : 0 ≤ l) (h1 : l ≤ 1048576) (h : RdW w A N S) :
    Calls Tryz.prog 87 #[.slice A N c, .int .i64 l] w fun x w' => ∃ r : Int, x = .returned (.int .i64 r) ∧ w = w' ∧ (r < 0 ∨ 0 ≤ r ∧ (N : Int) + tot S N ≤ l) := by
  by_cases hl : (N : Int) ≤ l
  · go_enter Tryz.func87, Tryz.ntmps87
    go_wp2
    go_loop [1, 4, 5] (fun v q i => ∃ k : Nat, k ≤ N ∧ i = .int .i64 k ∧ q = .int .i64 0 ∧ v = .int .i64 (l - (N : Int) - tot S k) ∧ 0 ≤ l - (N : Int) - tot S k) (fun _ _ i => N - (intOf i).toNat)
    case atStart => exact ⟨0, Nat.zero_le _, rfl, rfl, by simp [tot], by simp [tot]; omega⟩
    case round =>
      obtain ⟨k, hk, rfl, rfl, rfl, hv⟩ := hrel
      by_cases hlt : k < N
      · obtain ⟨b, off, rfl⟩ := h.addr (by omega)
        have hb := h.lt (by omega)
        have c0 := h.cell hlt
        have hn := h.le k hlt
        obtain ⟨v, hv2⟩ : ∃ v : Int, v = l - (N : Int) - tot S k := ⟨_, rfl⟩
        rw [← hv2] at hv ⊢
        have hvl : v ≤ 1048576 := by omega
        have HV := Lib.hid hv2
        clear hv2 h
        go_wp2_with fail
        refine (szPinS_any (S k).A (S k).n (S k).c v w hn hv hvl).mono ?_
        by_cases hs : ((S k).n : Int) ≤ v
        · rw [if_pos hs]
          rintro x w2 ⟨rfl, rfl⟩
          have hs' : 0 ≤ v - ((S k).n : Int) := by omega
          go_wp2
          go_round
          case rel => exact ⟨k + 1, by omega, by go_num, rfl, by have := HV.out; simp only [tot]; go_num, by have := HV.out; simp only [tot]; go_num⟩
          case measure => simp [intOf]; omega
        · rw [if_neg hs]
          rintro x w2 ⟨rfl, rfl⟩
          go_wp2
          go_ret
          exact ⟨_, rfl, rfl, .inl (by omega)⟩
      · have hkn : k = N := by omega
        subst hkn
        go_wp2
        go_ret
        exact ⟨_, rfl, rfl, .inr ⟨hv, by omega⟩⟩
  · go_enter Tryz.func87, Tryz.ntmps87
    go_wp2
    go_ret
    exact ⟨_, rfl, rfl, .inl (by omega)⟩

set_option maxRecDepth 100000 in
set_option maxHeartbeats 1000000 in
theorem eqPinSS_same (A A2 : Option Addr) (N c c2 : Nat) (S S2 : Nat → Sp) (w : World) (hN : N ≤ 4194304) (hT : tot S N ≤ 4194304) (h : RdW w A N S) (h2 : RdW w A2 N S2) (hs : Sam N S S2) :
    Calls Tryz.prog 98 #[.slice A N c, .slice A2 N c2] w fun x w' => x = .returned (.bool true) ∧ Below w.heap.size w w' := by
  go_enter Tryz.func98, Tryz.ntmps98
  go_wp2
  go_loopw [5] (fun i wr => ∃ k : Nat, k ≤ N ∧ i = .int .i64 k ∧ Below w.heap.size w wr) (fun i _ => N - (intOf i).toNat)
  case atStart => exact ⟨0, Nat.zero_le _, rfl, Below.refl _ _⟩
  case round =>
    obtain ⟨k, hk, rfl, hbel⟩ := hrel
    by_cases hlt : k < N
    · have g1 := h.below hbel
      have g2 := h2.below hbel
      obtain ⟨b, off, rfl⟩ := h.addr (by omega)
      obtain ⟨b2, off2, rfl⟩ := h2.addr (by omega)
      have hbr := g1.lt (by omega)
      have hb2r := g2.lt (by omega)
      have c0 := g1.cell hlt
      have d0 := g2.cell hlt
      have htk := tot_one (S := S) hlt
      have r1 := g1.rd k hlt
      have r2 := g2.rd k hlt
      have hsk := hs k hlt
      rw [← hsk.1, ← hsk.2] at r2
      rw [← hsk.1] at d0
      have R1 : Hid (Rd wr.drew 2 (S k).A (S k).n (S k).es) := Lib.hid r1
      have R2 : Hid (Rd wr.drew 2 (S2 k).A (S k).n (S k).es) := Lib.hid r2
      have hsz := hbel.size
      clear r1 r2 g1 g2 h h2 hs hsk
      go_wp2
      go_region_held3 (fun w' => w'.cell? ⟨b, off + k, none⟩ = some (.slice (S k).A (S k).n (S k).c) ∧ w'.cell? ⟨b2, off2 + k, none⟩ = some (.slice (S2 k).A (S k).n (S2 k).c)) (go_keep) ((go_at_call 118; refine (eqPinS_same (S k).A (S2 k).A (S k).n (S k).c (S2 k).c (S k).es wr.drew (by omega) R1.out R2.out).mono ?_; rintro x w2 ⟨rfl, hbw⟩; have hcw0 := bcell hbw; obtain ⟨hcw, hfw⟩ := hcw0; have kcb : ∀ o, w2.cell? ⟨b, o, none⟩ = _ := (fun o => hbw.cell (p := ⟨b, o, none⟩) (by simpa using hbr)); have kcb2 : ∀ o, w2.cell? ⟨b2, o, none⟩ = _ := (fun o => hbw.cell (p := ⟨b2, o, none⟩) (by simpa using hb2r))))
      go_wp2
      go_roundw
      case rel => exact ⟨k + 1, by omega, by go_num, hbel.drew.trans (hbw.mono (by simpa using hsz))⟩
      case measure => simp [intOf]; omega
    · go_wp2
      go_ret
      exact ⟨rfl, hbel⟩

theorem toPinSS_info : (Tryz.prog.info? 85).map (fun i => (i.zero, i.size, i.bytes)) = some (some (.slice none 0 0), 1, 24) := by kernel_rfl
/-- A row of N spokes, the first k of them filled. -/
structure FillW (B g N : Nat) (W wr : World) (k : Nat) (S : Nat → Sp) : Prop where
  below : Below B W wr
  lt : g < wr.heap.size
  fz : ∀ o, wr.frozen? ⟨g, o, none⟩ = false
  done : ∀ i, i < k → wr.cell? ⟨g, i, none⟩ = some (S i).v
  room : ∀ o, o < N → (wr.cell? ⟨g, o, none⟩).isSome = true
  spk : Spk (g + 1) wr k S
theorem FillW.call {B g N k : Nat} {W wr w1 : World} {S : Nat → Sp} (h : FillW B g N W wr k S) (hB : B ≤ wr.heap.size) (hb : Below wr.heap.size wr w1) : FillW B g N W w1 k S :=
  ⟨h.below.trans (hb.mono hB), Nat.lt_of_lt_of_le h.lt hb.size, fun o => (hb.frozen (p := ⟨g, o, none⟩) h.lt).trans (h.fz o), fun i hi => (hb.cell (p := ⟨g, i, none⟩) h.lt).trans (h.done i hi), fun o ho => by rw [hb.cell (p := ⟨g, o, none⟩) h.lt]; exact h.room o ho, h.spk.below hb⟩
theorem FillW.set {B g N k m : Nat} {W w1 : World} {S : Nat → Sp} {s : Sp} (h : FillW B g N W w1 k S) (hg : B ≤ g) (hk : k < N) (hw : ∀ i, i < k → ∀ a, (S i).n ≠ 0 → (S i).A = some a → a.block < m) (ho : Own (g + 1) w1 2 s.A s.n s.es) (hc : s.n ≤ s.c ∧ s.c ≤ 9223372036854775807) (hm : ∀ a, s.n ≠ 0 → s.A = some a → m ≤ a.block) :
    FillW B g N W (w1.setCell ⟨g, k, none⟩ s.v) (k + 1) (fun i => if i < k then S i else s) := by
  have ho' : ∀ {i : Nat}, i < k → Own (g + 1) (w1.setCell ⟨g, k, none⟩ s.v) 2 (S i).A (S i).n (S i).es := fun {i} hi => (h.spk.own i hi).set_ (show g < g + 1 by omega) s.v
  refine ⟨h.below.setCell hg _, by simpa [World.setCell] using h.lt, fun o => (World.frozen?_setCell _ _ _ _).trans (h.fz o), fun i hi => ?_, fun o ho => ?_, h.spk.snoc hw (fun i hi => ho' hi) (ho.set_ (show g < g + 1 by omega) s.v) hc hm⟩
  · by_cases h1 : i < k
    · simp only [if_pos h1]
      exact (World.cell?_setCell_other (w := w1) (a := ⟨g, k, none⟩) (b := ⟨g, i, none⟩) (v := s.v) (by simp <;> omega)).trans (h.done i h1)
    · obtain rfl : i = k := by omega
      simp only [if_neg h1]
      exact World.cell?_setCell_same' _ _ _ (h.room i hk)
  · by_cases h1 : o = k
    · subst h1
      rw [World.cell?_setCell_same' _ _ _ (h.room o hk)]
      rfl
    · rw [World.cell?_setCell_other (w := w1) (a := ⟨g, k, none⟩) (b := ⟨g, o, none⟩) (v := s.v) (by simp <;> omega)]
      exact h.room o ho
theorem FillW.start {B g N : Nat} {W w w1 : World} {e : TypeId} {base : Nat} {xs : List Value} {S : Nat → Sp} (hW : Below B W w) (hB : B ≤ w.heap.size) (_hg : g = w.heap.size)
    (hown : w1.ownsRow base e 1 (.slice (some ⟨g, 0, none⟩) N N) N xs) (hgr : w.grownBy w1 none) : FillW B g N W w1 0 S := by
  obtain ⟨h1, h2⟩ := hown
  rcases h2 with ⟨h2, _⟩ | ⟨g', cap, cur, hv, _, hh, _, _, hsz, htk⟩
  · cases h2
  · injection hv with hv1 _ hv3
    injection hv1 with hv1
    injection hv1 with hv1
    subst hv1 hv3
    have hlt : g < w1.heap.size := (Array.getElem?_eq_some_iff.1 hh).1
    refine ⟨hW.grown hgr hB (fun k hk => by cases hk), hlt, fun o => frozen_of_heap hh, fun i hi => absurd hi (by omega), fun o ho => ?_, Spk.start _ _ _⟩
    rw [cell_of_heap hh, Array.getElem?_eq_getElem (by omega)]
    rfl
theorem FillW.own {B g N : Nat} {W w1 : World} {S : Nat → Sp} (h : FillW B g N W w1 N S) (hg : B ≤ g) : OwnW B w1.heap.size w1 (some ⟨g, 0, none⟩) N S := by
  have h1 : Spk B w1 N S := ⟨fun i hi => (h.spk.own i hi).mono (by omega), h.spk.cap, h.spk.apart⟩
  refine h1.ownW (.inr ⟨g, 0, rfl, h.lt, hg, h.fz, fun i hi => by rw [Nat.zero_add]; exact h.done i hi⟩) fun i hi h0 a b ha hb => ?_
  injection ha with ha
  subst ha
  obtain ⟨b', off', h3, _, h4, _⟩ := (h.spk.own i hi).2.resolve_left h0
  rw [hb] at h3
  injection h3 with h3
  subst h3
  show g ≠ b'
  omega

set_option maxRecDepth 100000 in
set_option maxHeartbeats 1000000 in
theorem toPinSS_any (A : Option Addr) (N c : Nat) (S : Nat → Sp) (w : World) (hN : N ≤ 1048576) (hT : tot S N ≤ 1048576) (h : RdW w A N S) :
    Calls Tryz.prog 96 #[.slice A N c] w fun x w' => ∃ A' S', x = .returned (.slice A' N N) ∧ OwnW w.heap.size w'.heap.size w' A' N S' ∧ Sam N S S' ∧ Below w.heap.size w w' := by
  obtain ⟨i0, hi0, hz0, hz1, hz2⟩ := info_parts toPinSS_info
  have hb0 : i0.bytes * N ≤ 281474976710656 := by rw [hz2]; omega
  go_enter Tryz.func96, Tryz.ntmps96
  go_wp2_with (at_make; refine wpList_make_full _ rfl _ _ 28 rfl w.heap.size 85 i0 _ 1 Tryz.underlying28 hi0 hz0 hz1 .i64 .i64 _ _ N rfl rfl rfl rfl hb0 (by unfold maxLen; omega) (by simp) ?_; intro w1 hown hgr)
  have hfill0 := FillW.start (g := w.heap.size) (S := S) (Below.refl w.heap.size w) (Nat.le_refl _) rfl hown hgr
  clear hown hgr hi0 hz0 hz1 hz2 hb0
  go_wp2
  go_loopw [4] (fun i wr => ∃ k : Nat, k ≤ N ∧ i = .int .i64 k ∧ ∃ S', FillW w.heap.size w.heap.size N w wr k S' ∧ Sam k S S') (fun i _ => N - (intOf i).toNat)
  case atStart => exact ⟨0, Nat.zero_le _, rfl, S, hfill0, Sam.refl _ _⟩
  case round =>
    obtain ⟨k, hk, rfl, S', hfill, hsam⟩ := hrel
    clear hfill0
    by_cases hlt : k < N
    · have hr := h.below hfill.below
      obtain ⟨b, off, rfl⟩ := h.addr (by omega)
      have hb := hr.lt (by omega)
      have c0 := hr.cell hlt
      have hrd := hr.rd k hlt
      have htk := tot_one (S := S) hlt
      have hcap := hr.cap k hlt
      clear h hr
      go_wp2_with fail
      refine (toPinS_n (S k).A (S k).n (S k).c (S k).es _ (by omega) hrd).mono ?_
      rintro x w2 ⟨A2, rfl, ho2, hb2⟩
      have hB := hfill.below.size
      have hfill1 := hfill.call hB hb2
      have hset := hfill1.set (s := ⟨A2, (S k).n, (S k).n, (S k).es⟩) (m := wr.heap.size) (Nat.le_refl _) hlt (fun i hi a h1 h2 => hfill.spk.blk hi a h1 h2) (ho2.mono (by have := hfill.lt; omega)) ⟨Nat.le_refl _, by show (S k).n ≤ _; omega⟩ (fun a h1 h2 => by
        have h2 : A2 = some a := h2
        obtain ⟨b', off', h3, _, h4, _⟩ := ho2.2.resolve_left h1
        rw [h2] at h3
        injection h3 with h3
        subst h3
        exact h4)
      obtain ⟨r0, q0⟩ := Option.isSome_iff_exists.1 (hfill1.room k (by omega))
      have z0 := hfill1.fz k
      have HS := Lib.hid hset
      have hsam2 : Hid (Sam (k + 1) S (fun i => if i < k then S' i else ⟨A2, (S k).n, (S k).n, (S k).es⟩)) := Lib.hid fun i hi => by
        by_cases h1 : i < k
        · simp only [if_pos h1]; exact hsam i h1
        · obtain rfl : i = k := by omega
          simp
      clear hfill hfill1 hb2 hset hsam ho2 hrd
      go_wp2
      go_roundw
      case rel => exact ⟨k + 1, by omega, by go_num, _, HS.out, hsam2.out⟩
      case measure => simp [intOf]; omega
    · have hkn : k = N := by omega
      subst hkn
      have hown := hfill.own (Nat.le_refl _)
      have hbel := hfill.below
      clear hfill
      go_wp2
      go_ret
      exact ⟨_, _, rfl, hown, hsam, hbel⟩

/-- What marking a wheel does: new blocks, and the wheel's own stretch of blocks. -/
def Mk (lo hi : Nat) (w w' : World) : Prop := ∃ w1, Below w.heap.size w w1 ∧ Btw lo hi w1 w'
section
variable {w w' : World} {lo hi lo' hi' B N : Nat} {A : Option Addr} {S : Nat → Sp}
theorem Mk.size (h : Mk lo hi w w') : w.heap.size ≤ w'.heap.size := by
  obtain ⟨w1, h1, h2⟩ := h
  rw [h2.size]
  exact h1.size
theorem Mk.cell (h : Mk lo hi w w') {p : Addr} (hp : p.block < w.heap.size) (hd : p.block < lo ∨ hi ≤ p.block) : w'.cell? p = w.cell? p := by
  obtain ⟨w1, h1, h2⟩ := h
  exact (World.cell?_of_block (h2.block _ hd)).trans (h1.cell hp)
theorem Mk.frozen (h : Mk lo hi w w') {p : Addr} (hp : p.block < w.heap.size) (hd : p.block < lo ∨ hi ≤ p.block) : w'.frozen? p = w.frozen? p := by
  obtain ⟨w1, h1, h2⟩ := h
  exact (World.frozen?_of_block (h2.block _ hd)).trans (h1.frozen hp)
theorem Mk.below (h : Mk lo hi w w') (hB : B ≤ lo) (hw : B ≤ w.heap.size) : Below B w w' := by
  obtain ⟨w1, h1, h2⟩ := h
  exact (h1.mono hw).trans (h2.below hB)
theorem OwnW.marked (h : OwnW lo' hi' w A N S) (hm : Mk lo hi w w') (hd : hi' ≤ lo ∨ hi ≤ lo') : OwnW lo' hi' w' A N S := by
  obtain ⟨w1, h1, h2⟩ := hm
  exact (h.below h1).btw h2 hd
end

set_option maxHeartbeats 1000000 in
theorem szWheel_any (A : Option Addr) (N c : Nat) (S : Nat → Sp) (l : Int) (w : World) (hN : N ≤ 9223372036854775807) (h0 : 0 ≤ l) (h1 : l ≤ 1048576) (h : RdW w A N S) :
    Calls Tryz.prog 47 #[.agg #[.slice A N c], .int .i64 l] w fun x w' => ∃ r : Int, x = .returned (.int .i64 r) ∧ Below w.heap.size w w' ∧ (r < 0 ∨ 0 ≤ r ∧ (N : Int) + tot S N ≤ l) := by
  have hb1 : Below w.heap.size w (w.alloc (.cells #[.slice A N c] 49)) := by (repeat (first | with_reducible exact Below.refl _ _ | with_reducible refine Below.drew ?_ | with_reducible refine below_drewN ?_ _ | (with_reducible refine bel_alloc ?_ ?_ _; (first | omega | (simp; omega) | simp)) | (with_reducible refine bel_set ?_ ?_ _; (first | omega | (simp; omega) | simp)) | (with_reducible refine bel_tr (by assumption) ?_ ?_; (first | omega | (simp; omega) | simp))))
  have H := Lib.hid (h.below hb1)
  clear h
  go_enter Tryz.func47, Tryz.ntmps47
  go_wp2_with fail
  refine (szPinSS_any A N c S l _ hN h0 h1 H.out).mono ?_
  rintro x w2 ⟨r, rfl, rfl, hr⟩
  by_cases hr0 : r < 0
  · go_wp2
    go_ret
    exact ⟨_, rfl, hb1, .inl (by omega)⟩
  · go_wp2
    go_ret
    exact ⟨_, rfl, hb1, by omega⟩

set_option maxHeartbeats 1000000 in
theorem eqWheel_same (A A2 : Option Addr) (N c c2 : Nat) (S S2 : Nat → Sp) (w : World) (hN : N ≤ 4194304) (hT : tot S N ≤ 4194304) (h : RdW w A N S) (h2 : RdW w A2 N S2) (hs : Sam N S S2) :
    Calls Tryz.prog 63 #[.agg #[.slice A N c], .agg #[.slice A2 N c2]] w fun x w' => x = .returned (.bool true) ∧ Below w.heap.size w w' := by
  have hb1 : Below w.heap.size w ((w.alloc (.cells #[.slice A N c] 30)).alloc (.cells #[.slice A2 N c2] 30)) := by (repeat (first | with_reducible exact Below.refl _ _ | with_reducible refine Below.drew ?_ | with_reducible refine below_drewN ?_ _ | (with_reducible refine bel_alloc ?_ ?_ _; (first | omega | (simp; omega) | simp)) | (with_reducible refine bel_set ?_ ?_ _; (first | omega | (simp; omega) | simp)) | (with_reducible refine bel_tr (by assumption) ?_ ?_; (first | omega | (simp; omega) | simp))))
  have H := Lib.hid (h.below hb1)
  have H2 := Lib.hid (h2.below hb1)
  clear h h2
  go_enter Tryz.func63, Tryz.ntmps63
  go_wp2_with fail
  refine (eqPinSS_same A A2 N c c2 S S2 _ hN hT H.out H2.out hs).mono ?_
  rintro x w2 ⟨rfl, hb2⟩
  go_wp2
  go_ret
  exact ⟨rfl, hb1.trans (hb2.mono (by simp; omega))⟩

set_option maxHeartbeats 1000000 in
theorem toWheel_any (A : Option Addr) (N c : Nat) (S : Nat → Sp) (w : World) (hN : N ≤ 1048576) (hT : tot S N ≤ 1048576) (h : RdW w A N S) :
    Calls Tryz.prog 58 #[.agg #[.slice A N c]] w fun x w' => ∃ A' S', x = .returned (.agg #[.slice A' N N]) ∧ OwnW w.heap.size w'.heap.size w' A' N S' ∧ Sam N S S' ∧ Below w.heap.size w w' := by
  have hb0 : Below w.heap.size w (((w.alloc (.cells #[.slice A N c] 49)).alloc (.cells #[.slice none 0 0] 30)).alloc (.cells #[.slice none 0 0] 30)) := by (repeat (first | with_reducible exact Below.refl _ _ | with_reducible refine Below.drew ?_ | with_reducible refine below_drewN ?_ _ | (with_reducible refine bel_alloc ?_ ?_ _; (first | omega | (simp; omega) | simp)) | (with_reducible refine bel_set ?_ ?_ _; (first | omega | (simp; omega) | simp)) | (with_reducible refine bel_tr (by assumption) ?_ ?_; (first | omega | (simp; omega) | simp))))
  have H := Lib.hid (h.below hb0)
  clear h
  go_enter Tryz.func58, Tryz.ntmps58
  go_wp2_with fail
  refine (toPinSS_any A N c S _ hN hT H.out).mono ?_
  rintro x w1 ⟨A', S', rfl, ho, hs, hb1⟩
  have bc1 := bcell hb1; obtain ⟨hc1, hf1⟩ := bc1; have ks1 := hb1.size; (try simp at ks1); have kc10 : ∀ o, w1.cell? ⟨w.heap.size, o, none⟩ = _ := (fun o => hb1.cell (p := ⟨w.heap.size, o, none⟩) (by (first | omega | (simp; omega) | simp))); have kf10 : ∀ o, w1.frozen? ⟨w.heap.size, o, none⟩ = _ := (fun o => hb1.frozen (p := ⟨w.heap.size, o, none⟩) (by (first | omega | (simp; omega) | simp))); have kc11 : ∀ o, w1.cell? ⟨w.heap.size + 1, o, none⟩ = _ := (fun o => hb1.cell (p := ⟨w.heap.size + 1, o, none⟩) (by (first | omega | (simp; omega) | simp))); have kf11 : ∀ o, w1.frozen? ⟨w.heap.size + 1, o, none⟩ = _ := (fun o => hb1.frozen (p := ⟨w.heap.size + 1, o, none⟩) (by (first | omega | (simp; omega) | simp))); have kc12 : ∀ o, w1.cell? ⟨w.heap.size + 1 + 1, o, none⟩ = _ := (fun o => hb1.cell (p := ⟨w.heap.size + 1 + 1, o, none⟩) (by (first | omega | (simp; omega) | simp))); have kf12 : ∀ o, w1.frozen? ⟨w.heap.size + 1 + 1, o, none⟩ = _ := (fun o => hb1.frozen (p := ⟨w.heap.size + 1 + 1, o, none⟩) (by (first | omega | (simp; omega) | simp))); have kz10 : w.heap.size < w1.heap.size := (by have hh := hb1.size; (try simp at hh); omega); have kz11 : w.heap.size + 1 < w1.heap.size := (by have hh := hb1.size; (try simp at hh); omega); have kz12 : w.heap.size + 1 + 1 < w1.heap.size := (by have hh := hb1.size; (try simp at hh); omega)
  have HO := Lib.hid ho
  clear ho
  go_wp2
  refine bodyPost_ret (v := .agg #[.slice A' N N]) (by simp only [results, Tryz.results58]; first | (go_simp; done) | (go_simp; omega)) rfl ⟨A', S', rfl, ?_, hs, ?_⟩
  · refine OwnW.wide (lo := _) (hi := _) (OwnW.set_ (OwnW.set_ HO.out (.inl ?_) _) (.inl ?_) _) ?_ ?_ ?_
    all_goals (first | omega | (simp; omega) | simp)
  · (repeat (first | with_reducible exact Below.refl _ _ | with_reducible refine Below.drew ?_ | with_reducible refine below_drewN ?_ _ | (with_reducible refine bel_alloc ?_ ?_ _; (first | omega | (simp; omega) | simp)) | (with_reducible refine bel_set ?_ ?_ _; (first | omega | (simp; omega) | simp)) | (with_reducible refine bel_tr (by assumption) ?_ ?_; (first | omega | (simp; omega) | simp))))
end Go.Proofs.YtjlmcppkafjniaaGreat
