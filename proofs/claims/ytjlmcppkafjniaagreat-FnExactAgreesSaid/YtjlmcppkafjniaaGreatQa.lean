/-
  Contracts of QueueAt of the program and of the reference. No conditions beyond those stated.
-/
import Derived.Test.YtjlmcppkafjniaaGreatAt
import Derived.Test.YtjlmcppkafjniaaGreatLed
import Derived.Test.YtjlmcppkafjniaaGreatEs
import Derived.Test.YtjlmcppkafjniaaGreatCut
namespace Go.Proofs.YtjlmcppkafjniaaGreat
open Go.RowKit

theorem Own.set_ne {B K n : Nat} {w : World} {A : Option Addr} {es : List (Nat → Int)} {p : Addr} (h : Own B w K A n es) (hne : ∀ a, n ≠ 0 → A = some a → a.block ≠ p.block) (v : Value) : Own B (w.setCell p v) K A n es := by
  refine ⟨h.1, ?_⟩
  rcases Nat.eq_zero_or_pos n with h0 | h0
  · exact .inl h0
  · obtain ⟨b, off, h1, h2, h3, h4, h5⟩ := h.2.resolve_left (by omega)
    have hb : b ≠ p.block := hne _ (by omega) h1
    have hh := Below.heap_setCell w p v b hb
    exact .inr ⟨b, off, h1, by simpa [World.setCell] using h2, h3, fun o => (World.frozen?_of_block (w := w) (w' := w.setCell p v) (a := ⟨b, o, none⟩) hh).trans (h4 o), fun i hi j hj => (World.cell?_of_block (w := w) (w' := w.setCell p v) (a := ⟨b, _, none⟩) hh).trans (h5 i hi j hj)⟩
theorem Sp.ownBlock_of {s : Sp} {a : Addr} (h : s.A = some a) : s.v.ownBlock = some a.block := by
  unfold Sp.v
  rw [h]
  rfl
theorem Sp.addr_of {s : Sp} {k : Nat} (h : s.v.ownBlock = some k) : ∃ a, s.A = some a ∧ a.block = k := by
  unfold Sp.v at h
  rcases hA : s.A with _ | a
  · rw [hA] at h; simp [Value.ownBlock] at h
  · rw [hA] at h
    exact ⟨a, rfl, by simpa [Value.ownBlock] using h⟩
def updS (S : Nat → Sp) (k : Nat) (s : Sp) (i : Nat) : Sp := if i = k then s else S i
theorem Gat.put {B N k c : Nat} {w w' : World} {A : Option Addr} {S : Nat → Sp} {s : Sp} (h : Gat B w (.slice A N c) N S) (hk : k < N) (hg : w.grownBy w' (S k).v.ownBlock) (ho : Own B w' 2 s.A s.n s.es)
    (hc : s.n ≤ s.c ∧ s.c ≤ 9223372036854775807) (hloc : ∀ a, s.n ≠ 0 → s.A = some a → (S k).v.ownBlock = some a.block ∨ w.heap.size ≤ a.block) :
    ∃ b, A = some ⟨b, 0, none⟩ ∧ b < w.heap.size ∧ B ≤ b ∧ (∃ u, w'.cell? ⟨b, k, none⟩ = some u) ∧ w'.frozen? ⟨b, k, none⟩ = false ∧ OwnW B w'.heap.size (w'.setCell ⟨b, k, none⟩ s.v) A N (updS S k s) := by
  have hN : 0 < N := by omega
  rcases h.row.2 with ⟨_, h0⟩ | ⟨b, cap, cur, hv, hgB, hh, hnc, hcm, hsz, htk⟩
  · omega
  injection hv with hv1 _ hv3
  have hbw : b < w.heap.size := (Array.getElem?_eq_some_iff.1 hh).1
  have hrow : ∀ i a, i < N → (S i).v.ownBlock = some a → a ≠ b := fun i a hi ha e => h.nr i a hi ha (by rw [hv1, e]; rfl)
  have hbk : some b ≠ (S k).v.ownBlock := fun e => hrow k b hk e.symm rfl
  have hh' : w'.heap[b]? = some (.cells cur 85 (0, 0)) := (hg.block b hbw hbk).trans hh
  have hcell : ∀ i, i < N → w'.cell? ⟨b, i, none⟩ = some (S i).v := fun i hi => by
    have h3 : ((List.range N).map fun i => (S i).v)[i]? = some (S i).v := by
      rw [List.getElem?_map, List.getElem?_range hi]
      rfl
    rw [← htk, List.getElem?_take, if_pos (by omega)] at h3
    rw [cell_of_heap hh']
    simpa using h3
  have hfz : ∀ o, w'.frozen? ⟨b, o, none⟩ = false := fun o => frozen_of_heap hh'
  have hoth : ∀ i, i < N → i ≠ k → Own B w' 2 (S i).A (S i).n (S i).es := fun i hi hik => by
    obtain ⟨h1, h2⟩ := h.own i hi
    obtain ⟨A', c', he, ho'⟩ := own_of_row h2 (row_grown h1 hg fun a ha e => h.apart i k a a hi hk hik ha e.symm rfl)
    have e1 : (S i).A = A' := by injection he
    rw [e1]
    exact ho'
  have hne : ∀ i, i < N → ∀ a, (updS S k s i).n ≠ 0 → (updS S k s i).A = some a → a.block ≠ b := fun i hi a h0 ha => by
    unfold updS at h0 ha
    by_cases hik : i = k
    · rw [if_pos hik] at h0 ha
      rcases hloc a h0 ha with h1 | h1
      · exact hrow k _ hk h1
      · omega
    · rw [if_neg hik] at h0 ha
      exact hrow i _ hi (Sp.ownBlock_of ha)
  refine ⟨b, hv1, hbw, hgB, ⟨_, hcell k hk⟩, hfz k, ?_⟩
  have hspk : Spk B (w'.setCell ⟨b, k, none⟩ s.v) N (updS S k s) := by
    refine ⟨fun i hi => ?_, fun i hi => ?_, fun i j hi hj hij h1 h2 a a2 ha ha2 => ?_⟩
    · refine Own.set_ne ?_ (hne i hi) _
      unfold updS
      by_cases hik : i = k
      · rw [if_pos hik]; exact ho
      · rw [if_neg hik]; exact hoth i hi hik
    · unfold updS
      by_cases hik : i = k
      · rw [if_pos hik]; exact hc
      · rw [if_neg hik]
        obtain ⟨h1, h2⟩ := h.own i hi
        obtain ⟨A', c', he, h3, h4⟩ := slice_of_row h1
        injection he with _ _ e3
        rw [e3]
        exact ⟨h3, h4⟩
    · unfold updS at h1 h2 ha ha2
      by_cases hik : i = k <;> by_cases hjk : j = k
      · omega
      · rw [if_pos hik] at h1 ha
        rw [if_neg hjk] at h2 ha2
        rcases hloc a h1 ha with h5 | h5
        · exact h.apart k j a.block a2.block hk hj (by omega) h5 (Sp.ownBlock_of ha2)
        · have := row_lt (h.own j hj).1 _ (Sp.ownBlock_of ha2)
          omega
      · rw [if_neg hik] at h1 ha
        rw [if_pos hjk] at h2 ha2
        rcases hloc a2 h2 ha2 with h5 | h5
        · exact h.apart i k a.block a2.block hi hk hik (Sp.ownBlock_of ha) h5
        · have := row_lt (h.own i hi).1 _ (Sp.ownBlock_of ha)
          omega
      · rw [if_neg hik] at h1 ha
        rw [if_neg hjk] at h2 ha2
        exact h.apart i j a.block a2.block hi hj hij (Sp.ownBlock_of ha) (Sp.ownBlock_of ha2)
  have hfin := hspk.ownW (A := A) (.inr ⟨b, 0, hv1, by simp [World.setCell]; have := hg.size; omega, hgB, fun o => (World.frozen?_setCell _ _ _ _).trans (hfz o), fun i hi => ?_⟩) fun i hi h0 a a2 ha ha2 => ?_
  · have e : (w'.setCell ⟨b, k, none⟩ s.v).heap.size = w'.heap.size := by simp [World.setCell]
    rw [e] at hfin
    exact hfin
  · rw [Nat.zero_add]
    unfold updS
    by_cases hik : i = k
    · rw [if_pos hik, hik]
      exact World.cell?_setCell_same' _ _ _ (by rw [hcell k hk]; rfl)
    · rw [if_neg hik]
      exact (World.cell?_setCell_other (w := w') (a := ⟨b, k, none⟩) (b := ⟨b, i, none⟩) (v := s.v) (by simp <;> omega)).trans (hcell i hi)
  · rw [hv1] at ha
    injection ha with ha
    subst ha
    exact fun e => hne i hi a2 h0 ha2 e.symm

/-- Element i is the pin p. -/
def isP (es : List (Nat → Int)) (p : Nat → Int) (i : Nat) : Bool := decide (fld es i 0 = p 0 ∧ fld es i 1 = p 1)

end Go.Proofs.YtjlmcppkafjniaaGreat


namespace Go.Proofs.YtjlmcppkafjniaaGreat
open Go.RowKit

theorem setc_lo {lo hi N : Nat} {w : World} {A : Option Addr} {S : Nat → Sp} {p : Addr} {v : Value} (hp : p.block < lo) (h : OwnW lo hi w A N S) : OwnW lo hi (w.setCell p v) A N S := h.set_ (.inl hp) v

set_option maxRecDepth 100000 in
set_option maxHeartbeats 2000000 in
theorem szCabin_le (x0 x1 x2 x3 x4 : Int) (AE : Option Addr) (n c : Nat) (es : List (Nat → Int)) (A : Option Addr) (N cw : Nat) (S : Nat → Sp) (l : Int) (w : World) (hn : n ≤ 9223372036854775807) (hN : N ≤ 9223372036854775807) (h0 : 0 ≤ l) (h1 : l ≤ 1048576) (h : RdW w A N S) :
    Calls Tryz.prog 14 #[.agg #[.int .i64 x0, .int .i64 x1, .int .i64 x2, .int .i64 x3, .int .i64 x4, .slice AE n c, .slice A N cw], .int .i64 l] w fun x w' => ∃ r : Int, x = .returned (.int .i64 r) ∧ Below w.heap.size w w' ∧ (r < 0 ∨ 0 ≤ r ∧ (n : Int) ≤ l ∧ (N : Int) + tot S N ≤ l ∧ r ≤ l) := by
  have H := Lib.hid h
  clear h
  go_enter Tryz.func14, Tryz.ntmps14
  go_wp2_with fail
  refine (szEntryS_any AE n c l _ hn h0 h1).mono ?_
  by_cases hnl : (n : Int) ≤ l
  · rw [if_pos hnl]
    rintro y w1 ⟨rfl, rfl⟩
    have e0 : ¬ l - (n : Int) < 0 := by omega
    have e1 : 0 ≤ l - (n : Int) := by omega
    have e2 : l - (n : Int) ≤ 1048576 := by omega
    go_wp2_with fail
    refine (szWheel_le A N cw S (l - n) _ hN e1 e2 (H.out.below (by (repeat (first | with_reducible exact Below.refl _ _ | with_reducible refine Below.drew ?_ | with_reducible refine below_drewN ?_ _ | (with_reducible refine bel_alloc ?_ ?_ _; (first | omega | (simp; omega) | simp)) | (with_reducible refine bel_set ?_ ?_ _; (first | omega | (simp; omega) | simp)) | (with_reducible refine bel_tr (by assumption) ?_ ?_; (first | omega | (simp; omega) | simp))))))).mono ?_
    rintro y w2 ⟨r, rfl, hb2, hr⟩
    rcases hr with hr | ⟨hr, hs, hr2⟩
    · go_wp2
      go_ret
      exact ⟨_, rfl, by (repeat (first | with_reducible exact Below.refl _ _ | with_reducible refine Below.drew ?_ | with_reducible refine below_drewN ?_ _ | (with_reducible refine bel_alloc ?_ ?_ _; (first | omega | (simp; omega) | simp)) | (with_reducible refine bel_set ?_ ?_ _; (first | omega | (simp; omega) | simp)) | (with_reducible refine bel_tr (by assumption) ?_ ?_; (first | omega | (simp; omega) | simp)))), .inl (by omega)⟩
    · have hrn : ¬ r < 0 := by omega
      go_wp2
      go_ret
      exact ⟨_, rfl, by (repeat (first | with_reducible exact Below.refl _ _ | with_reducible refine Below.drew ?_ | with_reducible refine below_drewN ?_ _ | (with_reducible refine bel_alloc ?_ ?_ _; (first | omega | (simp; omega) | simp)) | (with_reducible refine bel_set ?_ ?_ _; (first | omega | (simp; omega) | simp)) | (with_reducible refine bel_tr (by assumption) ?_ ?_; (first | omega | (simp; omega) | simp)))), .inr ⟨by omega, by omega, by omega, by omega⟩⟩
  · rw [if_neg hnl]
    rintro y w1 ⟨rfl, rfl⟩
    go_wp2
    go_ret
    exact ⟨_, rfl, by (repeat (first | with_reducible exact Below.refl _ _ | with_reducible refine Below.drew ?_ | with_reducible refine below_drewN ?_ _ | (with_reducible refine bel_alloc ?_ ?_ _; (first | omega | (simp; omega) | simp)) | (with_reducible refine bel_set ?_ ?_ _; (first | omega | (simp; omega) | simp)) | (with_reducible refine bel_tr (by assumption) ?_ ?_; (first | omega | (simp; omega) | simp)))), .inl (by omega)⟩

set_option maxRecDepth 100000 in
set_option maxHeartbeats 4000000 in
theorem toCabin_any (x0 x1 x2 x3 x4 : Int) (AE : Option Addr) (n c : Nat) (es : List (Nat → Int)) (A : Option Addr) (N cw : Nat) (S : Nat → Sp) (w : World) (hn : n ≤ 1048576) (hN : N ≤ 1048576) (hT : tot S N ≤ 1048576) (hE : Rd w 4 AE n es) (h : RdW w A N S) :
    Calls Tryz.prog 18 #[.agg #[.int .i64 x0, .int .i64 x1, .int .i64 x2, .int .i64 x3, .int .i64 x4, .slice AE n c, .slice A N cw]] w fun x w' => ∃ AE' A' S', x = .returned (.agg #[.int .i64 x0, .int .i64 x1, .int .i64 x2, .int .i64 x3, .int .i64 x4, .slice AE' n n, .slice A' N N]) ∧ Own w.heap.size w' 4 AE' n es ∧ OwnW w.heap.size w'.heap.size w' A' N S' ∧ Sam N S S' ∧ Below w.heap.size w w' := by
  have H := Lib.hid h
  have HE := Lib.hid hE
  clear h hE
  go_enter Tryz.func18, Tryz.ntmps18
  go_wp2_with fail
  refine (toLedger_any x0 x1 x2 x3 x4 _).mono ?_
  rintro y w1 ⟨rfl, hb1⟩
  have bc1 := bcell hb1; obtain ⟨hc1, hf1⟩ := bc1; have ks1 := hb1.size; (try simp at ks1); have kc10 : ∀ o, w1.cell? ⟨w.heap.size, o, none⟩ = _ := (fun o => hb1.cell (p := ⟨w.heap.size, o, none⟩) (by (first | omega | (simp; omega) | simp))); have kf10 : ∀ o, w1.frozen? ⟨w.heap.size, o, none⟩ = _ := (fun o => hb1.frozen (p := ⟨w.heap.size, o, none⟩) (by (first | omega | (simp; omega) | simp))); have kc11 : ∀ o, w1.cell? ⟨w.heap.size + 1, o, none⟩ = _ := (fun o => hb1.cell (p := ⟨w.heap.size + 1, o, none⟩) (by (first | omega | (simp; omega) | simp))); have kf11 : ∀ o, w1.frozen? ⟨w.heap.size + 1, o, none⟩ = _ := (fun o => hb1.frozen (p := ⟨w.heap.size + 1, o, none⟩) (by (first | omega | (simp; omega) | simp))); have kc12 : ∀ o, w1.cell? ⟨w.heap.size + 1 + 1, o, none⟩ = _ := (fun o => hb1.cell (p := ⟨w.heap.size + 1 + 1, o, none⟩) (by (first | omega | (simp; omega) | simp))); have kf12 : ∀ o, w1.frozen? ⟨w.heap.size + 1 + 1, o, none⟩ = _ := (fun o => hb1.frozen (p := ⟨w.heap.size + 1 + 1, o, none⟩) (by (first | omega | (simp; omega) | simp))); have kz10 : w.heap.size < w1.heap.size := (by have hh := hb1.size; (try simp at hh); omega); have kz11 : w.heap.size + 1 < w1.heap.size := (by have hh := hb1.size; (try simp at hh); omega); have kz12 : w.heap.size + 1 + 1 < w1.heap.size := (by have hh := hb1.size; (try simp at hh); omega)
  go_wp2_with fail
  refine (toEntryS_n AE n c es _ hn (HE.out.below (by (repeat (first | with_reducible exact Below.refl _ _ | with_reducible refine Below.drew ?_ | with_reducible refine below_drewN ?_ _ | (with_reducible refine bel_alloc ?_ ?_ _; (first | omega | (simp; omega) | simp)) | (with_reducible refine bel_set ?_ ?_ _; (first | omega | (simp; omega) | simp)) | (with_reducible refine bel_tr (by assumption) ?_ ?_; (first | omega | (simp; omega) | simp))))))).mono ?_
  rintro y w2 ⟨AE2, rfl, o2, hb2⟩
  have bc2 := bcell hb2; obtain ⟨hc2, hf2⟩ := bc2; have ks2 := hb2.size; (try simp at ks2); have kc20 : ∀ o, w2.cell? ⟨w.heap.size, o, none⟩ = _ := (fun o => hb2.cell (p := ⟨w.heap.size, o, none⟩) (by (first | omega | (simp; omega) | simp))); have kf20 : ∀ o, w2.frozen? ⟨w.heap.size, o, none⟩ = _ := (fun o => hb2.frozen (p := ⟨w.heap.size, o, none⟩) (by (first | omega | (simp; omega) | simp))); have kc21 : ∀ o, w2.cell? ⟨w.heap.size + 1, o, none⟩ = _ := (fun o => hb2.cell (p := ⟨w.heap.size + 1, o, none⟩) (by (first | omega | (simp; omega) | simp))); have kf21 : ∀ o, w2.frozen? ⟨w.heap.size + 1, o, none⟩ = _ := (fun o => hb2.frozen (p := ⟨w.heap.size + 1, o, none⟩) (by (first | omega | (simp; omega) | simp))); have kc22 : ∀ o, w2.cell? ⟨w.heap.size + 1 + 1, o, none⟩ = _ := (fun o => hb2.cell (p := ⟨w.heap.size + 1 + 1, o, none⟩) (by (first | omega | (simp; omega) | simp))); have kf22 : ∀ o, w2.frozen? ⟨w.heap.size + 1 + 1, o, none⟩ = _ := (fun o => hb2.frozen (p := ⟨w.heap.size + 1 + 1, o, none⟩) (by (first | omega | (simp; omega) | simp))); have kz20 : w.heap.size < w2.heap.size := (by have hh := hb2.size; (try simp at hh); omega); have kz21 : w.heap.size + 1 < w2.heap.size := (by have hh := hb2.size; (try simp at hh); omega); have kz22 : w.heap.size + 1 + 1 < w2.heap.size := (by have hh := hb2.size; (try simp at hh); omega)
  have O2 := Lib.hid o2
  clear o2
  go_wp2_with fail
  refine (toWheel_any A N cw S _ hN hT (H.out.below (by (repeat (first | with_reducible exact Below.refl _ _ | with_reducible refine Below.drew ?_ | with_reducible refine below_drewN ?_ _ | (with_reducible refine bel_alloc ?_ ?_ _; (first | omega | (simp; omega) | simp)) | (with_reducible refine bel_set ?_ ?_ _; (first | omega | (simp; omega) | simp)) | (with_reducible refine bel_tr (by assumption) ?_ ?_; (first | omega | (simp; omega) | simp))))))).mono ?_
  rintro y w3 ⟨A3, S3, rfl, o3, m3, hb3⟩
  have bc3 := bcell hb3; obtain ⟨hc3, hf3⟩ := bc3; have ks3 := hb3.size; (try simp at ks3); have kc30 : ∀ o, w3.cell? ⟨w.heap.size, o, none⟩ = _ := (fun o => hb3.cell (p := ⟨w.heap.size, o, none⟩) (by (first | omega | (simp; omega) | simp))); have kf30 : ∀ o, w3.frozen? ⟨w.heap.size, o, none⟩ = _ := (fun o => hb3.frozen (p := ⟨w.heap.size, o, none⟩) (by (first | omega | (simp; omega) | simp))); have kc31 : ∀ o, w3.cell? ⟨w.heap.size + 1, o, none⟩ = _ := (fun o => hb3.cell (p := ⟨w.heap.size + 1, o, none⟩) (by (first | omega | (simp; omega) | simp))); have kf31 : ∀ o, w3.frozen? ⟨w.heap.size + 1, o, none⟩ = _ := (fun o => hb3.frozen (p := ⟨w.heap.size + 1, o, none⟩) (by (first | omega | (simp; omega) | simp))); have kc32 : ∀ o, w3.cell? ⟨w.heap.size + 1 + 1, o, none⟩ = _ := (fun o => hb3.cell (p := ⟨w.heap.size + 1 + 1, o, none⟩) (by (first | omega | (simp; omega) | simp))); have kf32 : ∀ o, w3.frozen? ⟨w.heap.size + 1 + 1, o, none⟩ = _ := (fun o => hb3.frozen (p := ⟨w.heap.size + 1 + 1, o, none⟩) (by (first | omega | (simp; omega) | simp))); have kz30 : w.heap.size < w3.heap.size := (by have hh := hb3.size; (try simp at hh); omega); have kz31 : w.heap.size + 1 < w3.heap.size := (by have hh := hb3.size; (try simp at hh); omega); have kz32 : w.heap.size + 1 + 1 < w3.heap.size := (by have hh := hb3.size; (try simp at hh); omega)
  have O3 := Lib.hid o3
  have M3 := Lib.hid m3
  clear o3 m3
  go_wp2
  refine bodyPost_ret (v := .agg #[.int .i64 x0, .int .i64 x1, .int .i64 x2, .int .i64 x3, .int .i64 x4, .slice AE2 n n, .slice A3 N N]) (by simp only [results, Tryz.results18]; first | (go_simp; done) | (go_simp; omega)) rfl ⟨AE2, A3, S3, rfl, ?_, ?_, M3.out, ?_⟩
  · refine Own.mono (B := w.heap.size + 3) ?_ (by omega)
    have h1 : Own (w.heap.size + 3) w2 4 AE2 n es := O2.out.mono (by (first | omega | (simp; omega) | simp))
    have h0 : Own (w.heap.size + 3) w3 4 AE2 n es := by
      refine Own.below ?_ hb3
      (repeat (first | with_reducible exact h1 | (with_reducible refine Own.set_ ?_ ?_ _; (first | omega | (simp; omega) | simp))))
    (repeat (first | with_reducible exact h0 | (with_reducible refine Own.set_ ?_ ?_ _; (first | omega | (simp; omega) | simp))))
  · refine OwnW.wide (lo := w.heap.size + 3) (hi := w3.heap.size) ?_ (by (first | omega | (simp; omega) | simp)) (by (first | omega | (simp; omega) | simp)) (by (first | omega | (simp; omega) | simp))
    have h0 : OwnW (w.heap.size + 3) w3.heap.size w3 A3 N S3 := O3.out.wide (by (first | omega | (simp; omega) | simp)) (Nat.le_refl _) (Nat.le_refl _)
    (repeat (first | with_reducible exact h0 | (with_reducible refine setc_lo ?_ ?_; ((first | omega | (simp; omega) | simp)))))
  · (repeat (first | with_reducible exact Below.refl _ _ | with_reducible refine Below.drew ?_ | with_reducible refine below_drewN ?_ _ | (with_reducible refine bel_alloc ?_ ?_ _; (first | omega | (simp; omega) | simp)) | (with_reducible refine bel_set ?_ ?_ _; (first | omega | (simp; omega) | simp)) | (with_reducible refine bel_tr (by assumption) ?_ ?_; (first | omega | (simp; omega) | simp))))

set_option maxRecDepth 100000 in
set_option maxHeartbeats 2000000 in
theorem eqCabK_same (x0 x1 x2 x3 x4 : Int) (AE : Option Addr) (n c : Nat) (es : List (Nat → Int)) (A : Option Addr) (N cw : Nat) (S : Nat → Sp) (BE : Option Addr) (c2 : Nat) (B : Option Addr) (cw2 : Nat) (S2 : Nat → Sp) (w : World) (hn : n ≤ 4194304) (hN : N ≤ 4194304) (hT : tot S N ≤ 4194304) (hE : Rd w 4 AE n es) (hE2 : Rd w 4 BE n es) (h : RdW w A N S) (h2 : RdW w B N S2) (hs : Sam N S S2) :
    Calls Tryz.prog 21 #[.agg #[.int .i64 x0, .int .i64 x1, .int .i64 x2, .int .i64 x3, .int .i64 x4, .slice AE n c, .slice A N cw], .agg #[.int .i64 x0, .int .i64 x1, .int .i64 x2, .int .i64 x3, .int .i64 x4, .slice BE n c2, .slice B N cw2]] w fun x w' => x = .returned (.bool true) ∧ Below w.heap.size w w' := by
  have H := Lib.hid h
  have H2 := Lib.hid h2
  have HE := Lib.hid hE
  have HE2 := Lib.hid hE2
  clear h h2 hE hE2
  go_enter Tryz.func21, Tryz.ntmps21
  go_wp2_with fail
  refine (eqLedger_any x0 x1 x2 x3 x4 _).mono ?_
  rintro y w1 ⟨rfl, hb1⟩
  have bc1 := bcell hb1; obtain ⟨hc1, hf1⟩ := bc1; have ks1 := hb1.size; (try simp at ks1); have kc10 : ∀ o, w1.cell? ⟨w.heap.size, o, none⟩ = _ := (fun o => hb1.cell (p := ⟨w.heap.size, o, none⟩) (by (first | omega | (simp; omega) | simp))); have kf10 : ∀ o, w1.frozen? ⟨w.heap.size, o, none⟩ = _ := (fun o => hb1.frozen (p := ⟨w.heap.size, o, none⟩) (by (first | omega | (simp; omega) | simp))); have kc11 : ∀ o, w1.cell? ⟨w.heap.size + 1, o, none⟩ = _ := (fun o => hb1.cell (p := ⟨w.heap.size + 1, o, none⟩) (by (first | omega | (simp; omega) | simp))); have kf11 : ∀ o, w1.frozen? ⟨w.heap.size + 1, o, none⟩ = _ := (fun o => hb1.frozen (p := ⟨w.heap.size + 1, o, none⟩) (by (first | omega | (simp; omega) | simp))); have kz10 : w.heap.size < w1.heap.size := (by have hh := hb1.size; (try simp at hh); omega); have kz11 : w.heap.size + 1 < w1.heap.size := (by have hh := hb1.size; (try simp at hh); omega)
  go_wp2_with fail
  refine (eqEntryS_same AE BE n c c2 es _ hn (HE.out.below (by (repeat (first | with_reducible exact Below.refl _ _ | with_reducible refine Below.drew ?_ | with_reducible refine below_drewN ?_ _ | (with_reducible refine bel_alloc ?_ ?_ _; (first | omega | (simp; omega) | simp)) | (with_reducible refine bel_set ?_ ?_ _; (first | omega | (simp; omega) | simp)) | (with_reducible refine bel_tr (by assumption) ?_ ?_; (first | omega | (simp; omega) | simp)))))) (HE2.out.below (by (repeat (first | with_reducible exact Below.refl _ _ | with_reducible refine Below.drew ?_ | with_reducible refine below_drewN ?_ _ | (with_reducible refine bel_alloc ?_ ?_ _; (first | omega | (simp; omega) | simp)) | (with_reducible refine bel_set ?_ ?_ _; (first | omega | (simp; omega) | simp)) | (with_reducible refine bel_tr (by assumption) ?_ ?_; (first | omega | (simp; omega) | simp))))))).mono ?_
  rintro y w2 ⟨rfl, hb2⟩
  have bc2 := bcell hb2; obtain ⟨hc2, hf2⟩ := bc2; have ks2 := hb2.size; (try simp at ks2); have kc20 : ∀ o, w2.cell? ⟨w.heap.size, o, none⟩ = _ := (fun o => hb2.cell (p := ⟨w.heap.size, o, none⟩) (by (first | omega | (simp; omega) | simp))); have kf20 : ∀ o, w2.frozen? ⟨w.heap.size, o, none⟩ = _ := (fun o => hb2.frozen (p := ⟨w.heap.size, o, none⟩) (by (first | omega | (simp; omega) | simp))); have kc21 : ∀ o, w2.cell? ⟨w.heap.size + 1, o, none⟩ = _ := (fun o => hb2.cell (p := ⟨w.heap.size + 1, o, none⟩) (by (first | omega | (simp; omega) | simp))); have kf21 : ∀ o, w2.frozen? ⟨w.heap.size + 1, o, none⟩ = _ := (fun o => hb2.frozen (p := ⟨w.heap.size + 1, o, none⟩) (by (first | omega | (simp; omega) | simp))); have kz20 : w.heap.size < w2.heap.size := (by have hh := hb2.size; (try simp at hh); omega); have kz21 : w.heap.size + 1 < w2.heap.size := (by have hh := hb2.size; (try simp at hh); omega)
  go_wp2_with fail
  refine (eqWheel_same A B N cw cw2 S S2 _ hN hT (H.out.below (by (repeat (first | with_reducible exact Below.refl _ _ | with_reducible refine Below.drew ?_ | with_reducible refine below_drewN ?_ _ | (with_reducible refine bel_alloc ?_ ?_ _; (first | omega | (simp; omega) | simp)) | (with_reducible refine bel_set ?_ ?_ _; (first | omega | (simp; omega) | simp)) | (with_reducible refine bel_tr (by assumption) ?_ ?_; (first | omega | (simp; omega) | simp)))))) (H2.out.below (by (repeat (first | with_reducible exact Below.refl _ _ | with_reducible refine Below.drew ?_ | with_reducible refine below_drewN ?_ _ | (with_reducible refine bel_alloc ?_ ?_ _; (first | omega | (simp; omega) | simp)) | (with_reducible refine bel_set ?_ ?_ _; (first | omega | (simp; omega) | simp)) | (with_reducible refine bel_tr (by assumption) ?_ ?_; (first | omega | (simp; omega) | simp)))))) hs).mono ?_
  rintro y w3 ⟨rfl, hb3⟩
  go_wp2
  go_ret
  exact ⟨rfl, by (repeat (first | with_reducible exact Below.refl _ _ | with_reducible refine Below.drew ?_ | with_reducible refine below_drewN ?_ _ | (with_reducible refine bel_alloc ?_ ?_ _; (first | omega | (simp; omega) | simp)) | (with_reducible refine bel_set ?_ ?_ _; (first | omega | (simp; omega) | simp)) | (with_reducible refine bel_tr (by assumption) ?_ ?_; (first | omega | (simp; omega) | simp))))⟩
end Go.Proofs.YtjlmcppkafjniaaGreat

namespace Go.Proofs.YtjlmcppkafjniaaGreat
open Go.RowKit

/-- Element i has this Id. -/
def hasId (es : List (Nat → Int)) (id : Int) (i : Nat) : Bool := fld es i 2 == id

set_option maxHeartbeats 400000 in
theorem sQueueAt_any (A : Option Addr) (n c : Nat) (id : Int) (es : List (Nat → Int)) (w : World) (hn : n ≤ 4194304) (h : Rd w 4 A n es) :
    Calls Tryz.prog 113 #[.slice A n c, .int .i64 id] w (IntP (FirstAt (hasId es id) n) w) := by
  have hcases := h.2
  clear h
  go_enter Tryz.func113, Tryz.ntmps113
  go_wp2
  go_loop [5] (fun i => ∃ k : Nat, k ≤ n ∧ i = .int .i64 k ∧ Hid (∀ i, i < k → hasId es id i = false)) (fun i => n - (intOf i).toNat)
  case atStart => exact ⟨0, Nat.zero_le _, rfl, fun i hi => absurd hi (by omega)⟩
  case round =>
    obtain ⟨k, hk, rfl, hno⟩ := hrel
    by_cases hlt : k < n
    · obtain ⟨b, off, rfl, hb, hc⟩ := hcases.resolve_left (by omega)
      have c2 := hc k hlt 2 (by omega)
      clear hcases hc
      rcases Bool.eq_false_or_eq_true (fld es k 2 == id) with hp | hp
      · go_wp2
        go_ret
        exact ⟨k, .inl ⟨k, hlt, rfl, hp, hno.out⟩, rfl, Below.refl _ _⟩
      · have hno' : Hid (∀ i, i < k + 1 → hasId es id i = false) := fun i hi => by
          rcases Nat.lt_or_ge i k with h | h
          · exact hno.out i h
          · obtain rfl : i = k := by omega
            exact hp
        clear hno
        go_wp2
        go_round
        case rel => exact ⟨k + 1, by omega, by go_num, hno'⟩
        case measure => simp [intOf]; omega
    · have hkn : k = n := by omega
      subst hkn
      go_wp2
      go_ret
      exact ⟨-1, .inr ⟨rfl, hno.out⟩, rfl, Below.refl _ _⟩

set_option maxHeartbeats 1000000 in
theorem indexFunc_at (p0 : Nat) (p : (Nat → Int) → Bool) (A : Option Addr) (n c : Nat) (es : List (Nat → Int)) (w : World) (hn : n ≤ 4194304) (h : Rd w 4 A n es)
    (hp : ∀ (w1 : World) (e : Nat → Int), Below w.heap.size w w1 → Calls Tryz.prog 103 #[.agg #[.int .i64 (e 0), .int .i64 (e 1), .int .i64 (e 2), .int .i64 (e 3)], .pointer (some ⟨p0, 0, none⟩)] w1 fun x w' => x = .returned (.bool (p e)) ∧ Below w1.heap.size w1 w') :
    Calls Tryz.prog 102 #[.slice A n c, .func (.func 103) #[] #[.pointer (some ⟨p0, 0, none⟩)]] w (IntP (FirstAt (fun i => p (fld es i)) n) w) := by
  have hcases := h.2
  have HP := Lib.hid hp
  clear h hp
  go_enter Tryz.func102, Tryz.ntmps102
  go_wp2
  go_loopw [5, 8] (fun j i wr => ∃ k : Nat, k ≤ n ∧ i = .int .i64 k ∧ Below w.heap.size w wr ∧ Hid (∀ i, i < k → p (fld es i) = false)) (fun _ i _ => n - (intOf i).toNat)
  case atStart => exact ⟨0, Nat.zero_le _, rfl, Below.refl _ _, fun i hi => absurd hi (by omega)⟩
  case round =>
    obtain ⟨k, hk, rfl, hbel, hno⟩ := hrel
    by_cases hlt : k < n
    · obtain ⟨b, off, rfl, hb, hc⟩ := hcases.resolve_left (by omega)
      have c0 : wr.cell? ⟨b, off + k * 4, none⟩ = some (.int .i64 (fld es k 0)) := (hbel.cell (p := ⟨b, off + k * 4, none⟩) hb).trans (hc k hlt 0 (by omega))
      have c1 : wr.cell? ⟨b, off + k * 4 + 1, none⟩ = some (.int .i64 (fld es k 1)) := (hbel.cell (p := ⟨b, off + k * 4 + 1, none⟩) hb).trans (hc k hlt 1 (by omega))
      have c2 : wr.cell? ⟨b, off + k * 4 + 2, none⟩ = some (.int .i64 (fld es k 2)) := (hbel.cell (p := ⟨b, off + k * 4 + 2, none⟩) hb).trans (hc k hlt 2 (by omega))
      have c3 : wr.cell? ⟨b, off + k * 4 + 3, none⟩ = some (.int .i64 (fld es k 3)) := (hbel.cell (p := ⟨b, off + k * 4 + 3, none⟩) hb).trans (hc k hlt 3 (by omega))
      clear hcases hc
      have hsz := hbel.size
      go_wp2_with fail
      refine (HP.out wr (fld es k) hbel).mono ?_
      rintro x w2 ⟨rfl, hb2⟩
      have hbel2 := hbel.trans (hb2.mono hsz)
      rcases Bool.eq_false_or_eq_true (p (fld es k)) with hpk | hpk
      · clear hbel hb2
        go_wp2
        go_ret
        exact ⟨k, .inl ⟨k, hlt, rfl, hpk, hno.out⟩, rfl, hbel2⟩
      · have hno' : Hid (∀ i, i < k + 1 → p (fld es i) = false) := fun i hi => by
          rcases Nat.lt_or_ge i k with h | h
          · exact hno.out i h
          · obtain rfl : i = k := by omega
            exact hpk
        clear hno hbel hb2
        go_wp2
        go_roundw
        case rel => exact ⟨k + 1, by omega, by go_num, hbel2, hno'⟩
        case measure => simp [intOf]; omega
    · have hkn : k = n := by omega
      subst hkn
      go_wp2
      go_ret
      exact ⟨-1, .inr ⟨rfl, hno.out⟩, rfl, hbel⟩

set_option maxHeartbeats 400000 in
theorem atClo_any (bid : Nat) (id : Int) (e : Nat → Int) (w : World) (hb : bid < w.heap.size) (hc : w.cell? ⟨bid, 0, none⟩ = some (.int .i64 id)) :
    Calls Tryz.prog 103 #[.agg #[.int .i64 (e 0), .int .i64 (e 1), .int .i64 (e 2), .int .i64 (e 3)], .pointer (some ⟨bid, 0, none⟩)] w fun x w' => x = .returned (.bool (e 2 == id)) ∧ Below w.heap.size w w' := by
  go_enter Tryz.func103, Tryz.ntmps103
  go_wp2
  go_ret
  refine ⟨rfl, ?_⟩
  (repeat (first | with_reducible exact Below.refl _ _ | with_reducible refine Below.drew ?_ | with_reducible refine below_drewN ?_ _ | (with_reducible refine bel_alloc ?_ ?_ _; (first | omega | (simp; omega) | simp)) | (with_reducible refine bel_set ?_ ?_ _; (first | omega | (simp; omega) | simp)) | (with_reducible refine bel_tr (by assumption) ?_ ?_; (first | omega | (simp; omega) | simp))))

set_option maxHeartbeats 400000 in
theorem iQueueAt_any (A : Option Addr) (n c : Nat) (id : Int) (es : List (Nat → Int)) (w : World) (hn : n ≤ 4194304) (h : Rd w 4 A n es) :
    Calls Tryz.prog 78 #[.slice A n c, .int .i64 id] w (IntP (FirstAt (hasId es id) n) w) := by
  have H := Lib.hid h
  clear h
  go_enter Tryz.func78, Tryz.ntmps78
  go_wp2_with fail
  refine (indexFunc_at w.heap.size (fun e => e 2 == id) A n c es _ hn (H.out.below ((Below.refl _ _).alloc (Nat.le_refl _) _)) ?_).mono ?_
  · intro w1 e hb
    have hlt : w.heap.size < w1.heap.size := by have := hb.size; simp at this; omega
    refine atClo_any w.heap.size id e w1 hlt ?_
    rw [hb.cell (p := ⟨w.heap.size, 0, none⟩) (by simp)]
    simp
  · rintro x w1 ⟨r, hr, rfl, hb1⟩
    have HR := Lib.hid hr
    clear hr
    go_wp2
    go_ret
    refine ⟨r, HR.out, rfl, ?_⟩
    (repeat (first | with_reducible exact Below.refl _ _ | with_reducible refine Below.drew ?_ | with_reducible refine below_drewN ?_ _ | (with_reducible refine bel_alloc ?_ ?_ _; (first | omega | (simp; omega) | simp)) | (with_reducible refine bel_set ?_ ?_ _; (first | omega | (simp; omega) | simp)) | (with_reducible refine bel_tr (by assumption) ?_ ?_; (first | omega | (simp; omega) | simp))))

end Go.Proofs.YtjlmcppkafjniaaGreat
