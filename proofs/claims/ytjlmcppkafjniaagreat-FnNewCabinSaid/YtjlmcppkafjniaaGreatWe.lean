/-
  Weak contracts of the functions that draw wheels, good and bad. No conditions beyond those stated.
-/
import Derived.Test.YtjlmcppkafjniaaGreatWd
import Derived.Deep.RegionLaw
namespace Go.Proofs.YtjlmcppkafjniaaGreat
open Go.RowKit

theorem RdW.grown_ {w w' : World} {A : Option Addr} {N : Nat} {S : Nat → Sp} {row : Option Nat} (h : RdW w A N S) (hg : w.grownBy w' row) (hA : ∀ a, A = some a → some a.block ≠ row) (hS : ∀ i, i < N → ∀ a, (S i).A = some a → some a.block ≠ row) : RdW w' A N S :=
  ⟨h.row.imp id fun ⟨b, off, h1, h2, h3⟩ => ⟨b, off, h1, Nat.lt_of_lt_of_le h2 hg.size, fun i hi => (World.cell?_of_block (w := w) (w' := w') (a := ⟨b, off + i, none⟩) (hg.block b h2 (hA _ h1))).trans (h3 i hi)⟩, fun i hi => (h.rd i hi).grown_ hg (fun a _ ha => hS i hi a ha), h.cap⟩
/-- A wheel that is read, all in blocks from B on. -/
structure RdU (B : Nat) (w : World) (A : Option Addr) (N : Nat) (S : Nat → Sp) : Prop where
  rdw : RdW w A N S
  lo : ∀ a, A = some a → B ≤ a.block
  los : ∀ i, i < N → ∀ a, (S i).A = some a → B ≤ a.block
theorem RdU.below {w w' : World} {B : Nat} {A : Option Addr} {N : Nat} {S : Nat → Sp} (h : RdU B w A N S) (hb : Below w.heap.size w w') : RdU B w' A N S := ⟨h.rdw.below hb, h.lo, h.los⟩
theorem RdU.lower {w : World} {B B' : Nat} {A : Option Addr} {N : Nat} {S : Nat → Sp} (h : RdU B w A N S) (hb : B' ≤ B) : RdU B' w A N S := ⟨h.rdw, fun a ha => Nat.le_trans hb (h.lo a ha), fun i hi a ha => Nat.le_trans hb (h.los i hi a ha)⟩
theorem RdU.drew_c {w w' : World} {B cb : Nat} {A : Option Addr} {N : Nat} {S : Nat → Sp} (h : RdU B w A N S) (d : Drew w cb w') (hc : cb < B) : RdU B w' A N S :=
  ⟨h.rdw.grown_ d.2 (fun a ha e => by have := h.lo a ha; injection e with e; omega) (fun i hi a ha e => by have := h.los i hi a ha; injection e with e; omega), h.lo, h.los⟩
theorem RdU.set_ {w : World} {B : Nat} {A : Option Addr} {N : Nat} {S : Nat → Sp} (h : RdU B w A N S) {b o : Nat} (hp : b < B) (v : Value) : RdU B (w.setCell ⟨b, o, none⟩ v) A N S :=
  ⟨h.rdw.grown_ (grown_set (g := b) (o := o) (v := v) (World.grownBy.refl w _)) (fun a ha e => by have := h.lo a ha; injection e with e; omega) (fun i hi a ha e => by have := h.los i hi a ha; injection e with e; omega), h.lo, h.los⟩
theorem Gat.rdU {B N c : Nat} {w : World} {A : Option Addr} {S : Nat → Sp} (h : Gat B w (.slice A N c) N S) : RdU B w A N S :=
  ⟨h.own1.1.rdw, fun a ha => row_ge h.row (Nat.le_refl _) a.block (by rw [ha]; rfl), fun i hi a ha => row_ge (h.own i hi).1 (Nat.le_refl _) a.block (Sp.ownBlock_of ha)⟩
theorem RdU.take {w : World} {B : Nat} {A : Option Addr} {N m : Nat} {S : Nat → Sp} (h : RdU B w A N S) (hm : m ≤ N) : RdU B w A m S := by
  refine ⟨⟨?_, fun i hi => h.rdw.rd i (by omega), fun i hi => h.rdw.cap i (by omega)⟩, h.lo, fun i hi => h.los i (by omega)⟩
  rcases h.rdw.row with h0 | ⟨b, off, h1, h2, h3⟩
  · exact .inl (by omega)
  · exact .inr ⟨b, off, h1, h2, fun i hi => h3 i (by omega)⟩
theorem tot_upd {S : Nat → Sp} {k : Nat} {s : Sp} (hs : s.n = (S k).n + 1) : ∀ {N : Nat}, tot (updS S k s) N ≤ tot S N + 1 ∧ (N ≤ k → tot (updS S k s) N = tot S N)
  | 0 => by simp [tot]
  | N + 1 => by
    obtain ⟨h1, h2⟩ := tot_upd (S := S) hs (N := N)
    refine ⟨?_, fun hk => ?_⟩
    · simp only [tot]
      by_cases hk : N = k
      · subst hk
        rw [h2 (Nat.le_refl _)]
        unfold updS
        rw [if_pos rfl, hs]
        omega
      · have : updS S k s N = S N := by unfold updS; rw [if_neg hk]
        rw [this]
        omega
    · simp only [tot]
      have : updS S k s N = S N := by unfold updS; rw [if_neg (by omega)]
      rw [this, h2 (by omega)]

set_option maxRecDepth 100000 in
set_option maxHeartbeats 16000000 in
theorem l9Draw_any (cb : Nat) (w : World) (h : Cur w cb) :
    Calls Tryz.prog 33 #[.pointer (some ⟨cb, 0, none⟩)] w fun y w' => ∃ A N c, y = .returned (.agg #[.slice A N c]) ∧ N ≤ 10 ∧ (N ≤ c ∧ c ≤ 9223372036854775807) ∧ (∃ S, RdU w.heap.size w' A N S ∧ tot S N ≤ 11) ∧ Drew w cb w' := by
  obtain ⟨i0, hi0, hz0, hz1, hz2⟩ := info_parts copyPin_info
  obtain ⟨j0, hj0, jz0, jz1, jz2⟩ := info_parts toPinSS_info
  have hlt := h.lt
  have HC := Lib.hid h
  clear h
  go_enter Tryz.func33, Tryz.ntmps33
  go_wp2_with fail
  refine (l9Right_any cb _ (HC.out.below (by (repeat (first | with_reducible exact Below.refl _ _ | with_reducible refine Below.drew ?_ | with_reducible refine below_drewN ?_ _ | (with_reducible refine bel_alloc ?_ ?_ _; (first | omega | (simp; omega) | simp)) | (with_reducible refine bel_set ?_ ?_ _; (first | omega | (simp; omega) | simp)) | (with_reducible refine bel_tr (by assumption) ?_ ?_; (first | omega | (simp; omega) | simp))))))).mono ?_
  rintro y w1 ⟨A1, c1, rfl, ⟨S1, g1, t1⟩, d1⟩
  have s1 := d1.2.size
  (try simp at s1)
  have G1 : Hid (Gat (w.heap.size + 1) w1 (.slice A1 9 c1) 9 S1) := Lib.hid (g1.lower (by (first | omega | (simp; omega) | simp)))
  have T1 := Lib.hid t1
  obtain ⟨b1, hA1⟩ : ∃ b1, A1 = some ⟨b1, 0, none⟩ := by
    rcases g1.row.2 with ⟨_, h0⟩ | ⟨b3, cap, cur, hv, _⟩
    · omega
    · injection hv with hv _ _
      exact ⟨b3, hv⟩
  subst hA1
  have hb1l : w.heap.size + 1 ≤ b1 := row_ge G1.out.row (Nat.le_refl _) b1 rfl
  have hb1u : b1 < w1.heap.size := row_lt G1.out.row b1 rfl
  have HU : Hid (∀ i, i < 9 → ∀ a, (S1 i).v.ownBlock = some a → a < w1.heap.size) := Lib.hid (fun i hi a ha => row_lt (G1.out.own i hi).1 a ha)
  have xr1 : w1.cell? ⟨w.heap.size, 0, none⟩ = some (.slice none 0 0) := by
    rw [d1.cell (b := w.heap.size) (by (first | omega | (simp; omega) | simp)) (by omega) 0]
    (first | (go_keep; done) | (go_simp; done))
  have zr1 : w1.frozen? ⟨w.heap.size, 0, none⟩ = false := by
    rw [d1.frozen (b := w.heap.size) (by (first | omega | (simp; omega) | simp)) (by omega) 0]
    (first | (go_keep; done) | (go_simp; done))
  have D1 : Hid (Drew w cb w1) := Lib.hid ((HC.out.drew_below (by (repeat (first | with_reducible exact Below.refl _ _ | with_reducible refine Below.drew ?_ | with_reducible refine below_drewN ?_ _ | (with_reducible refine bel_alloc ?_ ?_ _; (first | omega | (simp; omega) | simp)) | (with_reducible refine bel_set ?_ ?_ _; (first | omega | (simp; omega) | simp)) | (with_reducible refine bel_tr (by assumption) ?_ ?_; (first | omega | (simp; omega) | simp)))))).trans d1)
  have hc19 : 9 ≤ c1 ∧ c1 ≤ 9223372036854775807 := g1.own1.2
  clear g1 d1 t1
  have hne1 : ¬ w.heap.size = w1.heap.size := by omega
  have hne2 : ¬ w1.heap.size = w.heap.size := by omega
  have hne3 : ¬ b1 = w1.heap.size := by omega
  have hne4 : ¬ w1.heap.size = b1 := by omega
  have hne5 : ¬ b1 = w.heap.size := by omega
  have hne6 : ¬ w.heap.size = b1 := by omega
  go_wp2_with fail
  refine (l1Below_any cb 10 _ (D1.out.1.below (by (repeat (first | with_reducible exact Below.refl _ _ | with_reducible refine Below.drew ?_ | with_reducible refine below_drewN ?_ _ | (with_reducible refine bel_alloc ?_ ?_ _; (first | omega | (simp; omega) | simp)) | (with_reducible refine bel_set ?_ ?_ _; (first | omega | (simp; omega) | simp)) | (with_reducible refine bel_tr (by assumption) ?_ ?_; (first | omega | (simp; omega) | simp))))))).mono ?_
  rintro y w2 ⟨x, rfl, _, d2⟩
  have s2 := d2.2.size
  (try simp at s2)
  have G2 : Hid (Gat (w.heap.size + 1) w2 (.slice (some ⟨b1, 0, none⟩) 9 c1) 9 S1) := Lib.hid ((G1.out.below (by (repeat (first | with_reducible exact Below.refl _ _ | with_reducible refine Below.drew ?_ | with_reducible refine below_drewN ?_ _ | (with_reducible refine bel_alloc ?_ ?_ _; (first | omega | (simp; omega) | simp)) | (with_reducible refine bel_set ?_ ?_ _; (first | omega | (simp; omega) | simp)) | (with_reducible refine bel_tr (by assumption) ?_ ?_; (first | omega | (simp; omega) | simp)))))).drew_c d2 (by omega))
  have x2 : w2.cell? ⟨w1.heap.size, 0, none⟩ = some (.slice (some ⟨b1, 0, none⟩) 9 c1) := by
    rw [d2.cell (b := w1.heap.size) (by (first | omega | (simp; omega) | simp)) (by omega) 0]
    (first | (go_keep; done) | (go_simp; done))
  have z2 : w2.frozen? ⟨w1.heap.size, 0, none⟩ = false := by
    rw [d2.frozen (b := w1.heap.size) (by (first | omega | (simp; omega) | simp)) (by omega) 0]
    (first | (go_keep; done) | (go_simp; done))
  have xr2 : w2.cell? ⟨w.heap.size, 0, none⟩ = some (.slice none 0 0) := by
    rw [d2.cell (b := w.heap.size) (by (first | omega | (simp; omega) | simp)) (by omega) 0]
    (first | (go_keep; done) | (go_simp; done))
  have zr2 : w2.frozen? ⟨w.heap.size, 0, none⟩ = false := by
    rw [d2.frozen (b := w.heap.size) (by (first | omega | (simp; omega) | simp)) (by omega) 0]
    exact (((Below.refl _ w1).alloc (Nat.le_refl _) _).frozen (p := ⟨w.heap.size, 0, none⟩) (by (first | omega | (simp; omega) | simp))).trans zr1
  have D2 : Hid (Drew w cb w2) := Lib.hid ((Drew.alloc _ D1.out).trans d2)
  clear d2 xr1 zr1
  by_cases v0 : x = 0
  · subst v0
    go_wp2_with fail
    refine (l1Below_any cb 9 _ D2.out.1).mono ?_
    rintro y w3 ⟨k0, rfl, ⟨hk0, hk1, _⟩, d3⟩
    have hk9 := hk1 (by omega)
    obtain ⟨k, rfl⟩ : ∃ k : Nat, k0 = k := ⟨k0.toNat, by omega⟩
    have hK : k < 9 := by omega
    have hK9 : (k : Int) < 9 := by omega
    have s3 := d3.2.size
    have x3 : w3.cell? ⟨w1.heap.size, 0, none⟩ = some (.slice (some ⟨b1, 0, none⟩) 9 c1) := (d3.cell (b := w1.heap.size) (by omega) (by omega) 0).trans x2
    have z3 : w3.frozen? ⟨w1.heap.size, 0, none⟩ = false := (d3.frozen (b := w1.heap.size) (by omega) (by omega) 0).trans z2
    have xr3 : w3.cell? ⟨w.heap.size, 0, none⟩ = some (.slice none 0 0) := (d3.cell (b := w.heap.size) (by omega) (by omega) 0).trans xr2
    have zr3 : w3.frozen? ⟨w.heap.size, 0, none⟩ = false := (d3.frozen (b := w.heap.size) (by omega) (by omega) 0).trans zr2
    have G3 : Hid (Gat (w.heap.size + 1) w3 (.slice (some ⟨b1, 0, none⟩) 9 c1) 9 S1) := Lib.hid (G2.out.drew_c d3 (by omega))
    have D3 : Hid (Drew w cb w3) := Lib.hid (D2.out.trans d3)
    have c3 := G3.out.own1.1.rdw.cell hK
    rw [Nat.zero_add] at c3
    have htk := tot_one (S := S1) hK
    have hbw3 : b1 < w3.heap.size := by omega
    have hbx3 : w1.heap.size < w3.heap.size := by omega
    have hn10 : (S1 k).n ≤ 10 := by have := T1.out; omega
    clear d3 hk1 x2 z2 xr2 zr2
    go_upto_region 5 with fail
    (
      go_region_law (first
        | (go_simp; go_at_call 75; refine (l9Pin_any cb _ (D3.out.1.below (by (repeat (first | with_reducible exact Below.refl _ _ | with_reducible refine Below.drew ?_ | with_reducible refine below_drewN ?_ _ | (with_reducible refine bel_alloc ?_ ?_ _; (first | omega | (simp; omega) | simp)) | (with_reducible refine bel_set ?_ ?_ _; (first | omega | (simp; omega) | simp)) | (with_reducible refine bel_tr (by assumption) ?_ ?_; (first | omega | (simp; omega) | simp))))))).mono ?_; rintro y w4 ⟨e, rfl, d4'⟩; have d4 : Drew w3 cb w4 := (D3.out.1.drew_below (by (repeat (first | with_reducible exact Below.refl _ _ | with_reducible refine Below.drew ?_ | with_reducible refine below_drewN ?_ _ | (with_reducible refine bel_alloc ?_ ?_ _; (first | omega | (simp; omega) | simp)) | (with_reducible refine bel_set ?_ ?_ _; (first | omega | (simp; omega) | simp)) | (with_reducible refine bel_tr (by assumption) ?_ ?_; (first | omega | (simp; omega) | simp)))))).trans d4'; clear d4'; have s4 := d4.2.size; have x4 : w4.cell? ⟨w1.heap.size, 0, none⟩ = some (.slice (some ⟨b1, 0, none⟩) 9 c1) := (d4.cell (b := w1.heap.size) (by omega) (by omega) 0).trans x3; have z4 : w4.frozen? ⟨w1.heap.size, 0, none⟩ = false := (d4.frozen (b := w1.heap.size) (by omega) (by omega) 0).trans z3; have xr4 : w4.cell? ⟨w.heap.size, 0, none⟩ = some (.slice none 0 0) := (d4.cell (b := w.heap.size) (by omega) (by omega) 0).trans xr3; have zr4 : w4.frozen? ⟨w.heap.size, 0, none⟩ = false := (d4.frozen (b := w.heap.size) (by omega) (by omega) 0).trans zr3; have G4 : Hid (Gat (w.heap.size + 1) w4 (.slice (some ⟨b1, 0, none⟩) 9 c1) 9 S1) := Lib.hid (G3.out.drew_c d4 (by omega)); have D4 : Hid (Drew w cb w4) := Lib.hid (D3.out.trans d4); have c4 := G4.out.own1.1.rdw.cell hK; rw [Nat.zero_add] at c4; have hbw4 : b1 < w4.heap.size := (by omega); have hbx4 : w1.heap.size < w4.heap.size := (by omega); clear d4)
        | (refine step_append_rd _ (by rfl) (.tmp 20) (.tmp 23) 85 (by rfl) (w.heap.size + 1) 87 i0 _ 2 16 Tryz.underlying85 hi0 hz0 hz1 hz2 (by rfl) (by omega) (.slice (S1 k).A (S1 k).n (S1 k).c) (S1 k).n (S1 k).es (by first | rfl | simp [Act.eval, Act.put]) (World.ownsRow.alloc (G4.out.own k hK).1 _) (some ⟨w4.heap.size, 0, none⟩) 1 1 [e] (by first | rfl | simp [Act.eval, Act.put]) (rd_one2 _ _ e) (by unfold maxLen; omega) (by omega) (by simp; omega) ?_; intro v5 w5 hown5 hg5 hat5; obtain ⟨A5, c5, hv5, _, _⟩ := slice_of_row hown5; subst hv5; obtain ⟨b3, hb3A, _, _, ⟨u2, hu2⟩, hf2, hG5⟩ := (G4.out.below (w' := (w4.alloc (.cells #[.int .i64 (e 0), .int .i64 (e 1)] 87))) (by (repeat (first | with_reducible exact Below.refl _ _ | with_reducible refine Below.drew ?_ | with_reducible refine below_drewN ?_ _ | (with_reducible refine bel_alloc ?_ ?_ _; (first | omega | (simp; omega) | simp)) | (with_reducible refine bel_set ?_ ?_ _; (first | omega | (simp; omega) | simp)) | (with_reducible refine bel_tr (by assumption) ?_ ?_; (first | omega | (simp; omega) | simp)))))).putG (s := ⟨A5, (S1 k).n + 1, c5, (S1 k).es ++ [e]⟩) hK hg5 hown5 (by rw [List.length_append, (G4.out.own k hK).2]; rfl) (fun a ha => hat5.imp (fun h => h.symm.trans ha) (fun h => Nat.le_of_eq (Option.some.inj (h.symm.trans ha)))); obtain rfl : b1 = b3 := (by cases hb3A; rfl); have b45 : Below (w.heap.size + 1) (w4.alloc (.cells #[.int .i64 (e 0), .int .i64 (e 1)] 87)) w5 := Below.grown (Below.refl (w.heap.size + 1) (w4.alloc (.cells #[.int .i64 (e 0), .int .i64 (e 1)] 87))) hg5 (by (first | omega | (simp; omega) | simp)) (fun a ha => row_ge (G4.out.own k hK).1 (Nat.le_refl _) a ha); have hnb : (S1 k).v.ownBlock ≠ some w1.heap.size := (fun h => Nat.lt_irrefl _ (HU.out k hK _ h)); have x5 := (World.cell?_of_block (w := (w4.alloc (.cells #[.int .i64 (e 0), .int .i64 (e 1)] 87))) (w' := w5) (a := ⟨w1.heap.size, 0, none⟩) (hg5.block w1.heap.size (by (first | omega | (simp; omega) | simp)) (fun h => hnb h.symm))).trans (cell_alloc x4 _); have s5 := hg5.size; have hG5 := Lib.hid hG5; have D5 : Hid (Drew w cb w5) := Lib.hid (Drew.grow hlt (by (first | omega | (simp; omega) | simp)) (Drew.alloc _ D4.out) hg5 (fun a ha => by have := row_ge (G4.out.own k hK).1 (Nat.le_refl _) a ha; omega)); have xr5 := (b45.cell (p := ⟨w.heap.size, 0, none⟩) (by (first | omega | (simp; omega) | simp))).trans (cell_alloc xr4 _); have zr5 : w5.frozen? ⟨w.heap.size, 0, none⟩ = false := ((b45.frozen (p := ⟨w.heap.size, 0, none⟩) (by (first | omega | (simp; omega) | simp))).trans ((((Below.refl _ w4).alloc (Nat.le_refl _) _).frozen (p := ⟨w.heap.size, 0, none⟩) (by (first | omega | (simp; omega) | simp))).trans zr4))))
      all_goals
        have x6 : (w5.setCell ⟨b1, k, none⟩ (.slice A5 ((S1 k).n + 1) c5)).cell? ⟨w1.heap.size, 0, none⟩ = _ := (World.cell?_setCell_far w5 ⟨b1, k, none⟩ ⟨w1.heap.size, 0, none⟩ _ hne3).trans x5
        have xr6 : (w5.setCell ⟨b1, k, none⟩ (.slice A5 ((S1 k).n + 1) c5)).cell? ⟨w.heap.size, 0, none⟩ = _ := (World.cell?_setCell_far w5 ⟨b1, k, none⟩ ⟨w.heap.size, 0, none⟩ _ hne5).trans xr5
        have zr6 : (w5.setCell ⟨b1, k, none⟩ (.slice A5 ((S1 k).n + 1) c5)).frozen? ⟨w.heap.size, 0, none⟩ = false := (World.frozen?_setCell _ _ _ _).trans zr5
        have D6 : Hid (Drew w cb (w5.setCell ⟨b1, k, none⟩ (.slice A5 ((S1 k).n + 1) c5))) := Lib.hid (Drew.set hlt (by omega) D5.out)
        have sz6 : (w5.setCell ⟨b1, k, none⟩ (.slice A5 ((S1 k).n + 1) c5)).heap.size = w5.heap.size := by simp [World.setCell]
        have T6 : Hid (tot (updS S1 k ⟨A5, (S1 k).n + 1, c5, (S1 k).es ++ [e]⟩) 9 ≤ 11) := Lib.hid (by have := (tot_upd (S := S1) (k := k) (s := ⟨A5, (S1 k).n + 1, c5, (S1 k).es ++ [e]⟩) rfl (N := 9)).1; have := T1.out; omega)
        go_wp2
        refine bodyPost_ret (v := .agg #[.slice (some ⟨b1, 0, none⟩) 9 c1]) (by simp only [results, Tryz.results33]; first | (go_simp; done) | (go_simp; omega)) rfl ⟨_, 9, _, rfl, by omega, hc19, ⟨_, ?_, T6.out⟩, ?_⟩
        · exact ((hG5.out.set_ (by (first | omega | (simp; omega) | simp)) _).lower (Nat.le_succ _)).rdU
        · exact Drew.set hlt (Nat.le_refl _) D6.out)
  by_cases v1 : x = 1
  · subst v1
    go_upto_region 7 with fail
    (
      go_region_with (
        (go_at_call 28; refine (l1Below_any cb 10 _ (D2.out.1.below (by (repeat (first | with_reducible exact Below.refl _ _ | with_reducible refine Below.drew ?_ | with_reducible refine below_drewN ?_ _ | (with_reducible refine bel_alloc ?_ ?_ _; (first | omega | (simp; omega) | simp)) | (with_reducible refine bel_set ?_ ?_ _; (first | omega | (simp; omega) | simp)) | (with_reducible refine bel_tr (by assumption) ?_ ?_; (first | omega | (simp; omega) | simp))))))).mono ?_; rintro y w4 ⟨k0, rfl, ⟨hk0, hk1, _⟩, d4'⟩; have d4 : Drew w2 cb w4 := (D2.out.1.drew_below (by (repeat (first | with_reducible exact Below.refl _ _ | with_reducible refine Below.drew ?_ | with_reducible refine below_drewN ?_ _ | (with_reducible refine bel_alloc ?_ ?_ _; (first | omega | (simp; omega) | simp)) | (with_reducible refine bel_set ?_ ?_ _; (first | omega | (simp; omega) | simp)) | (with_reducible refine bel_tr (by assumption) ?_ ?_; (first | omega | (simp; omega) | simp)))))).trans d4'; clear d4'; have hk9 := hk1 (by omega); obtain ⟨m, rfl⟩ : ∃ m : Nat, k0 = m := ⟨k0.toNat, by omega⟩; clear hk1; have hmc : (m : Int) ≤ (c1 : Int) := (by omega); have hmc2 : m ≤ c1 := (by omega); have s4 := d4.2.size; have x4 : w4.cell? ⟨w1.heap.size, 0, none⟩ = some (.slice (some ⟨b1, 0, none⟩) 9 c1) := (d4.cell (b := w1.heap.size) (by omega) (by omega) 0).trans x2; have z4 : w4.frozen? ⟨w1.heap.size, 0, none⟩ = false := (d4.frozen (b := w1.heap.size) (by omega) (by omega) 0).trans z2; have xr4 : w4.cell? ⟨w.heap.size, 0, none⟩ = some (.slice none 0 0) := (d4.cell (b := w.heap.size) (by omega) (by omega) 0).trans xr2; have zr4 : w4.frozen? ⟨w.heap.size, 0, none⟩ = false := (d4.frozen (b := w.heap.size) (by omega) (by omega) 0).trans zr2; have G4 : Hid (Gat (w.heap.size + 1) w4 (.slice (some ⟨b1, 0, none⟩) 9 c1) 9 S1) := Lib.hid (G2.out.drew_c d4 (by omega)); have D4 : Hid (Drew w cb w4) := Lib.hid (D2.out.trans d4); clear d4))
      all_goals
        have hSx : ∀ i, i < 9 → (S1 i).v.ownBlock ≠ some w1.heap.size := fun i hi e => by have := HU.out i hi _ e; omega
        have G5 : Hid (Gat (w.heap.size + 1) (w4.setCell ⟨w1.heap.size, 0, none⟩ (.slice (some ⟨b1, 0, none⟩) m c1)) (.slice (some ⟨b1, 0, none⟩) 9 c1) 9 S1) := Lib.hid (G4.out.set_ne (p := ⟨w1.heap.size, 0, none⟩) (by simp [Value.ownBlock]; omega) hSx _)
        have x6 : (w4.setCell ⟨w1.heap.size, 0, none⟩ (.slice (some ⟨b1, 0, none⟩) m c1)).cell? ⟨w1.heap.size, 0, none⟩ = some (.slice (some ⟨b1, 0, none⟩) m c1) := World.cell?_setCell_same' _ _ _ (by rw [x4]; rfl)
        have xr6 : (w4.setCell ⟨w1.heap.size, 0, none⟩ (.slice (some ⟨b1, 0, none⟩) m c1)).cell? ⟨w.heap.size, 0, none⟩ = _ := (World.cell?_setCell_far w4 ⟨w1.heap.size, 0, none⟩ ⟨w.heap.size, 0, none⟩ _ hne2).trans xr4
        have zr6 : (w4.setCell ⟨w1.heap.size, 0, none⟩ (.slice (some ⟨b1, 0, none⟩) m c1)).frozen? ⟨w.heap.size, 0, none⟩ = false := (World.frozen?_setCell _ _ _ _).trans zr4
        have D6 : Hid (Drew w cb (w4.setCell ⟨w1.heap.size, 0, none⟩ (.slice (some ⟨b1, 0, none⟩) m c1))) := Lib.hid (Drew.set hlt (by omega) D4.out)
        have sz6 : (w4.setCell ⟨w1.heap.size, 0, none⟩ (.slice (some ⟨b1, 0, none⟩) m c1)).heap.size = w4.heap.size := by simp [World.setCell]
        go_wp2
        refine bodyPost_ret (v := .agg #[.slice (some ⟨b1, 0, none⟩) m c1]) (by simp only [results, Tryz.results33]; first | (go_simp; done) | (go_simp; omega)) rfl ⟨_, m, _, rfl, by omega, ⟨by omega, hc19.2⟩, ⟨S1, ?_, ?_⟩, ?_⟩
        · exact ((G5.out.set_ (by (first | omega | (simp; omega) | simp)) _).lower (Nat.le_succ _)).rdU.take (by omega)
        · have := tot_le (S := S1) (show m ≤ 9 by omega); have := T1.out; omega
        · exact Drew.set hlt (Nat.le_refl _) D6.out)
  by_cases v2 : x = 2
  · subst v2
    go_wp2_with (at_builtin; go_must (refine wpList_append_own_at _ rfl _ _ 28 rfl (w.heap.size + 1) 85 j0 _ 1 24 Tryz.underlying28 hj0 jz0 jz1 jz2 rfl (by omega) _ 9 ((List.range 9).map fun i => (S1 i).v) rfl (World.ownsRow.alloc (World.ownsRow.alloc G2.out.row _) _) ⟨w2.heap.size + 1, 0, none⟩ 1 1 [.slice (some ⟨w2.heap.size, 0, none⟩) 0 0] rfl rfl (one_cell (one_cell2 w2 _ _ _)) (by simp [Value.oneCell']) (by unfold maxLen; omega) (by omega) (by (first | omega | (simp; omega) | simp)) ?_); intro v4 w4 hown4 hg4 hnil4 hat4; obtain ⟨A4, c4, hv4, hc41, hc42⟩ := slice_of_row hown4; have HG4 := Lib.hid (G2.out.snoc (s := ⟨some ⟨w2.heap.size, 0, none⟩, 0, 0, []⟩) (by omega) (show Below w2.heap.size w2 _ from by (repeat (first | with_reducible exact Below.refl _ _ | with_reducible refine Below.drew ?_ | with_reducible refine below_drewN ?_ _ | (with_reducible refine bel_alloc ?_ ?_ _; (first | omega | (simp; omega) | simp)) | (with_reducible refine bel_set ?_ ?_ _; (first | omega | (simp; omega) | simp)) | (with_reducible refine bel_tr (by assumption) ?_ ?_; (first | omega | (simp; omega) | simp))))) (World.ownsRow.alloc (rowE w2 _ 2) _) rfl hown4 hg4 hat4); subst hv4; have s4 := hg4.size; (try simp at s4); have hvb : (Value.slice A4 10 c4).ownBlock ≠ some w1.heap.size := (fun h => hat4.elim (fun h4 => hne4 (Option.some.inj (h.symm.trans h4))) (fun h4 => by have e1 := Option.some.inj (h.symm.trans h4); (try simp at e1); omega)); have b4 : Below (w.heap.size + 1) w2 w4 := Below.grown (show Below (w.heap.size + 1) w2 _ from by (repeat (first | with_reducible exact Below.refl _ _ | with_reducible refine Below.drew ?_ | with_reducible refine below_drewN ?_ _ | (with_reducible refine bel_alloc ?_ ?_ _; (first | omega | (simp; omega) | simp)) | (with_reducible refine bel_set ?_ ?_ _; (first | omega | (simp; omega) | simp)) | (with_reducible refine bel_tr (by assumption) ?_ ?_; (first | omega | (simp; omega) | simp))))) hg4 (by (first | omega | (simp; omega) | simp)) (fun a ha => by have := row_ge G2.out.row (Nat.le_refl _) a ha; omega); have D4 : Hid (Drew w cb w4) := Lib.hid (Drew.below hlt D2.out (b4.mono (by omega))); have xr4 := (b4.cell (p := ⟨w.heap.size, 0, none⟩) (by (first | omega | (simp; omega) | simp))).trans xr2; have zr4 := (b4.frozen (p := ⟨w.heap.size, 0, none⟩) (by (first | omega | (simp; omega) | simp))).trans zr2; have hq0 : some w1.heap.size ≠ (Value.slice (some ⟨b1, 0, none⟩) 9 c1).ownBlock := (by simp [Value.ownBlock]; omega); have hq1 := hg4.block w1.heap.size (by (first | omega | (simp; omega) | simp)) hq0; have hbx : w4.heap[w1.heap.size]? = w2.heap[w1.heap.size]? := hq1.trans ((((Below.refl w2.heap.size w2).alloc (Nat.le_refl _) _).alloc (by simp) _).block w1.heap.size (by omega)); have x4 := (World.cell?_of_block (w := w2) (w' := w4) (a := ⟨w1.heap.size, 0, none⟩) hbx).trans x2; have z4 := (World.frozen?_of_block (w := w2) (w' := w4) (a := ⟨w1.heap.size, 0, none⟩) hbx).trans z2; clear hown4 hg4 hnil4 hat4)
    refine bodyPost_ret (v := .agg #[.slice A4 10 c4]) (by simp only [results, Tryz.results33]; first | (go_simp; done) | (go_simp; omega)) rfl ⟨_, 10, _, rfl, by omega, ⟨by omega, hc42⟩, ⟨(fun i => if i < 9 then S1 i else ⟨some ⟨w2.heap.size, 0, none⟩, 0, 0, []⟩), ?_, ?_⟩, ?_⟩
    · exact (((HG4.out.set_ne (p := ⟨w1.heap.size, 0, none⟩) hvb (fun i hi e => by
        by_cases h9 : i < 9
        · rw [if_pos h9] at e
          exact Nat.lt_irrefl _ (HU.out i h9 _ e)
        · rw [if_neg h9] at e
          simp [Sp.v, Value.ownBlock] at e
          omega) _).set_ (by (first | omega | (simp; omega) | simp)) _).lower (Nat.le_succ _)).rdU
    · show tot _ 10 ≤ 11
      simp only [tot]
      have h9 : tot (fun i => if i < 9 then S1 i else ⟨some ⟨w2.heap.size, 0, none⟩, 0, 0, []⟩) 9 = tot S1 9 := tot_congr fun i hi => by rw [if_pos hi]
      have := T1.out
      simp only [tot] at h9 this
      simp
      omega
    · exact Drew.set hlt (Nat.le_refl _) (Drew.set hlt (by omega) D4.out)
  go_wp2
  refine bodyPost_ret (v := .agg #[.slice (some ⟨b1, 0, none⟩) 9 c1]) (by simp only [results, Tryz.results33]; first | (go_simp; done) | (go_simp; omega)) rfl ⟨_, 9, _, rfl, by omega, hc19, ⟨S1, ?_, by have := T1.out; omega⟩, ?_⟩
  · exact ((G2.out.set_ (by (first | omega | (simp; omega) | simp)) _).lower (Nat.le_succ _)).rdU
  · exact Drew.set hlt (Nat.le_refl _) D2.out
end Go.Proofs.YtjlmcppkafjniaaGreat
