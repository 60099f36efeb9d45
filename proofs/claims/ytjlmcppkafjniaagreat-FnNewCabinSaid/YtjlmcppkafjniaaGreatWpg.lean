/-
  The contract of the reference's WheelPut: a gathered wheel comes back. No conditions beyond those stated.
-/
import Derived.Test.YtjlmcppkafjniaaGreatWx
import Derived.Test.YtjlmcppkafjniaaGreatDz
import Derived.Test.YtjlmcppkafjniaaGreatWo
import Derived.Test.YtjlmcppkafjniaaGreatWs
import Derived.Deep.DeepCutAuto
namespace Go.Proofs.YtjlmcppkafjniaaGreat
open Go.RowKit

theorem heap_set_obj {w : World} {b k : Nat} {cur : Array Value} {t : TypeId} {fr : Nat × Nat} (hh : w.heap[b]? = some (.cells cur t fr)) (v : Value) : (w.setCell ⟨b, k, none⟩ v).heap[b]? = some (.cells (cur.setIfInBounds k v) t fr) := by
  simp [World.setCell, Array.getElem?_modify, hh]
theorem row_set_ne {base : Nat} {w : World} {e : TypeId} {K n : Nat} {v : Value} {xs : List Value} (h : w.ownsRow base e K v n xs) {p : Addr} (hp : v.ownBlock ≠ some p.block) (u : Value) : (w.setCell p u).ownsRow base e K v n xs :=
  ⟨h.1, h.2.imp id fun ⟨g, cap, cur, h1, h2, hh, h3⟩ => ⟨g, cap, cur, h1, h2, (Below.heap_setCell w p u g (fun e => hp (by rw [h1, e]; rfl))).trans hh, h3⟩⟩
theorem Gat.set_ne {B k : Nat} {w : World} {v : Value} {S : Nat → Sp} (h : Gat B w v k S) {p : Addr} (hv : v.ownBlock ≠ some p.block) (hs : ∀ i, i < k → (S i).v.ownBlock ≠ some p.block) (u : Value) : Gat B (w.setCell p u) v k S :=
  ⟨row_set_ne h.row hv u, fun i hi => ⟨row_set_ne (h.own i hi).1 (hs i hi) u, (h.own i hi).2⟩, h.apart, h.nr⟩
theorem Gat.drew_c {B cb k : Nat} {w w' : World} {v : Value} {S : Nat → Sp} (h : Gat B w v k S) (d : Drew w cb w') (hcb : cb < B) : Gat B w' v k S :=
  ⟨row_drew h.row d hcb, fun i hi => ⟨row_drew (h.own i hi).1 d hcb, (h.own i hi).2⟩, h.apart, h.nr⟩
theorem Gat.putG {B N k c : Nat} {w w' : World} {A : Option Addr} {S : Nat → Sp} {s : Sp} (h : Gat B w (.slice A N c) N S) (hk : k < N) (hg : w.grownBy w' (S k).v.ownBlock) (ho : w'.ownsRow B 87 2 s.v s.n (flat 2 s.es)) (hl : s.es.length = s.n)
    (hloc : ∀ a, s.v.ownBlock = some a → (S k).v.ownBlock = some a ∨ w.heap.size ≤ a) :
    ∃ b, A = some ⟨b, 0, none⟩ ∧ b < w.heap.size ∧ B ≤ b ∧ (∃ u, w'.cell? ⟨b, k, none⟩ = some u) ∧ w'.frozen? ⟨b, k, none⟩ = false ∧ Gat B (w'.setCell ⟨b, k, none⟩ s.v) (.slice A N c) N (updS S k s) := by
  have hN : 0 < N := by omega
  have hrow0 := h.row
  rcases hrow0.2 with ⟨_, h0⟩ | ⟨b, cap, cur, hv, hgB, hh, hnc, hcm, hsz, htk⟩
  · omega
  injection hv with hv1 _ hv3
  have hbw : b < w.heap.size := (Array.getElem?_eq_some_iff.1 hh).1
  have hrow : ∀ i a, i < N → (S i).v.ownBlock = some a → a ≠ b := fun i a hi ha e => h.nr i a hi ha (by rw [hv1, e]; rfl)
  have hbk : some b ≠ (S k).v.ownBlock := fun e => hrow k b hk e.symm rfl
  have hh' : w'.heap[b]? = some (.cells cur 85 (0, 0)) := (hg.block b hbw hbk).trans hh
  have hnew : ∀ a, s.v.ownBlock = some a → a ≠ b := fun a ha e => by
    rcases hloc a ha with h1 | h1
    · exact hrow k a hk h1 e
    · omega
  have hlen : cur.toList.length = cap * 1 := by rw [Array.length_toList]; exact hsz
  have hckl : k < cur.toList.length := by omega
  refine ⟨b, hv1, hbw, hgB, ⟨cur[k]'(by simpa using hckl), ?_⟩, frozen_of_heap hh', ⟨?_, fun i hi => ?_, fun i j a a2 hi hj hij ha ha2 => ?_, fun i a hi ha => ?_⟩⟩
  · rw [cell_of_heap hh']
    simp [Array.getElem?_eq_getElem (show k < cur.size by simpa using hckl)]
  · refine ⟨by simp, .inr ⟨b, cap, cur.setIfInBounds k s.v, by rw [hv1, hv3], hgB, heap_set_obj hh' _, hnc, hcm, by rw [Array.size_setIfInBounds]; exact hsz, ?_⟩⟩
    refine List.ext_getElem? fun i => ?_
    rw [List.getElem?_take, List.getElem?_map]
    by_cases hi : i < N * 1
    · rw [if_pos hi, List.getElem?_range (by omega), Array.toList_setIfInBounds, List.getElem?_set]
      have h3 : ((List.range N).map fun i => (S i).v)[i]? = some (S i).v := by
        rw [List.getElem?_map, List.getElem?_range (by omega)]
        rfl
      rw [← htk, List.getElem?_take, if_pos (by omega)] at h3
      unfold updS
      by_cases hik : k = i
      · subst hik
        rw [if_pos rfl, if_pos hckl]
        simp
      · rw [if_neg hik, h3]
        have hik2 : ¬ i = k := fun e => hik e.symm
        simp [hik2]
    · rw [if_neg hi, List.getElem?_eq_none (by rw [List.length_range]; omega)]
      rfl
  · unfold updS
    by_cases hik : i = k
    · rw [if_pos hik]
      exact ⟨row_set_ne ho (fun e => hnew b e rfl) _, hl⟩
    · rw [if_neg hik]
      obtain ⟨h1, h2⟩ := h.own i hi
      exact ⟨row_set_ne (row_grown h1 hg fun a ha e => h.apart i k a a hi hk hik ha e.symm rfl) (fun e => hrow i b hi e rfl) _, h2⟩
  · unfold updS at ha ha2
    by_cases hik : i = k <;> by_cases hjk : j = k
    · omega
    · rw [if_pos hik] at ha
      rw [if_neg hjk] at ha2
      rcases hloc a ha with h5 | h5
      · exact h.apart k j a a2 hk hj (by omega) h5 ha2
      · have := row_lt (h.own j hj).1 _ ha2
        omega
    · rw [if_neg hik] at ha
      rw [if_pos hjk] at ha2
      rcases hloc a2 ha2 with h5 | h5
      · exact h.apart i k a a2 hi hk hik ha h5
      · have := row_lt (h.own i hi).1 _ ha
        omega
    · rw [if_neg hik] at ha
      rw [if_neg hjk] at ha2
      exact h.apart i j a a2 hi hj hij ha ha2
  · unfold updS at ha
    intro e
    have e2 : a = b := by
      rw [hv1] at e
      have : some b = some a := e
      injection this with this
      exact this.symm
    by_cases hik : i = k
    · rw [if_pos hik] at ha
      exact hnew a ha e2
    · rw [if_neg hik] at ha
      exact hrow i a hi ha e2
theorem put_tot {S S' : Nat → Sp} {p : Nat → Int} {E : Nat → List (Nat → Int)} {b : Bool} (h : PutR 9 S p E b) (h0 : tot S 9 ≤ 10) (hl : ∀ i, i < 9 → (S i).es.length = (S i).n) (hl' : ∀ i, i < 9 → (S' i).es.length = (S' i).n) (he : ∀ i, i < 9 → (S' i).es = E i) : tot S' 9 ≤ 10 := by
  cases b
  · rcases h with ⟨h1, _⟩ | ⟨_, _, h2⟩
    · cases h1
    · rw [tot_congr (S := S') (S' := S) fun i hi => by rw [← hl' i hi, ← hl i hi, he i hi, h2 i hi]]
      exact h0
  · exact put_ten h hl hl' he
end Go.Proofs.YtjlmcppkafjniaaGreat

namespace Go.Proofs.YtjlmcppkafjniaaGreat
open Go.RowKit

set_option maxRecDepth 100000 in
set_option maxHeartbeats 8000000 in
theorem sWheelPut_gat (A : Option Addr) (N c : Nat) (S : Nat → Sp) (p : Nat → Int) (E : Nat → List (Nat → Int)) (b : Bool) (w : World) (hN : N ≤ 4194304) (hT : tot S N ≤ 4194303) (h : RdW w A N S) (hR : PutR N S p E b) :
    Calls Tryz.prog 69 #[.agg #[.slice A N c], .agg #[.int .i64 (p 0), .int .i64 (p 1)]] w fun y w' => ∃ A' c' S', y = .returned (.tuple #[.agg #[.slice A' N c'], .bool b]) ∧ Gat w.heap.size w' (.slice A' N c') N S' ∧ (∀ i, i < N → (S' i).es = E i) ∧ (N ≤ c' ∧ c' ≤ 9223372036854775807) ∧ Below w.heap.size w w' := by
  have H := Lib.hid h
  have HR := Lib.hid hR
  have HLen := Lib.hid h.lens
  have hT4 : tot S N ≤ 4194304 := by omega
  clear h hR
  go_enter Tryz.func69, Tryz.ntmps69
  go_wp2_with fail
  refine (l9Copy_any A N c S _ hN hT4 (H.out.below (by (repeat (first | with_reducible exact Below.refl _ _ | with_reducible refine Below.drew ?_ | with_reducible refine below_drewN ?_ _ | (with_reducible refine bel_alloc ?_ ?_ _; (first | omega | (simp; omega) | simp)) | (with_reducible refine bel_set ?_ ?_ _; (first | omega | (simp; omega) | simp)) | (with_reducible refine bel_tr (by assumption) ?_ ?_; (first | omega | (simp; omega) | simp))))))).mono ?_
  rintro y w1 ⟨A1, c1, S1, rfl, g1, m1, hb1⟩
  have bc1 := bcell hb1; obtain ⟨hc1, hf1⟩ := bc1; have ks1 := hb1.size; (try simp at ks1); have kc10 : ∀ o, w1.cell? ⟨w.heap.size, o, none⟩ = _ := (fun o => hb1.cell (p := ⟨w.heap.size, o, none⟩) (by (first | omega | (simp; omega) | simp))); have kf10 : ∀ o, w1.frozen? ⟨w.heap.size, o, none⟩ = _ := (fun o => hb1.frozen (p := ⟨w.heap.size, o, none⟩) (by (first | omega | (simp; omega) | simp))); have kc11 : ∀ o, w1.cell? ⟨w.heap.size + 1, o, none⟩ = _ := (fun o => hb1.cell (p := ⟨w.heap.size + 1, o, none⟩) (by (first | omega | (simp; omega) | simp))); have kf11 : ∀ o, w1.frozen? ⟨w.heap.size + 1, o, none⟩ = _ := (fun o => hb1.frozen (p := ⟨w.heap.size + 1, o, none⟩) (by (first | omega | (simp; omega) | simp))); have kc12 : ∀ o, w1.cell? ⟨w.heap.size + 1 + 1, o, none⟩ = _ := (fun o => hb1.cell (p := ⟨w.heap.size + 1 + 1, o, none⟩) (by (first | omega | (simp; omega) | simp))); have kf12 : ∀ o, w1.frozen? ⟨w.heap.size + 1 + 1, o, none⟩ = _ := (fun o => hb1.frozen (p := ⟨w.heap.size + 1 + 1, o, none⟩) (by (first | omega | (simp; omega) | simp))); have kz10 : w.heap.size < w1.heap.size := (by have hh := hb1.size; (try simp at hh); omega); have kz11 : w.heap.size + 1 < w1.heap.size := (by have hh := hb1.size; (try simp at hh); omega); have kz12 : w.heap.size + 1 + 1 < w1.heap.size := (by have hh := hb1.size; (try simp at hh); omega)
  have G1 := Lib.hid g1
  have M1 := Lib.hid m1
  clear g1 m1
  go_wp2_with fail
  by_cases hW : WOK N S
  case neg =>
    obtain ⟨rfl, hE⟩ := HR.out.no (fun h => hW h.1)
    refine (tn (sWheelOk_any A N c S _ hN hT4 (H.out.below (by (repeat (first | with_reducible exact Below.refl _ _ | with_reducible refine Below.drew ?_ | with_reducible refine below_drewN ?_ _ | (with_reducible refine bel_alloc ?_ ?_ _; (first | omega | (simp; omega) | simp)) | (with_reducible refine bel_set ?_ ?_ _; (first | omega | (simp; omega) | simp)) | (with_reducible refine bel_tr (by assumption) ?_ ?_; (first | omega | (simp; omega) | simp))))))) hW).mono ?_
    rintro y w2 ⟨rfl, hb2⟩
    have bc2 := bcell hb2; obtain ⟨hc2, hf2⟩ := bc2; have ks2 := hb2.size; (try simp at ks2); have kc20 : ∀ o, w2.cell? ⟨w.heap.size, o, none⟩ = _ := (fun o => hb2.cell (p := ⟨w.heap.size, o, none⟩) (by (first | omega | (simp; omega) | simp))); have kf20 : ∀ o, w2.frozen? ⟨w.heap.size, o, none⟩ = _ := (fun o => hb2.frozen (p := ⟨w.heap.size, o, none⟩) (by (first | omega | (simp; omega) | simp))); have kc21 : ∀ o, w2.cell? ⟨w.heap.size + 1, o, none⟩ = _ := (fun o => hb2.cell (p := ⟨w.heap.size + 1, o, none⟩) (by (first | omega | (simp; omega) | simp))); have kf21 : ∀ o, w2.frozen? ⟨w.heap.size + 1, o, none⟩ = _ := (fun o => hb2.frozen (p := ⟨w.heap.size + 1, o, none⟩) (by (first | omega | (simp; omega) | simp))); have kc22 : ∀ o, w2.cell? ⟨w.heap.size + 1 + 1, o, none⟩ = _ := (fun o => hb2.cell (p := ⟨w.heap.size + 1 + 1, o, none⟩) (by (first | omega | (simp; omega) | simp))); have kf22 : ∀ o, w2.frozen? ⟨w.heap.size + 1 + 1, o, none⟩ = _ := (fun o => hb2.frozen (p := ⟨w.heap.size + 1 + 1, o, none⟩) (by (first | omega | (simp; omega) | simp))); have kz20 : w.heap.size < w2.heap.size := (by have hh := hb2.size; (try simp at hh); omega); have kz21 : w.heap.size + 1 < w2.heap.size := (by have hh := hb2.size; (try simp at hh); omega); have kz22 : w.heap.size + 1 + 1 < w2.heap.size := (by have hh := hb2.size; (try simp at hh); omega); (try (have jzw12 : w1.heap.size < w2.heap.size := (by have hh := hb2.size; (try simp at hh); omega); have jcw12 : ∀ o, w2.cell? ⟨w1.heap.size, o, none⟩ = _ := (fun o => hb2.cell (p := ⟨w1.heap.size, o, none⟩) (by (first | omega | (simp; omega) | simp))); have jfw12 : ∀ o, w2.frozen? ⟨w1.heap.size, o, none⟩ = _ := (fun o => hb2.frozen (p := ⟨w1.heap.size, o, none⟩) (by (first | omega | (simp; omega) | simp)))))
    go_wp2
    refine bodyPost_ret (v := .tuple #[.agg #[.slice A1 N c1], .bool false]) (by simp only [results, Tryz.results69]; first | (go_simp; done) | (go_simp; omega)) rfl ⟨A1, c1, S1, rfl, ((G1.out.below (by (repeat (first | with_reducible exact Below.refl _ _ | with_reducible refine Below.drew ?_ | with_reducible refine below_drewN ?_ _ | (with_reducible refine bel_alloc ?_ ?_ _; (first | omega | (simp; omega) | simp)) | (with_reducible refine bel_set ?_ ?_ _; (first | omega | (simp; omega) | simp)) | (with_reducible refine bel_tr (by assumption) ?_ ?_; (first | omega | (simp; omega) | simp)))))).set_ (by (first | omega | (simp; omega) | simp)) _).lower (by (first | omega | (simp; omega) | simp)), (fun i hi => by rw [hE i hi]; exact ((M1.out i hi).2).symm), G1.out.own1.2, ?_⟩
    (repeat (first | with_reducible exact Below.refl _ _ | with_reducible refine Below.drew ?_ | with_reducible refine below_drewN ?_ _ | (with_reducible refine bel_alloc ?_ ?_ _; (first | omega | (simp; omega) | simp)) | (with_reducible refine bel_set ?_ ?_ _; (first | omega | (simp; omega) | simp)) | (with_reducible refine bel_tr (by assumption) ?_ ?_; (first | omega | (simp; omega) | simp))))
  refine (ty (sWheelOk_any A N c S _ hN hT4 (H.out.below (by (repeat (first | with_reducible exact Below.refl _ _ | with_reducible refine Below.drew ?_ | with_reducible refine below_drewN ?_ _ | (with_reducible refine bel_alloc ?_ ?_ _; (first | omega | (simp; omega) | simp)) | (with_reducible refine bel_set ?_ ?_ _; (first | omega | (simp; omega) | simp)) | (with_reducible refine bel_tr (by assumption) ?_ ?_; (first | omega | (simp; omega) | simp))))))) hW).mono ?_
  rintro y w2 ⟨rfl, hb2⟩
  have bc2 := bcell hb2; obtain ⟨hc2, hf2⟩ := bc2; have ks2 := hb2.size; (try simp at ks2); have kc20 : ∀ o, w2.cell? ⟨w.heap.size, o, none⟩ = _ := (fun o => hb2.cell (p := ⟨w.heap.size, o, none⟩) (by (first | omega | (simp; omega) | simp))); have kf20 : ∀ o, w2.frozen? ⟨w.heap.size, o, none⟩ = _ := (fun o => hb2.frozen (p := ⟨w.heap.size, o, none⟩) (by (first | omega | (simp; omega) | simp))); have kc21 : ∀ o, w2.cell? ⟨w.heap.size + 1, o, none⟩ = _ := (fun o => hb2.cell (p := ⟨w.heap.size + 1, o, none⟩) (by (first | omega | (simp; omega) | simp))); have kf21 : ∀ o, w2.frozen? ⟨w.heap.size + 1, o, none⟩ = _ := (fun o => hb2.frozen (p := ⟨w.heap.size + 1, o, none⟩) (by (first | omega | (simp; omega) | simp))); have kc22 : ∀ o, w2.cell? ⟨w.heap.size + 1 + 1, o, none⟩ = _ := (fun o => hb2.cell (p := ⟨w.heap.size + 1 + 1, o, none⟩) (by (first | omega | (simp; omega) | simp))); have kf22 : ∀ o, w2.frozen? ⟨w.heap.size + 1 + 1, o, none⟩ = _ := (fun o => hb2.frozen (p := ⟨w.heap.size + 1 + 1, o, none⟩) (by (first | omega | (simp; omega) | simp))); have kz20 : w.heap.size < w2.heap.size := (by have hh := hb2.size; (try simp at hh); omega); have kz21 : w.heap.size + 1 < w2.heap.size := (by have hh := hb2.size; (try simp at hh); omega); have kz22 : w.heap.size + 1 + 1 < w2.heap.size := (by have hh := hb2.size; (try simp at hh); omega); (try (have jzw12 : w1.heap.size < w2.heap.size := (by have hh := hb2.size; (try simp at hh); omega); have jcw12 : ∀ o, w2.cell? ⟨w1.heap.size, o, none⟩ = _ := (fun o => hb2.cell (p := ⟨w1.heap.size, o, none⟩) (by (first | omega | (simp; omega) | simp))); have jfw12 : ∀ o, w2.frozen? ⟨w1.heap.size, o, none⟩ = _ := (fun o => hb2.frozen (p := ⟨w1.heap.size, o, none⟩) (by (first | omega | (simp; omega) | simp)))))
  have hN9 := hW.1
  subst hN9
  by_cases hp1 : 1 ≤ p 0
  case neg =>
    have hp1' : p 0 < 1 := by omega
    obtain ⟨rfl, hE⟩ := HR.out.no (fun ⟨_, h2, _⟩ => hp1 h2)
    go_wp2
    refine bodyPost_ret (v := .tuple #[.agg #[.slice A1 9 c1], .bool false]) (by simp only [results, Tryz.results69]; first | (go_simp; done) | (go_simp; omega)) rfl ⟨A1, c1, S1, rfl, ((G1.out.below (by (repeat (first | with_reducible exact Below.refl _ _ | with_reducible refine Below.drew ?_ | with_reducible refine below_drewN ?_ _ | (with_reducible refine bel_alloc ?_ ?_ _; (first | omega | (simp; omega) | simp)) | (with_reducible refine bel_set ?_ ?_ _; (first | omega | (simp; omega) | simp)) | (with_reducible refine bel_tr (by assumption) ?_ ?_; (first | omega | (simp; omega) | simp)))))).set_ (by (first | omega | (simp; omega) | simp)) _).lower (by (first | omega | (simp; omega) | simp)), (fun i hi => by rw [hE i hi]; exact ((M1.out i hi).2).symm), G1.out.own1.2, ?_⟩
    (repeat (first | with_reducible exact Below.refl _ _ | with_reducible refine Below.drew ?_ | with_reducible refine below_drewN ?_ _ | (with_reducible refine bel_alloc ?_ ?_ _; (first | omega | (simp; omega) | simp)) | (with_reducible refine bel_set ?_ ?_ _; (first | omega | (simp; omega) | simp)) | (with_reducible refine bel_tr (by assumption) ?_ ?_; (first | omega | (simp; omega) | simp))))
  have hp1' : ¬ p 0 < 1 := by omega
  have hp0 : 0 ≤ p 0 := by omega
  have hm0 : 0 ≤ p 0 % 9 := by omega
  have hm9 : p 0 % 9 < 9 := by omega
  have hK : (p 0 % 9).toNat < 9 := by omega
  have hk9 : (((p 0 % 9).toNat : Nat) : Int) = p 0 % 9 := by omega
  obtain ⟨b, off, rfl⟩ := H.out.addr (by omega)
  have G2 : Hid (Gat (w.heap.size + 3) w2 (.slice A1 9 c1) 9 S1) := Lib.hid (by
    have h := G1.out.below (w' := w2) (by (repeat (first | with_reducible exact Below.refl _ _ | with_reducible refine Below.drew ?_ | with_reducible refine below_drewN ?_ _ | (with_reducible refine bel_alloc ?_ ?_ _; (first | omega | (simp; omega) | simp)) | (with_reducible refine bel_set ?_ ?_ _; (first | omega | (simp; omega) | simp)) | (with_reducible refine bel_tr (by assumption) ?_ ?_; (first | omega | (simp; omega) | simp)))))
    exact h.lower (by (first | omega | (simp; omega) | simp)))
  have hlt1 : ∀ k, (Value.slice A1 9 c1).ownBlock = some k → k < w1.heap.size := row_lt G1.out.row
  have htk := tot_one (S := S) hK
  have x0 : w2.cell? ⟨w.heap.size, 0, none⟩ = some (.slice (some ⟨b, off, none⟩) 9 c) := by (first | (go_keep; done) | (go_simp; done))
  have x1 : w2.cell? ⟨w.heap.size + 1, 0, none⟩ = some (.int .i64 (p 0)) := by (first | (go_keep; done) | (go_simp; done))
  have x2 : w2.cell? ⟨w.heap.size + 1, 1, none⟩ = some (.int .i64 (p 1)) := by (first | (go_keep; done) | (go_simp; done))
  have x3 : w2.cell? ⟨w.heap.size + 1 + 1, 0, none⟩ = some (.slice none 0 0) := by (first | (go_keep; done) | (go_simp; done))
  have x4 : w2.frozen? ⟨w.heap.size + 1 + 1, 0, none⟩ = false := by (first | (go_keep; done) | (go_simp; done))
  have x5 : w2.cell? ⟨w1.heap.size, 0, none⟩ = some (.slice A1 9 c1) := by (first | (go_keep; done) | (go_simp; done))
  have B2 : Hid (Below w.heap.size w w2) := Lib.hid (by
    show Below w.heap.size w w2
    (repeat (first | with_reducible exact Below.refl _ _ | with_reducible refine Below.drew ?_ | with_reducible refine below_drewN ?_ _ | (with_reducible refine bel_alloc ?_ ?_ _; (first | omega | (simp; omega) | simp)) | (with_reducible refine bel_set ?_ ?_ _; (first | omega | (simp; omega) | simp)) | (with_reducible refine bel_tr (by assumption) ?_ ?_; (first | omega | (simp; omega) | simp)))))
  clear hb2 kc20 kf20 kc21 kf21 kc22 kf22 hc2 hf2 jcw12 jfw12 hb1 kc10 kf10 kc11 kf11 kc12 kf12 hc1 hf1
  obtain ⟨b1, hA1⟩ : ∃ b1, A1 = some ⟨b1, 0, none⟩ := by
    rcases G2.out.row.2 with ⟨_, h0⟩ | ⟨b3, cap, cur, hv, _⟩
    · omega
    · injection hv with hv _ _
      exact ⟨b3, hv⟩
  subst hA1
  have hb1q : b1 < w2.heap.size := G2.out.own1.1.rdw.lt (by omega)
  have hb1w : b1 < w1.heap.size := hlt1 b1 rfl
  have hb13 : w.heap.size + 3 ≤ b1 := row_ge G2.out.row (Nat.le_refl _) b1 rfl
  have hn1 : ¬ w1.heap.size = b1 := by omega
  have hn2 : ¬ w.heap.size = b1 := by omega
  have hn4 : ¬ b1 = w1.heap.size := by omega
  have hn5 : ¬ b1 = w.heap.size := by omega
  have hn7 : ¬ b1 = w.heap.size + 1 + 1 := by omega
  have hn8 : ¬ w.heap.size + 1 + 1 = b1 := by omega
  have hn9 : ¬ b1 = w.heap.size + 1 := by omega
  have c3 := G2.out.own1.1.rdw.cell hK
  rw [Nat.zero_add] at c3
  have ht9 : (p 0).tmod 9 = p 0 % 9 := Int.tmod_eq_emod_of_nonneg hp0
  have hs1n := (M1.out _ hK).1
  have hle1 := G2.out.own1.1.rdw.cap _ hK
  have HS1 := Lib.hid hs1n
  have hn3 : (S1 (p 0 % 9).toNat).n ≤ 4194303 := by omega
  clear hs1n
  go_upto_region 5 with fail
  go_cut [32] (fun _ wx => ∃ (A4 : Option Addr) (c4 : Nat), Hid (Gat (w.heap.size + 3) wx (.slice (some ⟨b1, 0, none⟩) 9 c1) 9 (updS S1 (p 0 % 9).toNat ⟨A4, (S1 (p 0 % 9).toNat).n + 1, c4, insL (S1 (p 0 % 9).toNat).es (plcP (S1 (p 0 % 9).toNat).es p (S1 (p 0 % 9).toNat).n) p⟩)) ∧ Hid (Below w.heap.size w wx) ∧ w2.heap.size ≤ wx.heap.size ∧ wx.cell? ⟨w.heap.size, 0, none⟩ = some (.slice (some ⟨b, off, none⟩) 9 c) ∧ wx.cell? ⟨w.heap.size + 1 + 1, 0, none⟩ = some (.slice none 0 0) ∧ wx.frozen? ⟨w.heap.size + 1 + 1, 0, none⟩ = false ∧ wx.cell? ⟨w1.heap.size, 0, none⟩ = some (.slice (some ⟨b1, 0, none⟩) 9 c1))
  case first =>
    go_region_with (
      (go_at_call 94; refine (l9Put_any (w.heap.size + 3) (S1 (p 0 % 9).toNat).n (.slice (S1 (p 0 % 9).toNat).A (S1 (p 0 % 9).toNat).n (S1 (p 0 % 9).toNat).c) (S1 (p 0 % 9).toNat).es p _ hn3 (G2.out.own _ hK).2 (World.ownsRow.drew (G2.out.own _ hK).1)).mono ?_; rintro y w5 ⟨v5, rfl, r5, hb5⟩; obtain ⟨A4, c4, hv4, hc41, hc42⟩ := slice_of_row r5; subst hv4; have b5 : Below w2.heap.size w2 w5 := (Below.drew (Below.refl _ w2)).trans hb5; clear hb5; have s5 := b5.size; have o5 : Own w2.heap.size w5 2 A4 ((S1 (p 0 % 9).toNat).n + 1) (insL (S1 (p 0 % 9).toNat).es (plcP (S1 (p 0 % 9).toNat).es p (S1 (p 0 % 9).toNat).n) p) := (by obtain ⟨_, _, he, o4⟩ := own_of_row (insL_len (G2.out.own _ hK).2 plcP_le) r5; cases he; exact o4); have hg6 : w2.grownBy w5 (S1 (p 0 % 9).toNat).v.ownBlock := ⟨b5.os, b5.tape, b5.output, b5.size, fun k hk _ => b5.block k hk⟩; obtain ⟨b3, hb3A, _, _, ⟨u2, hu2⟩, hf2, hown5⟩ := G2.out.putG (s := ⟨A4, (S1 (p 0 % 9).toNat).n + 1, c4, insL (S1 (p 0 % 9).toNat).es (plcP (S1 (p 0 % 9).toNat).es p (S1 (p 0 % 9).toNat).n) p⟩) hK hg6 (r5.lower (by (first | omega | (simp; omega) | simp))) (insL_len (G2.out.own _ hK).2 plcP_le) (fun a ha => .inr (row_ge r5 (Nat.le_refl _) a ha)); obtain rfl : b1 = b3 := (by cases hb3A; rfl); have hown5 := Lib.hid hown5; have x50 := (b5.cell (p := ⟨w1.heap.size, 0, none⟩) (by (first | omega | (simp; omega) | simp))).trans x5; have x51 := (b5.cell (p := ⟨w.heap.size + 1, 0, none⟩) (by (first | omega | (simp; omega) | simp))).trans x1; have x52 := (b5.cell (p := ⟨w.heap.size + 1, 1, none⟩) (by (first | omega | (simp; omega) | simp))).trans x2; have x53 := (b5.cell (p := ⟨w.heap.size, 0, none⟩) (by (first | omega | (simp; omega) | simp))).trans x0; have x54 := (b5.cell (p := ⟨w.heap.size + 1 + 1, 0, none⟩) (by (first | omega | (simp; omega) | simp))).trans x3; have x5f := (b5.frozen (p := ⟨w.heap.size + 1 + 1, 0, none⟩) (by (first | omega | (simp; omega) | simp))).trans x4; clear r5 o5 hg6))
    all_goals
      have x55 : (w5.setCell ⟨b1, (p 0 % 9).toNat, none⟩ (.slice A4 ((S1 (p 0 % 9).toNat).n + 1) c4)).cell? ⟨w.heap.size, 0, none⟩ = _ := (World.cell?_setCell_far w5 ⟨b1, (p 0 % 9).toNat, none⟩ ⟨w.heap.size, 0, none⟩ _ hn5).trans x53
      have x56 : (w5.setCell ⟨b1, (p 0 % 9).toNat, none⟩ (.slice A4 ((S1 (p 0 % 9).toNat).n + 1) c4)).cell? ⟨w.heap.size + 1 + 1, 0, none⟩ = _ := (World.cell?_setCell_far w5 ⟨b1, (p 0 % 9).toNat, none⟩ ⟨w.heap.size + 1 + 1, 0, none⟩ _ hn7).trans x54
      have x57 : (w5.setCell ⟨b1, (p 0 % 9).toNat, none⟩ (.slice A4 ((S1 (p 0 % 9).toNat).n + 1) c4)).frozen? ⟨w.heap.size + 1 + 1, 0, none⟩ = _ := (World.frozen?_setCell _ _ _ _).trans x5f
      have x58 : (w5.setCell ⟨b1, (p 0 % 9).toNat, none⟩ (.slice A4 ((S1 (p 0 % 9).toNat).n + 1) c4)).cell? ⟨w1.heap.size, 0, none⟩ = _ := (World.cell?_setCell_far w5 ⟨b1, (p 0 % 9).toNat, none⟩ ⟨w1.heap.size, 0, none⟩ _ hn4).trans x50
      have bw5 : Below w.heap.size w (w5.setCell ⟨b1, (p 0 % 9).toNat, none⟩ (.slice A4 ((S1 (p 0 % 9).toNat).n + 1) c4)) := Below.setCell (B2.out.trans (b5.mono (by (first | omega | (simp; omega) | simp)))) (by (first | omega | (simp; omega) | simp)) _
      have hsz5 : (w5.setCell ⟨b1, (p 0 % 9).toNat, none⟩ (.slice A4 ((S1 (p 0 % 9).toNat).n + 1) c4)).heap.size = w5.heap.size := by simp [World.setCell]
      go_wp2_with fail
      go_meet
      exact ⟨A4, c4, hown5, Lib.hid bw5, by omega, x55, x56, x57, x58⟩
  case rest =>
  obtain ⟨A4, c4, hown5, HBY, sY, x55, x56, x57, x58⟩ := hcut
  rename World => wY
  have bw5 := HBY.out
  have T5 : tot (updS S1 (p 0 % 9).toNat ⟨A4, (S1 (p 0 % 9).toNat).n + 1, c4, insL (S1 (p 0 % 9).toNat).es (plcP (S1 (p 0 % 9).toNat).es p (S1 (p 0 % 9).toNat).n) p⟩) 9 ≤ 4194304 := by
    have SN0 : Sam 9 (updS S1 (p 0 % 9).toNat ⟨A4, (S1 (p 0 % 9).toNat).n + 1, c4, insL (S1 (p 0 % 9).toNat).es (plcP (S1 (p 0 % 9).toNat).es p (S1 (p 0 % 9).toNat).n) p⟩) (insW S p) := by exact upd_sam M1.out hK rfl
    rw [SN0.tot (Nat.le_refl _), insW_tot]
    split <;> omega
  have SN : Hid (Sam 9 (updS S1 (p 0 % 9).toNat ⟨A4, (S1 (p 0 % 9).toNat).n + 1, c4, insL (S1 (p 0 % 9).toNat).es (plcP (S1 (p 0 % 9).toNat).es p (S1 (p 0 % 9).toNat).n) p⟩) (insW S p)) := Lib.hid (by exact upd_sam M1.out hK rfl)
  go_wp2_with fail
  by_cases hW2 : WOK 9 (insW S p)
  case neg =>
    obtain ⟨rfl, hE⟩ := HR.out.no (fun h => hW2 h.2.2)
    refine (tn (sWheelOk_any _ 9 c1 (updS S1 (p 0 % 9).toNat ⟨A4, (S1 (p 0 % 9).toNat).n + 1, c4, insL (S1 (p 0 % 9).toNat).es (plcP (S1 (p 0 % 9).toNat).es p (S1 (p 0 % 9).toNat).n) p⟩) _ (by omega) T5 hown5.out.own1.1.rdw) (fun h => hW2 (h.sam SN.out))).mono ?_
    rintro y w6 ⟨rfl, hb6⟩
    have s6 := hb6.size
    (try simp [World.setCell] at s6)
    have x60 := (hb6.cell (p := ⟨w.heap.size, 0, none⟩) (by (first | omega | (simp; omega) | simp))).trans x55
    have x63 := (hb6.cell (p := ⟨w.heap.size + 1 + 1, 0, none⟩) (by (first | omega | (simp; omega) | simp))).trans x56
    have x64 := (hb6.frozen (p := ⟨w.heap.size + 1 + 1, 0, none⟩) (by (first | omega | (simp; omega) | simp))).trans x57
    go_wp2_with fail
    refine (l9Copy_any _ 9 c S _ hN hT4 (H.out.below (by (repeat (first | with_reducible exact Below.refl _ _ | with_reducible refine Below.drew ?_ | with_reducible refine below_drewN ?_ _ | (with_reducible refine bel_alloc ?_ ?_ _; (first | omega | (simp; omega) | simp)) | (with_reducible refine bel_set ?_ ?_ _; (first | omega | (simp; omega) | simp)) | (with_reducible refine bel_tr (by assumption) ?_ ?_; (first | omega | (simp; omega) | simp))))))).mono ?_
    rintro y w7 ⟨A7, c7, S7, rfl, g7, m7, hb7⟩
    have s7 := hb7.size
    have x73 := (hb7.cell (p := ⟨w.heap.size + 1 + 1, 0, none⟩) (by (first | omega | (simp; omega) | simp))).trans x63
    have x74 := (hb7.frozen (p := ⟨w.heap.size + 1 + 1, 0, none⟩) (by (first | omega | (simp; omega) | simp))).trans x64
    have G7 := Lib.hid g7
    have M7 := Lib.hid m7
    clear g7 m7
    go_wp2
    refine bodyPost_ret (v := .tuple #[.agg #[.slice A7 9 c7], .bool false]) (by simp only [results, Tryz.results69]; first | (go_simp; done) | (go_simp; omega)) rfl ?_
    have hfin : Gat w.heap.size (w7.setCell ⟨w.heap.size + 1 + 1, 0, none⟩ (.slice A7 9 c7)) (.slice A7 9 c7) 9 S7 := (G7.out.set_ (by (first | omega | (simp; omega) | simp)) _).lower (by (first | omega | (simp; omega) | simp))
    have hes : ∀ i, i < 9 → (S7 i).es = E i := fun i hi => by rw [hE i hi]; exact ((M7.out i hi).2).symm
    have hbl : Below w.heap.size w (w7.setCell ⟨w.heap.size + 1 + 1, 0, none⟩ (.slice A7 9 c7)) := by (repeat (first | with_reducible exact Below.refl _ _ | with_reducible refine Below.drew ?_ | with_reducible refine below_drewN ?_ _ | (with_reducible refine bel_alloc ?_ ?_ _; (first | omega | (simp; omega) | simp)) | (with_reducible refine bel_set ?_ ?_ _; (first | omega | (simp; omega) | simp)) | (with_reducible refine bel_tr (by assumption) ?_ ?_; (first | omega | (simp; omega) | simp))))
    exact ⟨A7, c7, S7, rfl, hfin, hes, G7.out.own1.2, hbl⟩
  obtain ⟨rfl, hE⟩ := HR.out.yes hW hp1 hW2
  refine (ty (sWheelOk_any _ 9 c1 (updS S1 (p 0 % 9).toNat ⟨A4, (S1 (p 0 % 9).toNat).n + 1, c4, insL (S1 (p 0 % 9).toNat).es (plcP (S1 (p 0 % 9).toNat).es p (S1 (p 0 % 9).toNat).n) p⟩) _ (by omega) T5 hown5.out.own1.1.rdw) (hW2.sam SN.out.symm)).mono ?_
  rintro y w6 ⟨rfl, hb6⟩
  have s6 := hb6.size
  (try simp [World.setCell] at s6)
  have x60 := (hb6.cell (p := ⟨w1.heap.size, 0, none⟩) (by (first | omega | (simp; omega) | simp))).trans x58
  have x63 := (hb6.cell (p := ⟨w.heap.size + 1 + 1, 0, none⟩) (by (first | omega | (simp; omega) | simp))).trans x56
  have x64 := (hb6.frozen (p := ⟨w.heap.size + 1 + 1, 0, none⟩) (by (first | omega | (simp; omega) | simp))).trans x57
  go_wp2
  refine bodyPost_ret (v := .tuple #[.agg #[.slice (some ⟨b1, 0, none⟩) 9 c1], .bool true]) (by simp only [results, Tryz.results69]; first | (go_simp; done) | (go_simp; omega)) rfl ?_
  have hfin : Gat w.heap.size (w6.setCell ⟨w.heap.size + 1 + 1, 0, none⟩ (.slice (some ⟨b1, 0, none⟩) 9 c1)) (.slice (some ⟨b1, 0, none⟩) 9 c1) 9 (updS S1 (p 0 % 9).toNat ⟨A4, (S1 (p 0 % 9).toNat).n + 1, c4, insL (S1 (p 0 % 9).toNat).es (plcP (S1 (p 0 % 9).toNat).es p (S1 (p 0 % 9).toNat).n) p⟩) := ((hown5.out.below hb6).set_ (by (first | omega | (simp; omega) | simp)) _).lower (by omega)
  have hes : ∀ i, i < 9 → ((updS S1 (p 0 % 9).toNat ⟨A4, (S1 (p 0 % 9).toNat).n + 1, c4, insL (S1 (p 0 % 9).toNat).es (plcP (S1 (p 0 % 9).toNat).es p (S1 (p 0 % 9).toNat).n) p⟩) i).es = E i := fun i hi => by rw [hE i hi]; exact (SN.out i hi).2
  have hbl : Below w.heap.size w (w6.setCell ⟨w.heap.size + 1 + 1, 0, none⟩ (.slice (some ⟨b1, 0, none⟩) 9 c1)) := by (repeat (first | with_reducible exact Below.refl _ _ | with_reducible refine Below.drew ?_ | with_reducible refine below_drewN ?_ _ | (with_reducible refine bel_alloc ?_ ?_ _; (first | omega | (simp; omega) | simp)) | (with_reducible refine bel_set ?_ ?_ _; (first | omega | (simp; omega) | simp)) | (with_reducible refine bel_tr (by assumption) ?_ ?_; (first | omega | (simp; omega) | simp))))
  exact ⟨some ⟨b1, 0, none⟩, c1, (updS S1 (p 0 % 9).toNat ⟨A4, (S1 (p 0 % 9).toNat).n + 1, c4, insL (S1 (p 0 % 9).toNat).es (plcP (S1 (p 0 % 9).toNat).es p (S1 (p 0 % 9).toNat).n) p⟩), rfl, hfin, hes, G1.out.own1.2, hbl⟩
end Go.Proofs.YtjlmcppkafjniaaGreat
