/-
  Walk of the law on PartyPut: it returns true and leaves old memory alone.
-/
import Derived.Test.YtcainllgnbdkbaaPp
namespace Go.Proofs.Ytcainllgnbdkbaa
open Go.RowKit

theorem Own.lower_ {B B' : Nat} {w : World} {K n : Nat} {A : Option Addr} {es : List (Nat → Int)} (h : Own B w K A n es) (hB : B' ≤ B) : Own B' w K A n es := h.mono hB
/-- What PartyPut returns. -/
def ppT (es : List (Nat → Int)) (p : Nat → Int) (n : Nat) : List (Nat → Int) := match ixOf (hasPid es (p 0)) n with | none => insL es (ppl es p n) p | some k => es.set k p
theorem ppT_len {es : List (Nat → Int)} {p : Nat → Int} {n : Nat} (hl : es.length = n) : (ppT es p n).length ≤ n + 1 := by
  unfold ppT
  split
  · rw [insL_len hl ppl_le]
    exact Nat.le_refl _
  · rw [List.length_set]
    omega
theorem sPPut (A : Option Addr) (n c N : Nat) (es T : List (Nat → Int)) (p : Nat → Int) (w : World) (hn : n ≤ 1048576) (hc : n ≤ c) (hcm : c ≤ 9223372036854775807) (hT : ppT es p n = T) (hN : T.length = N) (h : Rd w 10 A n es) :
    Calls Try.prog 36 #[.slice A n c, .agg #[.int .i64 (p 0), .int .i64 (p 1), .int .i64 (p 2), .int .i64 (p 3), .int .i64 (p 4), .int .i64 (p 5), .int .i64 (p 6), .int .i64 (p 7), .int .i64 (p 8), .int .i64 (p 9)]] w fun y w' => ∃ A' c', y = .returned (.slice A' N c') ∧ Own w.heap.size w' 10 A' N T ∧ Below w.heap.size w w' := by
  subst hN hT
  have hl := h.1
  unfold ppT
  rcases hx : ixOf (hasPid es (p 0)) n with _ | k
  · have hall := ixOf_none hx
    simp only [insL_len hl ppl_le]
    rcases Nat.eq_zero_or_pos n with h0 | h0
    · exact sPP_0 A n c es p w hn h hc hcm h0 hall
    · exact sPP_n A n c es p w hn h hc hcm h0 hall
  · obtain ⟨h1, h2, h3⟩ := ixOf_some hx
    simp only [List.length_set, hl]
    exact sPP_y A n c k es p w hn h h1 h2 h3
theorem iPPut (A : Option Addr) (n c N : Nat) (es T : List (Nat → Int)) (p : Nat → Int) (w : World) (hn : n ≤ 1048576) (hT : ppT es p n = T) (hN : T.length = N) (h : Rd w 10 A n es) :
    Calls Try.prog 38 #[.slice A n c, .agg #[.int .i64 (p 0), .int .i64 (p 1), .int .i64 (p 2), .int .i64 (p 3), .int .i64 (p 4), .int .i64 (p 5), .int .i64 (p 6), .int .i64 (p 7), .int .i64 (p 8), .int .i64 (p 9)]] w fun y w' => ∃ A' c', y = .returned (.slice A' N c') ∧ Own w.heap.size w' 10 A' N T ∧ Below w.heap.size w w' := by
  subst hN hT
  have hl := h.1
  unfold ppT
  rcases hx : ixOf (hasPid es (p 0)) n with _ | k
  · have hall := ixOf_none hx
    simp only [insL_len hl ppl_le]
    exact iPP_n A n c es p w hn h hall
  · obtain ⟨h1, h2, h3⟩ := ixOf_some hx
    simp only [List.length_set, hl]
    exact iPP_y A n c k es p w hn h h1 h2 h3

set_option maxRecDepth 100000 in
set_option maxHeartbeats 8000000 in
theorem lawPartyPut (A : Option Addr) (n c : Nat) (e : Nat → Int) (es : List (Nat → Int)) (w : World) (hn0 : n ≤ 9223372036854775807) (h : Rd w 10 A n es) :
    Calls Try.prog 9 #[.slice A n c, .agg #[.int .i64 (e 0), .int .i64 (e 1), .int .i64 (e 2), .int .i64 (e 3), .int .i64 (e 4), .int .i64 (e 5), .int .i64 (e 6), .int .i64 (e 7), .int .i64 (e 8), .int .i64 (e 9)]] w fun y w' => y = .returned (.bool true) ∧ Below w.heap.size w w' := by
  have hlen := ppT_len (p := e) h.1
  obtain ⟨T, hT⟩ : ∃ T, ppT es e n = T := ⟨_, rfl⟩
  obtain ⟨N, hN⟩ : ∃ N, T.length = N := ⟨_, rfl⟩
  rw [hT, hN] at hlen
  have HT := Lib.hid hT
  have HN := Lib.hid hN
  clear hT hN
  have H := Lib.hid h
  clear h
  by_cases hn : n ≤ 1048576
  · have hn4 : n ≤ 4194304 := by omega
    have hN4 : N ≤ 4194304 := by omega
    have hni : (n : Int) ≤ 1048576 := by omega
    go_enter Try.func9, Try.ntmps9
    go_wp2_with fail
    refine (szPartyS_any A n c 1048576 _ hn0 (by omega) (by omega)).mono ?_
    rw [if_pos (by omega : (n : Int) ≤ 1048576)]
    rintro y w0 ⟨rfl, rfl⟩
    go_wp2
    go_region_held3 (fun w' => w'.cell? ⟨w.heap.size, 0, none⟩ = some (.int .i64 (e 0)) ∧ w'.cell? ⟨w.heap.size, 1, none⟩ = some (.int .i64 (e 1)) ∧ w'.cell? ⟨w.heap.size, 2, none⟩ = some (.int .i64 (e 2)) ∧ w'.cell? ⟨w.heap.size, 3, none⟩ = some (.int .i64 (e 3)) ∧ w'.cell? ⟨w.heap.size, 4, none⟩ = some (.int .i64 (e 4)) ∧ w'.cell? ⟨w.heap.size, 5, none⟩ = some (.int .i64 (e 5)) ∧ w'.cell? ⟨w.heap.size, 6, none⟩ = some (.int .i64 (e 6)) ∧ w'.cell? ⟨w.heap.size, 7, none⟩ = some (.int .i64 (e 7)) ∧ w'.cell? ⟨w.heap.size, 8, none⟩ = some (.int .i64 (e 8)) ∧ w'.cell? ⟨w.heap.size, 9, none⟩ = some (.int .i64 (e 9))) ((first | (go_keep; done) | (go_simp; done))) (first
      | (go_at_call 37; refine (toPartyS_n A n c es _ hn (H.out.below (by (repeat (first | with_reducible exact Below.refl _ _ | with_reducible refine Below.drew ?_ | with_reducible refine below_drewN ?_ _ | (with_reducible refine bel_alloc ?_ ?_ _; (first | omega | (simp; omega) | simp)) | (with_reducible refine bel_set ?_ ?_ _; (first | omega | (simp; omega) | simp)) | (with_reducible refine bel_tr (by assumption) ?_ ?_; (first | omega | (simp; omega) | simp))))))).mono ?_; rintro y w1 ⟨A1, rfl, o1, b1⟩; have s1 := b1.size; (try simp at s1); have O1 := Lib.hid o1; have I1 := Lib.hid o1.inB; clear o1; have x0 : w1.cell? ⟨w.heap.size, 0, none⟩ = some (.int .i64 (e 0)) := (b1.cell (p := ⟨w.heap.size, 0, none⟩) (by (first | omega | (simp; omega) | simp))).trans (by (first | (go_keep; done) | (go_simp; done))); have x1 : w1.cell? ⟨w.heap.size, 1, none⟩ = some (.int .i64 (e 1)) := (b1.cell (p := ⟨w.heap.size, 1, none⟩) (by (first | omega | (simp; omega) | simp))).trans (by (first | (go_keep; done) | (go_simp; done))); have x2 : w1.cell? ⟨w.heap.size, 2, none⟩ = some (.int .i64 (e 2)) := (b1.cell (p := ⟨w.heap.size, 2, none⟩) (by (first | omega | (simp; omega) | simp))).trans (by (first | (go_keep; done) | (go_simp; done))); have x3 : w1.cell? ⟨w.heap.size, 3, none⟩ = some (.int .i64 (e 3)) := (b1.cell (p := ⟨w.heap.size, 3, none⟩) (by (first | omega | (simp; omega) | simp))).trans (by (first | (go_keep; done) | (go_simp; done))); have x4 : w1.cell? ⟨w.heap.size, 4, none⟩ = some (.int .i64 (e 4)) := (b1.cell (p := ⟨w.heap.size, 4, none⟩) (by (first | omega | (simp; omega) | simp))).trans (by (first | (go_keep; done) | (go_simp; done))); have x5 : w1.cell? ⟨w.heap.size, 5, none⟩ = some (.int .i64 (e 5)) := (b1.cell (p := ⟨w.heap.size, 5, none⟩) (by (first | omega | (simp; omega) | simp))).trans (by (first | (go_keep; done) | (go_simp; done))); have x6 : w1.cell? ⟨w.heap.size, 6, none⟩ = some (.int .i64 (e 6)) := (b1.cell (p := ⟨w.heap.size, 6, none⟩) (by (first | omega | (simp; omega) | simp))).trans (by (first | (go_keep; done) | (go_simp; done))); have x7 : w1.cell? ⟨w.heap.size, 7, none⟩ = some (.int .i64 (e 7)) := (b1.cell (p := ⟨w.heap.size, 7, none⟩) (by (first | omega | (simp; omega) | simp))).trans (by (first | (go_keep; done) | (go_simp; done))); have x8 : w1.cell? ⟨w.heap.size, 8, none⟩ = some (.int .i64 (e 8)) := (b1.cell (p := ⟨w.heap.size, 8, none⟩) (by (first | omega | (simp; omega) | simp))).trans (by (first | (go_keep; done) | (go_simp; done))); have x9 : w1.cell? ⟨w.heap.size, 9, none⟩ = some (.int .i64 (e 9)) := (b1.cell (p := ⟨w.heap.size, 9, none⟩) (by (first | omega | (simp; omega) | simp))).trans (by (first | (go_keep; done) | (go_simp; done))))
      | (go_at_call 18; refine (toParty_any e _).mono ?_; rintro y w21 ⟨rfl, b21⟩; have s21 := b21.size; (try simp at s21); have x0 : w21.cell? ⟨w.heap.size, 0, none⟩ = some (.int .i64 (e 0)) := (b21.cell (p := ⟨w.heap.size, 0, none⟩) (by (first | omega | (simp; omega) | simp))).trans (by (first | (go_keep; done) | (go_simp; done))); have x1 : w21.cell? ⟨w.heap.size, 1, none⟩ = some (.int .i64 (e 1)) := (b21.cell (p := ⟨w.heap.size, 1, none⟩) (by (first | omega | (simp; omega) | simp))).trans (by (first | (go_keep; done) | (go_simp; done))); have x2 : w21.cell? ⟨w.heap.size, 2, none⟩ = some (.int .i64 (e 2)) := (b21.cell (p := ⟨w.heap.size, 2, none⟩) (by (first | omega | (simp; omega) | simp))).trans (by (first | (go_keep; done) | (go_simp; done))); have x3 : w21.cell? ⟨w.heap.size, 3, none⟩ = some (.int .i64 (e 3)) := (b21.cell (p := ⟨w.heap.size, 3, none⟩) (by (first | omega | (simp; omega) | simp))).trans (by (first | (go_keep; done) | (go_simp; done))); have x4 : w21.cell? ⟨w.heap.size, 4, none⟩ = some (.int .i64 (e 4)) := (b21.cell (p := ⟨w.heap.size, 4, none⟩) (by (first | omega | (simp; omega) | simp))).trans (by (first | (go_keep; done) | (go_simp; done))); have x5 : w21.cell? ⟨w.heap.size, 5, none⟩ = some (.int .i64 (e 5)) := (b21.cell (p := ⟨w.heap.size, 5, none⟩) (by (first | omega | (simp; omega) | simp))).trans (by (first | (go_keep; done) | (go_simp; done))); have x6 : w21.cell? ⟨w.heap.size, 6, none⟩ = some (.int .i64 (e 6)) := (b21.cell (p := ⟨w.heap.size, 6, none⟩) (by (first | omega | (simp; omega) | simp))).trans (by (first | (go_keep; done) | (go_simp; done))); have x7 : w21.cell? ⟨w.heap.size, 7, none⟩ = some (.int .i64 (e 7)) := (b21.cell (p := ⟨w.heap.size, 7, none⟩) (by (first | omega | (simp; omega) | simp))).trans (by (first | (go_keep; done) | (go_simp; done))); have x8 : w21.cell? ⟨w.heap.size, 8, none⟩ = some (.int .i64 (e 8)) := (b21.cell (p := ⟨w.heap.size, 8, none⟩) (by (first | omega | (simp; omega) | simp))).trans (by (first | (go_keep; done) | (go_simp; done))); have x9 : w21.cell? ⟨w.heap.size, 9, none⟩ = some (.int .i64 (e 9)) := (b21.cell (p := ⟨w.heap.size, 9, none⟩) (by (first | omega | (simp; omega) | simp))).trans (by (first | (go_keep; done) | (go_simp; done))))
      | (go_at_call 36; refine (sPPut A1 n n N es T e _ hn (Nat.le_refl _) (by omega) HT.out HN.out (O1.out.rd.below (by (repeat (first | with_reducible exact Below.refl _ _ | with_reducible refine Below.drew ?_ | with_reducible refine below_drewN ?_ _ | (with_reducible refine bel_alloc ?_ ?_ _; (first | omega | (simp; omega) | simp)) | (with_reducible refine bel_set ?_ ?_ _; (first | omega | (simp; omega) | simp)) | (with_reducible refine bel_tr (by assumption) ?_ ?_; (first | omega | (simp; omega) | simp))))))).mono ?_; rintro y w2 ⟨A2, c2, rfl, o2, b2⟩; have s2 := b2.size; (try simp at s2); have q2 := o2.lower_ (B' := w1.heap.size) (by (first | omega | (simp; omega) | simp)); have O2 := Lib.hid q2; have I2 := Lib.hid q2.inB; clear o2 q2; have x0 : w2.cell? ⟨w.heap.size, 0, none⟩ = some (.int .i64 (e 0)) := (b2.cell (p := ⟨w.heap.size, 0, none⟩) (by (first | omega | (simp; omega) | simp))).trans (by (first | (go_keep; done) | (go_simp; done))); have x1 : w2.cell? ⟨w.heap.size, 1, none⟩ = some (.int .i64 (e 1)) := (b2.cell (p := ⟨w.heap.size, 1, none⟩) (by (first | omega | (simp; omega) | simp))).trans (by (first | (go_keep; done) | (go_simp; done))); have x2 : w2.cell? ⟨w.heap.size, 2, none⟩ = some (.int .i64 (e 2)) := (b2.cell (p := ⟨w.heap.size, 2, none⟩) (by (first | omega | (simp; omega) | simp))).trans (by (first | (go_keep; done) | (go_simp; done))); have x3 : w2.cell? ⟨w.heap.size, 3, none⟩ = some (.int .i64 (e 3)) := (b2.cell (p := ⟨w.heap.size, 3, none⟩) (by (first | omega | (simp; omega) | simp))).trans (by (first | (go_keep; done) | (go_simp; done))); have x4 : w2.cell? ⟨w.heap.size, 4, none⟩ = some (.int .i64 (e 4)) := (b2.cell (p := ⟨w.heap.size, 4, none⟩) (by (first | omega | (simp; omega) | simp))).trans (by (first | (go_keep; done) | (go_simp; done))); have x5 : w2.cell? ⟨w.heap.size, 5, none⟩ = some (.int .i64 (e 5)) := (b2.cell (p := ⟨w.heap.size, 5, none⟩) (by (first | omega | (simp; omega) | simp))).trans (by (first | (go_keep; done) | (go_simp; done))); have x6 : w2.cell? ⟨w.heap.size, 6, none⟩ = some (.int .i64 (e 6)) := (b2.cell (p := ⟨w.heap.size, 6, none⟩) (by (first | omega | (simp; omega) | simp))).trans (by (first | (go_keep; done) | (go_simp; done))); have x7 : w2.cell? ⟨w.heap.size, 7, none⟩ = some (.int .i64 (e 7)) := (b2.cell (p := ⟨w.heap.size, 7, none⟩) (by (first | omega | (simp; omega) | simp))).trans (by (first | (go_keep; done) | (go_simp; done))); have x8 : w2.cell? ⟨w.heap.size, 8, none⟩ = some (.int .i64 (e 8)) := (b2.cell (p := ⟨w.heap.size, 8, none⟩) (by (first | omega | (simp; omega) | simp))).trans (by (first | (go_keep; done) | (go_simp; done))); have x9 : w2.cell? ⟨w.heap.size, 9, none⟩ = some (.int .i64 (e 9)) := (b2.cell (p := ⟨w.heap.size, 9, none⟩) (by (first | omega | (simp; omega) | simp))).trans (by (first | (go_keep; done) | (go_simp; done)))))
    go_wp2_with fail
    refine (toPartyS_n A n c es _ hn (H.out.below (by (repeat (first | with_reducible exact Below.refl _ _ | with_reducible refine Below.drew ?_ | with_reducible refine below_drewN ?_ _ | (with_reducible refine bel_alloc ?_ ?_ _; (first | omega | (simp; omega) | simp)) | (with_reducible refine bel_set ?_ ?_ _; (first | omega | (simp; omega) | simp)) | (with_reducible refine bel_tr (by assumption) ?_ ?_; (first | omega | (simp; omega) | simp))))))).mono ?_
    rintro y w3 ⟨A3, rfl, o3, b3⟩
    have s3 := b3.size
    (try simp at s3)
    have O3 := Lib.hid o3
    have I3 := Lib.hid o3.inB
    clear o3
    have x0 : w3.cell? ⟨w.heap.size, 0, none⟩ = some (.int .i64 (e 0)) := (b3.cell (p := ⟨w.heap.size, 0, none⟩) (by (first | omega | (simp; omega) | simp))).trans (by (first | (go_keep; done) | (go_simp; done)))
    have x1 : w3.cell? ⟨w.heap.size, 1, none⟩ = some (.int .i64 (e 1)) := (b3.cell (p := ⟨w.heap.size, 1, none⟩) (by (first | omega | (simp; omega) | simp))).trans (by (first | (go_keep; done) | (go_simp; done)))
    have x2 : w3.cell? ⟨w.heap.size, 2, none⟩ = some (.int .i64 (e 2)) := (b3.cell (p := ⟨w.heap.size, 2, none⟩) (by (first | omega | (simp; omega) | simp))).trans (by (first | (go_keep; done) | (go_simp; done)))
    have x3 : w3.cell? ⟨w.heap.size, 3, none⟩ = some (.int .i64 (e 3)) := (b3.cell (p := ⟨w.heap.size, 3, none⟩) (by (first | omega | (simp; omega) | simp))).trans (by (first | (go_keep; done) | (go_simp; done)))
    have x4 : w3.cell? ⟨w.heap.size, 4, none⟩ = some (.int .i64 (e 4)) := (b3.cell (p := ⟨w.heap.size, 4, none⟩) (by (first | omega | (simp; omega) | simp))).trans (by (first | (go_keep; done) | (go_simp; done)))
    have x5 : w3.cell? ⟨w.heap.size, 5, none⟩ = some (.int .i64 (e 5)) := (b3.cell (p := ⟨w.heap.size, 5, none⟩) (by (first | omega | (simp; omega) | simp))).trans (by (first | (go_keep; done) | (go_simp; done)))
    have x6 : w3.cell? ⟨w.heap.size, 6, none⟩ = some (.int .i64 (e 6)) := (b3.cell (p := ⟨w.heap.size, 6, none⟩) (by (first | omega | (simp; omega) | simp))).trans (by (first | (go_keep; done) | (go_simp; done)))
    have x7 : w3.cell? ⟨w.heap.size, 7, none⟩ = some (.int .i64 (e 7)) := (b3.cell (p := ⟨w.heap.size, 7, none⟩) (by (first | omega | (simp; omega) | simp))).trans (by (first | (go_keep; done) | (go_simp; done)))
    have x8 : w3.cell? ⟨w.heap.size, 8, none⟩ = some (.int .i64 (e 8)) := (b3.cell (p := ⟨w.heap.size, 8, none⟩) (by (first | omega | (simp; omega) | simp))).trans (by (first | (go_keep; done) | (go_simp; done)))
    have x9 : w3.cell? ⟨w.heap.size, 9, none⟩ = some (.int .i64 (e 9)) := (b3.cell (p := ⟨w.heap.size, 9, none⟩) (by (first | omega | (simp; omega) | simp))).trans (by (first | (go_keep; done) | (go_simp; done)))
    go_wp2_with fail
    refine (toParty_any e _).mono ?_
    rintro y w23 ⟨rfl, b23⟩
    have s23 := b23.size
    (try simp at s23)
    have x0 : w23.cell? ⟨w.heap.size, 0, none⟩ = some (.int .i64 (e 0)) := (b23.cell (p := ⟨w.heap.size, 0, none⟩) (by (first | omega | (simp; omega) | simp))).trans (by (first | (go_keep; done) | (go_simp; done)))
    have x1 : w23.cell? ⟨w.heap.size, 1, none⟩ = some (.int .i64 (e 1)) := (b23.cell (p := ⟨w.heap.size, 1, none⟩) (by (first | omega | (simp; omega) | simp))).trans (by (first | (go_keep; done) | (go_simp; done)))
    have x2 : w23.cell? ⟨w.heap.size, 2, none⟩ = some (.int .i64 (e 2)) := (b23.cell (p := ⟨w.heap.size, 2, none⟩) (by (first | omega | (simp; omega) | simp))).trans (by (first | (go_keep; done) | (go_simp; done)))
    have x3 : w23.cell? ⟨w.heap.size, 3, none⟩ = some (.int .i64 (e 3)) := (b23.cell (p := ⟨w.heap.size, 3, none⟩) (by (first | omega | (simp; omega) | simp))).trans (by (first | (go_keep; done) | (go_simp; done)))
    have x4 : w23.cell? ⟨w.heap.size, 4, none⟩ = some (.int .i64 (e 4)) := (b23.cell (p := ⟨w.heap.size, 4, none⟩) (by (first | omega | (simp; omega) | simp))).trans (by (first | (go_keep; done) | (go_simp; done)))
    have x5 : w23.cell? ⟨w.heap.size, 5, none⟩ = some (.int .i64 (e 5)) := (b23.cell (p := ⟨w.heap.size, 5, none⟩) (by (first | omega | (simp; omega) | simp))).trans (by (first | (go_keep; done) | (go_simp; done)))
    have x6 : w23.cell? ⟨w.heap.size, 6, none⟩ = some (.int .i64 (e 6)) := (b23.cell (p := ⟨w.heap.size, 6, none⟩) (by (first | omega | (simp; omega) | simp))).trans (by (first | (go_keep; done) | (go_simp; done)))
    have x7 : w23.cell? ⟨w.heap.size, 7, none⟩ = some (.int .i64 (e 7)) := (b23.cell (p := ⟨w.heap.size, 7, none⟩) (by (first | omega | (simp; omega) | simp))).trans (by (first | (go_keep; done) | (go_simp; done)))
    have x8 : w23.cell? ⟨w.heap.size, 8, none⟩ = some (.int .i64 (e 8)) := (b23.cell (p := ⟨w.heap.size, 8, none⟩) (by (first | omega | (simp; omega) | simp))).trans (by (first | (go_keep; done) | (go_simp; done)))
    have x9 : w23.cell? ⟨w.heap.size, 9, none⟩ = some (.int .i64 (e 9)) := (b23.cell (p := ⟨w.heap.size, 9, none⟩) (by (first | omega | (simp; omega) | simp))).trans (by (first | (go_keep; done) | (go_simp; done)))
    go_wp2_with fail
    refine (iPPut A3 n n N es T e _ hn HT.out HN.out (O3.out.rd.below (by (repeat (first | with_reducible exact Below.refl _ _ | with_reducible refine Below.drew ?_ | with_reducible refine below_drewN ?_ _ | (with_reducible refine bel_alloc ?_ ?_ _; (first | omega | (simp; omega) | simp)) | (with_reducible refine bel_set ?_ ?_ _; (first | omega | (simp; omega) | simp)) | (with_reducible refine bel_tr (by assumption) ?_ ?_; (first | omega | (simp; omega) | simp))))))).mono ?_
    rintro y w4 ⟨A4, c4, rfl, o4, b4⟩
    have s4 := b4.size
    (try simp at s4)
    have q4 := o4.lower_ (B' := w3.heap.size) (by (first | omega | (simp; omega) | simp))
    have O4 := Lib.hid q4
    have I4 := Lib.hid q4.inB
    clear o4 q4
    have x0 : w4.cell? ⟨w.heap.size, 0, none⟩ = some (.int .i64 (e 0)) := (b4.cell (p := ⟨w.heap.size, 0, none⟩) (by (first | omega | (simp; omega) | simp))).trans (by (first | (go_keep; done) | (go_simp; done)))
    have x1 : w4.cell? ⟨w.heap.size, 1, none⟩ = some (.int .i64 (e 1)) := (b4.cell (p := ⟨w.heap.size, 1, none⟩) (by (first | omega | (simp; omega) | simp))).trans (by (first | (go_keep; done) | (go_simp; done)))
    have x2 : w4.cell? ⟨w.heap.size, 2, none⟩ = some (.int .i64 (e 2)) := (b4.cell (p := ⟨w.heap.size, 2, none⟩) (by (first | omega | (simp; omega) | simp))).trans (by (first | (go_keep; done) | (go_simp; done)))
    have x3 : w4.cell? ⟨w.heap.size, 3, none⟩ = some (.int .i64 (e 3)) := (b4.cell (p := ⟨w.heap.size, 3, none⟩) (by (first | omega | (simp; omega) | simp))).trans (by (first | (go_keep; done) | (go_simp; done)))
    have x4 : w4.cell? ⟨w.heap.size, 4, none⟩ = some (.int .i64 (e 4)) := (b4.cell (p := ⟨w.heap.size, 4, none⟩) (by (first | omega | (simp; omega) | simp))).trans (by (first | (go_keep; done) | (go_simp; done)))
    have x5 : w4.cell? ⟨w.heap.size, 5, none⟩ = some (.int .i64 (e 5)) := (b4.cell (p := ⟨w.heap.size, 5, none⟩) (by (first | omega | (simp; omega) | simp))).trans (by (first | (go_keep; done) | (go_simp; done)))
    have x6 : w4.cell? ⟨w.heap.size, 6, none⟩ = some (.int .i64 (e 6)) := (b4.cell (p := ⟨w.heap.size, 6, none⟩) (by (first | omega | (simp; omega) | simp))).trans (by (first | (go_keep; done) | (go_simp; done)))
    have x7 : w4.cell? ⟨w.heap.size, 7, none⟩ = some (.int .i64 (e 7)) := (b4.cell (p := ⟨w.heap.size, 7, none⟩) (by (first | omega | (simp; omega) | simp))).trans (by (first | (go_keep; done) | (go_simp; done)))
    have x8 : w4.cell? ⟨w.heap.size, 8, none⟩ = some (.int .i64 (e 8)) := (b4.cell (p := ⟨w.heap.size, 8, none⟩) (by (first | omega | (simp; omega) | simp))).trans (by (first | (go_keep; done) | (go_simp; done)))
    have x9 : w4.cell? ⟨w.heap.size, 9, none⟩ = some (.int .i64 (e 9)) := (b4.cell (p := ⟨w.heap.size, 9, none⟩) (by (first | omega | (simp; omega) | simp))).trans (by (first | (go_keep; done) | (go_simp; done)))
    go_wp2_with fail
    refine (eqPartyS_same A4 A2 N c4 c2 T _ hN4 O4.out.rd (O2.out.rd.below (by (repeat (first | with_reducible exact Below.refl _ _ | with_reducible refine Below.drew ?_ | with_reducible refine below_drewN ?_ _ | (with_reducible refine bel_alloc ?_ ?_ _; (first | omega | (simp; omega) | simp)) | (with_reducible refine bel_set ?_ ?_ _; (first | omega | (simp; omega) | simp)) | (with_reducible refine bel_tr (by assumption) ?_ ?_; (first | omega | (simp; omega) | simp))))))).mono ?_
    rintro y w5 ⟨rfl, b5⟩
    have s5 := b5.size
    have x0 : w5.cell? ⟨w.heap.size, 0, none⟩ = some (.int .i64 (e 0)) := (b5.cell (p := ⟨w.heap.size, 0, none⟩) (by (first | omega | (simp; omega) | simp))).trans (by (first | (go_keep; done) | (go_simp; done)))
    have x1 : w5.cell? ⟨w.heap.size, 1, none⟩ = some (.int .i64 (e 1)) := (b5.cell (p := ⟨w.heap.size, 1, none⟩) (by (first | omega | (simp; omega) | simp))).trans (by (first | (go_keep; done) | (go_simp; done)))
    have x2 : w5.cell? ⟨w.heap.size, 2, none⟩ = some (.int .i64 (e 2)) := (b5.cell (p := ⟨w.heap.size, 2, none⟩) (by (first | omega | (simp; omega) | simp))).trans (by (first | (go_keep; done) | (go_simp; done)))
    have x3 : w5.cell? ⟨w.heap.size, 3, none⟩ = some (.int .i64 (e 3)) := (b5.cell (p := ⟨w.heap.size, 3, none⟩) (by (first | omega | (simp; omega) | simp))).trans (by (first | (go_keep; done) | (go_simp; done)))
    have x4 : w5.cell? ⟨w.heap.size, 4, none⟩ = some (.int .i64 (e 4)) := (b5.cell (p := ⟨w.heap.size, 4, none⟩) (by (first | omega | (simp; omega) | simp))).trans (by (first | (go_keep; done) | (go_simp; done)))
    have x5 : w5.cell? ⟨w.heap.size, 5, none⟩ = some (.int .i64 (e 5)) := (b5.cell (p := ⟨w.heap.size, 5, none⟩) (by (first | omega | (simp; omega) | simp))).trans (by (first | (go_keep; done) | (go_simp; done)))
    have x6 : w5.cell? ⟨w.heap.size, 6, none⟩ = some (.int .i64 (e 6)) := (b5.cell (p := ⟨w.heap.size, 6, none⟩) (by (first | omega | (simp; omega) | simp))).trans (by (first | (go_keep; done) | (go_simp; done)))
    have x7 : w5.cell? ⟨w.heap.size, 7, none⟩ = some (.int .i64 (e 7)) := (b5.cell (p := ⟨w.heap.size, 7, none⟩) (by (first | omega | (simp; omega) | simp))).trans (by (first | (go_keep; done) | (go_simp; done)))
    have x8 : w5.cell? ⟨w.heap.size, 8, none⟩ = some (.int .i64 (e 8)) := (b5.cell (p := ⟨w.heap.size, 8, none⟩) (by (first | omega | (simp; omega) | simp))).trans (by (first | (go_keep; done) | (go_simp; done)))
    have x9 : w5.cell? ⟨w.heap.size, 9, none⟩ = some (.int .i64 (e 9)) := (b5.cell (p := ⟨w.heap.size, 9, none⟩) (by (first | omega | (simp; omega) | simp))).trans (by (first | (go_keep; done) | (go_simp; done)))
    go_wp2_with fail
    refine (toPartyS_n A n c es _ hn (H.out.below (by (repeat (first | with_reducible exact Below.refl _ _ | with_reducible refine Below.drew ?_ | with_reducible refine below_drewN ?_ _ | (with_reducible refine bel_alloc ?_ ?_ _; (first | omega | (simp; omega) | simp)) | (with_reducible refine bel_set ?_ ?_ _; (first | omega | (simp; omega) | simp)) | (with_reducible refine bel_tr (by assumption) ?_ ?_; (first | omega | (simp; omega) | simp))))))).mono ?_
    rintro y w6 ⟨A6, rfl, o6, b6⟩
    have s6 := b6.size
    have O6 := Lib.hid o6
    clear o6
    have x0 : w6.cell? ⟨w.heap.size, 0, none⟩ = some (.int .i64 (e 0)) := (b6.cell (p := ⟨w.heap.size, 0, none⟩) (by (first | omega | (simp; omega) | simp))).trans (by (first | (go_keep; done) | (go_simp; done)))
    have x1 : w6.cell? ⟨w.heap.size, 1, none⟩ = some (.int .i64 (e 1)) := (b6.cell (p := ⟨w.heap.size, 1, none⟩) (by (first | omega | (simp; omega) | simp))).trans (by (first | (go_keep; done) | (go_simp; done)))
    have x2 : w6.cell? ⟨w.heap.size, 2, none⟩ = some (.int .i64 (e 2)) := (b6.cell (p := ⟨w.heap.size, 2, none⟩) (by (first | omega | (simp; omega) | simp))).trans (by (first | (go_keep; done) | (go_simp; done)))
    have x3 : w6.cell? ⟨w.heap.size, 3, none⟩ = some (.int .i64 (e 3)) := (b6.cell (p := ⟨w.heap.size, 3, none⟩) (by (first | omega | (simp; omega) | simp))).trans (by (first | (go_keep; done) | (go_simp; done)))
    have x4 : w6.cell? ⟨w.heap.size, 4, none⟩ = some (.int .i64 (e 4)) := (b6.cell (p := ⟨w.heap.size, 4, none⟩) (by (first | omega | (simp; omega) | simp))).trans (by (first | (go_keep; done) | (go_simp; done)))
    have x5 : w6.cell? ⟨w.heap.size, 5, none⟩ = some (.int .i64 (e 5)) := (b6.cell (p := ⟨w.heap.size, 5, none⟩) (by (first | omega | (simp; omega) | simp))).trans (by (first | (go_keep; done) | (go_simp; done)))
    have x6 : w6.cell? ⟨w.heap.size, 6, none⟩ = some (.int .i64 (e 6)) := (b6.cell (p := ⟨w.heap.size, 6, none⟩) (by (first | omega | (simp; omega) | simp))).trans (by (first | (go_keep; done) | (go_simp; done)))
    have x7 : w6.cell? ⟨w.heap.size, 7, none⟩ = some (.int .i64 (e 7)) := (b6.cell (p := ⟨w.heap.size, 7, none⟩) (by (first | omega | (simp; omega) | simp))).trans (by (first | (go_keep; done) | (go_simp; done)))
    have x8 : w6.cell? ⟨w.heap.size, 8, none⟩ = some (.int .i64 (e 8)) := (b6.cell (p := ⟨w.heap.size, 8, none⟩) (by (first | omega | (simp; omega) | simp))).trans (by (first | (go_keep; done) | (go_simp; done)))
    have x9 : w6.cell? ⟨w.heap.size, 9, none⟩ = some (.int .i64 (e 9)) := (b6.cell (p := ⟨w.heap.size, 9, none⟩) (by (first | omega | (simp; omega) | simp))).trans (by (first | (go_keep; done) | (go_simp; done)))
    go_wp2_with fail
    refine (eqPartyS_same A3 A6 n n n es _ hn4 (O3.out.rd.below (by (repeat (first | with_reducible exact Below.refl _ _ | with_reducible refine Below.drew ?_ | with_reducible refine below_drewN ?_ _ | (with_reducible refine bel_alloc ?_ ?_ _; (first | omega | (simp; omega) | simp)) | (with_reducible refine bel_set ?_ ?_ _; (first | omega | (simp; omega) | simp)) | (with_reducible refine bel_tr (by assumption) ?_ ?_; (first | omega | (simp; omega) | simp)))))) O6.out.rd).mono ?_
    rintro y w7 ⟨rfl, b7⟩
    have s7 := b7.size
    have x0 : w7.cell? ⟨w.heap.size, 0, none⟩ = some (.int .i64 (e 0)) := (b7.cell (p := ⟨w.heap.size, 0, none⟩) (by (first | omega | (simp; omega) | simp))).trans (by (first | (go_keep; done) | (go_simp; done)))
    have x1 : w7.cell? ⟨w.heap.size, 1, none⟩ = some (.int .i64 (e 1)) := (b7.cell (p := ⟨w.heap.size, 1, none⟩) (by (first | omega | (simp; omega) | simp))).trans (by (first | (go_keep; done) | (go_simp; done)))
    have x2 : w7.cell? ⟨w.heap.size, 2, none⟩ = some (.int .i64 (e 2)) := (b7.cell (p := ⟨w.heap.size, 2, none⟩) (by (first | omega | (simp; omega) | simp))).trans (by (first | (go_keep; done) | (go_simp; done)))
    have x3 : w7.cell? ⟨w.heap.size, 3, none⟩ = some (.int .i64 (e 3)) := (b7.cell (p := ⟨w.heap.size, 3, none⟩) (by (first | omega | (simp; omega) | simp))).trans (by (first | (go_keep; done) | (go_simp; done)))
    have x4 : w7.cell? ⟨w.heap.size, 4, none⟩ = some (.int .i64 (e 4)) := (b7.cell (p := ⟨w.heap.size, 4, none⟩) (by (first | omega | (simp; omega) | simp))).trans (by (first | (go_keep; done) | (go_simp; done)))
    have x5 : w7.cell? ⟨w.heap.size, 5, none⟩ = some (.int .i64 (e 5)) := (b7.cell (p := ⟨w.heap.size, 5, none⟩) (by (first | omega | (simp; omega) | simp))).trans (by (first | (go_keep; done) | (go_simp; done)))
    have x6 : w7.cell? ⟨w.heap.size, 6, none⟩ = some (.int .i64 (e 6)) := (b7.cell (p := ⟨w.heap.size, 6, none⟩) (by (first | omega | (simp; omega) | simp))).trans (by (first | (go_keep; done) | (go_simp; done)))
    have x7 : w7.cell? ⟨w.heap.size, 7, none⟩ = some (.int .i64 (e 7)) := (b7.cell (p := ⟨w.heap.size, 7, none⟩) (by (first | omega | (simp; omega) | simp))).trans (by (first | (go_keep; done) | (go_simp; done)))
    have x8 : w7.cell? ⟨w.heap.size, 8, none⟩ = some (.int .i64 (e 8)) := (b7.cell (p := ⟨w.heap.size, 8, none⟩) (by (first | omega | (simp; omega) | simp))).trans (by (first | (go_keep; done) | (go_simp; done)))
    have x9 : w7.cell? ⟨w.heap.size, 9, none⟩ = some (.int .i64 (e 9)) := (b7.cell (p := ⟨w.heap.size, 9, none⟩) (by (first | omega | (simp; omega) | simp))).trans (by (first | (go_keep; done) | (go_simp; done)))
    have R2 := Lib.hid (O2.out.rd.below (w' := w7) (by (repeat (first | with_reducible exact Below.refl _ _ | with_reducible refine Below.drew ?_ | with_reducible refine below_drewN ?_ _ | (with_reducible refine bel_alloc ?_ ?_ _; (first | omega | (simp; omega) | simp)) | (with_reducible refine bel_set ?_ ?_ _; (first | omega | (simp; omega) | simp)) | (with_reducible refine bel_tr (by assumption) ?_ ?_; (first | omega | (simp; omega) | simp))))))
    have P3 := Lib.hid (O3.out.below (w' := w7) (by (repeat (first | with_reducible exact Below.refl _ _ | with_reducible refine Below.drew ?_ | with_reducible refine below_drewN ?_ _ | (with_reducible refine bel_alloc ?_ ?_ _; (first | omega | (simp; omega) | simp)) | (with_reducible refine bel_set ?_ ?_ _; (first | omega | (simp; omega) | simp)) | (with_reducible refine bel_tr (by assumption) ?_ ?_; (first | omega | (simp; omega) | simp))))))
    have P4 := Lib.hid (O4.out.below (w' := w7) (by (repeat (first | with_reducible exact Below.refl _ _ | with_reducible refine Below.drew ?_ | with_reducible refine below_drewN ?_ _ | (with_reducible refine bel_alloc ?_ ?_ _; (first | omega | (simp; omega) | simp)) | (with_reducible refine bel_set ?_ ?_ _; (first | omega | (simp; omega) | simp)) | (with_reducible refine bel_tr (by assumption) ?_ ?_; (first | omega | (simp; omega) | simp))))))
    go_wp2_with fail
    refine (markPartyS_any w2.heap.size A3 n n 1 es _ hn4 (by omega) P3.out).mono ?_
    rintro y w8 ⟨rfl, m8⟩
    have s8 : w7.heap.size ≤ w8.heap.size := by have := m8.2.2; omega
    have b8 : Below (w.heap.size + 1) w7 w8 := m8.below I3.out (by omega) (by omega)
    have R2' := Lib.hid (R2.out.grown_ m8.2.1 (ne_of_InB I2.out I3.out (.inl (by omega))))
    have P4' := Lib.hid (P4.out.grown_ m8.2.1 (ne_of_InB I4.out I3.out (.inr (by omega))))
    clear m8
    have x0 : w8.cell? ⟨w.heap.size, 0, none⟩ = some (.int .i64 (e 0)) := (b8.cell (p := ⟨w.heap.size, 0, none⟩) (by (first | omega | (simp; omega) | simp))).trans (by (first | (go_keep; done) | (go_simp; done)))
    have x1 : w8.cell? ⟨w.heap.size, 1, none⟩ = some (.int .i64 (e 1)) := (b8.cell (p := ⟨w.heap.size, 1, none⟩) (by (first | omega | (simp; omega) | simp))).trans (by (first | (go_keep; done) | (go_simp; done)))
    have x2 : w8.cell? ⟨w.heap.size, 2, none⟩ = some (.int .i64 (e 2)) := (b8.cell (p := ⟨w.heap.size, 2, none⟩) (by (first | omega | (simp; omega) | simp))).trans (by (first | (go_keep; done) | (go_simp; done)))
    have x3 : w8.cell? ⟨w.heap.size, 3, none⟩ = some (.int .i64 (e 3)) := (b8.cell (p := ⟨w.heap.size, 3, none⟩) (by (first | omega | (simp; omega) | simp))).trans (by (first | (go_keep; done) | (go_simp; done)))
    have x4 : w8.cell? ⟨w.heap.size, 4, none⟩ = some (.int .i64 (e 4)) := (b8.cell (p := ⟨w.heap.size, 4, none⟩) (by (first | omega | (simp; omega) | simp))).trans (by (first | (go_keep; done) | (go_simp; done)))
    have x5 : w8.cell? ⟨w.heap.size, 5, none⟩ = some (.int .i64 (e 5)) := (b8.cell (p := ⟨w.heap.size, 5, none⟩) (by (first | omega | (simp; omega) | simp))).trans (by (first | (go_keep; done) | (go_simp; done)))
    have x6 : w8.cell? ⟨w.heap.size, 6, none⟩ = some (.int .i64 (e 6)) := (b8.cell (p := ⟨w.heap.size, 6, none⟩) (by (first | omega | (simp; omega) | simp))).trans (by (first | (go_keep; done) | (go_simp; done)))
    have x7 : w8.cell? ⟨w.heap.size, 7, none⟩ = some (.int .i64 (e 7)) := (b8.cell (p := ⟨w.heap.size, 7, none⟩) (by (first | omega | (simp; omega) | simp))).trans (by (first | (go_keep; done) | (go_simp; done)))
    have x8 : w8.cell? ⟨w.heap.size, 8, none⟩ = some (.int .i64 (e 8)) := (b8.cell (p := ⟨w.heap.size, 8, none⟩) (by (first | omega | (simp; omega) | simp))).trans (by (first | (go_keep; done) | (go_simp; done)))
    have x9 : w8.cell? ⟨w.heap.size, 9, none⟩ = some (.int .i64 (e 9)) := (b8.cell (p := ⟨w.heap.size, 9, none⟩) (by (first | omega | (simp; omega) | simp))).trans (by (first | (go_keep; done) | (go_simp; done)))
    go_wp2_with fail
    refine (eqPartyS_same A4 A2 N c4 c2 T _ hN4 P4'.out.rd R2'.out).mono ?_
    rintro y w9 ⟨rfl, b9⟩
    have s9 := b9.size
    have x0 : w9.cell? ⟨w.heap.size, 0, none⟩ = some (.int .i64 (e 0)) := (b9.cell (p := ⟨w.heap.size, 0, none⟩) (by (first | omega | (simp; omega) | simp))).trans (by (first | (go_keep; done) | (go_simp; done)))
    have x1 : w9.cell? ⟨w.heap.size, 1, none⟩ = some (.int .i64 (e 1)) := (b9.cell (p := ⟨w.heap.size, 1, none⟩) (by (first | omega | (simp; omega) | simp))).trans (by (first | (go_keep; done) | (go_simp; done)))
    have x2 : w9.cell? ⟨w.heap.size, 2, none⟩ = some (.int .i64 (e 2)) := (b9.cell (p := ⟨w.heap.size, 2, none⟩) (by (first | omega | (simp; omega) | simp))).trans (by (first | (go_keep; done) | (go_simp; done)))
    have x3 : w9.cell? ⟨w.heap.size, 3, none⟩ = some (.int .i64 (e 3)) := (b9.cell (p := ⟨w.heap.size, 3, none⟩) (by (first | omega | (simp; omega) | simp))).trans (by (first | (go_keep; done) | (go_simp; done)))
    have x4 : w9.cell? ⟨w.heap.size, 4, none⟩ = some (.int .i64 (e 4)) := (b9.cell (p := ⟨w.heap.size, 4, none⟩) (by (first | omega | (simp; omega) | simp))).trans (by (first | (go_keep; done) | (go_simp; done)))
    have x5 : w9.cell? ⟨w.heap.size, 5, none⟩ = some (.int .i64 (e 5)) := (b9.cell (p := ⟨w.heap.size, 5, none⟩) (by (first | omega | (simp; omega) | simp))).trans (by (first | (go_keep; done) | (go_simp; done)))
    have x6 : w9.cell? ⟨w.heap.size, 6, none⟩ = some (.int .i64 (e 6)) := (b9.cell (p := ⟨w.heap.size, 6, none⟩) (by (first | omega | (simp; omega) | simp))).trans (by (first | (go_keep; done) | (go_simp; done)))
    have x7 : w9.cell? ⟨w.heap.size, 7, none⟩ = some (.int .i64 (e 7)) := (b9.cell (p := ⟨w.heap.size, 7, none⟩) (by (first | omega | (simp; omega) | simp))).trans (by (first | (go_keep; done) | (go_simp; done)))
    have x8 : w9.cell? ⟨w.heap.size, 8, none⟩ = some (.int .i64 (e 8)) := (b9.cell (p := ⟨w.heap.size, 8, none⟩) (by (first | omega | (simp; omega) | simp))).trans (by (first | (go_keep; done) | (go_simp; done)))
    have x9 : w9.cell? ⟨w.heap.size, 9, none⟩ = some (.int .i64 (e 9)) := (b9.cell (p := ⟨w.heap.size, 9, none⟩) (by (first | omega | (simp; omega) | simp))).trans (by (first | (go_keep; done) | (go_simp; done)))
    have R2'' := Lib.hid (R2'.out.below b9)
    have P4'' := Lib.hid (P4'.out.below b9)
    go_wp2_with fail
    refine (markPartyS_any w3.heap.size A4 N c4 1 T _ hN4 (by omega) P4''.out).mono ?_
    rintro y w10 ⟨rfl, m10⟩
    have s10 : w9.heap.size ≤ w10.heap.size := by have := m10.2.2; omega
    have b10 : Below (w.heap.size + 1) w9 w10 := m10.below I4.out (by omega) (by omega)
    have R2f := Lib.hid (R2''.out.grown_ m10.2.1 (ne_of_InB I2.out I4.out (.inl (by omega))))
    have M4 := Lib.hid m10.1
    clear m10
    have x0 : w10.cell? ⟨w.heap.size, 0, none⟩ = some (.int .i64 (e 0)) := (b10.cell (p := ⟨w.heap.size, 0, none⟩) (by (first | omega | (simp; omega) | simp))).trans (by (first | (go_keep; done) | (go_simp; done)))
    have x1 : w10.cell? ⟨w.heap.size, 1, none⟩ = some (.int .i64 (e 1)) := (b10.cell (p := ⟨w.heap.size, 1, none⟩) (by (first | omega | (simp; omega) | simp))).trans (by (first | (go_keep; done) | (go_simp; done)))
    have x2 : w10.cell? ⟨w.heap.size, 2, none⟩ = some (.int .i64 (e 2)) := (b10.cell (p := ⟨w.heap.size, 2, none⟩) (by (first | omega | (simp; omega) | simp))).trans (by (first | (go_keep; done) | (go_simp; done)))
    have x3 : w10.cell? ⟨w.heap.size, 3, none⟩ = some (.int .i64 (e 3)) := (b10.cell (p := ⟨w.heap.size, 3, none⟩) (by (first | omega | (simp; omega) | simp))).trans (by (first | (go_keep; done) | (go_simp; done)))
    have x4 : w10.cell? ⟨w.heap.size, 4, none⟩ = some (.int .i64 (e 4)) := (b10.cell (p := ⟨w.heap.size, 4, none⟩) (by (first | omega | (simp; omega) | simp))).trans (by (first | (go_keep; done) | (go_simp; done)))
    have x5 : w10.cell? ⟨w.heap.size, 5, none⟩ = some (.int .i64 (e 5)) := (b10.cell (p := ⟨w.heap.size, 5, none⟩) (by (first | omega | (simp; omega) | simp))).trans (by (first | (go_keep; done) | (go_simp; done)))
    have x6 : w10.cell? ⟨w.heap.size, 6, none⟩ = some (.int .i64 (e 6)) := (b10.cell (p := ⟨w.heap.size, 6, none⟩) (by (first | omega | (simp; omega) | simp))).trans (by (first | (go_keep; done) | (go_simp; done)))
    have x7 : w10.cell? ⟨w.heap.size, 7, none⟩ = some (.int .i64 (e 7)) := (b10.cell (p := ⟨w.heap.size, 7, none⟩) (by (first | omega | (simp; omega) | simp))).trans (by (first | (go_keep; done) | (go_simp; done)))
    have x8 : w10.cell? ⟨w.heap.size, 8, none⟩ = some (.int .i64 (e 8)) := (b10.cell (p := ⟨w.heap.size, 8, none⟩) (by (first | omega | (simp; omega) | simp))).trans (by (first | (go_keep; done) | (go_simp; done)))
    have x9 : w10.cell? ⟨w.heap.size, 9, none⟩ = some (.int .i64 (e 9)) := (b10.cell (p := ⟨w.heap.size, 9, none⟩) (by (first | omega | (simp; omega) | simp))).trans (by (first | (go_keep; done) | (go_simp; done)))
    go_wp2_with fail
    refine (heldPartyS_any A4 N c4 1 _ hN4 (by omega) M4.out.rd).mono ?_
    rintro y w11 ⟨rfl, rfl⟩
    go_wp2
    go_region_held3 (fun w' => w'.cell? ⟨w.heap.size, 0, none⟩ = some (.int .i64 (e 0)) ∧ w'.cell? ⟨w.heap.size, 1, none⟩ = some (.int .i64 (e 1)) ∧ w'.cell? ⟨w.heap.size, 2, none⟩ = some (.int .i64 (e 2)) ∧ w'.cell? ⟨w.heap.size, 3, none⟩ = some (.int .i64 (e 3)) ∧ w'.cell? ⟨w.heap.size, 4, none⟩ = some (.int .i64 (e 4)) ∧ w'.cell? ⟨w.heap.size, 5, none⟩ = some (.int .i64 (e 5)) ∧ w'.cell? ⟨w.heap.size, 6, none⟩ = some (.int .i64 (e 6)) ∧ w'.cell? ⟨w.heap.size, 7, none⟩ = some (.int .i64 (e 7)) ∧ w'.cell? ⟨w.heap.size, 8, none⟩ = some (.int .i64 (e 8)) ∧ w'.cell? ⟨w.heap.size, 9, none⟩ = some (.int .i64 (e 9))) ((first | (go_keep; done) | (go_simp; done))) (first
      | (go_at_call 37; refine (toPartyS_n A n c es _ hn (H.out.below (by (repeat (first | with_reducible exact Below.refl _ _ | with_reducible refine Below.drew ?_ | with_reducible refine below_drewN ?_ _ | (with_reducible refine bel_alloc ?_ ?_ _; (first | omega | (simp; omega) | simp)) | (with_reducible refine bel_set ?_ ?_ _; (first | omega | (simp; omega) | simp)) | (with_reducible refine bel_tr (by assumption) ?_ ?_; (first | omega | (simp; omega) | simp))))))).mono ?_; rintro y w12 ⟨A12, rfl, o12, b12⟩; have s12 := b12.size; (try simp at s12); have O12 := Lib.hid o12; have I12 := Lib.hid o12.inB; clear o12; have x0 : w12.cell? ⟨w.heap.size, 0, none⟩ = some (.int .i64 (e 0)) := (b12.cell (p := ⟨w.heap.size, 0, none⟩) (by (first | omega | (simp; omega) | simp))).trans (by (first | (go_keep; done) | (go_simp; done))); have x1 : w12.cell? ⟨w.heap.size, 1, none⟩ = some (.int .i64 (e 1)) := (b12.cell (p := ⟨w.heap.size, 1, none⟩) (by (first | omega | (simp; omega) | simp))).trans (by (first | (go_keep; done) | (go_simp; done))); have x2 : w12.cell? ⟨w.heap.size, 2, none⟩ = some (.int .i64 (e 2)) := (b12.cell (p := ⟨w.heap.size, 2, none⟩) (by (first | omega | (simp; omega) | simp))).trans (by (first | (go_keep; done) | (go_simp; done))); have x3 : w12.cell? ⟨w.heap.size, 3, none⟩ = some (.int .i64 (e 3)) := (b12.cell (p := ⟨w.heap.size, 3, none⟩) (by (first | omega | (simp; omega) | simp))).trans (by (first | (go_keep; done) | (go_simp; done))); have x4 : w12.cell? ⟨w.heap.size, 4, none⟩ = some (.int .i64 (e 4)) := (b12.cell (p := ⟨w.heap.size, 4, none⟩) (by (first | omega | (simp; omega) | simp))).trans (by (first | (go_keep; done) | (go_simp; done))); have x5 : w12.cell? ⟨w.heap.size, 5, none⟩ = some (.int .i64 (e 5)) := (b12.cell (p := ⟨w.heap.size, 5, none⟩) (by (first | omega | (simp; omega) | simp))).trans (by (first | (go_keep; done) | (go_simp; done))); have x6 : w12.cell? ⟨w.heap.size, 6, none⟩ = some (.int .i64 (e 6)) := (b12.cell (p := ⟨w.heap.size, 6, none⟩) (by (first | omega | (simp; omega) | simp))).trans (by (first | (go_keep; done) | (go_simp; done))); have x7 : w12.cell? ⟨w.heap.size, 7, none⟩ = some (.int .i64 (e 7)) := (b12.cell (p := ⟨w.heap.size, 7, none⟩) (by (first | omega | (simp; omega) | simp))).trans (by (first | (go_keep; done) | (go_simp; done))); have x8 : w12.cell? ⟨w.heap.size, 8, none⟩ = some (.int .i64 (e 8)) := (b12.cell (p := ⟨w.heap.size, 8, none⟩) (by (first | omega | (simp; omega) | simp))).trans (by (first | (go_keep; done) | (go_simp; done))); have x9 : w12.cell? ⟨w.heap.size, 9, none⟩ = some (.int .i64 (e 9)) := (b12.cell (p := ⟨w.heap.size, 9, none⟩) (by (first | omega | (simp; omega) | simp))).trans (by (first | (go_keep; done) | (go_simp; done))))
      | (go_at_call 18; refine (toParty_any e _).mono ?_; rintro y w22 ⟨rfl, b22⟩; have s22 := b22.size; (try simp at s22); have x0 : w22.cell? ⟨w.heap.size, 0, none⟩ = some (.int .i64 (e 0)) := (b22.cell (p := ⟨w.heap.size, 0, none⟩) (by (first | omega | (simp; omega) | simp))).trans (by (first | (go_keep; done) | (go_simp; done))); have x1 : w22.cell? ⟨w.heap.size, 1, none⟩ = some (.int .i64 (e 1)) := (b22.cell (p := ⟨w.heap.size, 1, none⟩) (by (first | omega | (simp; omega) | simp))).trans (by (first | (go_keep; done) | (go_simp; done))); have x2 : w22.cell? ⟨w.heap.size, 2, none⟩ = some (.int .i64 (e 2)) := (b22.cell (p := ⟨w.heap.size, 2, none⟩) (by (first | omega | (simp; omega) | simp))).trans (by (first | (go_keep; done) | (go_simp; done))); have x3 : w22.cell? ⟨w.heap.size, 3, none⟩ = some (.int .i64 (e 3)) := (b22.cell (p := ⟨w.heap.size, 3, none⟩) (by (first | omega | (simp; omega) | simp))).trans (by (first | (go_keep; done) | (go_simp; done))); have x4 : w22.cell? ⟨w.heap.size, 4, none⟩ = some (.int .i64 (e 4)) := (b22.cell (p := ⟨w.heap.size, 4, none⟩) (by (first | omega | (simp; omega) | simp))).trans (by (first | (go_keep; done) | (go_simp; done))); have x5 : w22.cell? ⟨w.heap.size, 5, none⟩ = some (.int .i64 (e 5)) := (b22.cell (p := ⟨w.heap.size, 5, none⟩) (by (first | omega | (simp; omega) | simp))).trans (by (first | (go_keep; done) | (go_simp; done))); have x6 : w22.cell? ⟨w.heap.size, 6, none⟩ = some (.int .i64 (e 6)) := (b22.cell (p := ⟨w.heap.size, 6, none⟩) (by (first | omega | (simp; omega) | simp))).trans (by (first | (go_keep; done) | (go_simp; done))); have x7 : w22.cell? ⟨w.heap.size, 7, none⟩ = some (.int .i64 (e 7)) := (b22.cell (p := ⟨w.heap.size, 7, none⟩) (by (first | omega | (simp; omega) | simp))).trans (by (first | (go_keep; done) | (go_simp; done))); have x8 : w22.cell? ⟨w.heap.size, 8, none⟩ = some (.int .i64 (e 8)) := (b22.cell (p := ⟨w.heap.size, 8, none⟩) (by (first | omega | (simp; omega) | simp))).trans (by (first | (go_keep; done) | (go_simp; done))); have x9 : w22.cell? ⟨w.heap.size, 9, none⟩ = some (.int .i64 (e 9)) := (b22.cell (p := ⟨w.heap.size, 9, none⟩) (by (first | omega | (simp; omega) | simp))).trans (by (first | (go_keep; done) | (go_simp; done))))
      | (go_at_call 38; refine (iPPut A12 n n N es T e _ hn HT.out HN.out (O12.out.rd.below (by (repeat (first | with_reducible exact Below.refl _ _ | with_reducible refine Below.drew ?_ | with_reducible refine below_drewN ?_ _ | (with_reducible refine bel_alloc ?_ ?_ _; (first | omega | (simp; omega) | simp)) | (with_reducible refine bel_set ?_ ?_ _; (first | omega | (simp; omega) | simp)) | (with_reducible refine bel_tr (by assumption) ?_ ?_; (first | omega | (simp; omega) | simp))))))).mono ?_; rintro y w13 ⟨A13, c13, rfl, o13, b13⟩; have s13 := b13.size; (try simp at s13); have q13 := o13.lower_ (B' := w12.heap.size) (by (first | omega | (simp; omega) | simp)); have O13 := Lib.hid q13; have I13 := Lib.hid q13.inB; clear o13 q13; have x0 : w13.cell? ⟨w.heap.size, 0, none⟩ = some (.int .i64 (e 0)) := (b13.cell (p := ⟨w.heap.size, 0, none⟩) (by (first | omega | (simp; omega) | simp))).trans (by (first | (go_keep; done) | (go_simp; done))); have x1 : w13.cell? ⟨w.heap.size, 1, none⟩ = some (.int .i64 (e 1)) := (b13.cell (p := ⟨w.heap.size, 1, none⟩) (by (first | omega | (simp; omega) | simp))).trans (by (first | (go_keep; done) | (go_simp; done))); have x2 : w13.cell? ⟨w.heap.size, 2, none⟩ = some (.int .i64 (e 2)) := (b13.cell (p := ⟨w.heap.size, 2, none⟩) (by (first | omega | (simp; omega) | simp))).trans (by (first | (go_keep; done) | (go_simp; done))); have x3 : w13.cell? ⟨w.heap.size, 3, none⟩ = some (.int .i64 (e 3)) := (b13.cell (p := ⟨w.heap.size, 3, none⟩) (by (first | omega | (simp; omega) | simp))).trans (by (first | (go_keep; done) | (go_simp; done))); have x4 : w13.cell? ⟨w.heap.size, 4, none⟩ = some (.int .i64 (e 4)) := (b13.cell (p := ⟨w.heap.size, 4, none⟩) (by (first | omega | (simp; omega) | simp))).trans (by (first | (go_keep; done) | (go_simp; done))); have x5 : w13.cell? ⟨w.heap.size, 5, none⟩ = some (.int .i64 (e 5)) := (b13.cell (p := ⟨w.heap.size, 5, none⟩) (by (first | omega | (simp; omega) | simp))).trans (by (first | (go_keep; done) | (go_simp; done))); have x6 : w13.cell? ⟨w.heap.size, 6, none⟩ = some (.int .i64 (e 6)) := (b13.cell (p := ⟨w.heap.size, 6, none⟩) (by (first | omega | (simp; omega) | simp))).trans (by (first | (go_keep; done) | (go_simp; done))); have x7 : w13.cell? ⟨w.heap.size, 7, none⟩ = some (.int .i64 (e 7)) := (b13.cell (p := ⟨w.heap.size, 7, none⟩) (by (first | omega | (simp; omega) | simp))).trans (by (first | (go_keep; done) | (go_simp; done))); have x8 : w13.cell? ⟨w.heap.size, 8, none⟩ = some (.int .i64 (e 8)) := (b13.cell (p := ⟨w.heap.size, 8, none⟩) (by (first | omega | (simp; omega) | simp))).trans (by (first | (go_keep; done) | (go_simp; done))); have x9 : w13.cell? ⟨w.heap.size, 9, none⟩ = some (.int .i64 (e 9)) := (b13.cell (p := ⟨w.heap.size, 9, none⟩) (by (first | omega | (simp; omega) | simp))).trans (by (first | (go_keep; done) | (go_simp; done)))))
    go_wp2_with fail
    refine (eqPartyS_same A13 A2 N c13 c2 T _ hN4 O13.out.rd (R2f.out.below (by (repeat (first | with_reducible exact Below.refl _ _ | with_reducible refine Below.drew ?_ | with_reducible refine below_drewN ?_ _ | (with_reducible refine bel_alloc ?_ ?_ _; (first | omega | (simp; omega) | simp)) | (with_reducible refine bel_set ?_ ?_ _; (first | omega | (simp; omega) | simp)) | (with_reducible refine bel_tr (by assumption) ?_ ?_; (first | omega | (simp; omega) | simp))))))).mono ?_
    rintro y w14 ⟨rfl, b14⟩
    have s14 := b14.size
    go_wp2_with fail
    refine (heldPartyS_any A4 N c4 1 _ hN4 (by omega) (M4.out.rd.below (by (repeat (first | with_reducible exact Below.refl _ _ | with_reducible refine Below.drew ?_ | with_reducible refine below_drewN ?_ _ | (with_reducible refine bel_alloc ?_ ?_ _; (first | omega | (simp; omega) | simp)) | (with_reducible refine bel_set ?_ ?_ _; (first | omega | (simp; omega) | simp)) | (with_reducible refine bel_tr (by assumption) ?_ ?_; (first | omega | (simp; omega) | simp))))))).mono ?_
    rintro y w15 ⟨rfl, rfl⟩
    go_wp2
    go_ret
    exact ⟨rfl, by (repeat (first | with_reducible exact Below.refl _ _ | with_reducible refine Below.drew ?_ | with_reducible refine below_drewN ?_ _ | (with_reducible refine bel_alloc ?_ ?_ _; (first | omega | (simp; omega) | simp)) | (with_reducible refine bel_set ?_ ?_ _; (first | omega | (simp; omega) | simp)) | (with_reducible refine bel_tr (by assumption) ?_ ?_; (first | omega | (simp; omega) | simp))))⟩
  · have hni : ¬ (n : Int) ≤ 1048576 := by omega
    go_enter Try.func9, Try.ntmps9
    go_wp2_with fail
    refine (szPartyS_any A n c 1048576 _ hn0 (by omega) (by omega)).mono ?_
    rw [if_neg (by omega : ¬ (n : Int) ≤ 1048576)]
    rintro y w0 ⟨rfl, rfl⟩
    go_wp2
    go_ret
    exact ⟨rfl, by (repeat (first | with_reducible exact Below.refl _ _ | with_reducible refine Below.drew ?_ | with_reducible refine below_drewN ?_ _ | (with_reducible refine bel_alloc ?_ ?_ _; (first | omega | (simp; omega) | simp)) | (with_reducible refine bel_set ?_ ?_ _; (first | omega | (simp; omega) | simp)) | (with_reducible refine bel_tr (by assumption) ?_ ?_; (first | omega | (simp; omega) | simp))))⟩
end Go.Proofs.Ytcainllgnbdkbaa
