/-
  Walk of the law FnFailed: it returns true and leaves old memory alone.
-/
import Derived.Test.YtbpohbcbmicchaaDv
import Derived.Test.YtbpohbcbmicchaaFa
namespace Go.Proofs.Ytbpohbcbmicchaa
open Go.RowKit

theorem Bx.ext {w : World} {b : Nat} {p q : Nat → Int} (h : Bx w b 10 (ints p)) (e : ∀ j, j < 10 → p j = q j) : Bx w b 10 (ints q) :=
  ⟨h.1, h.2.1, fun j hj => by rw [h.2.2 j hj]; unfold ints; rw [e j hj]⟩
def RlF (n : Nat) (es : List (Nat → Int)) (r p : Nat → Int) (now : Int) (k : Nat) (p' : Nat → Int) : Prop := (k = 0 ∧ p' = p) ∨ (1 ≤ k ∧ POk n es r p' now ∧ p' 7 = 2 ∧ (k : Int) ≤ p' 9)
theorem vp_b {P : Program} {f : FuncId} {args : Array Value} {w : World} {A : Prop} {bo : Bool} {a b c d e f' g h i j : Int} (hb : bo = true ↔ A)
    (c' : Calls P f args w (VP A (.agg #[.int .i64 a, .int .i64 b, .int .i64 c, .int .i64 d, .int .i64 e, .int .i64 f', .int .i64 g, .int .i64 h, .int .i64 i, .int .i64 j]) (.agg #[.int .i64 0, .int .i64 0, .int .i64 0, .int .i64 0, .int .i64 0, .int .i64 0, .int .i64 0, .int .i64 0, .int .i64 0, .int .i64 0]) w)) :
    Calls P f args w fun y w' => ∃ q : Nat → Int, y = .returned (.tuple #[.agg #[.int .i64 (q 0), .int .i64 (q 1), .int .i64 (q 2), .int .i64 (q 3), .int .i64 (q 4), .int .i64 (q 5), .int .i64 (q 6), .int .i64 (q 7), .int .i64 (q 8), .int .i64 (q 9)], .bool bo]) ∧ Below w.heap.size w w' := by
  cases bo
  · exact (vpn c' (fun ha => by cases hb.2 ha)).mono fun _ _ x => ⟨fun _ => 0, x⟩
  · exact (vpy c' (hb.1 rfl)).mono fun _ _ x => ⟨fun k => [a, b, c, d, e, f', g, h, i, j].getD k 0, x⟩
theorem fail_next {n : Nat} {es : List (Nat → Int)} {r p : Nat → Int} {now : Int} (h : failP n es r p now) :
    POk n es r (fun j => [p 0, p 1, p 2, p 3, p 4, p 5, p 6, 1, now + r 6, p 9 + 1].getD j 0) now ∧ POk n es r (fun j => [p 0, p 1, p 2, p 3, p 4, p 5, p 6, 2, now + 1, p 9 + 1].getD j 0) now := by
  obtain ⟨⟨hR, h0, h1, h2, h3, h4, h5, h6, h7, h8, h9, h10⟩, _, hl⟩ := h
  have hi := hR.ints
  refine ⟨⟨hR, h0, h1, h2, h3, h4, h5, h6, h7, h8, ?_, .inl ⟨rfl, ?_⟩⟩, ⟨hR, h0, h1, h2, h3, h4, h5, h6, h7, h8, ?_, .inr ⟨rfl, ?_⟩⟩⟩
  · show 0 ≤ p 9 + 1 ∧ p 9 + 1 ≤ r 7 - 1
    omega
  · show 0 ≤ now + r 6 ∧ now + r 6 ≤ now + r 6
    omega
  · show 0 ≤ p 9 + 1 ∧ p 9 + 1 ≤ r 7 - 1
    omega
  · show 1 ≤ now + 1 ∧ now + 1 ≤ now + r 5
    omega
theorem fail_last {n : Nat} {es : List (Nat → Int)} {r p : Nat → Int} {now : Int} (h : ¬ failP n es r p now) (hP : POk n es r p now) (h7 : p 7 = 2) : p 9 + 1 = r 7 := by
  by_cases e : p 9 + 1 = r 7
  · exact e
  · exact absurd ⟨hP, by simp [h7], e⟩ h

set_option maxRecDepth 100000 in
set_option maxHeartbeats 16000000 in
theorem lawFnFailed (A : Option Addr) (n c : Nat) (w : World) (hn0 : n ≤ 9223372036854775807) (hB : RdB w A n) :
    Calls Try.prog 3 #[.slice A n c] w fun y w' => y = .returned (.bool true) ∧ Below w.heap.size w w' := by
  by_cases hn : n ≤ 1048576
  case neg =>
    have hbig : decide (1048576 < n) = true := by simp; omega
    go_enter Try.func3, Try.ntmps3
    go_wp2_with fail
    refine (big_any A n c _).mono ?_
    rintro y _ ⟨rfl, rfl⟩
    go_wp2
    go_ret
    exact ⟨rfl, Below.refl _ _⟩
  have HB := Lib.hid hB
  clear hB
  have hbig : decide (1048576 < n) = false := by simpa using hn
  go_enter Try.func3, Try.ntmps3
  go_wp2_with fail
  refine (big_any A n c _).mono ?_
  rintro y _ ⟨rfl, rfl⟩
  go_wp2_with fail
  refine (drawFailed_any A n c _ hn HB.out).mono ?_
  rintro y w1 ⟨A1, n1, c1, r, es, p, now, rfl, hn1, hnc, hR, ho, b1⟩
  have s1 := b1.size
  have HR := Lib.hid hR
  have HO := Lib.hid ho
  have HA := Lib.hid (Own.lt ho)
  have HB1 := Lib.hid b1
  clear hR ho b1
  obtain ⟨bo, hbo⟩ : ∃ bo : Bool, bo = true ↔ failP n1 es r p now := by classical exact ⟨decide (failP n1 es r p now), by simp⟩
  have HW := Lib.hid hbo
  clear hbo
  obtain ⟨g1, g2, g3, g4, g5, g6, g7, g8, g9, g10, g11, g12, g13, g14, g15, g16, g17, g18⟩ := HR.out.ints
  clear g1 g2 g3 g4 g5 g6 g7 g8 g9 g10 g17 g18
  have X1 := Lib.hid ((Bx.rules w1 26 A1 n1 c1 r).alloc (.cells #[.int .i64 (p 0), .int .i64 (p 1), .int .i64 (p 2), .int .i64 (p 3), .int .i64 (p 4), .int .i64 (p 5), .int .i64 (p 6), .int .i64 (p 7), .int .i64 (p 8), .int .i64 (p 9)] 28))
  have X2 := Lib.hid (Bx.party (w1.alloc (.cells #[.slice A1 n1 c1, .int .i64 (r 1), .int .i64 (r 2), .int .i64 (r 3), .int .i64 (r 4), .int .i64 (r 5), .int .i64 (r 6), .int .i64 (r 7), .int .i64 (r 8)] 26)) 28 p)
  (try simp at X2)
  go_wp2_with fail
  refine (vp_b HW.out (spec_Failed A1 n1 c1 es r p now _ (by omega) (HO.out.rd.below (by (repeat (first | with_reducible exact Below.refl _ _ | with_reducible refine Below.drew ?_ | with_reducible refine below_drewN ?_ _ | (with_reducible refine bel_alloc ?_ ?_ _; (first | omega | (simp; omega) | simp)) | (with_reducible refine bel_set ?_ ?_ _; (first | omega | (simp; omega) | simp)) | (with_reducible refine bel_tr (by assumption) ?_ ?_; (first | omega | (simp; omega) | simp)))))))).mono ?_
  rintro y w2 ⟨q0, rfl, b2⟩
  have s2 := b2.size
  (try simp at s2)
  have X3 := Lib.hid (X1.out.below b2)
  have X4 := Lib.hid (X2.out.below b2)
  have HO2 := Lib.hid (Own.below ((HO.out.alloc_ _).alloc_ _) b2)
  have HB2 : Hid (Below w.heap.size w w2) := Lib.hid (bel_tr b2 (by (first | omega | (simp; omega) | simp)) (by have h1 := HB1.out; (repeat (first | with_reducible exact Below.refl _ _ | with_reducible refine Below.drew ?_ | with_reducible refine below_drewN ?_ _ | (with_reducible refine bel_alloc ?_ ?_ _; (first | omega | (simp; omega) | simp)) | (with_reducible refine bel_set ?_ ?_ _; (first | omega | (simp; omega) | simp)) | (with_reducible refine bel_tr (by assumption) ?_ ?_; (first | omega | (simp; omega) | simp))))))
  clear b2 X1 X2
  go_wp2
  go_loopw [2, 8] (fun _ i wr => ∃ (k : Nat) (p' : Nat → Int), i = .int .i64 k ∧ Hid (Bx wr (w1.heap.size + 1) 10 (ints p')) ∧ Hid (Bx wr (w1.heap.size) 9 (rv A1 n1 c1 r)) ∧ Hid (Own w.heap.size wr 1 A1 n1 es) ∧ Hid (Below w.heap.size w wr) ∧ Hid (RlF n1 es r p now k p') ∧ w1.heap.size + 1 < wr.heap.size) (fun _ i _ => 10 - (intOf i).toNat)
  case atStart => exact ⟨0, p, rfl, Lib.hid (X4.out.alloc _), Lib.hid (X3.out.alloc _), Lib.hid (HO2.out.alloc_ _), Lib.hid (bel_alloc (by (first | omega | (simp; omega) | simp)) HB2.out _), Lib.hid (.inl ⟨rfl, rfl⟩), by (first | omega | (simp; omega) | simp)⟩
  case round =>
    obtain ⟨k, p', rfl, Y1, Y2, HO3, HB3, HQ, hsz⟩ := hrel
    clear X3 X4 HO2 HB2
    have hk10 : (k : Int) < 10 := by (rcases HQ.out with ⟨h1, _⟩ | ⟨h1, hP, _, h3⟩; omega; have := hP.fl; omega)
    have pc0 : _ = some (Value.int .i64 (p' 0)) := (Y1.out).2.2 0 (by omega)
    have pf0 := (Y1.out).2.1 0
    have pc1 : _ = some (Value.int .i64 (p' 1)) := (Y1.out).2.2 1 (by omega)
    have pf1 := (Y1.out).2.1 1
    have pc2 : _ = some (Value.int .i64 (p' 2)) := (Y1.out).2.2 2 (by omega)
    have pf2 := (Y1.out).2.1 2
    have pc3 : _ = some (Value.int .i64 (p' 3)) := (Y1.out).2.2 3 (by omega)
    have pf3 := (Y1.out).2.1 3
    have pc4 : _ = some (Value.int .i64 (p' 4)) := (Y1.out).2.2 4 (by omega)
    have pf4 := (Y1.out).2.1 4
    have pc5 : _ = some (Value.int .i64 (p' 5)) := (Y1.out).2.2 5 (by omega)
    have pf5 := (Y1.out).2.1 5
    have pc6 : _ = some (Value.int .i64 (p' 6)) := (Y1.out).2.2 6 (by omega)
    have pf6 := (Y1.out).2.1 6
    have pc7 : _ = some (Value.int .i64 (p' 7)) := (Y1.out).2.2 7 (by omega)
    have pf7 := (Y1.out).2.1 7
    have pc8 : _ = some (Value.int .i64 (p' 8)) := (Y1.out).2.2 8 (by omega)
    have pf8 := (Y1.out).2.1 8
    have pc9 : _ = some (Value.int .i64 (p' 9)) := (Y1.out).2.2 9 (by omega)
    have pf9 := (Y1.out).2.1 9
    have rc0 : _ = some (Value.slice A1 n1 c1) := (Y2.out).2.2 0 (by omega)
    have rc1 : _ = some (Value.int .i64 (r 1)) := (Y2.out).2.2 1 (by omega)
    have rc2 : _ = some (Value.int .i64 (r 2)) := (Y2.out).2.2 2 (by omega)
    have rc3 : _ = some (Value.int .i64 (r 3)) := (Y2.out).2.2 3 (by omega)
    have rc4 : _ = some (Value.int .i64 (r 4)) := (Y2.out).2.2 4 (by omega)
    have rc5 : _ = some (Value.int .i64 (r 5)) := (Y2.out).2.2 5 (by omega)
    have rc6 : _ = some (Value.int .i64 (r 6)) := (Y2.out).2.2 6 (by omega)
    have rc7 : _ = some (Value.int .i64 (r 7)) := (Y2.out).2.2 7 (by omega)
    have rc8 : _ = some (Value.int .i64 (r 8)) := (Y2.out).2.2 8 (by omega)
    by_cases hF : failP n1 es r p' now
    · rcases HQ.out with ⟨rfl, rfl⟩ | ⟨hk1, _, h72, hk9⟩
      · have hbt := HW.out.2 hF
        subst hbt
        obtain ⟨f1, f2, f3, f4, f5, f6, f7, f8⟩ := hF.1.fl
        go_wp2_with fail
        refine (vpy (impl_Failed A1 n1 c1 es r p' now _ (by omega) (HO3.out.rd.below (by (repeat (first | with_reducible exact Below.refl _ _ | with_reducible refine Below.drew ?_ | with_reducible refine below_drewN ?_ _ | (with_reducible refine bel_alloc ?_ ?_ _; (first | omega | (simp; omega) | simp)) | (with_reducible refine bel_set ?_ ?_ _; (first | omega | (simp; omega) | simp)) | (with_reducible refine bel_tr (by assumption) ?_ ?_; (first | omega | (simp; omega) | simp))))))) hF).mono ?_
        rintro y w3 ⟨rfl, b3⟩
        have s3 := b3.size
        (try simp at s3)
        have Y3 := Lib.hid (Y1.out.below b3)
        have Y4 := Lib.hid (Y2.out.below b3)
        have HO4 := Lib.hid (HO3.out.below b3)
        have HB4 : Hid (Below w.heap.size w w3) := Lib.hid (bel_tr b3 (by omega) HB3.out)
        clear pc0 pf0 pc1 pf1 pc2 pf2 pc3 pf3 pc4 pf4 pc5 pf5 pc6 pf6 pc7 pf7 pc8 pf8 pc9 pf9 rc0 rc1 rc2 rc3 rc4 rc5 rc6 rc7 rc8
        have pc0 : _ = some (Value.int .i64 (p' 0)) := (Y3.out).2.2 0 (by omega)
        have pf0 := (Y3.out).2.1 0
        have pc1 : _ = some (Value.int .i64 (p' 1)) := (Y3.out).2.2 1 (by omega)
        have pf1 := (Y3.out).2.1 1
        have pc2 : _ = some (Value.int .i64 (p' 2)) := (Y3.out).2.2 2 (by omega)
        have pf2 := (Y3.out).2.1 2
        have pc3 : _ = some (Value.int .i64 (p' 3)) := (Y3.out).2.2 3 (by omega)
        have pf3 := (Y3.out).2.1 3
        have pc4 : _ = some (Value.int .i64 (p' 4)) := (Y3.out).2.2 4 (by omega)
        have pf4 := (Y3.out).2.1 4
        have pc5 : _ = some (Value.int .i64 (p' 5)) := (Y3.out).2.2 5 (by omega)
        have pf5 := (Y3.out).2.1 5
        have pc6 : _ = some (Value.int .i64 (p' 6)) := (Y3.out).2.2 6 (by omega)
        have pf6 := (Y3.out).2.1 6
        have pc7 : _ = some (Value.int .i64 (p' 7)) := (Y3.out).2.2 7 (by omega)
        have pf7 := (Y3.out).2.1 7
        have pc8 : _ = some (Value.int .i64 (p' 8)) := (Y3.out).2.2 8 (by omega)
        have pf8 := (Y3.out).2.1 8
        have pc9 : _ = some (Value.int .i64 (p' 9)) := (Y3.out).2.2 9 (by omega)
        have pf9 := (Y3.out).2.1 9
        have rc0 : _ = some (Value.slice A1 n1 c1) := (Y4.out).2.2 0 (by omega)
        have rc1 : _ = some (Value.int .i64 (r 1)) := (Y4.out).2.2 1 (by omega)
        have rc2 : _ = some (Value.int .i64 (r 2)) := (Y4.out).2.2 2 (by omega)
        have rc3 : _ = some (Value.int .i64 (r 3)) := (Y4.out).2.2 3 (by omega)
        have rc4 : _ = some (Value.int .i64 (r 4)) := (Y4.out).2.2 4 (by omega)
        have rc5 : _ = some (Value.int .i64 (r 5)) := (Y4.out).2.2 5 (by omega)
        have rc6 : _ = some (Value.int .i64 (r 6)) := (Y4.out).2.2 6 (by omega)
        have rc7 : _ = some (Value.int .i64 (r 7)) := (Y4.out).2.2 7 (by omega)
        have rc8 : _ = some (Value.int .i64 (r 8)) := (Y4.out).2.2 8 (by omega)
        have hne1 : ¬ w1.heap.size = w3.heap.size := by omega
        have hne2 : ¬ w1.heap.size + 1 = w3.heap.size := by omega
        have hlt3 : w1.heap.size < w3.heap.size := by omega
        have hlt4 : w1.heap.size + 1 < w3.heap.size := by omega
        have hne3 : ¬ w3.heap.size = w1.heap.size := by omega
        have hne4 : ¬ w3.heap.size = w1.heap.size + 1 := by omega
        clear b3
        have HQ2 := Lib.hid (fail_next hF)
        go_wp2_with fail
        refine (ty (spec_PartyOk A1 n1 c1 es r (fun j => [p' 0, p' 1, p' 2, p' 3, p' 4, p' 5, p' 6, 1, now + r 6, p' 9 + 1].getD j 0) now _ (by omega) (HO4.out.rd.below (by (repeat (first | with_reducible exact Below.refl _ _ | with_reducible refine Below.drew ?_ | with_reducible refine below_drewN ?_ _ | (with_reducible refine bel_alloc ?_ ?_ _; (first | omega | (simp; omega) | simp)) | (with_reducible refine bel_set ?_ ?_ _; (first | omega | (simp; omega) | simp)) | (with_reducible refine bel_tr (by assumption) ?_ ?_; (first | omega | (simp; omega) | simp))))))) HQ2.out.1).mono ?_
        rintro y w4 ⟨rfl, b4⟩
        have s4 := b4.size
        (try simp at s4)
        have hlt5 : w1.heap.size < w4.heap.size := by omega
        have hlt6 : w1.heap.size + 1 < w4.heap.size := by omega
        have hlt7 : w3.heap.size < w4.heap.size := by omega
        have HO5 := Lib.hid (Own.below (HO4.out.alloc_ _) b4)
        have Y5 := Lib.hid (Bx.below (Y3.out.alloc _) b4)
        have Y6 := Lib.hid (Bx.below (Y4.out.alloc _) b4)
        have HB5 : Hid (Below w.heap.size w w4) := Lib.hid (bel_tr b4 (by (first | omega | (simp; omega) | simp)) (by have h1 := HB4.out; (repeat (first | with_reducible exact Below.refl _ _ | with_reducible refine Below.drew ?_ | with_reducible refine below_drewN ?_ _ | (with_reducible refine bel_alloc ?_ ?_ _; (first | omega | (simp; omega) | simp)) | (with_reducible refine bel_set ?_ ?_ _; (first | omega | (simp; omega) | simp)) | (with_reducible refine bel_tr (by assumption) ?_ ?_; (first | omega | (simp; omega) | simp))))))
        have Y7 := Lib.hid (Bx.below (Bx.party w3 28 (fun j => [p' 0, p' 1, p' 2, p' 3, p' 4, p' 5, p' 6, 1, now + r 6, p' 9 + 1].getD j 0)) b4)
        clear b4
        clear pc0 pf0 pc1 pf1 pc2 pf2 pc3 pf3 pc4 pf4 pc5 pf5 pc6 pf6 pc7 pf7 pc8 pf8 pc9 pf9 rc0 rc1 rc2 rc3 rc4 rc5 rc6 rc7 rc8
        have pc0 : _ = some (Value.int .i64 (p' 0)) := (Y5.out).2.2 0 (by omega)
        have pf0 := (Y5.out).2.1 0
        have pc1 : _ = some (Value.int .i64 (p' 1)) := (Y5.out).2.2 1 (by omega)
        have pf1 := (Y5.out).2.1 1
        have pc2 : _ = some (Value.int .i64 (p' 2)) := (Y5.out).2.2 2 (by omega)
        have pf2 := (Y5.out).2.1 2
        have pc3 : _ = some (Value.int .i64 (p' 3)) := (Y5.out).2.2 3 (by omega)
        have pf3 := (Y5.out).2.1 3
        have pc4 : _ = some (Value.int .i64 (p' 4)) := (Y5.out).2.2 4 (by omega)
        have pf4 := (Y5.out).2.1 4
        have pc5 : _ = some (Value.int .i64 (p' 5)) := (Y5.out).2.2 5 (by omega)
        have pf5 := (Y5.out).2.1 5
        have pc6 : _ = some (Value.int .i64 (p' 6)) := (Y5.out).2.2 6 (by omega)
        have pf6 := (Y5.out).2.1 6
        have pc7 : _ = some (Value.int .i64 (p' 7)) := (Y5.out).2.2 7 (by omega)
        have pf7 := (Y5.out).2.1 7
        have pc8 : _ = some (Value.int .i64 (p' 8)) := (Y5.out).2.2 8 (by omega)
        have pf8 := (Y5.out).2.1 8
        have pc9 : _ = some (Value.int .i64 (p' 9)) := (Y5.out).2.2 9 (by omega)
        have pf9 := (Y5.out).2.1 9
        have qc0 : _ = some (Value.int .i64 (p' 0)) := Y7.out.2.2 0 (by omega)
        have qc1 : _ = some (Value.int .i64 (p' 1)) := Y7.out.2.2 1 (by omega)
        have qc2 : _ = some (Value.int .i64 (p' 2)) := Y7.out.2.2 2 (by omega)
        have qc3 : _ = some (Value.int .i64 (p' 3)) := Y7.out.2.2 3 (by omega)
        have qc4 : _ = some (Value.int .i64 (p' 4)) := Y7.out.2.2 4 (by omega)
        have qc5 : _ = some (Value.int .i64 (p' 5)) := Y7.out.2.2 5 (by omega)
        have qc6 : _ = some (Value.int .i64 (p' 6)) := Y7.out.2.2 6 (by omega)
        have qc7 : _ = some (Value.int .i64 (1)) := Y7.out.2.2 7 (by omega)
        have qc8 : _ = some (Value.int .i64 (now + r 6)) := Y7.out.2.2 8 (by omega)
        have qc9 : _ = some (Value.int .i64 (p' 9 + 1)) := Y7.out.2.2 9 (by omega)
        go_wp2
        go_roundw
        case rel =>
          refine ⟨0 + 1, (fun j => [p' 0, p' 1, p' 2, p' 3, p' 4, p' 5, p' 6, 2, now + 1, p' 9 + 1].getD j 0), by go_num, Lib.hid (Bx.ext (p := (upd (upd (upd (upd (upd (upd (upd (upd (upd (upd (upd (upd p' 0 (p' 0)) 1 (p' 1)) 2 (p' 2)) 3 (p' 3)) 4 (p' 4)) 5 (p' 5)) 6 (p' 6)) 7 (1)) 8 (now + r 6)) 9 (p' 9 + 1)) 7 2) 8 (now + 1))) ?h1 ?h2), Lib.hid ?h3, Lib.hid ?h4, Lib.hid ?h5, Lib.hid (.inr ⟨by omega, HQ2.out.2, rfl, by show ((0 + 1 : Nat) : Int) ≤ p' 9 + 1; omega⟩), by (first | omega | (simp; omega) | simp)⟩
          case h1 => (repeat (first | with_reducible exact Y5.out | with_reducible refine Bx.upd ?_ _ (by omega)))
          case h2 => exact all10 rfl rfl rfl rfl rfl rfl rfl rfl rfl rfl
          case h3 => (repeat (first | with_reducible exact Y6.out | with_reducible refine Bx.set_ne _ ?_ (by omega)))
          case h4 => (repeat (first | with_reducible exact HO5.out | with_reducible refine Own.set_nb ?_ (fun a h0 ha => by have hz := HA.out a h0 ha; omega) _))
          case h5 => (repeat (first | with_reducible exact HB5.out | (with_reducible refine bel_set ?_ ?_ _; (first | omega | (simp; omega) | simp))))
        case measure => (show 10 - (((0 + 1 : Nat) : Int)).toNat < 10 - ((0 : Nat) : Int).toNat; clear HB HW HR HO HA HB1 HQ2; omega)
      · have hk0 : ¬ (k : Int) = 0 := by omega
        clear h72
        obtain ⟨f1, f2, f3, f4, f5, f6, f7, f8⟩ := hF.1.fl
        go_wp2_with fail
        refine (vpy (impl_Failed A1 n1 c1 es r p' now _ (by omega) (HO3.out.rd.below (by (repeat (first | with_reducible exact Below.refl _ _ | with_reducible refine Below.drew ?_ | with_reducible refine below_drewN ?_ _ | (with_reducible refine bel_alloc ?_ ?_ _; (first | omega | (simp; omega) | simp)) | (with_reducible refine bel_set ?_ ?_ _; (first | omega | (simp; omega) | simp)) | (with_reducible refine bel_tr (by assumption) ?_ ?_; (first | omega | (simp; omega) | simp))))))) hF).mono ?_
        rintro y w3 ⟨rfl, b3⟩
        have s3 := b3.size
        (try simp at s3)
        have Y3 := Lib.hid (Y1.out.below b3)
        have Y4 := Lib.hid (Y2.out.below b3)
        have HO4 := Lib.hid (HO3.out.below b3)
        have HB4 : Hid (Below w.heap.size w w3) := Lib.hid (bel_tr b3 (by omega) HB3.out)
        clear pc0 pf0 pc1 pf1 pc2 pf2 pc3 pf3 pc4 pf4 pc5 pf5 pc6 pf6 pc7 pf7 pc8 pf8 pc9 pf9 rc0 rc1 rc2 rc3 rc4 rc5 rc6 rc7 rc8
        have pc0 : _ = some (Value.int .i64 (p' 0)) := (Y3.out).2.2 0 (by omega)
        have pf0 := (Y3.out).2.1 0
        have pc1 : _ = some (Value.int .i64 (p' 1)) := (Y3.out).2.2 1 (by omega)
        have pf1 := (Y3.out).2.1 1
        have pc2 : _ = some (Value.int .i64 (p' 2)) := (Y3.out).2.2 2 (by omega)
        have pf2 := (Y3.out).2.1 2
        have pc3 : _ = some (Value.int .i64 (p' 3)) := (Y3.out).2.2 3 (by omega)
        have pf3 := (Y3.out).2.1 3
        have pc4 : _ = some (Value.int .i64 (p' 4)) := (Y3.out).2.2 4 (by omega)
        have pf4 := (Y3.out).2.1 4
        have pc5 : _ = some (Value.int .i64 (p' 5)) := (Y3.out).2.2 5 (by omega)
        have pf5 := (Y3.out).2.1 5
        have pc6 : _ = some (Value.int .i64 (p' 6)) := (Y3.out).2.2 6 (by omega)
        have pf6 := (Y3.out).2.1 6
        have pc7 : _ = some (Value.int .i64 (p' 7)) := (Y3.out).2.2 7 (by omega)
        have pf7 := (Y3.out).2.1 7
        have pc8 : _ = some (Value.int .i64 (p' 8)) := (Y3.out).2.2 8 (by omega)
        have pf8 := (Y3.out).2.1 8
        have pc9 : _ = some (Value.int .i64 (p' 9)) := (Y3.out).2.2 9 (by omega)
        have pf9 := (Y3.out).2.1 9
        have rc0 : _ = some (Value.slice A1 n1 c1) := (Y4.out).2.2 0 (by omega)
        have rc1 : _ = some (Value.int .i64 (r 1)) := (Y4.out).2.2 1 (by omega)
        have rc2 : _ = some (Value.int .i64 (r 2)) := (Y4.out).2.2 2 (by omega)
        have rc3 : _ = some (Value.int .i64 (r 3)) := (Y4.out).2.2 3 (by omega)
        have rc4 : _ = some (Value.int .i64 (r 4)) := (Y4.out).2.2 4 (by omega)
        have rc5 : _ = some (Value.int .i64 (r 5)) := (Y4.out).2.2 5 (by omega)
        have rc6 : _ = some (Value.int .i64 (r 6)) := (Y4.out).2.2 6 (by omega)
        have rc7 : _ = some (Value.int .i64 (r 7)) := (Y4.out).2.2 7 (by omega)
        have rc8 : _ = some (Value.int .i64 (r 8)) := (Y4.out).2.2 8 (by omega)
        have hne1 : ¬ w1.heap.size = w3.heap.size := by omega
        have hne2 : ¬ w1.heap.size + 1 = w3.heap.size := by omega
        have hlt3 : w1.heap.size < w3.heap.size := by omega
        have hlt4 : w1.heap.size + 1 < w3.heap.size := by omega
        have hne3 : ¬ w3.heap.size = w1.heap.size := by omega
        have hne4 : ¬ w3.heap.size = w1.heap.size + 1 := by omega
        clear b3
        have HQ2 := Lib.hid (fail_next hF)
        go_wp2_with fail
        refine (ty (spec_PartyOk A1 n1 c1 es r (fun j => [p' 0, p' 1, p' 2, p' 3, p' 4, p' 5, p' 6, 1, now + r 6, p' 9 + 1].getD j 0) now _ (by omega) (HO4.out.rd.below (by (repeat (first | with_reducible exact Below.refl _ _ | with_reducible refine Below.drew ?_ | with_reducible refine below_drewN ?_ _ | (with_reducible refine bel_alloc ?_ ?_ _; (first | omega | (simp; omega) | simp)) | (with_reducible refine bel_set ?_ ?_ _; (first | omega | (simp; omega) | simp)) | (with_reducible refine bel_tr (by assumption) ?_ ?_; (first | omega | (simp; omega) | simp))))))) HQ2.out.1).mono ?_
        rintro y w4 ⟨rfl, b4⟩
        have s4 := b4.size
        (try simp at s4)
        have hlt5 : w1.heap.size < w4.heap.size := by omega
        have hlt6 : w1.heap.size + 1 < w4.heap.size := by omega
        have hlt7 : w3.heap.size < w4.heap.size := by omega
        have HO5 := Lib.hid (Own.below (HO4.out.alloc_ _) b4)
        have Y5 := Lib.hid (Bx.below (Y3.out.alloc _) b4)
        have Y6 := Lib.hid (Bx.below (Y4.out.alloc _) b4)
        have HB5 : Hid (Below w.heap.size w w4) := Lib.hid (bel_tr b4 (by (first | omega | (simp; omega) | simp)) (by have h1 := HB4.out; (repeat (first | with_reducible exact Below.refl _ _ | with_reducible refine Below.drew ?_ | with_reducible refine below_drewN ?_ _ | (with_reducible refine bel_alloc ?_ ?_ _; (first | omega | (simp; omega) | simp)) | (with_reducible refine bel_set ?_ ?_ _; (first | omega | (simp; omega) | simp)) | (with_reducible refine bel_tr (by assumption) ?_ ?_; (first | omega | (simp; omega) | simp))))))
        have Y7 := Lib.hid (Bx.below (Bx.party w3 28 (fun j => [p' 0, p' 1, p' 2, p' 3, p' 4, p' 5, p' 6, 1, now + r 6, p' 9 + 1].getD j 0)) b4)
        clear b4
        clear pc0 pf0 pc1 pf1 pc2 pf2 pc3 pf3 pc4 pf4 pc5 pf5 pc6 pf6 pc7 pf7 pc8 pf8 pc9 pf9 rc0 rc1 rc2 rc3 rc4 rc5 rc6 rc7 rc8
        have pc0 : _ = some (Value.int .i64 (p' 0)) := (Y5.out).2.2 0 (by omega)
        have pf0 := (Y5.out).2.1 0
        have pc1 : _ = some (Value.int .i64 (p' 1)) := (Y5.out).2.2 1 (by omega)
        have pf1 := (Y5.out).2.1 1
        have pc2 : _ = some (Value.int .i64 (p' 2)) := (Y5.out).2.2 2 (by omega)
        have pf2 := (Y5.out).2.1 2
        have pc3 : _ = some (Value.int .i64 (p' 3)) := (Y5.out).2.2 3 (by omega)
        have pf3 := (Y5.out).2.1 3
        have pc4 : _ = some (Value.int .i64 (p' 4)) := (Y5.out).2.2 4 (by omega)
        have pf4 := (Y5.out).2.1 4
        have pc5 : _ = some (Value.int .i64 (p' 5)) := (Y5.out).2.2 5 (by omega)
        have pf5 := (Y5.out).2.1 5
        have pc6 : _ = some (Value.int .i64 (p' 6)) := (Y5.out).2.2 6 (by omega)
        have pf6 := (Y5.out).2.1 6
        have pc7 : _ = some (Value.int .i64 (p' 7)) := (Y5.out).2.2 7 (by omega)
        have pf7 := (Y5.out).2.1 7
        have pc8 : _ = some (Value.int .i64 (p' 8)) := (Y5.out).2.2 8 (by omega)
        have pf8 := (Y5.out).2.1 8
        have pc9 : _ = some (Value.int .i64 (p' 9)) := (Y5.out).2.2 9 (by omega)
        have pf9 := (Y5.out).2.1 9
        have qc0 : _ = some (Value.int .i64 (p' 0)) := Y7.out.2.2 0 (by omega)
        have qc1 : _ = some (Value.int .i64 (p' 1)) := Y7.out.2.2 1 (by omega)
        have qc2 : _ = some (Value.int .i64 (p' 2)) := Y7.out.2.2 2 (by omega)
        have qc3 : _ = some (Value.int .i64 (p' 3)) := Y7.out.2.2 3 (by omega)
        have qc4 : _ = some (Value.int .i64 (p' 4)) := Y7.out.2.2 4 (by omega)
        have qc5 : _ = some (Value.int .i64 (p' 5)) := Y7.out.2.2 5 (by omega)
        have qc6 : _ = some (Value.int .i64 (p' 6)) := Y7.out.2.2 6 (by omega)
        have qc7 : _ = some (Value.int .i64 (1)) := Y7.out.2.2 7 (by omega)
        have qc8 : _ = some (Value.int .i64 (now + r 6)) := Y7.out.2.2 8 (by omega)
        have qc9 : _ = some (Value.int .i64 (p' 9 + 1)) := Y7.out.2.2 9 (by omega)
        go_wp2
        go_roundw
        case rel =>
          refine ⟨k + 1, (fun j => [p' 0, p' 1, p' 2, p' 3, p' 4, p' 5, p' 6, 2, now + 1, p' 9 + 1].getD j 0), by go_num, Lib.hid (Bx.ext (p := (upd (upd (upd (upd (upd (upd (upd (upd (upd (upd (upd (upd p' 0 (p' 0)) 1 (p' 1)) 2 (p' 2)) 3 (p' 3)) 4 (p' 4)) 5 (p' 5)) 6 (p' 6)) 7 (1)) 8 (now + r 6)) 9 (p' 9 + 1)) 7 2) 8 (now + 1))) ?h1 ?h2), Lib.hid ?h3, Lib.hid ?h4, Lib.hid ?h5, Lib.hid (.inr ⟨by omega, HQ2.out.2, rfl, by show ((k + 1 : Nat) : Int) ≤ p' 9 + 1; omega⟩), by (first | omega | (simp; omega) | simp)⟩
          case h1 => (repeat (first | with_reducible exact Y5.out | with_reducible refine Bx.upd ?_ _ (by omega)))
          case h2 => exact all10 rfl rfl rfl rfl rfl rfl rfl rfl rfl rfl
          case h3 => (repeat (first | with_reducible exact Y6.out | with_reducible refine Bx.set_ne _ ?_ (by omega)))
          case h4 => (repeat (first | with_reducible exact HO5.out | with_reducible refine Own.set_nb ?_ (fun a h0 ha => by have hz := HA.out a h0 ha; omega) _))
          case h5 => (repeat (first | with_reducible exact HB5.out | (with_reducible refine bel_set ?_ ?_ _; (first | omega | (simp; omega) | simp))))
        case measure => (show 10 - (((k + 1 : Nat) : Int)).toNat < 10 - ((k : Nat) : Int).toNat; clear HB HW HR HO HA HB1 HQ2; omega)
    · rcases HQ.out with ⟨rfl, rfl⟩ | ⟨hk1, hP, h72, hk9⟩
      · have hbt : bo = false := by (cases bo; rfl; exact absurd (HW.out.1 rfl) hF)
        subst hbt
        go_wp2_with fail
        refine (vpn (impl_Failed A1 n1 c1 es r p' now _ (by omega) (HO3.out.rd.below (by (repeat (first | with_reducible exact Below.refl _ _ | with_reducible refine Below.drew ?_ | with_reducible refine below_drewN ?_ _ | (with_reducible refine bel_alloc ?_ ?_ _; (first | omega | (simp; omega) | simp)) | (with_reducible refine bel_set ?_ ?_ _; (first | omega | (simp; omega) | simp)) | (with_reducible refine bel_tr (by assumption) ?_ ?_; (first | omega | (simp; omega) | simp))))))) hF).mono ?_
        rintro y w3 ⟨rfl, b3⟩
        have s3 := b3.size
        (try simp at s3)
        have Y3 := Lib.hid (Y1.out.below b3)
        have Y4 := Lib.hid (Y2.out.below b3)
        have HO4 := Lib.hid (HO3.out.below b3)
        have HB4 : Hid (Below w.heap.size w w3) := Lib.hid (bel_tr b3 (by omega) HB3.out)
        clear pc0 pf0 pc1 pf1 pc2 pf2 pc3 pf3 pc4 pf4 pc5 pf5 pc6 pf6 pc7 pf7 pc8 pf8 pc9 pf9 rc0 rc1 rc2 rc3 rc4 rc5 rc6 rc7 rc8
        have pc0 : _ = some (Value.int .i64 (p' 0)) := (Y3.out).2.2 0 (by omega)
        have pf0 := (Y3.out).2.1 0
        have pc1 : _ = some (Value.int .i64 (p' 1)) := (Y3.out).2.2 1 (by omega)
        have pf1 := (Y3.out).2.1 1
        have pc2 : _ = some (Value.int .i64 (p' 2)) := (Y3.out).2.2 2 (by omega)
        have pf2 := (Y3.out).2.1 2
        have pc3 : _ = some (Value.int .i64 (p' 3)) := (Y3.out).2.2 3 (by omega)
        have pf3 := (Y3.out).2.1 3
        have pc4 : _ = some (Value.int .i64 (p' 4)) := (Y3.out).2.2 4 (by omega)
        have pf4 := (Y3.out).2.1 4
        have pc5 : _ = some (Value.int .i64 (p' 5)) := (Y3.out).2.2 5 (by omega)
        have pf5 := (Y3.out).2.1 5
        have pc6 : _ = some (Value.int .i64 (p' 6)) := (Y3.out).2.2 6 (by omega)
        have pf6 := (Y3.out).2.1 6
        have pc7 : _ = some (Value.int .i64 (p' 7)) := (Y3.out).2.2 7 (by omega)
        have pf7 := (Y3.out).2.1 7
        have pc8 : _ = some (Value.int .i64 (p' 8)) := (Y3.out).2.2 8 (by omega)
        have pf8 := (Y3.out).2.1 8
        have pc9 : _ = some (Value.int .i64 (p' 9)) := (Y3.out).2.2 9 (by omega)
        have pf9 := (Y3.out).2.1 9
        have rc0 : _ = some (Value.slice A1 n1 c1) := (Y4.out).2.2 0 (by omega)
        have rc1 : _ = some (Value.int .i64 (r 1)) := (Y4.out).2.2 1 (by omega)
        have rc2 : _ = some (Value.int .i64 (r 2)) := (Y4.out).2.2 2 (by omega)
        have rc3 : _ = some (Value.int .i64 (r 3)) := (Y4.out).2.2 3 (by omega)
        have rc4 : _ = some (Value.int .i64 (r 4)) := (Y4.out).2.2 4 (by omega)
        have rc5 : _ = some (Value.int .i64 (r 5)) := (Y4.out).2.2 5 (by omega)
        have rc6 : _ = some (Value.int .i64 (r 6)) := (Y4.out).2.2 6 (by omega)
        have rc7 : _ = some (Value.int .i64 (r 7)) := (Y4.out).2.2 7 (by omega)
        have rc8 : _ = some (Value.int .i64 (r 8)) := (Y4.out).2.2 8 (by omega)
        have hne1 : ¬ w1.heap.size = w3.heap.size := by omega
        have hne2 : ¬ w1.heap.size + 1 = w3.heap.size := by omega
        have hlt3 : w1.heap.size < w3.heap.size := by omega
        have hlt4 : w1.heap.size + 1 < w3.heap.size := by omega
        have hne3 : ¬ w3.heap.size = w1.heap.size := by omega
        have hne4 : ¬ w3.heap.size = w1.heap.size + 1 := by omega
        clear b3
        go_wp2
        go_ret
        exact ⟨rfl, by have h1 := HB4.out; (repeat (first | with_reducible exact Below.refl _ _ | with_reducible refine Below.drew ?_ | with_reducible refine below_drewN ?_ _ | (with_reducible refine bel_alloc ?_ ?_ _; (first | omega | (simp; omega) | simp)) | (with_reducible refine bel_set ?_ ?_ _; (first | omega | (simp; omega) | simp)) | (with_reducible refine bel_tr (by assumption) ?_ ?_; (first | omega | (simp; omega) | simp))))⟩
      · have hk0 : ¬ (k : Int) = 0 := by omega
        have h9 : p' 9 + 1 = r 7 := fail_last hF hP h72
        have hbe : (p' 9 == r 7 - 1) = true := by (simp; omega)
        obtain ⟨f1, f2, f3, f4, f5, f6, f7, f8⟩ := hP.fl
        have H9 := Lib.hid h9
        have H72 := Lib.hid h72
        clear h9 h72
        go_wp2_with fail
        refine (vpn (impl_Failed A1 n1 c1 es r p' now _ (by omega) (HO3.out.rd.below (by (repeat (first | with_reducible exact Below.refl _ _ | with_reducible refine Below.drew ?_ | with_reducible refine below_drewN ?_ _ | (with_reducible refine bel_alloc ?_ ?_ _; (first | omega | (simp; omega) | simp)) | (with_reducible refine bel_set ?_ ?_ _; (first | omega | (simp; omega) | simp)) | (with_reducible refine bel_tr (by assumption) ?_ ?_; (first | omega | (simp; omega) | simp))))))) hF).mono ?_
        rintro y w3 ⟨rfl, b3⟩
        have s3 := b3.size
        (try simp at s3)
        have Y3 := Lib.hid (Y1.out.below b3)
        have Y4 := Lib.hid (Y2.out.below b3)
        have HO4 := Lib.hid (HO3.out.below b3)
        have HB4 : Hid (Below w.heap.size w w3) := Lib.hid (bel_tr b3 (by omega) HB3.out)
        clear pc0 pf0 pc1 pf1 pc2 pf2 pc3 pf3 pc4 pf4 pc5 pf5 pc6 pf6 pc7 pf7 pc8 pf8 pc9 pf9 rc0 rc1 rc2 rc3 rc4 rc5 rc6 rc7 rc8
        have pc0 : _ = some (Value.int .i64 (p' 0)) := (Y3.out).2.2 0 (by omega)
        have pf0 := (Y3.out).2.1 0
        have pc1 : _ = some (Value.int .i64 (p' 1)) := (Y3.out).2.2 1 (by omega)
        have pf1 := (Y3.out).2.1 1
        have pc2 : _ = some (Value.int .i64 (p' 2)) := (Y3.out).2.2 2 (by omega)
        have pf2 := (Y3.out).2.1 2
        have pc3 : _ = some (Value.int .i64 (p' 3)) := (Y3.out).2.2 3 (by omega)
        have pf3 := (Y3.out).2.1 3
        have pc4 : _ = some (Value.int .i64 (p' 4)) := (Y3.out).2.2 4 (by omega)
        have pf4 := (Y3.out).2.1 4
        have pc5 : _ = some (Value.int .i64 (p' 5)) := (Y3.out).2.2 5 (by omega)
        have pf5 := (Y3.out).2.1 5
        have pc6 : _ = some (Value.int .i64 (p' 6)) := (Y3.out).2.2 6 (by omega)
        have pf6 := (Y3.out).2.1 6
        have pc7 : _ = some (Value.int .i64 (p' 7)) := (Y3.out).2.2 7 (by omega)
        have pf7 := (Y3.out).2.1 7
        have pc8 : _ = some (Value.int .i64 (p' 8)) := (Y3.out).2.2 8 (by omega)
        have pf8 := (Y3.out).2.1 8
        have pc9 : _ = some (Value.int .i64 (p' 9)) := (Y3.out).2.2 9 (by omega)
        have pf9 := (Y3.out).2.1 9
        have rc0 : _ = some (Value.slice A1 n1 c1) := (Y4.out).2.2 0 (by omega)
        have rc1 : _ = some (Value.int .i64 (r 1)) := (Y4.out).2.2 1 (by omega)
        have rc2 : _ = some (Value.int .i64 (r 2)) := (Y4.out).2.2 2 (by omega)
        have rc3 : _ = some (Value.int .i64 (r 3)) := (Y4.out).2.2 3 (by omega)
        have rc4 : _ = some (Value.int .i64 (r 4)) := (Y4.out).2.2 4 (by omega)
        have rc5 : _ = some (Value.int .i64 (r 5)) := (Y4.out).2.2 5 (by omega)
        have rc6 : _ = some (Value.int .i64 (r 6)) := (Y4.out).2.2 6 (by omega)
        have rc7 : _ = some (Value.int .i64 (r 7)) := (Y4.out).2.2 7 (by omega)
        have rc8 : _ = some (Value.int .i64 (r 8)) := (Y4.out).2.2 8 (by omega)
        have hne1 : ¬ w1.heap.size = w3.heap.size := by omega
        have hne2 : ¬ w1.heap.size + 1 = w3.heap.size := by omega
        have hlt3 : w1.heap.size < w3.heap.size := by omega
        have hlt4 : w1.heap.size + 1 < w3.heap.size := by omega
        have hne3 : ¬ w3.heap.size = w1.heap.size := by omega
        have hne4 : ¬ w3.heap.size = w1.heap.size + 1 := by omega
        clear b3
        cases bo
        all_goals
          go_wp2
          go_ret
          exact ⟨rfl, by have h1 := HB4.out; (repeat (first | with_reducible exact Below.refl _ _ | with_reducible refine Below.drew ?_ | with_reducible refine below_drewN ?_ _ | (with_reducible refine bel_alloc ?_ ?_ _; (first | omega | (simp; omega) | simp)) | (with_reducible refine bel_set ?_ ?_ _; (first | omega | (simp; omega) | simp)) | (with_reducible refine bel_tr (by assumption) ?_ ?_; (first | omega | (simp; omega) | simp))))⟩
end Go.Proofs.Ytbpohbcbmicchaa
