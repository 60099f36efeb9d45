/-
  The draw of FnOneTier's arguments. No conditions beyond those stated.
-/
import Derived.Test.YtbpohbcbmicchaaDv0
namespace Go.Proofs.Ytbpohbcbmicchaa
open Go.RowKit

def DBD (w : World) (e : Ending) (w' : World) : Prop := ∃ (A : Option Addr) (n c : Nat) (r : Nat → Int) (es : List (Nat → Int)) (p q : Nat → Int) (now : Int), e = .returned (.tuple #[.agg #[.slice A n c, .int .i64 (r 1), .int .i64 (r 2), .int .i64 (r 3), .int .i64 (r 4), .int .i64 (r 5), .int .i64 (r 6), .int .i64 (r 7), .int .i64 (r 8)], .agg #[.int .i64 (p 0), .int .i64 (p 1), .int .i64 (p 2), .int .i64 (p 3), .int .i64 (p 4), .int .i64 (p 5), .int .i64 (p 6), .int .i64 (p 7), .int .i64 (p 8), .int .i64 (p 9)], .agg #[.int .i64 (q 0), .int .i64 (q 1), .int .i64 (q 2), .int .i64 (q 3), .int .i64 (q 4), .int .i64 (q 5), .int .i64 (q 6), .int .i64 (q 7), .int .i64 (q 8), .int .i64 (q 9)], .int .i64 now]) ∧ n ≤ 3 ∧ n ≤ c ∧ ROk n es r ∧ Own w.heap.size w' 1 A n es ∧ Below w.heap.size w w'

set_option maxRecDepth 100000 in
set_option maxHeartbeats 16000000 in
theorem drawBefore_any (A : Option Addr) (n c : Nat) (w : World) (hn : n ≤ 1048576) (h : RdB w A n) :
    Calls Try.prog 10 #[.slice A n c] w (DBD w) := by
  have HN := Lib.hid h
  clear h
  obtain ⟨cb, hcb⟩ : ∃ cb : Nat, cb = w.heap.size + 1 + 1 + 1 := ⟨_, rfl⟩
  have HCB := Lib.hid hcb
  have hc0 : w.heap.size + 1 + 1 < cb := by omega
  clear hcb
  go_enter Try.func10, Try.ntmps10
  go_wp2_with fail
  refine (l1New_c cb A n c _ (by have := HCB.out; simp; omega) hn (HN.out.below (by (repeat (first | with_reducible exact Below.refl _ _ | with_reducible refine Below.drew ?_ | with_reducible refine below_drewN ?_ _ | (with_reducible refine bel_alloc ?_ ?_ _; (first | omega | (simp; omega) | simp)) | (with_reducible refine bel_set ?_ ?_ _; (first | omega | (simp; omega) | simp)) | (with_reducible refine bel_tr (by assumption) ?_ ?_; (first | omega | (simp; omega) | simp))))))).mono ?_
  rintro y w1 ⟨rfl, hc1, b1⟩
  have Z0 := Lib.hid (((Bx.rules w 26 none 0 0 (fun _ => 0)).alloc (.cells #[Value.int .i64 0, Value.int .i64 0, Value.int .i64 0, Value.int .i64 0, Value.int .i64 0, Value.int .i64 0, Value.int .i64 0, Value.int .i64 0, Value.int .i64 0, Value.int .i64 0] 28)).alloc (.cells #[Value.int .i64 0, Value.int .i64 0, Value.int .i64 0, Value.int .i64 0, Value.int .i64 0, Value.int .i64 0, Value.int .i64 0, Value.int .i64 0, Value.int .i64 0, Value.int .i64 0] 28))
  have Z1 := Lib.hid ((Bx.party (w.alloc (.cells #[.slice none 0 0, Value.int .i64 0, Value.int .i64 0, Value.int .i64 0, Value.int .i64 0, Value.int .i64 0, Value.int .i64 0, Value.int .i64 0, Value.int .i64 0] 26)) 28 (fun _ => 0)).alloc (.cells #[Value.int .i64 0, Value.int .i64 0, Value.int .i64 0, Value.int .i64 0, Value.int .i64 0, Value.int .i64 0, Value.int .i64 0, Value.int .i64 0, Value.int .i64 0, Value.int .i64 0] 28))
  have Z2 := Lib.hid (Bx.party ((w.alloc (.cells #[.slice none 0 0, Value.int .i64 0, Value.int .i64 0, Value.int .i64 0, Value.int .i64 0, Value.int .i64 0, Value.int .i64 0, Value.int .i64 0, Value.int .i64 0] 26)).alloc (.cells #[Value.int .i64 0, Value.int .i64 0, Value.int .i64 0, Value.int .i64 0, Value.int .i64 0, Value.int .i64 0, Value.int .i64 0, Value.int .i64 0, Value.int .i64 0, Value.int .i64 0] 28)) 28 (fun _ => 0))
  (try simp at Z1)
  (try simp at Z2)
  have HB0 : Hid (Below w.heap.size w w1) := Lib.hid (bel_tr b1 (by (first | omega | (simp; omega) | simp)) (by (repeat (first | with_reducible exact Below.refl _ _ | with_reducible refine Below.drew ?_ | with_reducible refine below_drewN ?_ _ | (with_reducible refine bel_alloc ?_ ?_ _; (first | omega | (simp; omega) | simp)) | (with_reducible refine bel_set ?_ ?_ _; (first | omega | (simp; omega) | simp)) | (with_reducible refine bel_tr (by assumption) ?_ ?_; (first | omega | (simp; omega) | simp))))))
  have ls1 := b1.size
  (try simp at ls1)
  have Xa1 := Lib.hid (Bx.below (Z0.out) b1)
  have Xb1 := Lib.hid (Bx.below (Z1.out) b1)
  have Xc1 := Lib.hid (Bx.below (Z2.out) b1)
  clear b1
  have C1 := Lib.hid hc1
  have lc1 := hc1.lt
  clear hc1
  go_wp2_with fail
  refine (l5Right_any cb _ C1.out).mono ?_
  rintro y w2 ⟨A1, n1, c1, r, es, rfl, hn1, hnc, hR, ho, d2⟩
  have HR := Lib.hid hR
  have HO := Lib.hid ho
  clear hR ho
  have ls2 := d2.2.size
  (try simp at ls2)
  have Xa2 := Lib.hid (Bx.drew (Xa1.out) d2 (by omega))
  have Xb2 := Lib.hid (Bx.drew (Xb1.out) d2 (by omega))
  have Xc2 := Lib.hid (Bx.drew (Xc1.out) d2 (by omega))
  have HB2 := Lib.hid (bel_tr (d2.toBelow (B := w.heap.size) (by (first | omega | (simp; omega) | simp)) (by omega)) (Nat.le_refl _) (HB0.out))
  have C2 := Lib.hid d2.1
  have lc2 := d2.1.lt
  clear d2
  have HA := Lib.hid (Own.lt HO.out)
  go_wp2_with fail
  refine (l6Now_any2 cb _ ((C2.out).alc _)).mono ?_
  rintro y w3 ⟨now, rfl, _, d3⟩
  have ls3 := d3.2.size
  (try simp at ls3)
  have Xa3 := Lib.hid (Bx.drew (((Xa2.out).alloc _)) d3 (by omega))
  have Xb3 := Lib.hid (Bx.drew (((Xb2.out).alloc _)) d3 (by omega))
  have Xc3 := Lib.hid (Bx.drew (((Xc2.out).alloc _)) d3 (by omega))
  have Xr3 := Lib.hid (Bx.drew ((Bx.rules w2 26 A1 n1 c1 r)) d3 (by omega))
  have Yo3 := Lib.hid (Own.drew_c (((HO.out).alloc_ _)) d3 (by omega))
  have HB3 := Lib.hid (bel_tr (d3.toBelow (B := w.heap.size) (by (first | omega | (simp; omega) | simp)) (by omega)) (Nat.le_refl _) ((bel_alloc (by (first | omega | (simp; omega) | simp)) (HB2.out) _)))
  have C3 := Lib.hid d3.1
  have lc3 := d3.1.lt
  clear d3
  have rc0 : _ = some (Value.slice A1 n1 c1) := (Xr3.out).2.2 0 (by omega)
  have rc1 : _ = some (Value.int .i64 (r 1)) := (Xr3.out).2.2 1 (by omega)
  have rc2 : _ = some (Value.int .i64 (r 2)) := (Xr3.out).2.2 2 (by omega)
  have rc3 : _ = some (Value.int .i64 (r 3)) := (Xr3.out).2.2 3 (by omega)
  have rc4 : _ = some (Value.int .i64 (r 4)) := (Xr3.out).2.2 4 (by omega)
  have rc5 : _ = some (Value.int .i64 (r 5)) := (Xr3.out).2.2 5 (by omega)
  have rc6 : _ = some (Value.int .i64 (r 6)) := (Xr3.out).2.2 6 (by omega)
  have rc7 : _ = some (Value.int .i64 (r 7)) := (Xr3.out).2.2 7 (by omega)
  have rc8 : _ = some (Value.int .i64 (r 8)) := (Xr3.out).2.2 8 (by omega)
  go_wp2_with fail
  refine (l6Bent_any cb w1.heap.size A1 n1 c1 es r now _ (by omega) (by omega) (by omega) C3.out Yo3.out).mono ?_
  rintro y w4 ⟨p, rfl, _, d4⟩
  clear rc0 rc1 rc2 rc3 rc4 rc5 rc6 rc7 rc8
  have ls4 := d4.2.size
  (try simp at ls4)
  have Xa4 := Lib.hid (Bx.drew (Xa3.out) d4 (by omega))
  have Xb4 := Lib.hid (Bx.drew (Xb3.out) d4 (by omega))
  have Xc4 := Lib.hid (Bx.drew (Xc3.out) d4 (by omega))
  have Xr4 := Lib.hid (Bx.drew (Xr3.out) d4 (by omega))
  have Yo4 := Lib.hid (Own.drew_c (Yo3.out) d4 (by omega))
  have HB4 := Lib.hid (bel_tr (d4.toBelow (B := w.heap.size) (by (first | omega | (simp; omega) | simp)) (by omega)) (Nat.le_refl _) (HB3.out))
  have C4 := Lib.hid d4.1
  have lc4 := d4.1.lt
  clear d4
  have rc0 : _ = some (Value.slice A1 n1 c1) := (Xr4.out).2.2 0 (by omega)
  have rc1 : _ = some (Value.int .i64 (r 1)) := (Xr4.out).2.2 1 (by omega)
  have rc2 : _ = some (Value.int .i64 (r 2)) := (Xr4.out).2.2 2 (by omega)
  have rc3 : _ = some (Value.int .i64 (r 3)) := (Xr4.out).2.2 3 (by omega)
  have rc4 : _ = some (Value.int .i64 (r 4)) := (Xr4.out).2.2 4 (by omega)
  have rc5 : _ = some (Value.int .i64 (r 5)) := (Xr4.out).2.2 5 (by omega)
  have rc6 : _ = some (Value.int .i64 (r 6)) := (Xr4.out).2.2 6 (by omega)
  have rc7 : _ = some (Value.int .i64 (r 7)) := (Xr4.out).2.2 7 (by omega)
  have rc8 : _ = some (Value.int .i64 (r 8)) := (Xr4.out).2.2 8 (by omega)
  have hx24 : w2.heap.size < w4.heap.size := by omega
  go_wp2_with fail
  refine (l6Bent_any cb w1.heap.size A1 n1 c1 es r now _ (by omega) (by omega) (by (first | omega | (simp; omega) | simp)) ((C4.out).alc _) ((Yo4.out).alloc_ _)).mono ?_
  rintro y w5 ⟨q, rfl, _, d5⟩
  clear rc0 rc1 rc2 rc3 rc4 rc5 rc6 rc7 rc8
  have ls5 := d5.2.size
  (try simp at ls5)
  have Xa5 := Lib.hid (Bx.drew (((Xa4.out).alloc _)) d5 (by omega))
  have Xb5 := Lib.hid (Bx.drew (((Xb4.out).alloc _)) d5 (by omega))
  have Xc5 := Lib.hid (Bx.drew (((Xc4.out).alloc _)) d5 (by omega))
  have Xr5 := Lib.hid (Bx.drew (((Xr4.out).alloc _)) d5 (by omega))
  have Xp5 := Lib.hid (Bx.drew ((Bx.party w4 28 p)) d5 (by omega))
  have Yo5 := Lib.hid (Own.drew_c (((Yo4.out).alloc_ _)) d5 (by omega))
  have HB5 := Lib.hid (bel_tr (d5.toBelow (B := w.heap.size) (by (first | omega | (simp; omega) | simp)) (by omega)) (Nat.le_refl _) ((bel_alloc (by (first | omega | (simp; omega) | simp)) (HB4.out) _)))
  have C5 := Lib.hid d5.1
  have lc5 := d5.1.lt
  clear d5
  go_upto_if 26 with (go_at_call 20; refine (l1Once_any cb 2 _ ((C5.out).alc _)).mono ?_; rintro y w6 ⟨bo, rfl, d6⟩)
  have ls6 := d6.2.size
  (try simp at ls6)
  have Xa6 := Lib.hid (Bx.drew (((Xa5.out).alloc _)) d6 (by omega))
  have Xb6 := Lib.hid (Bx.drew (((Xb5.out).alloc _)) d6 (by omega))
  have Xc6 := Lib.hid (Bx.drew (((Xc5.out).alloc _)) d6 (by omega))
  have Xr6 := Lib.hid (Bx.drew (((Xr5.out).alloc _)) d6 (by omega))
  have Xp6 := Lib.hid (Bx.drew (((Xp5.out).alloc _)) d6 (by omega))
  have Xq6 := Lib.hid (Bx.drew ((Bx.party w5 28 q)) d6 (by omega))
  have Yo6 := Lib.hid (Own.drew_c (((Yo5.out).alloc_ _)) d6 (by omega))
  have HB6 := Lib.hid (bel_tr (d6.toBelow (B := w.heap.size) (by (first | omega | (simp; omega) | simp)) (by omega)) (Nat.le_refl _) ((bel_alloc (by (first | omega | (simp; omega) | simp)) (HB5.out) _)))
  have C6 := Lib.hid d6.1
  have lc6 := d6.1.lt
  clear d6
  go_cut [] (fun wx => ∃ q : Nat → Int, Hid (Bx wx (w4.heap.size) 10 (ints p)) ∧ Hid (Bx wx (w5.heap.size) 10 (ints q)) ∧ Hid (Bx wx (w2.heap.size) 9 (rv A1 n1 c1 r)) ∧ Hid (Bx wx (w.heap.size) 9 (rv none 0 0 (fun _ => 0))) ∧ Hid (Bx wx (w.heap.size + 1) 10 (ints (fun _ => 0))) ∧ Hid (Bx wx (w.heap.size + 1 + 1) 10 (ints (fun _ => 0))) ∧ Hid (Own w1.heap.size wx 1 A1 n1 es) ∧ Hid (Below w.heap.size w wx))
  case first =>
    cases bo with
    | false =>
      go_wp2
      go_meet
      exact ⟨_, Lib.hid (Xp6.out), Lib.hid (Xq6.out), Lib.hid (Xr6.out), Lib.hid (Xa6.out), Lib.hid (Xb6.out), Lib.hid (Xc6.out), Lib.hid (Yo6.out), Lib.hid (HB6.out)⟩
    | true =>
      have hw5 : w.heap.size ≤ w5.heap.size := by omega
      have pc0 : _ = some (Value.int .i64 (p 0)) := (Xp6.out).2.2 0 (by omega)
      have pc1 : _ = some (Value.int .i64 (p 1)) := (Xp6.out).2.2 1 (by omega)
      have pc2 : _ = some (Value.int .i64 (p 2)) := (Xp6.out).2.2 2 (by omega)
      have pc3 : _ = some (Value.int .i64 (p 3)) := (Xp6.out).2.2 3 (by omega)
      have pc4 : _ = some (Value.int .i64 (p 4)) := (Xp6.out).2.2 4 (by omega)
      have pc5 : _ = some (Value.int .i64 (p 5)) := (Xp6.out).2.2 5 (by omega)
      have pc6 : _ = some (Value.int .i64 (p 6)) := (Xp6.out).2.2 6 (by omega)
      have pc7 : _ = some (Value.int .i64 (p 7)) := (Xp6.out).2.2 7 (by omega)
      have pc8 : _ = some (Value.int .i64 (p 8)) := (Xp6.out).2.2 8 (by omega)
      have pc9 : _ = some (Value.int .i64 (p 9)) := (Xp6.out).2.2 9 (by omega)
      have qc0 : _ = some (Value.int .i64 (q 0)) := (Xq6.out).2.2 0 (by omega)
      have qf0 := (Xq6.out).2.1 0
      have qc1 : _ = some (Value.int .i64 (q 1)) := (Xq6.out).2.2 1 (by omega)
      have qf1 := (Xq6.out).2.1 1
      have qc2 : _ = some (Value.int .i64 (q 2)) := (Xq6.out).2.2 2 (by omega)
      have qf2 := (Xq6.out).2.1 2
      have qc3 : _ = some (Value.int .i64 (q 3)) := (Xq6.out).2.2 3 (by omega)
      have qf3 := (Xq6.out).2.1 3
      have qc4 : _ = some (Value.int .i64 (q 4)) := (Xq6.out).2.2 4 (by omega)
      have qf4 := (Xq6.out).2.1 4
      have qc5 : _ = some (Value.int .i64 (q 5)) := (Xq6.out).2.2 5 (by omega)
      have qf5 := (Xq6.out).2.1 5
      have qc6 : _ = some (Value.int .i64 (q 6)) := (Xq6.out).2.2 6 (by omega)
      have qf6 := (Xq6.out).2.1 6
      have qc7 : _ = some (Value.int .i64 (q 7)) := (Xq6.out).2.2 7 (by omega)
      have qf7 := (Xq6.out).2.1 7
      have qc8 : _ = some (Value.int .i64 (q 8)) := (Xq6.out).2.2 8 (by omega)
      have qf8 := (Xq6.out).2.1 8
      have qc9 : _ = some (Value.int .i64 (q 9)) := (Xq6.out).2.2 9 (by omega)
      have qf9 := (Xq6.out).2.1 9
      go_wp2_with fail
      refine (l1Below_any cb 40 _ (((((((((((((((((((((C6.out).set (by omega))).set (by omega))).set (by omega))).set (by omega))).set (by omega))).set (by omega))).set (by omega))).set (by omega))).set (by omega))).set (by omega)))).mono ?_
      rintro y w7 ⟨x, rfl, ⟨x0, x1, _⟩, d7⟩
      have x2 := x1 (by omega)
      clear x1
      clear pc0 qc0 qf0 pc1 qc1 qf1 pc2 qc2 qf2 pc3 qc3 qf3 pc4 qc4 qf4 pc5 qc5 qf5 pc6 qc6 qf6 pc7 qc7 qf7 pc8 qc8 qf8 pc9 qc9 qf9
      have ls7 := d7.2.size
      (try simp at ls7)
      have Xa7 := Lib.hid (Bx.drew ((Bx.set_ne _ ((Bx.set_ne _ ((Bx.set_ne _ ((Bx.set_ne _ ((Bx.set_ne _ ((Bx.set_ne _ ((Bx.set_ne _ ((Bx.set_ne _ ((Bx.set_ne _ ((Bx.set_ne _ (Xa6.out) (by omega))) (by omega))) (by omega))) (by omega))) (by omega))) (by omega))) (by omega))) (by omega))) (by omega))) (by omega))) d7 (by omega))
      have Xb7 := Lib.hid (Bx.drew ((Bx.set_ne _ ((Bx.set_ne _ ((Bx.set_ne _ ((Bx.set_ne _ ((Bx.set_ne _ ((Bx.set_ne _ ((Bx.set_ne _ ((Bx.set_ne _ ((Bx.set_ne _ ((Bx.set_ne _ (Xb6.out) (by omega))) (by omega))) (by omega))) (by omega))) (by omega))) (by omega))) (by omega))) (by omega))) (by omega))) (by omega))) d7 (by omega))
      have Xc7 := Lib.hid (Bx.drew ((Bx.set_ne _ ((Bx.set_ne _ ((Bx.set_ne _ ((Bx.set_ne _ ((Bx.set_ne _ ((Bx.set_ne _ ((Bx.set_ne _ ((Bx.set_ne _ ((Bx.set_ne _ ((Bx.set_ne _ (Xc6.out) (by omega))) (by omega))) (by omega))) (by omega))) (by omega))) (by omega))) (by omega))) (by omega))) (by omega))) (by omega))) d7 (by omega))
      have Xr7 := Lib.hid (Bx.drew ((Bx.set_ne _ ((Bx.set_ne _ ((Bx.set_ne _ ((Bx.set_ne _ ((Bx.set_ne _ ((Bx.set_ne _ ((Bx.set_ne _ ((Bx.set_ne _ ((Bx.set_ne _ ((Bx.set_ne _ (Xr6.out) (by omega))) (by omega))) (by omega))) (by omega))) (by omega))) (by omega))) (by omega))) (by omega))) (by omega))) (by omega))) d7 (by omega))
      have Xp7 := Lib.hid (Bx.drew ((Bx.set_ne _ ((Bx.set_ne _ ((Bx.set_ne _ ((Bx.set_ne _ ((Bx.set_ne _ ((Bx.set_ne _ ((Bx.set_ne _ ((Bx.set_ne _ ((Bx.set_ne _ ((Bx.set_ne _ (Xp6.out) (by omega))) (by omega))) (by omega))) (by omega))) (by omega))) (by omega))) (by omega))) (by omega))) (by omega))) (by omega))) d7 (by omega))
      have Xq7 := Lib.hid (Bx.drew ((Bx.upd ((Bx.upd ((Bx.upd ((Bx.upd ((Bx.upd ((Bx.upd ((Bx.upd ((Bx.upd ((Bx.upd ((Bx.upd (Xq6.out) (p 0) (show 0 < 10 by omega))) (p 1) (show 1 < 10 by omega))) (p 2) (show 2 < 10 by omega))) (p 3) (show 3 < 10 by omega))) (p 4) (show 4 < 10 by omega))) (p 5) (show 5 < 10 by omega))) (p 6) (show 6 < 10 by omega))) (p 7) (show 7 < 10 by omega))) (p 8) (show 8 < 10 by omega))) (p 9) (show 9 < 10 by omega))) d7 (by omega))
      have Yo7 := Lib.hid (Own.drew_c ((Own.set_nb ((Own.set_nb ((Own.set_nb ((Own.set_nb ((Own.set_nb ((Own.set_nb ((Own.set_nb ((Own.set_nb ((Own.set_nb ((Own.set_nb (Yo6.out) (fun a h0 ha => by have hz := HA.out a h0 ha; omega) _)) (fun a h0 ha => by have hz := HA.out a h0 ha; omega) _)) (fun a h0 ha => by have hz := HA.out a h0 ha; omega) _)) (fun a h0 ha => by have hz := HA.out a h0 ha; omega) _)) (fun a h0 ha => by have hz := HA.out a h0 ha; omega) _)) (fun a h0 ha => by have hz := HA.out a h0 ha; omega) _)) (fun a h0 ha => by have hz := HA.out a h0 ha; omega) _)) (fun a h0 ha => by have hz := HA.out a h0 ha; omega) _)) (fun a h0 ha => by have hz := HA.out a h0 ha; omega) _)) (fun a h0 ha => by have hz := HA.out a h0 ha; omega) _)) d7 (by omega))
      have HB7 := Lib.hid (bel_tr (d7.toBelow (B := w.heap.size) (by (first | omega | (simp; omega) | simp)) (by omega)) (Nat.le_refl _) ((bel_set (by (first | omega | (simp; omega) | simp)) ((bel_set (by (first | omega | (simp; omega) | simp)) ((bel_set (by (first | omega | (simp; omega) | simp)) ((bel_set (by (first | omega | (simp; omega) | simp)) ((bel_set (by (first | omega | (simp; omega) | simp)) ((bel_set (by (first | omega | (simp; omega) | simp)) ((bel_set (by (first | omega | (simp; omega) | simp)) ((bel_set (by (first | omega | (simp; omega) | simp)) ((bel_set (by (first | omega | (simp; omega) | simp)) ((bel_set (by (first | omega | (simp; omega) | simp)) (HB6.out) _)) _)) _)) _)) _)) _)) _)) _)) _)) _)))
      have C7 := Lib.hid d7.1
      have lc7 := d7.1.lt
      clear d7
      have qc6 : ∃ v, _ = some v := ⟨_, (Xq7.out).2.2 6 (by omega)⟩
      obtain ⟨v6, qc6⟩ := qc6
      have qf6 := (Xq7.out).2.1 6
      go_wp2
      go_meet
      exact ⟨_, Lib.hid ((Bx.set_ne _ (Xp7.out) (by omega))), Lib.hid ((Bx.upd (Xq7.out) (1 + x) (show 6 < 10 by omega))), Lib.hid ((Bx.set_ne _ (Xr7.out) (by omega))), Lib.hid ((Bx.set_ne _ (Xa7.out) (by omega))), Lib.hid ((Bx.set_ne _ (Xb7.out) (by omega))), Lib.hid ((Bx.set_ne _ (Xc7.out) (by omega))), Lib.hid ((Own.set_nb (Yo7.out) (fun a h0 ha => by have hz := HA.out a h0 ha; omega) _)), Lib.hid ((bel_set (by (first | omega | (simp; omega) | simp)) (HB7.out) _))⟩
  case rest =>
    obtain ⟨q, X1, X2, X3, X4, X5, X6, HO2, HB2⟩ := hcut
    have pc0 : _ = some (Value.int .i64 (p 0)) := (X1.out).2.2 0 (by omega)
    have pc1 : _ = some (Value.int .i64 (p 1)) := (X1.out).2.2 1 (by omega)
    have pc2 : _ = some (Value.int .i64 (p 2)) := (X1.out).2.2 2 (by omega)
    have pc3 : _ = some (Value.int .i64 (p 3)) := (X1.out).2.2 3 (by omega)
    have pc4 : _ = some (Value.int .i64 (p 4)) := (X1.out).2.2 4 (by omega)
    have pc5 : _ = some (Value.int .i64 (p 5)) := (X1.out).2.2 5 (by omega)
    have pc6 : _ = some (Value.int .i64 (p 6)) := (X1.out).2.2 6 (by omega)
    have pc7 : _ = some (Value.int .i64 (p 7)) := (X1.out).2.2 7 (by omega)
    have pc8 : _ = some (Value.int .i64 (p 8)) := (X1.out).2.2 8 (by omega)
    have pc9 : _ = some (Value.int .i64 (p 9)) := (X1.out).2.2 9 (by omega)
    have qc0 : _ = some (Value.int .i64 (q 0)) := (X2.out).2.2 0 (by omega)
    have qc1 : _ = some (Value.int .i64 (q 1)) := (X2.out).2.2 1 (by omega)
    have qc2 : _ = some (Value.int .i64 (q 2)) := (X2.out).2.2 2 (by omega)
    have qc3 : _ = some (Value.int .i64 (q 3)) := (X2.out).2.2 3 (by omega)
    have qc4 : _ = some (Value.int .i64 (q 4)) := (X2.out).2.2 4 (by omega)
    have qc5 : _ = some (Value.int .i64 (q 5)) := (X2.out).2.2 5 (by omega)
    have qc6 : _ = some (Value.int .i64 (q 6)) := (X2.out).2.2 6 (by omega)
    have qc7 : _ = some (Value.int .i64 (q 7)) := (X2.out).2.2 7 (by omega)
    have qc8 : _ = some (Value.int .i64 (q 8)) := (X2.out).2.2 8 (by omega)
    have qc9 : _ = some (Value.int .i64 (q 9)) := (X2.out).2.2 9 (by omega)
    have rc0 : _ = some (Value.slice A1 n1 c1) := (X3.out).2.2 0 (by omega)
    have rc1 : _ = some (Value.int .i64 (r 1)) := (X3.out).2.2 1 (by omega)
    have rc2 : _ = some (Value.int .i64 (r 2)) := (X3.out).2.2 2 (by omega)
    have rc3 : _ = some (Value.int .i64 (r 3)) := (X3.out).2.2 3 (by omega)
    have rc4 : _ = some (Value.int .i64 (r 4)) := (X3.out).2.2 4 (by omega)
    have rc5 : _ = some (Value.int .i64 (r 5)) := (X3.out).2.2 5 (by omega)
    have rc6 : _ = some (Value.int .i64 (r 6)) := (X3.out).2.2 6 (by omega)
    have rc7 : _ = some (Value.int .i64 (r 7)) := (X3.out).2.2 7 (by omega)
    have rc8 : _ = some (Value.int .i64 (r 8)) := (X3.out).2.2 8 (by omega)
    have ac0 : _ = some (Value.slice none 0 0) := (X4.out).2.2 0 (by omega)
    have af0 := (X4.out).2.1 0
    have ac1 : _ = some (Value.int .i64 0) := (X4.out).2.2 1 (by omega)
    have af1 := (X4.out).2.1 1
    have ac2 : _ = some (Value.int .i64 0) := (X4.out).2.2 2 (by omega)
    have af2 := (X4.out).2.1 2
    have ac3 : _ = some (Value.int .i64 0) := (X4.out).2.2 3 (by omega)
    have af3 := (X4.out).2.1 3
    have ac4 : _ = some (Value.int .i64 0) := (X4.out).2.2 4 (by omega)
    have af4 := (X4.out).2.1 4
    have ac5 : _ = some (Value.int .i64 0) := (X4.out).2.2 5 (by omega)
    have af5 := (X4.out).2.1 5
    have ac6 : _ = some (Value.int .i64 0) := (X4.out).2.2 6 (by omega)
    have af6 := (X4.out).2.1 6
    have ac7 : _ = some (Value.int .i64 0) := (X4.out).2.2 7 (by omega)
    have af7 := (X4.out).2.1 7
    have ac8 : _ = some (Value.int .i64 0) := (X4.out).2.2 8 (by omega)
    have af8 := (X4.out).2.1 8
    have bc0 : _ = some (Value.int .i64 0) := (X5.out).2.2 0 (by omega)
    have bf0 := (X5.out).2.1 0
    have bc1 : _ = some (Value.int .i64 0) := (X5.out).2.2 1 (by omega)
    have bf1 := (X5.out).2.1 1
    have bc2 : _ = some (Value.int .i64 0) := (X5.out).2.2 2 (by omega)
    have bf2 := (X5.out).2.1 2
    have bc3 : _ = some (Value.int .i64 0) := (X5.out).2.2 3 (by omega)
    have bf3 := (X5.out).2.1 3
    have bc4 : _ = some (Value.int .i64 0) := (X5.out).2.2 4 (by omega)
    have bf4 := (X5.out).2.1 4
    have bc5 : _ = some (Value.int .i64 0) := (X5.out).2.2 5 (by omega)
    have bf5 := (X5.out).2.1 5
    have bc6 : _ = some (Value.int .i64 0) := (X5.out).2.2 6 (by omega)
    have bf6 := (X5.out).2.1 6
    have bc7 : _ = some (Value.int .i64 0) := (X5.out).2.2 7 (by omega)
    have bf7 := (X5.out).2.1 7
    have bc8 : _ = some (Value.int .i64 0) := (X5.out).2.2 8 (by omega)
    have bf8 := (X5.out).2.1 8
    have bc9 : _ = some (Value.int .i64 0) := (X5.out).2.2 9 (by omega)
    have bf9 := (X5.out).2.1 9
    have cc0 : _ = some (Value.int .i64 0) := (X6.out).2.2 0 (by omega)
    have cf0 := (X6.out).2.1 0
    have cc1 : _ = some (Value.int .i64 0) := (X6.out).2.2 1 (by omega)
    have cf1 := (X6.out).2.1 1
    have cc2 : _ = some (Value.int .i64 0) := (X6.out).2.2 2 (by omega)
    have cf2 := (X6.out).2.1 2
    have cc3 : _ = some (Value.int .i64 0) := (X6.out).2.2 3 (by omega)
    have cf3 := (X6.out).2.1 3
    have cc4 : _ = some (Value.int .i64 0) := (X6.out).2.2 4 (by omega)
    have cf4 := (X6.out).2.1 4
    have cc5 : _ = some (Value.int .i64 0) := (X6.out).2.2 5 (by omega)
    have cf5 := (X6.out).2.1 5
    have cc6 : _ = some (Value.int .i64 0) := (X6.out).2.2 6 (by omega)
    have cf6 := (X6.out).2.1 6
    have cc7 : _ = some (Value.int .i64 0) := (X6.out).2.2 7 (by omega)
    have cf7 := (X6.out).2.1 7
    have cc8 : _ = some (Value.int .i64 0) := (X6.out).2.2 8 (by omega)
    have cf8 := (X6.out).2.1 8
    have cc9 : _ = some (Value.int .i64 0) := (X6.out).2.2 9 (by omega)
    have cf9 := (X6.out).2.1 9
    have hz0 : ¬ w.heap.size = w2.heap.size := by omega
    have hy0 : ¬ w2.heap.size = w.heap.size := by omega
    have hx0 : w.heap.size < w2.heap.size := by omega
    have hz1 : ¬ w.heap.size = w4.heap.size := by omega
    have hy1 : ¬ w4.heap.size = w.heap.size := by omega
    have hx1 : w.heap.size < w4.heap.size := by omega
    have hz2 : ¬ w.heap.size = w5.heap.size := by omega
    have hy2 : ¬ w5.heap.size = w.heap.size := by omega
    have hx2 : w.heap.size < w5.heap.size := by omega
    have hz3 : ¬ w.heap.size + 1 = w2.heap.size := by omega
    have hy3 : ¬ w2.heap.size = w.heap.size + 1 := by omega
    have hx3 : w.heap.size + 1 < w2.heap.size := by omega
    have hz4 : ¬ w.heap.size + 1 = w4.heap.size := by omega
    have hy4 : ¬ w4.heap.size = w.heap.size + 1 := by omega
    have hx4 : w.heap.size + 1 < w4.heap.size := by omega
    have hz5 : ¬ w.heap.size + 1 = w5.heap.size := by omega
    have hy5 : ¬ w5.heap.size = w.heap.size + 1 := by omega
    have hx5 : w.heap.size + 1 < w5.heap.size := by omega
    have hz6 : ¬ w.heap.size + 1 + 1 = w2.heap.size := by omega
    have hy6 : ¬ w2.heap.size = w.heap.size + 1 + 1 := by omega
    have hx6 : w.heap.size + 1 + 1 < w2.heap.size := by omega
    have hz7 : ¬ w.heap.size + 1 + 1 = w4.heap.size := by omega
    have hy7 : ¬ w4.heap.size = w.heap.size + 1 + 1 := by omega
    have hx7 : w.heap.size + 1 + 1 < w4.heap.size := by omega
    have hz8 : ¬ w.heap.size + 1 + 1 = w5.heap.size := by omega
    have hy8 : ¬ w5.heap.size = w.heap.size + 1 + 1 := by omega
    have hx8 : w.heap.size + 1 + 1 < w5.heap.size := by omega
    go_wp2
    go_region
    all_goals
      go_wp2
      refine bodyPost_ret (v := .tuple #[.agg #[.slice A1 n1 c1, .int .i64 (r 1), .int .i64 (r 2), .int .i64 (r 3), .int .i64 (r 4), .int .i64 (r 5), .int .i64 (r 6), .int .i64 (r 7), .int .i64 (r 8)], .agg #[.int .i64 (p 0), .int .i64 (p 1), .int .i64 (p 2), .int .i64 (p 3), .int .i64 (p 4), .int .i64 (p 5), .int .i64 (p 6), .int .i64 (p 7), .int .i64 (p 8), .int .i64 (p 9)], .agg #[.int .i64 (q 0), .int .i64 (q 1), .int .i64 (q 2), .int .i64 (q 3), .int .i64 (q 4), .int .i64 (q 5), .int .i64 (q 6), .int .i64 (q 7), .int .i64 (q 8), .int .i64 (q 9)], .int .i64 now]) (by simp only [results, Try.results10]; (first | (go_simp; done) | (go_simp; omega))) rfl ⟨A1, n1, c1, r, es, p, q, now, rfl, hn1, hnc, HR.out, ?_, ?_⟩
      · refine Own.mono (B := w1.heap.size) ?_ (by omega)
        have HO3 := HO2.out
        (repeat (first | with_reducible exact HO3 | (with_reducible refine Own.set_ ?_ ?_ _; (first | omega | (simp; omega) | simp)) | with_reducible refine Own.drew_ ?_))
      · have HB3 := HB2.out
        (repeat (first | with_reducible exact HB3 | with_reducible refine Below.drew ?_ | (with_reducible refine bel_set ?_ ?_ _; (first | omega | (simp; omega) | simp))))
end Go.Proofs.Ytbpohbcbmicchaa
