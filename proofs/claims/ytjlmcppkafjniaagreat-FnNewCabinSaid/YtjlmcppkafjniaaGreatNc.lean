/-
  The draw of the arguments of Agrees. No conditions beyond those stated.
-/
import Derived.Test.YtjlmcppkafjniaaGreatNc0
import Derived.Test.YtjlmcppkafjniaaGreatFi3
import Derived.Test.YtjlmcppkafjniaaGreatDl
import Derived.Deep.RegionWith
namespace Go.Proofs.YtjlmcppkafjniaaGreat
open Go.RowKit

def cabF (X : Nat → Int) (AE : Option Addr) (k kc : Nat) (WA : Option Addr) (N cw : Nat) : Nat → Value
  | 5 => .slice AE k kc
  | 6 => .slice WA N cw
  | j => .int .i64 (X j)
theorem Bx.cab (w : World) (t : TypeId) (X : Nat → Int) (AE : Option Addr) (k kc : Nat) (WA : Option Addr) (N cw : Nat) : Bx (w.alloc (.cells #[.int .i64 (X 0), .int .i64 (X 1), .int .i64 (X 2), .int .i64 (X 3), .int .i64 (X 4), .slice AE k kc, .slice WA N cw] t)) w.heap.size 7 (cabF X AE k kc WA N cw) :=
  ⟨by simp, fun o => by (first | (simp; done) | (go_simp; done)), all7 (by show _ = some (Value.int .i64 (X 0)); (first | (simp; done) | (go_simp; done))) (by show _ = some (Value.int .i64 (X 1)); (first | (simp; done) | (go_simp; done))) (by show _ = some (Value.int .i64 (X 2)); (first | (simp; done) | (go_simp; done))) (by show _ = some (Value.int .i64 (X 3)); (first | (simp; done) | (go_simp; done))) (by show _ = some (Value.int .i64 (X 4)); (first | (simp; done) | (go_simp; done))) (by show _ = some (Value.slice AE k kc); (first | (simp; done) | (go_simp; done))) (by show _ = some (Value.slice WA N cw); (first | (simp; done) | (go_simp; done)))⟩
theorem Bx.congr {w : World} {b K : Nat} {v v' : Nat → Value} (h : Bx w b K v) (e : ∀ j, j < K → v j = v' j) : Bx w b K v' := ⟨h.1, h.2.1, fun j hj => e j hj ▸ h.2.2 j hj⟩
theorem Bx.seats {w : World} {b : Nat} {X : Nat → Int} {AE : Option Addr} {k kc : Nat} {WA : Option Addr} {N cw : Nat} (h : Bx w b 7 (cabF X AE k kc WA N cw)) (e : Nat → Int) :
    Bx (((((w.setCell ⟨b, 0, none⟩ (.int .i64 (e 0))).setCell ⟨b, 1, none⟩ (.int .i64 (e 1))).setCell ⟨b, 2, none⟩ (.int .i64 (e 2))).setCell ⟨b, 3, none⟩ (.int .i64 (e 3))).setCell ⟨b, 4, none⟩ (.int .i64 (e 4))) b 7 (cabF e AE k kc WA N cw) :=
  (((((h.set (.int .i64 (e 0)) (by omega)).set (.int .i64 (e 1)) (by omega)).set (.int .i64 (e 2)) (by omega)).set (.int .i64 (e 3)) (by omega)).set (.int .i64 (e 4)) (by omega)).congr (all7 rfl rfl rfl rfl rfl rfl rfl)
theorem Bx.row {w : World} {b : Nat} {X : Nat → Int} {AE : Option Addr} {k kc : Nat} {WA : Option Addr} {N cw : Nat} (h : Bx w b 7 (cabF X AE k kc WA N cw)) (A : Option Addr) (n c : Nat) :
    Bx (w.setCell ⟨b, 5, none⟩ (.slice A n c)) b 7 (cabF X A n c WA N cw) := (h.set (.slice A n c) (by omega)).congr (all7 rfl rfl rfl rfl rfl rfl rfl)
theorem Bx.whl {w : World} {b : Nat} {X : Nat → Int} {AE : Option Addr} {k kc : Nat} {WA : Option Addr} {N cw : Nat} (h : Bx w b 7 (cabF X AE k kc WA N cw)) (A : Option Addr) (n c : Nat) :
    Bx (w.setCell ⟨b, 6, none⟩ (.slice A n c)) b 7 (cabF X AE k kc A n c) := (h.set (.slice A n c) (by omega)).congr (all7 rfl rfl rfl rfl rfl rfl rfl)
theorem zcabBx_at (w : World) (t : TypeId) {b : Nat} (h : b = w.heap.size) : Bx (w.alloc (.cells #[.int .i64 0, .int .i64 0, .int .i64 0, .int .i64 0, .int .i64 0, .slice none 0 0, .slice none 0 0] t)) b 7 zcab := h ▸ Bx.zcab w t
theorem Bx.fill {w : World} {b : Nat} {v : Nat → Value} (h : Bx w b 7 v) (X : Nat → Int) (AE : Option Addr) (k kc : Nat) (WA : Option Addr) (N cw : Nat) :
    Bx ((((((((w.setCell ⟨b, 0, none⟩ (.int .i64 (X 0))).setCell ⟨b, 1, none⟩ (.int .i64 (X 1))).setCell ⟨b, 2, none⟩ (.int .i64 (X 2))).setCell ⟨b, 3, none⟩ (.int .i64 (X 3))).setCell ⟨b, 4, none⟩ (.int .i64 (X 4))).setCell ⟨b, 5, none⟩ (.slice AE k kc)).setCell ⟨b, 6, none⟩ (.slice WA N cw))) b 7 (cabF X AE k kc WA N cw) :=
  (((((((h.set (.int .i64 (X 0)) (by omega)).set (.int .i64 (X 1)) (by omega)).set (.int .i64 (X 2)) (by omega)).set (.int .i64 (X 3)) (by omega)).set (.int .i64 (X 4)) (by omega)).set (.slice AE k kc) (by omega)).set (.slice WA N cw) (by omega)).congr (all7 rfl rfl rfl rfl rfl rfl rfl)
theorem Bx.put7_ne {w : World} {b b' K : Nat} {v : Nat → Value} (h : Bx w b K v) (hne : b ≠ b') (v0 v1 v2 v3 v4 v5 v6 : Value) : Bx ((((((((w.setCell ⟨b', 0, none⟩ v0).setCell ⟨b', 1, none⟩ v1).setCell ⟨b', 2, none⟩ v2).setCell ⟨b', 3, none⟩ v3).setCell ⟨b', 4, none⟩ v4).setCell ⟨b', 5, none⟩ v5).setCell ⟨b', 6, none⟩ v6)) b K v :=
  ((((((h.set_ne v0 hne).set_ne v1 hne).set_ne v2 hne).set_ne v3 hne).set_ne v4 hne).set_ne v5 hne).set_ne v6 hne
theorem Own.put7 {w : World} {B K n b0 : Nat} {A : Option Addr} {es : List (Nat → Int)} (h : Own B w K A n es) (hne : ∀ a, n ≠ 0 → A = some a → a.block ≠ b0) (v0 v1 v2 v3 v4 v5 v6 : Value) : Own B ((((((((w.setCell ⟨b0, 0, none⟩ v0).setCell ⟨b0, 1, none⟩ v1).setCell ⟨b0, 2, none⟩ v2).setCell ⟨b0, 3, none⟩ v3).setCell ⟨b0, 4, none⟩ v4).setCell ⟨b0, 5, none⟩ v5).setCell ⟨b0, 6, none⟩ v6)) K A n es :=
  ((((((h.set_nb hne v0).set_nb hne v1).set_nb hne v2).set_nb hne v3).set_nb hne v4).set_nb hne v5).set_nb hne v6
theorem Cur.put7 {w : World} {cb b0 : Nat} (h : Cur w cb) (hne : cb < b0) (v0 v1 v2 v3 v4 v5 v6 : Value) : Cur ((((((((w.setCell ⟨b0, 0, none⟩ v0).setCell ⟨b0, 1, none⟩ v1).setCell ⟨b0, 2, none⟩ v2).setCell ⟨b0, 3, none⟩ v3).setCell ⟨b0, 4, none⟩ v4).setCell ⟨b0, 5, none⟩ v5).setCell ⟨b0, 6, none⟩ v6)) cb :=
  ((((((h.set hne).set hne).set hne).set hne).set hne).set hne).set hne
theorem bel_put7 {B b0 : Nat} {a w : World} (hb : B ≤ b0) (h : Below B a w) (v0 v1 v2 v3 v4 v5 v6 : Value) : Below B a ((((((((w.setCell ⟨b0, 0, none⟩ v0).setCell ⟨b0, 1, none⟩ v1).setCell ⟨b0, 2, none⟩ v2).setCell ⟨b0, 3, none⟩ v3).setCell ⟨b0, 4, none⟩ v4).setCell ⟨b0, 5, none⟩ v5).setCell ⟨b0, 6, none⟩ v6)) :=
  bel_set hb (bel_set hb (bel_set hb (bel_set hb (bel_set hb (bel_set hb (bel_set hb h v0) v1) v2) v3) v4) v5) v6
theorem row_setn {base b o K n : Nat} {w : World} {e : TypeId} {v : Value} {xs : List Value} (h : w.ownsRow base e K v n xs) (hb : v.ownBlock ≠ some b) (u : Value) : (w.setCell ⟨b, o, none⟩ u).ownsRow base e K v n xs :=
  ⟨h.1, h.2.imp id fun ⟨g, cap, cur, h1, h2, hh, h3⟩ => ⟨g, cap, cur, h1, h2, (Below.heap_setCell w ⟨b, o, none⟩ u g (fun e => hb (by rw [h1]; simp [Value.ownBlock]; exact e))).trans hh, h3⟩⟩
/-- What is known of a drawn party. -/
def AgP (n : Nat) (r : Nat → Int) (now : Int) (p : Nat → Int) : Prop := (1 ≤ p 0 ∧ p 0 ≤ 5) ∧ (0 ≤ p 1 ∧ p 1 < n) ∧ (p 2 = -1 ∨ 0 ≤ p 2 ∧ p 2 < n) ∧ ¬ p 2 = p 1 ∧ (1 ≤ p 3 ∧ p 3 ≤ r 3) ∧ (0 ≤ p 4 ∧ p 4 < r 1) ∧ (1 ≤ p 6 ∧ p 6 ≤ 40) ∧ (0 ≤ p 9 ∧ p 9 < r 7) ∧
  (0 ≤ p 5 ∧ p 5 ≤ now) ∧ (p 7 = 1 ∧ 0 ≤ p 8 ∧ p 8 ≤ now + r 6 ∨ p 7 = 2 ∧ 1 ≤ p 8 ∧ p 8 ≤ now + r 5)
theorem upd_upd0 (p : Nat → Int) (x : Int) : upd (upd p 0 x) 0 (p 0) = p := by
  funext j
  unfold upd
  by_cases e : j = 0
  · rw [if_pos e, e]
  · rw [if_neg e, if_neg e]
theorem AgP.ofn {n : Nat} {r p : Nat → Int} {x0 now k y : Int} (h : PDr n r now (upd p 0 x0)) (h0 : p 0 = k + 1) (hk : k ≤ 4) (hk0 : 0 ≤ k) (hy : 0 ≤ now ∧ now ≤ 10000000 ∧ 0 ≤ y ∧ y < 3) (hf : ¬ p 2 = p 1) : AgP n r now (upd p 6 (3 * k + 1 + y)) := by
  obtain ⟨_, h1, h2, h3, h4, _, h9, h10⟩ := h
  obtain ⟨h5, h6, h7⟩ := h10 ⟨hy.1, hy.2.1⟩
  exact ⟨(show 1 ≤ p 0 ∧ p 0 ≤ 5 by omega), h1, h2, hf, h3, h4, (show 1 ≤ 3 * k + 1 + y ∧ 3 * k + 1 + y ≤ 40 by omega), h9, ⟨h5, h6⟩, h7⟩
theorem AgP.ofy {n : Nat} {r p : Nat → Int} {x0 now k y : Int} (h : PDr n r now (upd p 0 x0)) (h0 : p 0 = k + 1) (hk : k ≤ 4) (hk0 : 0 ≤ k) (hy : 0 ≤ now ∧ now ≤ 10000000 ∧ 0 ≤ y ∧ y < 3) : AgP n r now (upd (upd p 6 (3 * k + 1 + y)) 2 (-1)) := by
  obtain ⟨_, h1, h2, h3, h4, _, h9, h10⟩ := h
  obtain ⟨h5, h6, h7⟩ := h10 ⟨hy.1, hy.2.1⟩
  have h11 : 0 ≤ p 1 := h1.1
  exact ⟨(show 1 ≤ p 0 ∧ p 0 ≤ 5 by omega), h1, .inl rfl, (show ¬ (-1 : Int) = p 1 by omega), h3, h4, (show 1 ≤ 3 * k + 1 + y ∧ 3 * k + 1 + y ≤ 40 by omega), h9, ⟨h5, h6⟩, h7⟩
theorem fld_mem {es : List (Nat → Int)} {i : Nat} (h : i < es.length) : fld es i ∈ es := by
  unfold fld
  rw [List.getD_eq_getElem?_getD, List.getElem?_eq_getElem h]
  exact List.getElem_mem h
/-- A drawn party is right at a tick a little later. -/
theorem AgP.late {n : Nat} {r p : Nat → Int} {now now2 : Int} (h : AgP n r now p) (_h0 : 0 ≤ now) (h1 : now ≤ now2) (h2 : now2 ≤ 1000000) : PInts n r p now2 ∧ (p 7 = 1 ∨ p 7 = 2) := by
  obtain ⟨a, b, c, d, e, f, g, i, j, k⟩ := h
  unfold PInts
  refine ⟨⟨by omega, by omega, by omega, by omega, d, by omega, by omega, by omega, by omega, by omega, ?_⟩, by omega⟩
  rcases k with k | k
  · exact .inl (by omega)
  · exact .inr (by omega)
def DAg (w : World) (y : Ending) (w' : World) : Prop := ∃ (A : Option Addr) (n c : Nat) (r : Nat → Int) (es : List (Nat → Int)) (X : Nat → Int) (AE : Option Addr) (e0 kc : Nat) (WA : Option Addr) (N0 cw : Nat) (P : Option Addr) (m pc : Nat) (ps : List (Nat → Int)) (q : Nat) (now : Int),
  y = .returned (.tuple #[.agg #[.slice A n c, .int .i64 (r 1), .int .i64 (r 2), .int .i64 (r 3), .int .i64 (r 4), .int .i64 (r 5), .int .i64 (r 6), .int .i64 (r 7), .int .i64 (r 8)], .agg #[.int .i64 (X 0), .int .i64 (X 1), .int .i64 (X 2), .int .i64 (X 3), .int .i64 (X 4), .slice AE e0 kc, .slice WA N0 cw], .slice P m pc, .int .i64 q, .int .i64 now]) ∧ (n ≤ 3 ∧ n ≤ c ∧ m ≤ 5 ∧ m ≤ pc ∧ pc ≤ 9223372036854775807) ∧ ROk n es r ∧ Own w.heap.size w' 1 A n es ∧ Own w.heap.size w' 10 P m ps ∧ (∀ i, i < m → PInts n r (fld ps i) now ∧ (fld ps i 7 = 1 ∨ fld ps i 7 = 2)) ∧ Below w.heap.size w w'

set_option maxRecDepth 100000 in
set_option maxHeartbeats 16000000 in
theorem drawAgrees_any (A : Option Addr) (n c : Nat) (w : World) (hn : n ≤ 1048576) (h : RdB w A n) :
    Calls Tryz.prog 8 #[.slice A n c] w (DAg w) := by
  have HN := Lib.hid h
  clear h
  obtain ⟨i0, hi0, hz0, hz1, hz2⟩ := info_parts party_info
  obtain ⟨cb, hcb⟩ : ∃ cb : Nat, cb = w.heap.size + 1 + 1 := ⟨_, rfl⟩
  have HCB := Lib.hid hcb
  have hc0 : w.heap.size + 1 < cb := by omega
  clear hcb
  go_enter Tryz.func8, Tryz.ntmps8
  go_wp2_with fail
  refine (l1New_c cb A n c _ (by have := HCB.out; simp; omega) hn (HN.out.below (by (repeat (first | with_reducible exact Below.refl _ _ | with_reducible refine Below.drew ?_ | with_reducible refine below_drewN ?_ _ | (with_reducible refine bel_alloc ?_ ?_ _; (first | omega | (simp; omega) | simp)) | (with_reducible refine bel_set ?_ ?_ _; (first | omega | (simp; omega) | simp)) | (with_reducible refine bel_tr (by assumption) ?_ ?_; (first | omega | (simp; omega) | simp))))))).mono ?_
  rintro y w1 ⟨rfl, hc1, b1⟩
  have Z0 := Lib.hid ((Bx.rules w 37 none 0 0 (fun _ => 0)).alloc (.cells #[.int .i64 0, .int .i64 0, .int .i64 0, .int .i64 0, .int .i64 0, .slice none 0 0, .slice none 0 0] 32))
  have Z1 := Lib.hid (Bx.zcab (w.alloc (.cells #[.slice none 0 0, .int .i64 0, .int .i64 0, .int .i64 0, .int .i64 0, .int .i64 0, .int .i64 0, .int .i64 0, .int .i64 0] 37)) 32)
  (try simp at Z1)
  have HB0 : Hid (Below w.heap.size w w1) := Lib.hid (bel_tr b1 (by (first | omega | (simp; omega) | simp)) (by (repeat (first | with_reducible exact Below.refl _ _ | with_reducible refine Below.drew ?_ | with_reducible refine below_drewN ?_ _ | (with_reducible refine bel_alloc ?_ ?_ _; (first | omega | (simp; omega) | simp)) | (with_reducible refine bel_set ?_ ?_ _; (first | omega | (simp; omega) | simp)) | (with_reducible refine bel_tr (by assumption) ?_ ?_; (first | omega | (simp; omega) | simp))))))
  have ls1 := b1.size
  (try simp at ls1)
  have Xa1 := Lib.hid (Bx.below (Z0.out) b1)
  have Xb1 := Lib.hid (Bx.below (Z1.out) b1)
  clear b1
  have C1 := Lib.hid hc1
  have lc1 := hc1.lt
  clear hc1
  go_wp2_with fail
  refine (l5Right_any cb _ C1.out).mono ?_
  rintro y w2 ⟨A1, n1, c1, r, es, rfl, hn1, hnc, hR, ho, d2⟩
  have HR := Lib.hid hR
  have HO := Lib.hid ho
  clear hR ho
  have ls2 := d2.2.size
  (try simp at ls2)
  have Xa2 := Lib.hid (Bx.drew (Xa1.out) d2 (by omega))
  have Xb2 := Lib.hid (Bx.drew (Xb1.out) d2 (by omega))
  have HB2 := Lib.hid (bel_tr (d2.toBelow (B := w.heap.size) (by (first | omega | (simp; omega) | simp)) (by omega)) (Nat.le_refl _) (HB0.out))
  have C2 := Lib.hid d2.1
  have lc2 := d2.1.lt
  clear d2
  have HA := Lib.hid (Own.lt HO.out)
  go_wp2_with fail
  refine (l1Below_any cb 20 _ ((C2.out).alc _)).mono ?_
  rintro y w3 ⟨x, rfl, ⟨x0, x1, _⟩, d3⟩
  have x2 := x1 (by omega)
  clear x1
  have ls3 := d3.2.size
  (try simp at ls3)
  have Xa3 := Lib.hid (Bx.drew (((Xa2.out).alloc _)) d3 (by omega))
  have Xb3 := Lib.hid (Bx.drew (((Xb2.out).alloc _)) d3 (by omega))
  have Xr3 := Lib.hid (Bx.drew ((Bx.rules w2 37 A1 n1 c1 r)) d3 (by omega))
  have Yo3 := Lib.hid (Own.drew_c (((HO.out).alloc_ _)) d3 (by omega))
  have HB3 := Lib.hid (bel_tr (d3.toBelow (B := w.heap.size) (by (first | omega | (simp; omega) | simp)) (by omega)) (Nat.le_refl _) ((bel_alloc (by (first | omega | (simp; omega) | simp)) (HB2.out) _)))
  have C3 := Lib.hid d3.1
  have lc3 := d3.1.lt
  clear d3
  have R3 : Hid ((w3.alloc (.cells #[] 71)).ownsRow w3.heap.size 71 10 (.slice (some ⟨w3.heap.size, 0, none⟩) 0 0) 0 (flat 10 [])) := Lib.hid (row_empty1 _ _ 10 rfl)
  go_wp2_with fail
  refine (l1Below_any cb 6 _ ((C3.out).alc _)).mono ?_
  rintro y w5 ⟨z, rfl, ⟨z0, z1, _⟩, d5⟩
  have z2 := z1 (by omega)
  clear z1
  have R5 := Lib.hid (row_drew R3.out d5 (by omega))
  have ls4 := d5.2.size
  (try simp at ls4)
  have Xa4 := Lib.hid (Bx.drew (((Xa3.out).alloc _)) d5 (by omega))
  have Xb4 := Lib.hid (Bx.drew (((Xb3.out).alloc _)) d5 (by omega))
  have Xr4 := Lib.hid (Bx.drew (((Xr3.out).alloc _)) d5 (by omega))
  have Yo4 := Lib.hid (Own.drew_c (((Yo3.out).alloc_ _)) d5 (by omega))
  have HB4 := Lib.hid (bel_tr (d5.toBelow (B := w.heap.size) (by (first | omega | (simp; omega) | simp)) (by omega)) (Nat.le_refl _) ((bel_alloc (by (first | omega | (simp; omega) | simp)) (HB3.out) _)))
  have C4 := Lib.hid d5.1
  have lc4 := d5.1.lt
  clear d5
  go_wp2
  go_loopw [10, 12] (fun v i wr => ∃ (k : Nat) (ps : List (Nat → Int)), (k : Int) ≤ z ∧ i = .int .i64 k ∧ ps.length = k ∧ Hid (wr.ownsRow w3.heap.size 71 10 v k (flat 10 ps)) ∧ Hid (Cur wr cb) ∧ Hid (Below w.heap.size w wr) ∧ Hid (Bx wr (w2.heap.size) 9 (rv A1 n1 c1 r)) ∧ Hid (Bx wr (w.heap.size) 9 (rv none 0 0 (fun _ => 0))) ∧ Hid (Bx wr (w.heap.size + 1) 7 (zcab)) ∧ Hid (Own w1.heap.size wr 1 A1 n1 es) ∧ Hid (∀ p ∈ ps, AgP n1 r (1 + x) p) ∧ w3.heap.size < wr.heap.size) (fun _ i _ => 6 - (intOf i).toNat)
  case atStart => exact ⟨0, [], by omega, rfl, rfl, R5, Lib.hid (C4.out), Lib.hid (HB4.out), Lib.hid (Xr4.out), Lib.hid (Xa4.out), Lib.hid (Xb4.out), Lib.hid (Yo4.out), Lib.hid (fun p hp => by cases hp), by omega⟩
  case round =>
    obtain ⟨k, ps, hk, rfl, hl, HW, HC, HB, X1, X2, X3, HO2, HP, hs⟩ := hrel
    by_cases hlt : (k : Int) < z
    · have hk5 : (k : Int) ≤ 4 := by omega
      have lcr := HC.out.lt
      have rc0 : _ = some (Value.slice A1 n1 c1) := (X1.out).2.2 0 (by omega)
      have rc1 : _ = some (Value.int .i64 (r 1)) := (X1.out).2.2 1 (by omega)
      have rc2 : _ = some (Value.int .i64 (r 2)) := (X1.out).2.2 2 (by omega)
      have rc3 : _ = some (Value.int .i64 (r 3)) := (X1.out).2.2 3 (by omega)
      have rc4 : _ = some (Value.int .i64 (r 4)) := (X1.out).2.2 4 (by omega)
      have rc5 : _ = some (Value.int .i64 (r 5)) := (X1.out).2.2 5 (by omega)
      have rc6 : _ = some (Value.int .i64 (r 6)) := (X1.out).2.2 6 (by omega)
      have rc7 : _ = some (Value.int .i64 (r 7)) := (X1.out).2.2 7 (by omega)
      have rc8 : _ = some (Value.int .i64 (r 8)) := (X1.out).2.2 8 (by omega)
      go_wp2_with fail
      refine (l6Right_any cb A1 n1 c1 es r (1 + x) _ HC.out HR.out).mono ?_
      rintro y w6 ⟨p, rfl, hp, d6⟩
      have HPD := Lib.hid hp
      clear hp rc0 rc1 rc2 rc3 rc4 rc5 rc6 rc7 rc8
      have W6 := Lib.hid (row_drew HW.out d6 (by omega))
      have HRN : Hid (u10.ownBlock ≠ some w6.heap.size) := Lib.hid (fun e => absurd (row_lt W6.out _ e) (Nat.lt_irrefl _))
      have ls101 := d6.2.size
      (try simp at ls101)
      have Xr101 := Lib.hid (Bx.drew (X1.out) d6 (by omega))
      have Xa101 := Lib.hid (Bx.drew (X2.out) d6 (by omega))
      have Xb101 := Lib.hid (Bx.drew (X3.out) d6 (by omega))
      have Yo101 := Lib.hid (Own.drew_c (HO2.out) d6 (by omega))
      have HB101 := Lib.hid (bel_tr (d6.toBelow (B := w.heap.size) (by (first | omega | (simp; omega) | simp)) (by omega)) (Nat.le_refl _) (HB.out))
      have C101 := Lib.hid d6.1
      have lc101 := d6.1.lt
      clear d6
      have XP0 : Hid (Bx (w6.alloc (.cells #[.int .i64 ((k : Int) + 1), .int .i64 (p 1), .int .i64 (p 2), .int .i64 (p 3), .int .i64 (p 4), .int .i64 (p 5), .int .i64 (p 6), .int .i64 (p 7), .int .i64 (p 8), .int .i64 (p 9)] 71)) w6.heap.size 10 (ints (upd p 0 ((k : Int) + 1)))) := Lib.hid (Bx.party w6 71 (upd p 0 ((k : Int) + 1)))
      have hw6 : w3.heap.size < w6.heap.size := by omega
      go_wp2_with fail
      refine (l1Below_any cb 3 _ (((C101.out).alc _))).mono ?_
      rintro y w7 ⟨y, rfl, ⟨y0, y1, _⟩, d7⟩
      have y2 := y1 (by omega)
      clear y1
      have W7 := Lib.hid (row_drew (World.ownsRow.alloc W6.out _) d7 (by omega))
      have ls102 := d7.2.size
      (try simp at ls102)
      have Xr102 := Lib.hid (Bx.drew (((Xr101.out).alloc _)) d7 (by omega))
      have Xa102 := Lib.hid (Bx.drew (((Xa101.out).alloc _)) d7 (by omega))
      have Xb102 := Lib.hid (Bx.drew (((Xb101.out).alloc _)) d7 (by omega))
      have Xp102 := Lib.hid (Bx.drew (XP0.out) d7 (by omega))
      have Yo102 := Lib.hid (Own.drew_c (((Yo101.out).alloc_ _)) d7 (by omega))
      have HB102 := Lib.hid (bel_tr (d7.toBelow (B := w.heap.size) (by (first | omega | (simp; omega) | simp)) (by omega)) (Nat.le_refl _) ((bel_alloc (by (first | omega | (simp; omega) | simp)) (HB101.out) _)))
      have C102 := Lib.hid d7.1
      have lc102 := d7.1.lt
      clear d7
      obtain ⟨p1, hp1⟩ : ∃ p1, upd p 0 ((k : Int) + 1) = p1 := ⟨_, rfl⟩
      have XP1 : Hid (Bx w7 w6.heap.size 10 (ints p1)) := Lib.hid (hp1 ▸ Xp102.out)
      have HP1 : Hid (PDr n1 r (1 + x) (upd p1 0 (p 0))) := Lib.hid (by rw [← hp1, upd_upd0]; exact HPD.out)
      have hp10 : p1 0 = (k : Int) + 1 := by rw [← hp1]; rfl
      clear hp1
      have pc0 : _ = some (Value.int .i64 (p1 0)) := (XP1.out).2.2 0 (by omega)
      have pf0 := (XP1.out).2.1 0
      have pc1 : _ = some (Value.int .i64 (p1 1)) := (XP1.out).2.2 1 (by omega)
      have pf1 := (XP1.out).2.1 1
      have pc2 : _ = some (Value.int .i64 (p1 2)) := (XP1.out).2.2 2 (by omega)
      have pf2 := (XP1.out).2.1 2
      have pc3 : _ = some (Value.int .i64 (p1 3)) := (XP1.out).2.2 3 (by omega)
      have pf3 := (XP1.out).2.1 3
      have pc4 : _ = some (Value.int .i64 (p1 4)) := (XP1.out).2.2 4 (by omega)
      have pf4 := (XP1.out).2.1 4
      have pc5 : _ = some (Value.int .i64 (p1 5)) := (XP1.out).2.2 5 (by omega)
      have pf5 := (XP1.out).2.1 5
      have pc6 : _ = some (Value.int .i64 (p1 6)) := (XP1.out).2.2 6 (by omega)
      have pf6 := (XP1.out).2.1 6
      have pc7 : _ = some (Value.int .i64 (p1 7)) := (XP1.out).2.2 7 (by omega)
      have pf7 := (XP1.out).2.1 7
      have pc8 : _ = some (Value.int .i64 (p1 8)) := (XP1.out).2.2 8 (by omega)
      have pf8 := (XP1.out).2.1 8
      have pc9 : _ = some (Value.int .i64 (p1 9)) := (XP1.out).2.2 9 (by omega)
      have pf9 := (XP1.out).2.1 9
      go_upto_if 49 with fail
      go_cut [] (fun wx => ∃ p2, Hid (Bx wx w6.heap.size 10 (ints p2)) ∧ Hid (AgP n1 r (1 + x) p2) ∧ Hid (wx.ownsRow w3.heap.size 71 10 u10 k (flat 10 ps)) ∧ Hid (Cur wx cb) ∧ Hid (Below w.heap.size w wx) ∧ Hid (Bx wx (w2.heap.size) 9 (rv A1 n1 c1 r)) ∧ Hid (Bx wx (w.heap.size) 9 (rv none 0 0 (fun _ => 0))) ∧ Hid (Bx wx (w.heap.size + 1) 7 (zcab)) ∧ Hid (Own w1.heap.size wx 1 A1 n1 es) ∧ w6.heap.size < wx.heap.size)
      case first =>
        rcases Bool.eq_false_or_eq_true (p1 2 == p1 1) with hfc | hfc
        · go_wp2
          go_meet
          exact ⟨_, Lib.hid ((Bx.upd ((Bx.upd (XP1.out) (3 * (k : Int) + 1 + y) (show 6 < 10 by omega))) (-1) (show 2 < 10 by omega))), Lib.hid (AgP.ofy HP1.out hp10 hk5 (by omega) (by omega)), Lib.hid ((row_setn (row_setn W7.out HRN.out _) HRN.out _)), Lib.hid (((((C102.out).set (by (first | omega | (simp; omega) | simp)))).set (by (first | omega | (simp; omega) | simp)))), Lib.hid ((bel_set (by (first | omega | (simp; omega) | simp)) ((bel_set (by (first | omega | (simp; omega) | simp)) (HB102.out) _)) _)), Lib.hid (((((Xr102.out).set_ne _ (by omega))).set_ne _ (by omega))), Lib.hid (((((Xa102.out).set_ne _ (by omega))).set_ne _ (by omega))), Lib.hid (((((Xb102.out).set_ne _ (by omega))).set_ne _ (by omega))), Lib.hid ((Own.set_nb ((Own.set_nb (Yo102.out) (fun a h0 ha => by have hz := HA.out a h0 ha; omega) _)) (fun a h0 ha => by have hz := HA.out a h0 ha; omega) _)), by simp [World.setCell]; omega⟩
        · go_wp2
          go_meet
          exact ⟨_, Lib.hid ((Bx.upd (XP1.out) (3 * (k : Int) + 1 + y) (show 6 < 10 by omega))), Lib.hid (AgP.ofn HP1.out hp10 hk5 (by omega) (by omega) (by simpa using hfc)), Lib.hid ((row_setn W7.out HRN.out _)), Lib.hid (((C102.out).set (by (first | omega | (simp; omega) | simp)))), Lib.hid ((bel_set (by (first | omega | (simp; omega) | simp)) (HB102.out) _)), Lib.hid (((Xr102.out).set_ne _ (by omega))), Lib.hid (((Xa102.out).set_ne _ (by omega))), Lib.hid (((Xb102.out).set_ne _ (by omega))), Lib.hid ((Own.set_nb (Yo102.out) (fun a h0 ha => by have hz := HA.out a h0 ha; omega) _)), by simp [World.setCell]; omega⟩
      case rest =>
        obtain ⟨q, Y0, HAP, HW8, HC8, HB8, Y1, Y2, Y3, HO8, hs8⟩ := hcut
        have pc0 : _ = some (Value.int .i64 (q 0)) := (Y0.out).2.2 0 (by omega)
        have pc1 : _ = some (Value.int .i64 (q 1)) := (Y0.out).2.2 1 (by omega)
        have pc2 : _ = some (Value.int .i64 (q 2)) := (Y0.out).2.2 2 (by omega)
        have pc3 : _ = some (Value.int .i64 (q 3)) := (Y0.out).2.2 3 (by omega)
        have pc4 : _ = some (Value.int .i64 (q 4)) := (Y0.out).2.2 4 (by omega)
        have pc5 : _ = some (Value.int .i64 (q 5)) := (Y0.out).2.2 5 (by omega)
        have pc6 : _ = some (Value.int .i64 (q 6)) := (Y0.out).2.2 6 (by omega)
        have pc7 : _ = some (Value.int .i64 (q 7)) := (Y0.out).2.2 7 (by omega)
        have pc8 : _ = some (Value.int .i64 (q 8)) := (Y0.out).2.2 8 (by omega)
        have pc9 : _ = some (Value.int .i64 (q 9)) := (Y0.out).2.2 9 (by omega)
        go_wp2_with (at_builtin; go_must (refine wpList_append_rd _ rfl _ _ 38 rfl w3.heap.size 71 i0 _ 10 80 Tryz.underlying38 hi0 hz0 hz1 hz2 rfl (by omega) _ k ps rfl (World.ownsRow.alloc HW8.out _) (some ⟨wc.heap.size, 0, none⟩) 1 1 [q] rfl (rd_one10 wc _ q) (by unfold maxLen; omega) (by omega) (by simp; omega) ?_); intro v9 w9 hown9 hg9 hat9)
        have s9 := hg9.size
        (try simp at s9)
        have b9 : Below w3.heap.size wc w9 := bel_grown0 hg9 (row_ge HW8.out (Nat.le_refl _)) (by (first | omega | (simp; omega) | simp)) (by (first | omega | (simp; omega) | simp))
        have W9 := Lib.hid hown9
        have lc8 := HC8.out.lt
        clear hown9 hg9 hat9
        have C9 : Hid (Cur w9 cb) := Lib.hid (HC8.out.keep (b9.mono (by omega)))
        have B9 : Hid (Below w.heap.size w w9) := Lib.hid (bel_tr b9 (by omega) HB8.out)
        have V1 := Lib.hid (Y1.out.keep b9 (by omega))
        have V2 := Lib.hid (Y2.out.keep b9 (by omega))
        have V3 := Lib.hid (Y3.out.keep b9 (by omega))
        have O9 := Lib.hid (Own.keep HO8.out b9 (fun a h0 ha => by have hz := HA.out a h0 ha; omega))
        go_wp2
        go_roundw
        case rel => exact ⟨k + 1, ps ++ [q], by omega, by go_num, by simp [hl], W9, C9, B9, V1, V2, V3, O9, Lib.hid (fun p hp => by rcases List.mem_append.1 hp with h | h; exact HP.out p h; obtain rfl := List.mem_singleton.1 h; exact HAP.out), by omega⟩
        case measure => simp [intOf]; omega
    · have hkz : z = (k : Int) := by omega
      have hkm : k ≤ 5 := by omega
      obtain ⟨P, pc, rfl, hp1, hp2, op⟩ := own_of_row_cap hl HW.out
      have HL := Lib.hid op
      clear op
      have lcr := HC.out.lt
      have hn10 : 1 ≤ n1 := by have := HR.out.1; omega
      have rc0 : _ = some (Value.slice A1 n1 c1) := (X1.out).2.2 0 (by omega)
      have rc1 : _ = some (Value.int .i64 (r 1)) := (X1.out).2.2 1 (by omega)
      have rc2 : _ = some (Value.int .i64 (r 2)) := (X1.out).2.2 2 (by omega)
      have rc3 : _ = some (Value.int .i64 (r 3)) := (X1.out).2.2 3 (by omega)
      have rc4 : _ = some (Value.int .i64 (r 4)) := (X1.out).2.2 4 (by omega)
      have rc5 : _ = some (Value.int .i64 (r 5)) := (X1.out).2.2 5 (by omega)
      have rc6 : _ = some (Value.int .i64 (r 6)) := (X1.out).2.2 6 (by omega)
      have rc7 : _ = some (Value.int .i64 (r 7)) := (X1.out).2.2 7 (by omega)
      have rc8 : _ = some (Value.int .i64 (r 8)) := (X1.out).2.2 8 (by omega)
      go_wp2_with fail
      refine (l1Below_any cb (n1 : Int) _ HC.out).mono ?_
      rintro y w10 ⟨cx, rfl, ⟨cx0, cx1, _⟩, d10⟩
      have cx2 := cx1 (by omega)
      clear cx1 rc0 rc1 rc2 rc3 rc4 rc5 rc6 rc7 rc8
      obtain ⟨q, rfl⟩ := Int.eq_ofNat_of_zero_le cx0
      have hqn : q < n1 := by omega
      have ls201 := d10.2.size
      (try simp at ls201)
      have Xr201 := Lib.hid (Bx.drew (X1.out) d10 (by omega))
      have Xa201 := Lib.hid (Bx.drew (X2.out) d10 (by omega))
      have Xb201 := Lib.hid (Bx.drew (X3.out) d10 (by omega))
      have Yo201 := Lib.hid (Own.drew_c (HO2.out) d10 (by omega))
      have Yl201 := Lib.hid (Own.drew_c (HL.out) d10 (by omega))
      have HB201 := Lib.hid (bel_tr (d10.toBelow (B := w.heap.size) (by (first | omega | (simp; omega) | simp)) (by omega)) (Nat.le_refl _) (HB.out))
      have C201 := Lib.hid d10.1
      have lc201 := d10.1.lt
      clear d10
      obtain ⟨ok, hok⟩ := okF_ex n1 es r (1 + x) ps (q : Int)
      have HK := Lib.hid hok
      clear hok
      have rc0 : _ = some (Value.slice A1 n1 c1) := (Xr201.out).2.2 0 (by omega)
      have rc1 : _ = some (Value.int .i64 (r 1)) := (Xr201.out).2.2 1 (by omega)
      have rc2 : _ = some (Value.int .i64 (r 2)) := (Xr201.out).2.2 2 (by omega)
      have rc3 : _ = some (Value.int .i64 (r 3)) := (Xr201.out).2.2 3 (by omega)
      have rc4 : _ = some (Value.int .i64 (r 4)) := (Xr201.out).2.2 4 (by omega)
      have rc5 : _ = some (Value.int .i64 (r 5)) := (Xr201.out).2.2 5 (by omega)
      have rc6 : _ = some (Value.int .i64 (r 6)) := (Xr201.out).2.2 6 (by omega)
      have rc7 : _ = some (Value.int .i64 (r 7)) := (Xr201.out).2.2 7 (by omega)
      have rc8 : _ = some (Value.int .i64 (r 8)) := (Xr201.out).2.2 8 (by omega)
      have hz20 : ¬ w2.heap.size = w10.heap.size := by omega
      have hz21 : w2.heap.size < w10.heap.size := by omega
      go_upto_region 16 with fail
      go_cut [15] (fun s15 wx => ∃ (bx : Nat) (X : Nat → Int) (AE : Option Addr) (e0 kc : Nat) (WA : Option Addr) (N0 cw : Nat), s15 = .pointer (some ⟨bx, 0, none⟩) ∧ Hid (Bx wx bx 7 (cabF X AE e0 kc WA N0 cw)) ∧ w10.heap.size ≤ bx ∧ Hid (Cur wx cb) ∧ Hid (Below w.heap.size w wx) ∧ Hid (Bx wx (w2.heap.size) 9 (rv A1 n1 c1 r)) ∧ Hid (Bx wx (w.heap.size) 9 (rv none 0 0 (fun _ => 0))) ∧ Hid (Bx wx (w.heap.size + 1) 7 (zcab)) ∧ Hid (Own w1.heap.size wx 1 A1 n1 es) ∧ Hid (Own w3.heap.size wx 10 P k ps))
      case first =>
        have HA0 := Lib.hid (Own.lt (Yl201.out))
        go_region_with (first
          | (go_at_call_of 28 (Value.int .i64 4); refine (l1Below_any cb 4 _ (by first | exact Cur.drw (C201.out) | exact (Cur.drw (C201.out)).alc _)).mono ?_; rintro y w11 ⟨fx, rfl, ⟨fx0, fx1, _⟩, d11'⟩; have fx2 := fx1 (by omega); clear fx1; have d11 : Drew w10 cb w11 := Drew.trans (Cur.drew_below (C201.out) (by (repeat (first | with_reducible exact Below.refl _ _ | with_reducible refine Below.drew ?_ | with_reducible refine below_drewN ?_ _ | (with_reducible refine bel_alloc ?_ ?_ _; (first | omega | (simp; omega) | simp)) | (with_reducible refine bel_set ?_ ?_ _; (first | omega | (simp; omega) | simp)) | (with_reducible refine bel_tr (by assumption) ?_ ?_; (first | omega | (simp; omega) | simp)))))) d11'; have ls11 := d11.2.size; (first | (have hbC : w10.heap.size < (w10.drew.alloc (.cells #[.int .i64 0, .int .i64 0, .int .i64 0, .int .i64 0, .int .i64 0, .slice none 0 0, .slice none 0 0] 32)).heap.size := (by simp); have hnC : w10.heap.size ≠ cb := (by omega); have zc10 : ∀ o, w11.cell? ⟨w10.heap.size, o, none⟩ = _ := (fun o => d11'.cell hbC hnC o); have zf10 : ∀ o, w11.frozen? ⟨w10.heap.size, o, none⟩ = _ := (fun o => d11'.frozen hbC hnC o); have hC11 : w10.heap.size < w11.heap.size := Nat.lt_of_lt_of_le hbC d11'.2.size; clear hbC hnC) | skip); have KR := Lib.hid (Bx.drew (Xr201.out) d11 (by omega)); have KA := Lib.hid (Bx.drew (Xa201.out) d11 (by omega)); have KB := Lib.hid (Bx.drew (Xb201.out) d11 (by omega)); have KO := Lib.hid (Own.drew_c (Yo201.out) d11 (by omega)); have KL := Lib.hid (Own.drew_c (Yl201.out) d11 (by omega)); have KW := Lib.hid (bel_tr (d11.toBelow (B := w.heap.size) (by omega) (by omega)) (Nat.le_refl _) (HB201.out)); have KC := Lib.hid d11.1; have hz22 : ¬ w2.heap.size = w11.heap.size := (by omega); have hz23 : w2.heap.size < w11.heap.size := (by omega); clear d11; have rk0 : _ = some (Value.slice A1 n1 c1) := KR.out.2.2 0 (by omega); have rk1 : _ = some (Value.int .i64 (r 1)) := KR.out.2.2 1 (by omega); have rk2 : _ = some (Value.int .i64 (r 2)) := KR.out.2.2 2 (by omega); have rk3 : _ = some (Value.int .i64 (r 3)) := KR.out.2.2 3 (by omega); have rk4 : _ = some (Value.int .i64 (r 4)) := KR.out.2.2 4 (by omega); have rk5 : _ = some (Value.int .i64 (r 5)) := KR.out.2.2 5 (by omega); have rk6 : _ = some (Value.int .i64 (r 6)) := KR.out.2.2 6 (by omega); have rk7 : _ = some (Value.int .i64 (r 7)) := KR.out.2.2 7 (by omega); have rk8 : _ = some (Value.int .i64 (r 8)) := KR.out.2.2 8 (by omega))
          | (go_at_call 30; refine (l10Made_any A1 n1 c1 es r P k pc ps q (1 + x) fx ok _ (by omega) hkm hqn HR.out.2.2 fx0 (by omega) (KO.out.rd.below (by (repeat (first | with_reducible exact Below.refl _ _ | with_reducible refine Below.drew ?_ | with_reducible refine below_drewN ?_ _ | (with_reducible refine bel_alloc ?_ ?_ _; (first | omega | (simp; omega) | simp)) | (with_reducible refine bel_set ?_ ?_ _; (first | omega | (simp; omega) | simp)) | (with_reducible refine bel_tr (by assumption) ?_ ?_; (first | omega | (simp; omega) | simp)))))) (KL.out.rd.below (by (repeat (first | with_reducible exact Below.refl _ _ | with_reducible refine Below.drew ?_ | with_reducible refine below_drewN ?_ _ | (with_reducible refine bel_alloc ?_ ?_ _; (first | omega | (simp; omega) | simp)) | (with_reducible refine bel_set ?_ ?_ _; (first | omega | (simp; omega) | simp)) | (with_reducible refine bel_tr (by assumption) ?_ ?_; (first | omega | (simp; omega) | simp)))))) HK.out).mono ?_; rintro y w12 ⟨⟨X, AE, e0, kc, WA, N0, cw, rfl⟩, b12'⟩; have b12 : Below w11.heap.size w11 w12 := (by exact bel_tr b12' (by (first | omega | (simp; omega) | simp)) (by (repeat (first | with_reducible exact Below.refl _ _ | with_reducible refine Below.drew ?_ | with_reducible refine below_drewN ?_ _ | (with_reducible refine bel_alloc ?_ ?_ _; (first | omega | (simp; omega) | simp)) | (with_reducible refine bel_set ?_ ?_ _; (first | omega | (simp; omega) | simp)) | (with_reducible refine bel_tr (by assumption) ?_ ?_; (first | omega | (simp; omega) | simp)))))); have ls12 := b12.size; (first | (have zc12 : ∀ o, w12.cell? ⟨w10.heap.size, o, none⟩ = _ := (fun o => b12'.cell (p := ⟨w10.heap.size, o, none⟩) hC11); have zf12 : ∀ o, w12.frozen? ⟨w10.heap.size, o, none⟩ = _ := (fun o => b12'.frozen (p := ⟨w10.heap.size, o, none⟩) hC11)) | (have hbB : w11.heap.size < (w11.alloc (.cells #[.int .i64 0, .int .i64 0, .int .i64 0, .int .i64 0, .int .i64 0, .slice none 0 0, .slice none 0 0] 32)).heap.size := (by simp); have yc12 : ∀ o, w12.cell? ⟨w11.heap.size, o, none⟩ = _ := (fun o => b12'.cell (p := ⟨w11.heap.size, o, none⟩) hbB); have yf12 : ∀ o, w12.frozen? ⟨w11.heap.size, o, none⟩ = _ := (fun o => b12'.frozen (p := ⟨w11.heap.size, o, none⟩) hbB)) | skip)))
        all_goals
          go_wp2_with fail
          go_meet
          first
          | with_reducible exact ⟨w12.heap.size, X, AE, e0, kc, WA, N0, cw, rfl, Lib.hid (Bx.cab w12 32 X AE e0 kc WA N0 cw), by omega, Lib.hid ((KC.out.below b12).alc _), Lib.hid (bel_alloc (by (first | omega | (simp; omega) | simp)) (bel_tr b12 (by omega) KW.out) _), Lib.hid ((KR.out.below b12).alloc _), Lib.hid ((KA.out.below b12).alloc _), Lib.hid ((KB.out.below b12).alloc _), Lib.hid ((KO.out.below b12).alloc_ _), Lib.hid ((KL.out.below b12).alloc_ _)⟩
          | with_reducible exact ⟨w11.heap.size, X, AE, e0, kc, WA, N0, cw, rfl, Lib.hid (Bx.fill ((Bx.zcab w11 32).below b12') X AE e0 kc WA N0 cw), by omega, Lib.hid (Cur.put7 (KC.out.below b12) (by omega) (.int .i64 (X 0)) (.int .i64 (X 1)) (.int .i64 (X 2)) (.int .i64 (X 3)) (.int .i64 (X 4)) (.slice AE e0 kc) (.slice WA N0 cw)), Lib.hid (bel_put7 (by omega) (bel_tr b12 (by omega) KW.out) (.int .i64 (X 0)) (.int .i64 (X 1)) (.int .i64 (X 2)) (.int .i64 (X 3)) (.int .i64 (X 4)) (.slice AE e0 kc) (.slice WA N0 cw)), Lib.hid (Bx.put7_ne (KR.out.below b12) (by omega) (.int .i64 (X 0)) (.int .i64 (X 1)) (.int .i64 (X 2)) (.int .i64 (X 3)) (.int .i64 (X 4)) (.slice AE e0 kc) (.slice WA N0 cw)), Lib.hid (Bx.put7_ne (KA.out.below b12) (by omega) (.int .i64 (X 0)) (.int .i64 (X 1)) (.int .i64 (X 2)) (.int .i64 (X 3)) (.int .i64 (X 4)) (.slice AE e0 kc) (.slice WA N0 cw)), Lib.hid (Bx.put7_ne (KB.out.below b12) (by omega) (.int .i64 (X 0)) (.int .i64 (X 1)) (.int .i64 (X 2)) (.int .i64 (X 3)) (.int .i64 (X 4)) (.slice AE e0 kc) (.slice WA N0 cw)), Lib.hid (Own.put7 (KO.out.below b12) (fun a h0 ha => by have hz := HA.out a h0 ha; omega) (.int .i64 (X 0)) (.int .i64 (X 1)) (.int .i64 (X 2)) (.int .i64 (X 3)) (.int .i64 (X 4)) (.slice AE e0 kc) (.slice WA N0 cw)), Lib.hid (Own.put7 (KL.out.below b12) (fun a h0 ha => by have hz := HA0.out a h0 ha; omega) (.int .i64 (X 0)) (.int .i64 (X 1)) (.int .i64 (X 2)) (.int .i64 (X 3)) (.int .i64 (X 4)) (.slice AE e0 kc) (.slice WA N0 cw))⟩
          | with_reducible exact ⟨w10.heap.size, X, AE, e0, kc, WA, N0, cw, rfl, Lib.hid (Bx.fill ((((Bx.zcab w10 32).below (Below.drew (Below.refl _ _))).drew d11' (by omega)).below b12') X AE e0 kc WA N0 cw), by omega, Lib.hid (Cur.put7 (KC.out.below b12) (by omega) (.int .i64 (X 0)) (.int .i64 (X 1)) (.int .i64 (X 2)) (.int .i64 (X 3)) (.int .i64 (X 4)) (.slice AE e0 kc) (.slice WA N0 cw)), Lib.hid (bel_put7 (by omega) (bel_tr b12 (by omega) KW.out) (.int .i64 (X 0)) (.int .i64 (X 1)) (.int .i64 (X 2)) (.int .i64 (X 3)) (.int .i64 (X 4)) (.slice AE e0 kc) (.slice WA N0 cw)), Lib.hid (Bx.put7_ne (KR.out.below b12) (by omega) (.int .i64 (X 0)) (.int .i64 (X 1)) (.int .i64 (X 2)) (.int .i64 (X 3)) (.int .i64 (X 4)) (.slice AE e0 kc) (.slice WA N0 cw)), Lib.hid (Bx.put7_ne (KA.out.below b12) (by omega) (.int .i64 (X 0)) (.int .i64 (X 1)) (.int .i64 (X 2)) (.int .i64 (X 3)) (.int .i64 (X 4)) (.slice AE e0 kc) (.slice WA N0 cw)), Lib.hid (Bx.put7_ne (KB.out.below b12) (by omega) (.int .i64 (X 0)) (.int .i64 (X 1)) (.int .i64 (X 2)) (.int .i64 (X 3)) (.int .i64 (X 4)) (.slice AE e0 kc) (.slice WA N0 cw)), Lib.hid (Own.put7 (KO.out.below b12) (fun a h0 ha => by have hz := HA.out a h0 ha; omega) (.int .i64 (X 0)) (.int .i64 (X 1)) (.int .i64 (X 2)) (.int .i64 (X 3)) (.int .i64 (X 4)) (.slice AE e0 kc) (.slice WA N0 cw)), Lib.hid (Own.put7 (KL.out.below b12) (fun a h0 ha => by have hz := HA0.out a h0 ha; omega) (.int .i64 (X 0)) (.int .i64 (X 1)) (.int .i64 (X 2)) (.int .i64 (X 3)) (.int .i64 (X 4)) (.slice AE e0 kc) (.slice WA N0 cw))⟩
      case rest =>
        obtain ⟨bx, X, AE, e0, kc, WA, N0, cw, rfl, XC, hbx, HC2, HB2, X1, X2, X3, HO3, HL3⟩ := hcut
        have lc20 := HC2.out.lt
        have lbx := XC.out.1
        go_wp2_with fail
        refine (l1Below_any cb 8 _ HC2.out).mono ?_
        rintro y w13 ⟨sx, rfl, ⟨sx0, sx1, _⟩, d13⟩
        have sx2 := sx1 (by omega)
        clear sx1
        have ls301 := d13.2.size
        (try simp at ls301)
        have Xr301 := Lib.hid (Bx.drew (X1.out) d13 (by omega))
        have Xa301 := Lib.hid (Bx.drew (X2.out) d13 (by omega))
        have Xb301 := Lib.hid (Bx.drew (X3.out) d13 (by omega))
        have Xc301 := Lib.hid (Bx.drew (XC.out) d13 (by omega))
        have Yo301 := Lib.hid (Own.drew_c (HO3.out) d13 (by omega))
        have Yl301 := Lib.hid (Own.drew_c (HL3.out) d13 (by omega))
        have HB301 := Lib.hid (bel_tr (d13.toBelow (B := w.heap.size) (by (first | omega | (simp; omega) | simp)) (by omega)) (Nat.le_refl _) (HB2.out))
        have C301 := Lib.hid d13.1
        have lc301 := d13.1.lt
        clear d13
        go_upto_block 2 with fail
        go_cut [9] (fun s9 wx => ∃ (now : Int) (X : Nat → Int) (AE : Option Addr) (e0 kc : Nat) (WA : Option Addr) (N0 cw : Nat), s9 = .int .i64 now ∧ (1 + x ≤ now ∧ now ≤ 1 + x + 6) ∧ Hid (Bx wx bx 7 (cabF X AE e0 kc WA N0 cw)) ∧ Hid (Cur wx cb) ∧ Hid (Below w.heap.size w wx) ∧ Hid (Bx wx (w2.heap.size) 9 (rv A1 n1 c1 r)) ∧ Hid (Bx wx (w.heap.size) 9 (rv none 0 0 (fun _ => 0))) ∧ Hid (Bx wx (w.heap.size + 1) 7 (zcab)) ∧ Hid (Own w1.heap.size wx 1 A1 n1 es) ∧ Hid (Own w3.heap.size wx 10 P k ps) ∧ w10.heap.size ≤ wx.heap.size)
        case first =>
          have HA3 := Lib.hid (Own.lt HL.out)
          have hcase : sx = 0 ∨ sx = 1 ∨ sx = 2 ∨ sx = 3 ∨ 4 ≤ sx := by omega
          rcases hcase with rfl | rfl | rfl | rfl | h4
          · go_wp2_with fail
            refine (l1Below_any cb 6 _ C301.out).mono ?_
            rintro y w14 ⟨dx, rfl, ⟨dx0, dx1, _⟩, d14⟩
            have dx2 := dx1 (by omega)
            clear dx1
            have ls302 := d14.2.size
            (try simp at ls302)
            have Xr302 := Lib.hid (Bx.drew (Xr301.out) d14 (by omega))
            have Xa302 := Lib.hid (Bx.drew (Xa301.out) d14 (by omega))
            have Xb302 := Lib.hid (Bx.drew (Xb301.out) d14 (by omega))
            have Xc302 := Lib.hid (Bx.drew (Xc301.out) d14 (by omega))
            have Yo302 := Lib.hid (Own.drew_c (Yo301.out) d14 (by omega))
            have Yl302 := Lib.hid (Own.drew_c (Yl301.out) d14 (by omega))
            have HB302 := Lib.hid (bel_tr (d14.toBelow (B := w.heap.size) (by (first | omega | (simp; omega) | simp)) (by omega)) (Nat.le_refl _) (HB301.out))
            have C302 := Lib.hid d14.1
            have lc302 := d14.1.lt
            clear d14
            go_wp2
            go_meet
            exact ⟨(1 + x + 1 + dx), X, AE, e0, kc, WA, N0, cw, rfl, by omega, Lib.hid (Xc302.out), Lib.hid (C302.out), Lib.hid (HB302.out), Lib.hid (Xr302.out), Lib.hid (Xa302.out), Lib.hid (Xb302.out), Lib.hid (Yo302.out), Lib.hid (Yl302.out), by omega⟩
          · go_wp2_with fail
            refine (l8Draw_any cb _ C301.out).mono ?_
            rintro y w14 ⟨e, rfl, d14⟩
            have ls302 := d14.2.size
            (try simp at ls302)
            have Xr302 := Lib.hid (Bx.drew (Xr301.out) d14 (by omega))
            have Xa302 := Lib.hid (Bx.drew (Xa301.out) d14 (by omega))
            have Xb302 := Lib.hid (Bx.drew (Xb301.out) d14 (by omega))
            have Xc302 := Lib.hid (Bx.drew (Xc301.out) d14 (by omega))
            have Yo302 := Lib.hid (Own.drew_c (Yo301.out) d14 (by omega))
            have Yl302 := Lib.hid (Own.drew_c (Yl301.out) d14 (by omega))
            have HB302 := Lib.hid (bel_tr (d14.toBelow (B := w.heap.size) (by (first | omega | (simp; omega) | simp)) (by omega)) (Nat.le_refl _) (HB301.out))
            have C302 := Lib.hid d14.1
            have lc302 := d14.1.lt
            clear d14
            have cc0 : _ = some (Value.int .i64 (X 0)) := (Xc302.out).2.2 0 (by omega)
            have cc1 : _ = some (Value.int .i64 (X 1)) := (Xc302.out).2.2 1 (by omega)
            have cc2 : _ = some (Value.int .i64 (X 2)) := (Xc302.out).2.2 2 (by omega)
            have cc3 : _ = some (Value.int .i64 (X 3)) := (Xc302.out).2.2 3 (by omega)
            have cc4 : _ = some (Value.int .i64 (X 4)) := (Xc302.out).2.2 4 (by omega)
            have cc5 : _ = some (Value.slice AE e0 kc) := (Xc302.out).2.2 5 (by omega)
            have cc6 : _ = some (Value.slice WA N0 cw) := (Xc302.out).2.2 6 (by omega)
            have cf0 := (Xc302.out).2.1 0
            have cf1 := (Xc302.out).2.1 1
            have cf2 := (Xc302.out).2.1 2
            have cf3 := (Xc302.out).2.1 3
            have cf4 := (Xc302.out).2.1 4
            have cf5 := (Xc302.out).2.1 5
            have cf6 := (Xc302.out).2.1 6
            go_wp2
            go_meet
            exact ⟨(1 + x), e, AE, e0, kc, WA, N0, cw, rfl, by omega, Lib.hid ((Bx.seats (Xc302.out) e)), Lib.hid (((((((((((C302.out).set (by (first | omega | (simp; omega) | simp)))).set (by (first | omega | (simp; omega) | simp)))).set (by (first | omega | (simp; omega) | simp)))).set (by (first | omega | (simp; omega) | simp)))).set (by (first | omega | (simp; omega) | simp)))), Lib.hid ((bel_set (by (first | omega | (simp; omega) | simp)) ((bel_set (by (first | omega | (simp; omega) | simp)) ((bel_set (by (first | omega | (simp; omega) | simp)) ((bel_set (by (first | omega | (simp; omega) | simp)) ((bel_set (by (first | omega | (simp; omega) | simp)) (HB302.out) _)) _)) _)) _)) _)), Lib.hid (((((((((((Xr302.out).set_ne _ (by omega))).set_ne _ (by omega))).set_ne _ (by omega))).set_ne _ (by omega))).set_ne _ (by omega))), Lib.hid (((((((((((Xa302.out).set_ne _ (by omega))).set_ne _ (by omega))).set_ne _ (by omega))).set_ne _ (by omega))).set_ne _ (by omega))), Lib.hid (((((((((((Xb302.out).set_ne _ (by omega))).set_ne _ (by omega))).set_ne _ (by omega))).set_ne _ (by omega))).set_ne _ (by omega))), Lib.hid ((Own.set_nb ((Own.set_nb ((Own.set_nb ((Own.set_nb ((Own.set_nb (Yo302.out) (fun a h0 ha => by have hz := HA.out a h0 ha; omega) _)) (fun a h0 ha => by have hz := HA.out a h0 ha; omega) _)) (fun a h0 ha => by have hz := HA.out a h0 ha; omega) _)) (fun a h0 ha => by have hz := HA.out a h0 ha; omega) _)) (fun a h0 ha => by have hz := HA.out a h0 ha; omega) _)), Lib.hid ((Own.set_nb ((Own.set_nb ((Own.set_nb ((Own.set_nb ((Own.set_nb (Yl302.out) (fun a h0 ha => by have hz := HA3.out a h0 ha; omega) _)) (fun a h0 ha => by have hz := HA3.out a h0 ha; omega) _)) (fun a h0 ha => by have hz := HA3.out a h0 ha; omega) _)) (fun a h0 ha => by have hz := HA3.out a h0 ha; omega) _)) (fun a h0 ha => by have hz := HA3.out a h0 ha; omega) _)), by simp [World.setCell]; omega⟩
          · go_wp2_with fail
            refine (l7Draw_any cb _ C301.out).mono ?_
            rintro y w14 ⟨A7, n7, c7, rfl, _, _, _, _, d14⟩
            have ls302 := d14.2.size
            (try simp at ls302)
            have Xr302 := Lib.hid (Bx.drew (Xr301.out) d14 (by omega))
            have Xa302 := Lib.hid (Bx.drew (Xa301.out) d14 (by omega))
            have Xb302 := Lib.hid (Bx.drew (Xb301.out) d14 (by omega))
            have Xc302 := Lib.hid (Bx.drew (Xc301.out) d14 (by omega))
            have Yo302 := Lib.hid (Own.drew_c (Yo301.out) d14 (by omega))
            have Yl302 := Lib.hid (Own.drew_c (Yl301.out) d14 (by omega))
            have HB302 := Lib.hid (bel_tr (d14.toBelow (B := w.heap.size) (by (first | omega | (simp; omega) | simp)) (by omega)) (Nat.le_refl _) (HB301.out))
            have C302 := Lib.hid d14.1
            have lc302 := d14.1.lt
            clear d14
            have cc5 : _ = some (Value.slice AE e0 kc) := (Xc302.out).2.2 5 (by omega)
            have cf5 := (Xc302.out).2.1 5
            go_wp2
            go_meet
            exact ⟨(1 + x), X, A7, n7, c7, WA, N0, cw, rfl, by omega, Lib.hid ((Bx.row (Xc302.out) A7 n7 c7)), Lib.hid (((C302.out).set (by (first | omega | (simp; omega) | simp)))), Lib.hid ((bel_set (by (first | omega | (simp; omega) | simp)) (HB302.out) _)), Lib.hid (((Xr302.out).set_ne _ (by omega))), Lib.hid (((Xa302.out).set_ne _ (by omega))), Lib.hid (((Xb302.out).set_ne _ (by omega))), Lib.hid ((Own.set_nb (Yo302.out) (fun a h0 ha => by have hz := HA.out a h0 ha; omega) _)), Lib.hid ((Own.set_nb (Yl302.out) (fun a h0 ha => by have hz := HA3.out a h0 ha; omega) _)), by simp [World.setCell]; omega⟩
          · go_wp2_with fail
            refine (l9Draw_any cb _ C301.out).mono ?_
            rintro y w14 ⟨A7, n7, c7, rfl, _, _, _, d14⟩
            have ls302 := d14.2.size
            (try simp at ls302)
            have Xr302 := Lib.hid (Bx.drew (Xr301.out) d14 (by omega))
            have Xa302 := Lib.hid (Bx.drew (Xa301.out) d14 (by omega))
            have Xb302 := Lib.hid (Bx.drew (Xb301.out) d14 (by omega))
            have Xc302 := Lib.hid (Bx.drew (Xc301.out) d14 (by omega))
            have Yo302 := Lib.hid (Own.drew_c (Yo301.out) d14 (by omega))
            have Yl302 := Lib.hid (Own.drew_c (Yl301.out) d14 (by omega))
            have HB302 := Lib.hid (bel_tr (d14.toBelow (B := w.heap.size) (by (first | omega | (simp; omega) | simp)) (by omega)) (Nat.le_refl _) (HB301.out))
            have C302 := Lib.hid d14.1
            have lc302 := d14.1.lt
            clear d14
            have cc6 : _ = some (Value.slice WA N0 cw) := (Xc302.out).2.2 6 (by omega)
            have cf6 := (Xc302.out).2.1 6
            go_wp2
            go_meet
            exact ⟨(1 + x), X, AE, e0, kc, A7, n7, c7, rfl, by omega, Lib.hid ((Bx.whl (Xc302.out) A7 n7 c7)), Lib.hid (((C302.out).set (by (first | omega | (simp; omega) | simp)))), Lib.hid ((bel_set (by (first | omega | (simp; omega) | simp)) (HB302.out) _)), Lib.hid (((Xr302.out).set_ne _ (by omega))), Lib.hid (((Xa302.out).set_ne _ (by omega))), Lib.hid (((Xb302.out).set_ne _ (by omega))), Lib.hid ((Own.set_nb (Yo302.out) (fun a h0 ha => by have hz := HA.out a h0 ha; omega) _)), Lib.hid ((Own.set_nb (Yl302.out) (fun a h0 ha => by have hz := HA3.out a h0 ha; omega) _)), by simp [World.setCell]; omega⟩
          · have h0 : ¬ sx = 0 := by omega
            have h1 : ¬ sx = 1 := by omega
            have h2 : ¬ sx = 2 := by omega
            have h3 : ¬ sx = 3 := by omega
            go_wp2
            go_meet
            exact ⟨(1 + x), X, AE, e0, kc, WA, N0, cw, rfl, by omega, Lib.hid (Xc301.out), Lib.hid (C301.out), Lib.hid (HB301.out), Lib.hid (Xr301.out), Lib.hid (Xa301.out), Lib.hid (Xb301.out), Lib.hid (Yo301.out), Lib.hid (Yl301.out), by omega⟩
        case rest =>
          obtain ⟨now, X, AE, e0, kc, WA, N0, cw, rfl, ⟨hnow1, hnow2⟩, XC2, HC4, HB4, X1, X2, X3, HO4, HL4, hsz⟩ := hcut
          have rc0 : _ = some (Value.slice A1 n1 c1) := (X1.out).2.2 0 (by omega)
          have rc1 : _ = some (Value.int .i64 (r 1)) := (X1.out).2.2 1 (by omega)
          have rc2 : _ = some (Value.int .i64 (r 2)) := (X1.out).2.2 2 (by omega)
          have rc3 : _ = some (Value.int .i64 (r 3)) := (X1.out).2.2 3 (by omega)
          have rc4 : _ = some (Value.int .i64 (r 4)) := (X1.out).2.2 4 (by omega)
          have rc5 : _ = some (Value.int .i64 (r 5)) := (X1.out).2.2 5 (by omega)
          have rc6 : _ = some (Value.int .i64 (r 6)) := (X1.out).2.2 6 (by omega)
          have rc7 : _ = some (Value.int .i64 (r 7)) := (X1.out).2.2 7 (by omega)
          have rc8 : _ = some (Value.int .i64 (r 8)) := (X1.out).2.2 8 (by omega)
          have ac0 : _ = some (Value.slice none 0 0) := (X2.out).2.2 0 (by omega)
          have af0 := (X2.out).2.1 0
          have ac1 : _ = some (Value.int .i64 0) := (X2.out).2.2 1 (by omega)
          have af1 := (X2.out).2.1 1
          have ac2 : _ = some (Value.int .i64 0) := (X2.out).2.2 2 (by omega)
          have af2 := (X2.out).2.1 2
          have ac3 : _ = some (Value.int .i64 0) := (X2.out).2.2 3 (by omega)
          have af3 := (X2.out).2.1 3
          have ac4 : _ = some (Value.int .i64 0) := (X2.out).2.2 4 (by omega)
          have af4 := (X2.out).2.1 4
          have ac5 : _ = some (Value.int .i64 0) := (X2.out).2.2 5 (by omega)
          have af5 := (X2.out).2.1 5
          have ac6 : _ = some (Value.int .i64 0) := (X2.out).2.2 6 (by omega)
          have af6 := (X2.out).2.1 6
          have ac7 : _ = some (Value.int .i64 0) := (X2.out).2.2 7 (by omega)
          have af7 := (X2.out).2.1 7
          have ac8 : _ = some (Value.int .i64 0) := (X2.out).2.2 8 (by omega)
          have af8 := (X2.out).2.1 8
          have bc0 : _ = some (Value.int .i64 0) := X3.out.2.2 0 (by omega)
          have bc1 : _ = some (Value.int .i64 0) := X3.out.2.2 1 (by omega)
          have bc2 : _ = some (Value.int .i64 0) := X3.out.2.2 2 (by omega)
          have bc3 : _ = some (Value.int .i64 0) := X3.out.2.2 3 (by omega)
          have bc4 : _ = some (Value.int .i64 0) := X3.out.2.2 4 (by omega)
          have bc5 : _ = some (Value.slice none 0 0) := X3.out.2.2 5 (by omega)
          have bc6 : _ = some (Value.slice none 0 0) := X3.out.2.2 6 (by omega)
          have bf0 := X3.out.2.1 0
          have bf1 := X3.out.2.1 1
          have bf2 := X3.out.2.1 2
          have bf3 := X3.out.2.1 3
          have bf4 := X3.out.2.1 4
          have bf5 := X3.out.2.1 5
          have bf6 := X3.out.2.1 6
          have cc0 : _ = some (Value.int .i64 (X 0)) := XC2.out.2.2 0 (by omega)
          have cc1 : _ = some (Value.int .i64 (X 1)) := XC2.out.2.2 1 (by omega)
          have cc2 : _ = some (Value.int .i64 (X 2)) := XC2.out.2.2 2 (by omega)
          have cc3 : _ = some (Value.int .i64 (X 3)) := XC2.out.2.2 3 (by omega)
          have cc4 : _ = some (Value.int .i64 (X 4)) := XC2.out.2.2 4 (by omega)
          have cc5 : _ = some (Value.slice AE e0 kc) := XC2.out.2.2 5 (by omega)
          have cc6 : _ = some (Value.slice WA N0 cw) := XC2.out.2.2 6 (by omega)
          have hza : w.heap.size + 1 < w2.heap.size := by omega
          have hzb : w2.heap.size < bx := by omega
          have hq0 : ¬ w.heap.size = w2.heap.size := by omega
          have hr0 : ¬ w2.heap.size = w.heap.size := by omega
          have hq1 : ¬ w.heap.size + 1 = w2.heap.size := by omega
          have hr1 : ¬ w2.heap.size = w.heap.size + 1 := by omega
          have hq2 : ¬ w.heap.size = bx := by omega
          have hr2 : ¬ bx = w.heap.size := by omega
          have hq3 : ¬ w.heap.size + 1 = bx := by omega
          have hr3 : ¬ bx = w.heap.size + 1 := by omega
          have hq4 : ¬ w2.heap.size = bx := by omega
          have hr4 : ¬ bx = w2.heap.size := by omega
          go_wp2
          go_region
          all_goals
            go_wp2
            refine bodyPost_ret (v := .tuple #[.agg #[.slice A1 n1 c1, .int .i64 (r 1), .int .i64 (r 2), .int .i64 (r 3), .int .i64 (r 4), .int .i64 (r 5), .int .i64 (r 6), .int .i64 (r 7), .int .i64 (r 8)], .agg #[.int .i64 (X 0), .int .i64 (X 1), .int .i64 (X 2), .int .i64 (X 3), .int .i64 (X 4), .slice AE e0 kc, .slice WA N0 cw], .slice P k pc, .int .i64 q, .int .i64 now]) (by simp only [results, Tryz.results8]; (first | (go_simp; done) | (go_simp; omega))) rfl ⟨A1, n1, c1, r, es, X, AE, e0, kc, WA, N0, cw, P, k, pc, ps, q, now, rfl, ⟨hn1, hnc, hkm, hp1, hp2⟩, HR.out, ?_, ?_, ?_, ?_⟩
            · refine Own.mono (B := w1.heap.size) ?_ (by omega)
              have HO5 := HO4.out
              (repeat (first | with_reducible exact HO5 | (with_reducible refine Own.set_ ?_ ?_ _; (first | omega | (simp; omega) | simp)) | with_reducible refine Own.drew_ ?_))
            · refine Own.mono (B := w3.heap.size) ?_ (by omega)
              have HO5 := HL4.out
              (repeat (first | with_reducible exact HO5 | (with_reducible refine Own.set_ ?_ ?_ _; (first | omega | (simp; omega) | simp)) | with_reducible refine Own.drew_ ?_))
            · exact fun i hi => AgP.late (HP.out _ (fld_mem (by omega))) (by omega) (by omega) (by omega)
            · have HB5 := HB4.out
              (repeat (first | with_reducible exact HB5 | with_reducible refine Below.drew ?_ | (with_reducible refine bel_set ?_ ?_ _; (first | omega | (simp; omega) | simp))))
end Go.Proofs.YtjlmcppkafjniaaGreat
