/-
  The draw of FnQueueOf's arguments. No conditions beyond those stated.
-/
import Derived.Test.YtccabkmmlddenaaDh
namespace Go.Proofs.Ytccabkmmlddenaa
open Go.RowKit

def DqD (w : World) (y : Ending) (w' : World) : Prop := ∃ (A : Option Addr) (n c : Nat) (r : Nat → Int) (es : List (Nat → Int)) (A' : Option Addr) (m c' : Nat) (ps : List (Nat → Int)) (cab now : Int), y = .returned (.tuple #[.agg #[.slice A n c, .int .i64 (r 1), .int .i64 (r 2), .int .i64 (r 3), .int .i64 (r 4), .int .i64 (r 5), .int .i64 (r 6), .int .i64 (r 7), .int .i64 (r 8)], .slice A' m c', .int .i64 cab, .int .i64 now]) ∧ n ≤ 3 ∧ n ≤ c ∧ ROk n es r ∧ m ≤ 7 ∧ m ≤ c' ∧ c' ≤ 9223372036854775807 ∧ Own w.heap.size w' 1 A n es ∧ Own w.heap.size w' 10 A' m ps ∧ Below w.heap.size w w' ∧ Shp A'

set_option maxRecDepth 100000 in
set_option maxHeartbeats 16000000 in
theorem drawQueueOf_any (A : Option Addr) (n c : Nat) (w : World) (hn : n ≤ 1048576) (h : RdB w A n) :
    Calls Try.prog 20 #[.slice A n c] w (DqD w) := by
  have HN := Lib.hid h
  clear h
  obtain ⟨cb, hcb⟩ : ∃ cb : Nat, cb = w.heap.size + 1 := ⟨_, rfl⟩
  have HCB := Lib.hid hcb
  have hc0 : w.heap.size < cb := by omega
  clear hcb
  go_enter Try.func20, Try.ntmps20
  go_wp2_with fail
  refine (l1New_c cb A n c _ (by have := HCB.out; simp; omega) hn (HN.out.below (by (repeat (first | with_reducible exact Below.refl _ _ | with_reducible refine Below.drew ?_ | with_reducible refine below_drewN ?_ _ | (with_reducible refine bel_alloc ?_ ?_ _; (first | omega | (simp; omega) | simp)) | (with_reducible refine bel_set ?_ ?_ _; (first | omega | (simp; omega) | simp)) | (with_reducible refine bel_tr (by assumption) ?_ ?_; (first | omega | (simp; omega) | simp))))))).mono ?_
  rintro y w1 ⟨rfl, hc1, b1⟩
  have Z0 := Lib.hid (Bx.rules w 30 none 0 0 (fun _ => 0))
  have HB0 : Hid (Below w.heap.size w w1) := Lib.hid (bel_tr b1 (by (first | omega | (simp; omega) | simp)) (by (repeat (first | with_reducible exact Below.refl _ _ | with_reducible refine Below.drew ?_ | with_reducible refine below_drewN ?_ _ | (with_reducible refine bel_alloc ?_ ?_ _; (first | omega | (simp; omega) | simp)) | (with_reducible refine bel_set ?_ ?_ _; (first | omega | (simp; omega) | simp)) | (with_reducible refine bel_tr (by assumption) ?_ ?_; (first | omega | (simp; omega) | simp))))))
  have ls1 := b1.size
  (try simp at ls1)
  have Xa1 := Lib.hid (Bx.below (Z0.out) b1)
  clear b1
  have C1 := Lib.hid hc1
  have lc1 := hc1.lt
  clear hc1
  go_wp2_with fail
  refine (l5Right_any cb _ C1.out).mono ?_
  rintro y w2 ⟨A1, n1, c1, r, es, rfl, hn1, hnc, hR, ho, d2⟩
  have HR := Lib.hid hR
  have HO := Lib.hid ho
  clear hR ho
  have ls2 := d2.2.size
  (try simp at ls2)
  have Xa2 := Lib.hid (Bx.drew (Xa1.out) d2 (by omega))
  have HB2 := Lib.hid (bel_tr (d2.toBelow (B := w.heap.size) (by (first | omega | (simp; omega) | simp)) (by omega)) (Nat.le_refl _) (HB0.out))
  have C2 := Lib.hid d2.1
  have lc2 := d2.1.lt
  clear d2
  have HA := Lib.hid (Own.lt HO.out)
  go_wp2_with fail
  refine (l6Now_any2 cb _ ((C2.out).alc _)).mono ?_
  rintro y w3 ⟨now, rfl, _, d3⟩
  have ls3 := d3.2.size
  (try simp at ls3)
  have Xa3 := Lib.hid (Bx.drew (((Xa2.out).alloc _)) d3 (by omega))
  have Xr3 := Lib.hid (Bx.drew ((Bx.rules w2 30 A1 n1 c1 r)) d3 (by omega))
  have Yo3 := Lib.hid (Own.drew_c (((HO.out).alloc_ _)) d3 (by omega))
  have HB3 := Lib.hid (bel_tr (d3.toBelow (B := w.heap.size) (by (first | omega | (simp; omega) | simp)) (by omega)) (Nat.le_refl _) ((bel_alloc (by (first | omega | (simp; omega) | simp)) (HB2.out) _)))
  have C3 := Lib.hid d3.1
  have lc3 := d3.1.lt
  clear d3
  have rc0 : _ = some (Value.slice A1 n1 c1) := (Xr3.out).2.2 0 (by omega)
  have rc1 : _ = some (Value.int .i64 (r 1)) := (Xr3.out).2.2 1 (by omega)
  have rc2 : _ = some (Value.int .i64 (r 2)) := (Xr3.out).2.2 2 (by omega)
  have rc3 : _ = some (Value.int .i64 (r 3)) := (Xr3.out).2.2 3 (by omega)
  have rc4 : _ = some (Value.int .i64 (r 4)) := (Xr3.out).2.2 4 (by omega)
  have rc5 : _ = some (Value.int .i64 (r 5)) := (Xr3.out).2.2 5 (by omega)
  have rc6 : _ = some (Value.int .i64 (r 6)) := (Xr3.out).2.2 6 (by omega)
  have rc7 : _ = some (Value.int .i64 (r 7)) := (Xr3.out).2.2 7 (by omega)
  have rc8 : _ = some (Value.int .i64 (r 8)) := (Xr3.out).2.2 8 (by omega)
  have hz1 : w.heap.size < w2.heap.size := by omega
  have hz2 : w2.heap.size < w3.heap.size := by omega
  have hz3 : ¬ w.heap.size = w2.heap.size := by omega
  have hz4 : ¬ w2.heap.size = w.heap.size := by omega
  have hs13 : w1.heap.size ≤ w3.heap.size := by omega
  go_upto_region 4 with fail
  go_cut [3, 4, 5] (fun s3 s4 s5 wx => ∃ (A' : Option Addr) (m c' : Nat) (ps : List (Nat → Int)) (cab : Int), s3 = .slice A' m c' ∧ s4 = .int .i64 cab ∧ s5 = .int .i64 now ∧ m ≤ 7 ∧ m ≤ c' ∧ c' ≤ 9223372036854775807 ∧ Hid (Own w.heap.size wx 10 A' m ps) ∧ Hid (Own w.heap.size wx 1 A1 n1 es) ∧ Hid (Bx wx w.heap.size 9 (rv A1 n1 c1 r)) ∧ Hid (Below w.heap.size w wx) ∧ Hid (Shp A'))
  case first =>
    go_region_held3 (fun w' => w'.cell? ⟨w2.heap.size, 0, none⟩ = some (.slice A1 n1 c1) ∧ w'.cell? ⟨w2.heap.size, 1, none⟩ = some (.int .i64 (r 1)) ∧ w'.cell? ⟨w2.heap.size, 2, none⟩ = some (.int .i64 (r 2)) ∧ w'.cell? ⟨w2.heap.size, 3, none⟩ = some (.int .i64 (r 3)) ∧ w'.cell? ⟨w2.heap.size, 4, none⟩ = some (.int .i64 (r 4)) ∧ w'.cell? ⟨w2.heap.size, 5, none⟩ = some (.int .i64 (r 5)) ∧ w'.cell? ⟨w2.heap.size, 6, none⟩ = some (.int .i64 (r 6)) ∧ w'.cell? ⟨w2.heap.size, 7, none⟩ = some (.int .i64 (r 7)) ∧ w'.cell? ⟨w2.heap.size, 8, none⟩ = some (.int .i64 (r 8))) ((first | (go_keep; done) | (go_simp; done))) (first
      | (go_at_call 45; refine (l7Parties_any cb w1.heap.size A1 n1 c1 es r now _ (by omega) (by omega) (by (first | omega | (simp; omega) | simp)) (Cur.drw C3.out) (Own.drew_ Yo3.out)).mono ?_; rintro y w4 ⟨A4, m, c4, ps, rfl, hm, hm1, hm2, o4, d4, hsh⟩; have HSH := Lib.hid hsh; clear hsh; have s4 := d4.2.size; (try simp at s4); have kc4 : ∀ o, w4.cell? ⟨w2.heap.size, o, none⟩ = _ := (fun o => d4.cell (b := w2.heap.size) (by (first | omega | (simp; omega) | simp)) (by omega) o); have C4 := Lib.hid d4.1; have P4 := Lib.hid o4; have XA4 := Lib.hid (Bx.drew (show Bx w3.drew w.heap.size 9 _ from Xa3.out) d4 (by omega)); have O4 := Lib.hid (Own.drew_c (Own.drew_ Yo3.out) d4 (by omega)); have B4 : Hid (Below w.heap.size w w4) := Lib.hid (bel_tr (d4.toBelow (B := w.heap.size) (by (first | omega | (simp; omega) | simp)) (by omega)) (Nat.le_refl _) (Below.drew HB3.out)); clear o4 d4)
      | (go_at_call 46; refine (l1Below_any cb 4 _ C4.out).mono ?_; rintro y w5 ⟨x5, rfl, ⟨u5, v5, _⟩, d5⟩; have z5 := v5 (by omega); clear v5; have hw5 : IntKind.i64.wrap (x5 - 1) = x5 - 1 := (by rw [IntKind.wrap_i64]; omega); have s5 := d5.2.size; have kc5 : ∀ o, w5.cell? ⟨w2.heap.size, o, none⟩ = _ := (fun o => d5.cell (b := w2.heap.size) (by omega) (by omega) o); have P5 := Lib.hid (Own.drew_c P4.out d5 (by (first | omega | (simp; omega) | simp))); have XA5 := Lib.hid (Bx.drew XA4.out d5 (by omega)); have O5 := Lib.hid (Own.drew_c O4.out d5 (by omega)); have B5 : Hid (Below w.heap.size w w5) := Lib.hid (bel_tr (d5.toBelow (B := w.heap.size) (by omega) (by omega)) (Nat.le_refl _) B4.out); clear d5; have ac0 : w5.cell? ⟨w.heap.size, 0, none⟩ = some (Value.slice none 0 0) := XA5.out.2.2 0 (by omega); have af0 := XA5.out.2.1 0; have ac1 : w5.cell? ⟨w.heap.size, 1, none⟩ = some (Value.int .i64 0) := XA5.out.2.2 1 (by omega); have af1 := XA5.out.2.1 1; have ac2 : w5.cell? ⟨w.heap.size, 2, none⟩ = some (Value.int .i64 0) := XA5.out.2.2 2 (by omega); have af2 := XA5.out.2.1 2; have ac3 : w5.cell? ⟨w.heap.size, 3, none⟩ = some (Value.int .i64 0) := XA5.out.2.2 3 (by omega); have af3 := XA5.out.2.1 3; have ac4 : w5.cell? ⟨w.heap.size, 4, none⟩ = some (Value.int .i64 0) := XA5.out.2.2 4 (by omega); have af4 := XA5.out.2.1 4; have ac5 : w5.cell? ⟨w.heap.size, 5, none⟩ = some (Value.int .i64 0) := XA5.out.2.2 5 (by omega); have af5 := XA5.out.2.1 5; have ac6 : w5.cell? ⟨w.heap.size, 6, none⟩ = some (Value.int .i64 0) := XA5.out.2.2 6 (by omega); have af6 := XA5.out.2.1 6; have ac7 : w5.cell? ⟨w.heap.size, 7, none⟩ = some (Value.int .i64 0) := XA5.out.2.2 7 (by omega); have af7 := XA5.out.2.1 7; have ac8 : w5.cell? ⟨w.heap.size, 8, none⟩ = some (Value.int .i64 0) := XA5.out.2.2 8 (by omega); have af8 := XA5.out.2.1 8))
    all_goals
      go_wp2_with fail
      go_meet
      refine ⟨A4, m, c4, ps, x5 - 1, rfl, rfl, rfl, hm, hm1, hm2, Lib.hid ?_, Lib.hid ?_, Lib.hid ?_, Lib.hid ?_, HSH⟩
      · refine Own.mono (B := w.heap.size + 1) ?_ (by omega)
        have h1 : Own (w.heap.size + 1) w5 10 A4 m ps := P5.out.mono (by (first | omega | (simp; omega) | simp))
        (repeat (first | with_reducible exact h1 | (with_reducible refine Own.set_ ?_ ?_ _; (first | omega | (simp; omega) | simp))))
      · refine Own.mono (B := w.heap.size + 1) ?_ (by omega)
        have h1 : Own (w.heap.size + 1) w5 1 A1 n1 es := O5.out.mono (by omega)
        (repeat (first | with_reducible exact h1 | (with_reducible refine Own.set_ ?_ ?_ _; (first | omega | (simp; omega) | simp))))
      · exact ⟨by have h1 := XA5.out.1; (first | omega | (simp; omega) | simp), fun o => by (have h1 := XA5.out.2.1 o; (first | (go_keep; done) | (go_simp; done) | (simp [*]; done))), all9 (by show _ = some (Value.slice A1 n1 c1); (first | (go_keep; done) | (go_simp; done))) (by show _ = some (Value.int .i64 (r 1)); (first | (go_keep; done) | (go_simp; done))) (by show _ = some (Value.int .i64 (r 2)); (first | (go_keep; done) | (go_simp; done))) (by show _ = some (Value.int .i64 (r 3)); (first | (go_keep; done) | (go_simp; done))) (by show _ = some (Value.int .i64 (r 4)); (first | (go_keep; done) | (go_simp; done))) (by show _ = some (Value.int .i64 (r 5)); (first | (go_keep; done) | (go_simp; done))) (by show _ = some (Value.int .i64 (r 6)); (first | (go_keep; done) | (go_simp; done))) (by show _ = some (Value.int .i64 (r 7)); (first | (go_keep; done) | (go_simp; done))) (by show _ = some (Value.int .i64 (r 8)); (first | (go_keep; done) | (go_simp; done)))⟩
      · have h1 := B5.out
        (repeat (first | with_reducible exact h1 | (with_reducible refine bel_set ?_ ?_ _; (first | omega | (simp; omega) | simp))))
  case rest =>
    obtain ⟨A', m, c', ps, cab, rfl, rfl, rfl, h1, h2, h3, H4, H5, H6, H7, H8⟩ := hcut
    clear rc0 rc1 rc2 rc3 rc4 rc5 rc6 rc7 rc8
    have xc0 : _ = some (Value.slice A1 n1 c1) := H6.out.2.2 0 (by omega)
    have xc1 : _ = some (Value.int .i64 (r 1)) := H6.out.2.2 1 (by omega)
    have xc2 : _ = some (Value.int .i64 (r 2)) := H6.out.2.2 2 (by omega)
    have xc3 : _ = some (Value.int .i64 (r 3)) := H6.out.2.2 3 (by omega)
    have xc4 : _ = some (Value.int .i64 (r 4)) := H6.out.2.2 4 (by omega)
    have xc5 : _ = some (Value.int .i64 (r 5)) := H6.out.2.2 5 (by omega)
    have xc6 : _ = some (Value.int .i64 (r 6)) := H6.out.2.2 6 (by omega)
    have xc7 : _ = some (Value.int .i64 (r 7)) := H6.out.2.2 7 (by omega)
    have xc8 : _ = some (Value.int .i64 (r 8)) := H6.out.2.2 8 (by omega)
    go_wp2
    exact bodyPost_ret (v := .tuple #[.agg #[.slice A1 n1 c1, .int .i64 (r 1), .int .i64 (r 2), .int .i64 (r 3), .int .i64 (r 4), .int .i64 (r 5), .int .i64 (r 6), .int .i64 (r 7), .int .i64 (r 8)], .slice A' m c', .int .i64 cab, .int .i64 now]) (by simp only [results, Try.results20]; (first | (go_simp; done) | (go_simp; omega))) rfl ⟨A1, n1, c1, r, es, A', m, c', ps, cab, now, rfl, hn1, hnc, HR.out, h1, h2, h3, H5.out, H4.out, H7.out, H8.out⟩
end Go.Proofs.Ytccabkmmlddenaa
