/-
  Walk of the law FnOneTier: it returns true and leaves old memory alone.
-/
import Derived.Test.YtbpohbcbmicchaaDb
import Derived.Test.YtbpohbcbmicchaaBi
import Derived.Test.YtbpohbcbmicchaaBw
import Derived.Test.YtbpohbcbmicchaaFa
namespace Go.Proofs.Ytbpohbcbmicchaa
open Go.RowKit

theorem rdB_below {w w' : World} {A : Option Addr} {n : Nat} (h : RdB w A n) (d : Below w.heap.size w w') : RdB w' A n := h.below d
theorem low_any (a b : Int) (w : World) : Calls Try.prog 13 #[.int .i64 a, .int .i64 b] w fun e w' => e = .returned (.int .i64 (if a < b then a else b)) ∧ w = w' := by
  by_cases h : a < b
  · rw [if_pos h]
    go_enter Try.func13, Try.ntmps13
    go_wp2
    go_ret
    exact ⟨rfl, rfl⟩
  · rw [if_neg h]
    go_enter Try.func13, Try.ntmps13
    go_wp2
    go_ret
    exact ⟨rfl, rfl⟩
theorem low_at {a b th : Int} {w : World} (h : th = if a < b then a else b) : Calls Try.prog 13 #[.int .i64 a, .int .i64 b] w fun e w' => e = .returned (.int .i64 th) ∧ w = w' := h ▸ low_any a b w
theorem lv_at {P : Program} {f : FuncId} {args : Array Value} {w : World} {l v : Int} (h : l = v) (c : Calls P f args w fun e w' => e = .returned (.int .i64 v) ∧ Below w.heap.size w w') : Calls P f args w fun e w' => e = .returned (.int .i64 l) ∧ Below w.heap.size w w' := h ▸ c
theorem div_mono {a b k : Int} (hk : 1 ≤ k) (h : a ≤ b) : a / k ≤ b / k := Int.ediv_le_ediv (by omega) h
theorem ot_then {n : Nat} {es : List (Nat → Int)} {r p : Nat → Int} {now th : Int} (h : POk n es r p now) (h1 : now ≤ th) (h2 : th ≤ 1000000) : POk n es r p th := by
  obtain ⟨hR, h0, h3, h4, h5, h6, h7, h8, h9, h10, h11, h12⟩ := h
  refine ⟨hR, by omega, h3, h4, h5, h6, h7, h8, by omega, h10, h11, ?_⟩
  rcases h12 with ⟨a, b, c⟩ | ⟨a, b, c⟩
  · exact .inl ⟨a, b, by omega⟩
  · exact .inr ⟨a, b, by omega⟩
theorem ot_lv {n : Nat} {es : List (Nat → Int)} {r p q : Nat → Int} {now : Int} (hP : POk n es r p now) (hQ : POk n es r q now) (h4 : q 4 = p 4) (h5 : p 5 ≤ q 5) : lvlV r p now ≤ lvlV r q now := by
  have h1 := hP.lv
  have h2 := hQ.lv
  have h3 := div_mono (k := r 4) (by omega) (show now - q 5 ≤ now - p 5 by omega)
  unfold lvlV
  split <;> split <;> omega
theorem ot_before {n : Nat} {es : List (Nat → Int)} {r p q : Nat → Int} {now : Int} (hP : POk n es r p now) (hQ : POk n es r q now) (h4 : q 4 = p 4) (h5 : p 5 ≤ q 5) (h6 : p 6 < q 6) : befP n es r p q now := by
  have := ot_lv hP hQ h4 h5
  exact ⟨⟨hP, hQ⟩, by omega⟩
theorem ot_not {n : Nat} {es : List (Nat → Int)} {r p q : Nat → Int} {now : Int} (hP : POk n es r p now) (hQ : POk n es r q now) (h4 : q 4 = p 4) (h5 : p 5 ≤ q 5) (h6 : p 6 < q 6) : ¬ befP n es r q p now := by
  have := ot_lv hP hQ h4 h5
  rintro ⟨_, h⟩
  omega
theorem ot_level {n : Nat} {es : List (Nat → Int)} {r p : Nat → Int} {now th : Int} (hP : POk n es r p now) (hT : POk n es r p th) (h : now ≤ th) : lvlV r p th ≤ lvlV r p now := by
  have h1 := hP.lv
  have h2 := hT.lv
  have h3 := div_mono (k := r 4) (by omega) (show now - p 5 ≤ th - p 5 by omega)
  unfold lvlV
  split <;> split <;> omega

set_option maxRecDepth 100000 in
set_option maxHeartbeats 16000000 in
theorem lawFnOneTier (A : Option Addr) (n c : Nat) (w : World) (hn0 : n ≤ 9223372036854775807) (hB : RdB w A n) :
    Calls Try.prog 4 #[.slice A n c] w fun y w' => y = .returned (.bool true) ∧ Below w.heap.size w w' := by
  by_cases hn : n ≤ 1048576
  case neg =>
    have hbig : decide (1048576 < n) = true := by simp; omega
    go_enter Try.func4, Try.ntmps4
    go_wp2_with fail
    refine (big_any A n c _).mono ?_
    rintro y _ ⟨rfl, rfl⟩
    go_wp2
    go_ret
    exact ⟨rfl, Below.refl _ _⟩
  have HB := Lib.hid hB
  clear hB
  have hbig : decide (1048576 < n) = false := by simpa using hn
  go_enter Try.func4, Try.ntmps4
  go_wp2_with fail
  refine (big_any A n c _).mono ?_
  rintro y _ ⟨rfl, rfl⟩
  go_wp2_with fail
  refine (drawBefore_any A n c _ hn HB.out).mono ?_
  rintro y w1 ⟨A1, n1, c1, r, es, p, q, now, rfl, hn1, hnc, hR, ho, b1⟩
  have s1 := b1.size
  have HR := Lib.hid hR
  have HO := Lib.hid ho
  have HA := Lib.hid (Own.lt ho)
  have HB1 := Lib.hid b1
  have R0 := Lib.hid (rdB_below HB.out b1)
  clear hR ho b1
  have X1 := Lib.hid (((Bx.rules w1 26 A1 n1 c1 r).alloc (.cells #[.int .i64 (p 0), .int .i64 (p 1), .int .i64 (p 2), .int .i64 (p 3), .int .i64 (p 4), .int .i64 (p 5), .int .i64 (p 6), .int .i64 (p 7), .int .i64 (p 8), .int .i64 (p 9)] 28)).alloc (.cells #[.int .i64 (q 0), .int .i64 (q 1), .int .i64 (q 2), .int .i64 (q 3), .int .i64 (q 4), .int .i64 (q 5), .int .i64 (q 6), .int .i64 (q 7), .int .i64 (q 8), .int .i64 (q 9)] 28))
  have X2 := Lib.hid ((Bx.party (w1.alloc (.cells #[.slice A1 n1 c1, .int .i64 (r 1), .int .i64 (r 2), .int .i64 (r 3), .int .i64 (r 4), .int .i64 (r 5), .int .i64 (r 6), .int .i64 (r 7), .int .i64 (r 8)] 26)) 28 p).alloc (.cells #[.int .i64 (q 0), .int .i64 (q 1), .int .i64 (q 2), .int .i64 (q 3), .int .i64 (q 4), .int .i64 (q 5), .int .i64 (q 6), .int .i64 (q 7), .int .i64 (q 8), .int .i64 (q 9)] 28))
  have X3 := Lib.hid (Bx.party ((w1.alloc (.cells #[.slice A1 n1 c1, .int .i64 (r 1), .int .i64 (r 2), .int .i64 (r 3), .int .i64 (r 4), .int .i64 (r 5), .int .i64 (r 6), .int .i64 (r 7), .int .i64 (r 8)] 26)).alloc (.cells #[.int .i64 (p 0), .int .i64 (p 1), .int .i64 (p 2), .int .i64 (p 3), .int .i64 (p 4), .int .i64 (p 5), .int .i64 (p 6), .int .i64 (p 7), .int .i64 (p 8), .int .i64 (p 9)] 28)) 28 q)
  (try simp at X2)
  (try simp at X3)
  go_upto_if 24 with fail
  go_cut [] (fun wx => ∃ p' q' : Nat → Int, Hid (Bx wx (w1.heap.size + 1) 10 (ints p')) ∧ Hid (Bx wx (w1.heap.size + 1 + 1) 10 (ints q')) ∧ Hid (Bx wx (w1.heap.size) 9 (rv A1 n1 c1 r)) ∧ Hid (Own w.heap.size wx 1 A1 n1 es) ∧ Hid (Below w.heap.size w wx) ∧ Hid (q' 4 = p' 4 ∧ p' 5 ≤ q' 5))
  case first =>
    by_cases hs : q 5 < p 5
    · go_wp2
      go_meet
      refine ⟨(fun j => [p 0, p 1, p 2, p 3, p 4, q 5, p 6, p 7, p 8, p 9].getD j 0), (fun j => [q 0, q 1, q 2, q 3, p 4, q 5, q 6, q 7, q 8, q 9].getD j 0), Lib.hid ?_, Lib.hid ?_, Lib.hid ?_, Lib.hid (by first | exact ((((HO.out.alloc_ _).alloc_ _).alloc_ _)) | exact (((HO.out.alloc_ _).alloc_ _).alloc_ _)), Lib.hid (by (have h1 := HB1.out; (repeat (first | with_reducible exact Below.refl _ _ | with_reducible refine Below.drew ?_ | with_reducible refine below_drewN ?_ _ | (with_reducible refine bel_alloc ?_ ?_ _; (first | omega | (simp; omega) | simp)) | (with_reducible refine bel_set ?_ ?_ _; (first | omega | (simp; omega) | simp)) | (with_reducible refine bel_tr (by assumption) ?_ ?_; (first | omega | (simp; omega) | simp)))))), Lib.hid ⟨rfl, Int.le_refl _⟩⟩
      · exact ⟨by (first | omega | (simp; omega) | simp), fun o => by (first | (go_keep; done) | (go_simp; done)), all10 (by show _ = some (Value.int .i64 (p 0)); (first | (go_keep; done) | (go_simp; done))) (by show _ = some (Value.int .i64 (p 1)); (first | (go_keep; done) | (go_simp; done))) (by show _ = some (Value.int .i64 (p 2)); (first | (go_keep; done) | (go_simp; done))) (by show _ = some (Value.int .i64 (p 3)); (first | (go_keep; done) | (go_simp; done))) (by show _ = some (Value.int .i64 (p 4)); (first | (go_keep; done) | (go_simp; done))) (by show _ = some (Value.int .i64 (q 5)); (first | (go_keep; done) | (go_simp; done))) (by show _ = some (Value.int .i64 (p 6)); (first | (go_keep; done) | (go_simp; done))) (by show _ = some (Value.int .i64 (p 7)); (first | (go_keep; done) | (go_simp; done))) (by show _ = some (Value.int .i64 (p 8)); (first | (go_keep; done) | (go_simp; done))) (by show _ = some (Value.int .i64 (p 9)); (first | (go_keep; done) | (go_simp; done)))⟩
      · exact ⟨by (first | omega | (simp; omega) | simp), fun o => by (first | (go_keep; done) | (go_simp; done)), all10 (by show _ = some (Value.int .i64 (q 0)); (first | (go_keep; done) | (go_simp; done))) (by show _ = some (Value.int .i64 (q 1)); (first | (go_keep; done) | (go_simp; done))) (by show _ = some (Value.int .i64 (q 2)); (first | (go_keep; done) | (go_simp; done))) (by show _ = some (Value.int .i64 (q 3)); (first | (go_keep; done) | (go_simp; done))) (by show _ = some (Value.int .i64 (p 4)); (first | (go_keep; done) | (go_simp; done))) (by show _ = some (Value.int .i64 (q 5)); (first | (go_keep; done) | (go_simp; done))) (by show _ = some (Value.int .i64 (q 6)); (first | (go_keep; done) | (go_simp; done))) (by show _ = some (Value.int .i64 (q 7)); (first | (go_keep; done) | (go_simp; done))) (by show _ = some (Value.int .i64 (q 8)); (first | (go_keep; done) | (go_simp; done))) (by show _ = some (Value.int .i64 (q 9)); (first | (go_keep; done) | (go_simp; done)))⟩
      · exact ⟨by (first | omega | (simp; omega) | simp), fun o => by (first | (go_keep; done) | (go_simp; done)), all9 (by show _ = some (Value.slice A1 n1 c1); (first | (go_keep; done) | (go_simp; done))) (by show _ = some (Value.int .i64 (r 1)); (first | (go_keep; done) | (go_simp; done))) (by show _ = some (Value.int .i64 (r 2)); (first | (go_keep; done) | (go_simp; done))) (by show _ = some (Value.int .i64 (r 3)); (first | (go_keep; done) | (go_simp; done))) (by show _ = some (Value.int .i64 (r 4)); (first | (go_keep; done) | (go_simp; done))) (by show _ = some (Value.int .i64 (r 5)); (first | (go_keep; done) | (go_simp; done))) (by show _ = some (Value.int .i64 (r 6)); (first | (go_keep; done) | (go_simp; done))) (by show _ = some (Value.int .i64 (r 7)); (first | (go_keep; done) | (go_simp; done))) (by show _ = some (Value.int .i64 (r 8)); (first | (go_keep; done) | (go_simp; done)))⟩
    · go_wp2
      go_meet
      refine ⟨(fun j => [p 0, p 1, p 2, p 3, p 4, p 5, p 6, p 7, p 8, p 9].getD j 0), (fun j => [q 0, q 1, q 2, q 3, p 4, q 5, q 6, q 7, q 8, q 9].getD j 0), Lib.hid ?_, Lib.hid ?_, Lib.hid ?_, Lib.hid (by first | exact ((((HO.out.alloc_ _).alloc_ _).alloc_ _)) | exact (((HO.out.alloc_ _).alloc_ _).alloc_ _)), Lib.hid (by (have h1 := HB1.out; (repeat (first | with_reducible exact Below.refl _ _ | with_reducible refine Below.drew ?_ | with_reducible refine below_drewN ?_ _ | (with_reducible refine bel_alloc ?_ ?_ _; (first | omega | (simp; omega) | simp)) | (with_reducible refine bel_set ?_ ?_ _; (first | omega | (simp; omega) | simp)) | (with_reducible refine bel_tr (by assumption) ?_ ?_; (first | omega | (simp; omega) | simp)))))), Lib.hid ⟨rfl, (show p 5 ≤ q 5 by omega)⟩⟩
      · exact ⟨by (first | omega | (simp; omega) | simp), fun o => by (first | (go_keep; done) | (go_simp; done)), all10 (by show _ = some (Value.int .i64 (p 0)); (first | (go_keep; done) | (go_simp; done))) (by show _ = some (Value.int .i64 (p 1)); (first | (go_keep; done) | (go_simp; done))) (by show _ = some (Value.int .i64 (p 2)); (first | (go_keep; done) | (go_simp; done))) (by show _ = some (Value.int .i64 (p 3)); (first | (go_keep; done) | (go_simp; done))) (by show _ = some (Value.int .i64 (p 4)); (first | (go_keep; done) | (go_simp; done))) (by show _ = some (Value.int .i64 (p 5)); (first | (go_keep; done) | (go_simp; done))) (by show _ = some (Value.int .i64 (p 6)); (first | (go_keep; done) | (go_simp; done))) (by show _ = some (Value.int .i64 (p 7)); (first | (go_keep; done) | (go_simp; done))) (by show _ = some (Value.int .i64 (p 8)); (first | (go_keep; done) | (go_simp; done))) (by show _ = some (Value.int .i64 (p 9)); (first | (go_keep; done) | (go_simp; done)))⟩
      · exact ⟨by (first | omega | (simp; omega) | simp), fun o => by (first | (go_keep; done) | (go_simp; done)), all10 (by show _ = some (Value.int .i64 (q 0)); (first | (go_keep; done) | (go_simp; done))) (by show _ = some (Value.int .i64 (q 1)); (first | (go_keep; done) | (go_simp; done))) (by show _ = some (Value.int .i64 (q 2)); (first | (go_keep; done) | (go_simp; done))) (by show _ = some (Value.int .i64 (q 3)); (first | (go_keep; done) | (go_simp; done))) (by show _ = some (Value.int .i64 (p 4)); (first | (go_keep; done) | (go_simp; done))) (by show _ = some (Value.int .i64 (q 5)); (first | (go_keep; done) | (go_simp; done))) (by show _ = some (Value.int .i64 (q 6)); (first | (go_keep; done) | (go_simp; done))) (by show _ = some (Value.int .i64 (q 7)); (first | (go_keep; done) | (go_simp; done))) (by show _ = some (Value.int .i64 (q 8)); (first | (go_keep; done) | (go_simp; done))) (by show _ = some (Value.int .i64 (q 9)); (first | (go_keep; done) | (go_simp; done)))⟩
      · exact ⟨by (first | omega | (simp; omega) | simp), fun o => by (first | (go_keep; done) | (go_simp; done)), all9 (by show _ = some (Value.slice A1 n1 c1); (first | (go_keep; done) | (go_simp; done))) (by show _ = some (Value.int .i64 (r 1)); (first | (go_keep; done) | (go_simp; done))) (by show _ = some (Value.int .i64 (r 2)); (first | (go_keep; done) | (go_simp; done))) (by show _ = some (Value.int .i64 (r 3)); (first | (go_keep; done) | (go_simp; done))) (by show _ = some (Value.int .i64 (r 4)); (first | (go_keep; done) | (go_simp; done))) (by show _ = some (Value.int .i64 (r 5)); (first | (go_keep; done) | (go_simp; done))) (by show _ = some (Value.int .i64 (r 6)); (first | (go_keep; done) | (go_simp; done))) (by show _ = some (Value.int .i64 (r 7)); (first | (go_keep; done) | (go_simp; done))) (by show _ = some (Value.int .i64 (r 8)); (first | (go_keep; done) | (go_simp; done)))⟩
  case rest =>
    obtain ⟨p', q', Y1, Y2, Y3, HO2, HB2, HS⟩ := hcut
    clear X1 X2 X3
    have pc0 : _ = some (Value.int .i64 (p' 0)) := (Y1.out).2.2 0 (by omega)
    have pc1 : _ = some (Value.int .i64 (p' 1)) := (Y1.out).2.2 1 (by omega)
    have pc2 : _ = some (Value.int .i64 (p' 2)) := (Y1.out).2.2 2 (by omega)
    have pc3 : _ = some (Value.int .i64 (p' 3)) := (Y1.out).2.2 3 (by omega)
    have pc4 : _ = some (Value.int .i64 (p' 4)) := (Y1.out).2.2 4 (by omega)
    have pc5 : _ = some (Value.int .i64 (p' 5)) := (Y1.out).2.2 5 (by omega)
    have pc6 : _ = some (Value.int .i64 (p' 6)) := (Y1.out).2.2 6 (by omega)
    have pc7 : _ = some (Value.int .i64 (p' 7)) := (Y1.out).2.2 7 (by omega)
    have pc8 : _ = some (Value.int .i64 (p' 8)) := (Y1.out).2.2 8 (by omega)
    have pc9 : _ = some (Value.int .i64 (p' 9)) := (Y1.out).2.2 9 (by omega)
    have qc0 : _ = some (Value.int .i64 (q' 0)) := (Y2.out).2.2 0 (by omega)
    have qc1 : _ = some (Value.int .i64 (q' 1)) := (Y2.out).2.2 1 (by omega)
    have qc2 : _ = some (Value.int .i64 (q' 2)) := (Y2.out).2.2 2 (by omega)
    have qc3 : _ = some (Value.int .i64 (q' 3)) := (Y2.out).2.2 3 (by omega)
    have qc4 : _ = some (Value.int .i64 (q' 4)) := (Y2.out).2.2 4 (by omega)
    have qc5 : _ = some (Value.int .i64 (q' 5)) := (Y2.out).2.2 5 (by omega)
    have qc6 : _ = some (Value.int .i64 (q' 6)) := (Y2.out).2.2 6 (by omega)
    have qc7 : _ = some (Value.int .i64 (q' 7)) := (Y2.out).2.2 7 (by omega)
    have qc8 : _ = some (Value.int .i64 (q' 8)) := (Y2.out).2.2 8 (by omega)
    have qc9 : _ = some (Value.int .i64 (q' 9)) := (Y2.out).2.2 9 (by omega)
    have rc0 : _ = some (Value.slice A1 n1 c1) := (Y3.out).2.2 0 (by omega)
    have rc1 : _ = some (Value.int .i64 (r 1)) := (Y3.out).2.2 1 (by omega)
    have rc2 : _ = some (Value.int .i64 (r 2)) := (Y3.out).2.2 2 (by omega)
    have rc3 : _ = some (Value.int .i64 (r 3)) := (Y3.out).2.2 3 (by omega)
    have rc4 : _ = some (Value.int .i64 (r 4)) := (Y3.out).2.2 4 (by omega)
    have rc5 : _ = some (Value.int .i64 (r 5)) := (Y3.out).2.2 5 (by omega)
    have rc6 : _ = some (Value.int .i64 (r 6)) := (Y3.out).2.2 6 (by omega)
    have rc7 : _ = some (Value.int .i64 (r 7)) := (Y3.out).2.2 7 (by omega)
    have rc8 : _ = some (Value.int .i64 (r 8)) := (Y3.out).2.2 8 (by omega)
    have hl0 := Y3.out.1
    have hl1 := Y1.out.1
    have hl2 := Y2.out.1
    have hR2 := Lib.hid (rdB_below HB.out HB2.out)
    have rd2 := Lib.hid HO2.out.rd
    by_cases hP : POk n1 es r p' now
    · go_wp2_with fail
      refine (ty (spec_PartyOk A1 n1 c1 es r p' now _ (by omega) (HO2.out.rd.below (by (repeat (first | with_reducible exact Below.refl _ _ | with_reducible refine Below.drew ?_ | with_reducible refine below_drewN ?_ _ | (with_reducible refine bel_alloc ?_ ?_ _; (first | omega | (simp; omega) | simp)) | (with_reducible refine bel_set ?_ ?_ _; (first | omega | (simp; omega) | simp)) | (with_reducible refine bel_tr (by assumption) ?_ ?_; (first | omega | (simp; omega) | simp))))))) hP).mono ?_
      rintro y w2 ⟨rfl, b2⟩
      have s3 := b2.size
      (try simp at s3)
      clear pc0 qc0 pc1 qc1 pc2 qc2 pc3 qc3 pc4 qc4 pc5 qc5 pc6 qc6 pc7 qc7 pc8 qc8 pc9 qc9 rc0 rc1 rc2 rc3 rc4 rc5 rc6 rc7 rc8
      have Zp3 := Lib.hid (Bx.below Y1.out b2)
      have Zq3 := Lib.hid (Bx.below Y2.out b2)
      have Zr3 := Lib.hid (Bx.below Y3.out b2)
      have HB3 : Hid (Below w.heap.size w w2) := Lib.hid (bel_tr b2 (by have h1 := HB2.out.size; omega) HB2.out)
      have HO3 := Lib.hid (Own.below HO2.out b2)
      clear b2
      have pc0 : _ = some (Value.int .i64 (p' 0)) := (Zp3.out).2.2 0 (by omega)
      have pc1 : _ = some (Value.int .i64 (p' 1)) := (Zp3.out).2.2 1 (by omega)
      have pc2 : _ = some (Value.int .i64 (p' 2)) := (Zp3.out).2.2 2 (by omega)
      have pc3 : _ = some (Value.int .i64 (p' 3)) := (Zp3.out).2.2 3 (by omega)
      have pc4 : _ = some (Value.int .i64 (p' 4)) := (Zp3.out).2.2 4 (by omega)
      have pc5 : _ = some (Value.int .i64 (p' 5)) := (Zp3.out).2.2 5 (by omega)
      have pc6 : _ = some (Value.int .i64 (p' 6)) := (Zp3.out).2.2 6 (by omega)
      have pc7 : _ = some (Value.int .i64 (p' 7)) := (Zp3.out).2.2 7 (by omega)
      have pc8 : _ = some (Value.int .i64 (p' 8)) := (Zp3.out).2.2 8 (by omega)
      have pc9 : _ = some (Value.int .i64 (p' 9)) := (Zp3.out).2.2 9 (by omega)
      have qc0 : _ = some (Value.int .i64 (q' 0)) := (Zq3.out).2.2 0 (by omega)
      have qc1 : _ = some (Value.int .i64 (q' 1)) := (Zq3.out).2.2 1 (by omega)
      have qc2 : _ = some (Value.int .i64 (q' 2)) := (Zq3.out).2.2 2 (by omega)
      have qc3 : _ = some (Value.int .i64 (q' 3)) := (Zq3.out).2.2 3 (by omega)
      have qc4 : _ = some (Value.int .i64 (q' 4)) := (Zq3.out).2.2 4 (by omega)
      have qc5 : _ = some (Value.int .i64 (q' 5)) := (Zq3.out).2.2 5 (by omega)
      have qc6 : _ = some (Value.int .i64 (q' 6)) := (Zq3.out).2.2 6 (by omega)
      have qc7 : _ = some (Value.int .i64 (q' 7)) := (Zq3.out).2.2 7 (by omega)
      have qc8 : _ = some (Value.int .i64 (q' 8)) := (Zq3.out).2.2 8 (by omega)
      have qc9 : _ = some (Value.int .i64 (q' 9)) := (Zq3.out).2.2 9 (by omega)
      have rc0 : _ = some (Value.slice A1 n1 c1) := (Zr3.out).2.2 0 (by omega)
      have rc1 : _ = some (Value.int .i64 (r 1)) := (Zr3.out).2.2 1 (by omega)
      have rc2 : _ = some (Value.int .i64 (r 2)) := (Zr3.out).2.2 2 (by omega)
      have rc3 : _ = some (Value.int .i64 (r 3)) := (Zr3.out).2.2 3 (by omega)
      have rc4 : _ = some (Value.int .i64 (r 4)) := (Zr3.out).2.2 4 (by omega)
      have rc5 : _ = some (Value.int .i64 (r 5)) := (Zr3.out).2.2 5 (by omega)
      have rc6 : _ = some (Value.int .i64 (r 6)) := (Zr3.out).2.2 6 (by omega)
      have rc7 : _ = some (Value.int .i64 (r 7)) := (Zr3.out).2.2 7 (by omega)
      have rc8 : _ = some (Value.int .i64 (r 8)) := (Zr3.out).2.2 8 (by omega)
      by_cases hQ : POk n1 es r q' now
      · go_wp2_with fail
        refine (ty (spec_PartyOk A1 n1 c1 es r q' now _ (by omega) (HO3.out.rd.below (by (repeat (first | with_reducible exact Below.refl _ _ | with_reducible refine Below.drew ?_ | with_reducible refine below_drewN ?_ _ | (with_reducible refine bel_alloc ?_ ?_ _; (first | omega | (simp; omega) | simp)) | (with_reducible refine bel_set ?_ ?_ _; (first | omega | (simp; omega) | simp)) | (with_reducible refine bel_tr (by assumption) ?_ ?_; (first | omega | (simp; omega) | simp))))))) hQ).mono ?_
        rintro y w3 ⟨rfl, b3⟩
        have s4 := b3.size
        (try simp at s4)
        clear pc0 qc0 pc1 qc1 pc2 qc2 pc3 qc3 pc4 qc4 pc5 qc5 pc6 qc6 pc7 qc7 pc8 qc8 pc9 qc9 rc0 rc1 rc2 rc3 rc4 rc5 rc6 rc7 rc8
        have Zp4 := Lib.hid (Bx.below Zp3.out b3)
        have Zq4 := Lib.hid (Bx.below Zq3.out b3)
        have Zr4 := Lib.hid (Bx.below Zr3.out b3)
        have HB4 : Hid (Below w.heap.size w w3) := Lib.hid (bel_tr b3 (by have h1 := HB3.out.size; omega) HB3.out)
        have HO4 := Lib.hid (Own.below HO3.out b3)
        clear b3
        have pc0 : _ = some (Value.int .i64 (p' 0)) := (Zp4.out).2.2 0 (by omega)
        have pc1 : _ = some (Value.int .i64 (p' 1)) := (Zp4.out).2.2 1 (by omega)
        have pc2 : _ = some (Value.int .i64 (p' 2)) := (Zp4.out).2.2 2 (by omega)
        have pc3 : _ = some (Value.int .i64 (p' 3)) := (Zp4.out).2.2 3 (by omega)
        have pc4 : _ = some (Value.int .i64 (p' 4)) := (Zp4.out).2.2 4 (by omega)
        have pc5 : _ = some (Value.int .i64 (p' 5)) := (Zp4.out).2.2 5 (by omega)
        have pc6 : _ = some (Value.int .i64 (p' 6)) := (Zp4.out).2.2 6 (by omega)
        have pc7 : _ = some (Value.int .i64 (p' 7)) := (Zp4.out).2.2 7 (by omega)
        have pc8 : _ = some (Value.int .i64 (p' 8)) := (Zp4.out).2.2 8 (by omega)
        have pc9 : _ = some (Value.int .i64 (p' 9)) := (Zp4.out).2.2 9 (by omega)
        have qc0 : _ = some (Value.int .i64 (q' 0)) := (Zq4.out).2.2 0 (by omega)
        have qc1 : _ = some (Value.int .i64 (q' 1)) := (Zq4.out).2.2 1 (by omega)
        have qc2 : _ = some (Value.int .i64 (q' 2)) := (Zq4.out).2.2 2 (by omega)
        have qc3 : _ = some (Value.int .i64 (q' 3)) := (Zq4.out).2.2 3 (by omega)
        have qc4 : _ = some (Value.int .i64 (q' 4)) := (Zq4.out).2.2 4 (by omega)
        have qc5 : _ = some (Value.int .i64 (q' 5)) := (Zq4.out).2.2 5 (by omega)
        have qc6 : _ = some (Value.int .i64 (q' 6)) := (Zq4.out).2.2 6 (by omega)
        have qc7 : _ = some (Value.int .i64 (q' 7)) := (Zq4.out).2.2 7 (by omega)
        have qc8 : _ = some (Value.int .i64 (q' 8)) := (Zq4.out).2.2 8 (by omega)
        have qc9 : _ = some (Value.int .i64 (q' 9)) := (Zq4.out).2.2 9 (by omega)
        have rc0 : _ = some (Value.slice A1 n1 c1) := (Zr4.out).2.2 0 (by omega)
        have rc1 : _ = some (Value.int .i64 (r 1)) := (Zr4.out).2.2 1 (by omega)
        have rc2 : _ = some (Value.int .i64 (r 2)) := (Zr4.out).2.2 2 (by omega)
        have rc3 : _ = some (Value.int .i64 (r 3)) := (Zr4.out).2.2 3 (by omega)
        have rc4 : _ = some (Value.int .i64 (r 4)) := (Zr4.out).2.2 4 (by omega)
        have rc5 : _ = some (Value.int .i64 (r 5)) := (Zr4.out).2.2 5 (by omega)
        have rc6 : _ = some (Value.int .i64 (r 6)) := (Zr4.out).2.2 6 (by omega)
        have rc7 : _ = some (Value.int .i64 (r 7)) := (Zr4.out).2.2 7 (by omega)
        have rc8 : _ = some (Value.int .i64 (r 8)) := (Zr4.out).2.2 8 (by omega)
        by_cases ht : p' 6 < q' 6
        · have hge : ¬ q' 6 ≤ p' 6 := by omega
          have hb0 := hP.lv
          have hnow : 0 ≤ now ∧ now ≤ 1000000 := by omega
          obtain ⟨hnow0, hnow1⟩ := hnow
          clear hb0
          go_wp2_with fail
          refine (at0_any A n c 1 _ hn (by omega) (rdB_below HB.out HB4.out)).mono ?_
          rintro y _ ⟨x, rfl, ⟨x0, x1⟩, rfl⟩
          obtain ⟨th, hth⟩ : ∃ th : Int, th = if now + x < 1000000 then now + x else 1000000 := ⟨_, rfl⟩
          have hth1 : now ≤ th ∧ th ≤ 1000000 := by rw [hth]; split <;> omega
          have HTH := Lib.hid hth
          clear hth
          go_wp2_with fail
          refine (low_at HTH.out).mono ?_
          rintro y _ ⟨rfl, rfl⟩
          have T1 := Lib.hid (ot_then hP hth1.1 hth1.2)
          have T2 := Lib.hid (ot_then hQ hth1.1 hth1.2)
          have K1 := Lib.hid (ot_before hP hQ HS.out.1 HS.out.2 ht)
          have K2 := Lib.hid (ot_not hP hQ HS.out.1 HS.out.2 ht)
          have K3 := Lib.hid (ot_before T1.out T2.out HS.out.1 HS.out.2 ht)
          have K4 : lvlV r p' th ≤ lvlV r p' now := ot_level hP T1.out hth1.1
          have hPh := Lib.hid hP
          clear hP hQ
          have HOX := Lib.hid HO4.out
          obtain ⟨l1, hl1'⟩ : ∃ l1 : Int, l1 = lvlV r p' th := ⟨_, rfl⟩
          obtain ⟨l2, hl2'⟩ : ∃ l2 : Int, l2 = lvlV r p' now := ⟨_, rfl⟩
          rw [← hl1', ← hl2'] at K4
          have HL1 := Lib.hid hl1'
          have HL2 := Lib.hid hl2'
          clear hl1' hl2'
          go_wp2
          refine wp_region_bw (by kernel_rfl) (by kernel_rfl) (fun W hW => ?_)
          have q0 : ∀ pq : BW W, pq.w.cell? ⟨w1.heap.size, 0, none⟩ = some (.slice A1 n1 c1) := fun pq => pq.cell (by rw [hW]; omega) (by rw [hW]; assumption)
          have q1 : ∀ pq : BW W, pq.w.cell? ⟨w1.heap.size, 1, none⟩ = some (.int .i64 (r 1)) := fun pq => pq.cell (by rw [hW]; omega) (by rw [hW]; assumption)
          have q2 : ∀ pq : BW W, pq.w.cell? ⟨w1.heap.size, 2, none⟩ = some (.int .i64 (r 2)) := fun pq => pq.cell (by rw [hW]; omega) (by rw [hW]; assumption)
          have q3 : ∀ pq : BW W, pq.w.cell? ⟨w1.heap.size, 3, none⟩ = some (.int .i64 (r 3)) := fun pq => pq.cell (by rw [hW]; omega) (by rw [hW]; assumption)
          have q4 : ∀ pq : BW W, pq.w.cell? ⟨w1.heap.size, 4, none⟩ = some (.int .i64 (r 4)) := fun pq => pq.cell (by rw [hW]; omega) (by rw [hW]; assumption)
          have q5 : ∀ pq : BW W, pq.w.cell? ⟨w1.heap.size, 5, none⟩ = some (.int .i64 (r 5)) := fun pq => pq.cell (by rw [hW]; omega) (by rw [hW]; assumption)
          have q6 : ∀ pq : BW W, pq.w.cell? ⟨w1.heap.size, 6, none⟩ = some (.int .i64 (r 6)) := fun pq => pq.cell (by rw [hW]; omega) (by rw [hW]; assumption)
          have q7 : ∀ pq : BW W, pq.w.cell? ⟨w1.heap.size, 7, none⟩ = some (.int .i64 (r 7)) := fun pq => pq.cell (by rw [hW]; omega) (by rw [hW]; assumption)
          have q8 : ∀ pq : BW W, pq.w.cell? ⟨w1.heap.size, 8, none⟩ = some (.int .i64 (r 8)) := fun pq => pq.cell (by rw [hW]; omega) (by rw [hW]; assumption)
          have q9 : ∀ pq : BW W, pq.w.cell? ⟨w1.heap.size + 1, 0, none⟩ = some (.int .i64 (p' 0)) := fun pq => pq.cell (by rw [hW]; omega) (by rw [hW]; assumption)
          have q10 : ∀ pq : BW W, pq.w.cell? ⟨w1.heap.size + 1, 1, none⟩ = some (.int .i64 (p' 1)) := fun pq => pq.cell (by rw [hW]; omega) (by rw [hW]; assumption)
          have q11 : ∀ pq : BW W, pq.w.cell? ⟨w1.heap.size + 1, 2, none⟩ = some (.int .i64 (p' 2)) := fun pq => pq.cell (by rw [hW]; omega) (by rw [hW]; assumption)
          have q12 : ∀ pq : BW W, pq.w.cell? ⟨w1.heap.size + 1, 3, none⟩ = some (.int .i64 (p' 3)) := fun pq => pq.cell (by rw [hW]; omega) (by rw [hW]; assumption)
          have q13 : ∀ pq : BW W, pq.w.cell? ⟨w1.heap.size + 1, 4, none⟩ = some (.int .i64 (p' 4)) := fun pq => pq.cell (by rw [hW]; omega) (by rw [hW]; assumption)
          have q14 : ∀ pq : BW W, pq.w.cell? ⟨w1.heap.size + 1, 5, none⟩ = some (.int .i64 (p' 5)) := fun pq => pq.cell (by rw [hW]; omega) (by rw [hW]; assumption)
          have q15 : ∀ pq : BW W, pq.w.cell? ⟨w1.heap.size + 1, 6, none⟩ = some (.int .i64 (p' 6)) := fun pq => pq.cell (by rw [hW]; omega) (by rw [hW]; assumption)
          have q16 : ∀ pq : BW W, pq.w.cell? ⟨w1.heap.size + 1, 7, none⟩ = some (.int .i64 (p' 7)) := fun pq => pq.cell (by rw [hW]; omega) (by rw [hW]; assumption)
          have q17 : ∀ pq : BW W, pq.w.cell? ⟨w1.heap.size + 1, 8, none⟩ = some (.int .i64 (p' 8)) := fun pq => pq.cell (by rw [hW]; omega) (by rw [hW]; assumption)
          have q18 : ∀ pq : BW W, pq.w.cell? ⟨w1.heap.size + 1, 9, none⟩ = some (.int .i64 (p' 9)) := fun pq => pq.cell (by rw [hW]; omega) (by rw [hW]; assumption)
          have q19 : ∀ pq : BW W, pq.w.cell? ⟨w1.heap.size + 1 + 1, 0, none⟩ = some (.int .i64 (q' 0)) := fun pq => pq.cell (by rw [hW]; omega) (by rw [hW]; assumption)
          have q20 : ∀ pq : BW W, pq.w.cell? ⟨w1.heap.size + 1 + 1, 1, none⟩ = some (.int .i64 (q' 1)) := fun pq => pq.cell (by rw [hW]; omega) (by rw [hW]; assumption)
          have q21 : ∀ pq : BW W, pq.w.cell? ⟨w1.heap.size + 1 + 1, 2, none⟩ = some (.int .i64 (q' 2)) := fun pq => pq.cell (by rw [hW]; omega) (by rw [hW]; assumption)
          have q22 : ∀ pq : BW W, pq.w.cell? ⟨w1.heap.size + 1 + 1, 3, none⟩ = some (.int .i64 (q' 3)) := fun pq => pq.cell (by rw [hW]; omega) (by rw [hW]; assumption)
          have q23 : ∀ pq : BW W, pq.w.cell? ⟨w1.heap.size + 1 + 1, 4, none⟩ = some (.int .i64 (q' 4)) := fun pq => pq.cell (by rw [hW]; omega) (by rw [hW]; assumption)
          have q24 : ∀ pq : BW W, pq.w.cell? ⟨w1.heap.size + 1 + 1, 5, none⟩ = some (.int .i64 (q' 5)) := fun pq => pq.cell (by rw [hW]; omega) (by rw [hW]; assumption)
          have q25 : ∀ pq : BW W, pq.w.cell? ⟨w1.heap.size + 1 + 1, 6, none⟩ = some (.int .i64 (q' 6)) := fun pq => pq.cell (by rw [hW]; omega) (by rw [hW]; assumption)
          have q26 : ∀ pq : BW W, pq.w.cell? ⟨w1.heap.size + 1 + 1, 7, none⟩ = some (.int .i64 (q' 7)) := fun pq => pq.cell (by rw [hW]; omega) (by rw [hW]; assumption)
          have q27 : ∀ pq : BW W, pq.w.cell? ⟨w1.heap.size + 1 + 1, 8, none⟩ = some (.int .i64 (q' 8)) := fun pq => pq.cell (by rw [hW]; omega) (by rw [hW]; assumption)
          have q28 : ∀ pq : BW W, pq.w.cell? ⟨w1.heap.size + 1 + 1, 9, none⟩ = some (.int .i64 (q' 9)) := fun pq => pq.cell (by rw [hW]; omega) (by rw [hW]; assumption)
          have hbW : Below w.heap.size w W := by rw [hW]; exact HB4.out
          have hrd : ∀ pq : BW W, Rd pq.w 1 A1 n1 es := fun pq => Rd.below (by rw [hW]; exact HOX.out.rd) pq.below
          clear hW
          repeat (go_big_quiet_step ((first | (go_at_call 11; with_reducible exact bw_of (ty (impl_Before A1 n1 c1 es r p' q' now _ (by omega) (hrd _)) K1.out)) | (go_at_call 11; with_reducible exact bw_of (tn (impl_Before A1 n1 c1 es r q' p' now _ (by omega) (hrd _)) K2.out)) | (go_at_call 11; with_reducible exact bw_of (ty (impl_Before A1 n1 c1 es r p' q' th _ (by omega) (hrd _)) K3.out)) | (go_at_call 15; with_reducible exact bw_of (lv_at HL1.out (lvy (impl_LevelOf A1 n1 c1 es r p' th _ (by omega) (hrd _)) T1.out))) | (go_at_call 15; with_reducible exact bw_of (lv_at HL2.out (lvy (impl_LevelOf A1 n1 c1 es r p' now _ (by omega) (hrd _)) hPh.out))))))
          refine wpQuiet_nil ?_
          intro wq hq
          have hbq : Below w.heap.size w wq := by (obtain ⟨p, hp⟩ := hq; rw [hp]; exact hbW.trans (p.below.mono hbW.size))
          clear hq hrd hbW q0 q1 q2 q3 q4 q5 q6 q7 q8 q9 q10 q11 q12 q13 q14 q15 q16 q17 q18 q19 q20 q21 q22 q23 q24 q25 q26 q27 q28
          go_wp2
          go_ret
          exact ⟨rfl, hbq⟩
        · have hge : q' 6 ≤ p' 6 := by omega
          have HOX := Lib.hid HO4.out
          go_wp2
          by_cases hbf : befP n1 es r p' q' now
          · skip
            refine wp_region_bw (by kernel_rfl) (by kernel_rfl) (fun W hW => ?_)
            have q0 : ∀ pq : BW W, pq.w.cell? ⟨w1.heap.size, 0, none⟩ = some (.slice A1 n1 c1) := fun pq => pq.cell (by rw [hW]; omega) (by rw [hW]; assumption)
            have q1 : ∀ pq : BW W, pq.w.cell? ⟨w1.heap.size, 1, none⟩ = some (.int .i64 (r 1)) := fun pq => pq.cell (by rw [hW]; omega) (by rw [hW]; assumption)
            have q2 : ∀ pq : BW W, pq.w.cell? ⟨w1.heap.size, 2, none⟩ = some (.int .i64 (r 2)) := fun pq => pq.cell (by rw [hW]; omega) (by rw [hW]; assumption)
            have q3 : ∀ pq : BW W, pq.w.cell? ⟨w1.heap.size, 3, none⟩ = some (.int .i64 (r 3)) := fun pq => pq.cell (by rw [hW]; omega) (by rw [hW]; assumption)
            have q4 : ∀ pq : BW W, pq.w.cell? ⟨w1.heap.size, 4, none⟩ = some (.int .i64 (r 4)) := fun pq => pq.cell (by rw [hW]; omega) (by rw [hW]; assumption)
            have q5 : ∀ pq : BW W, pq.w.cell? ⟨w1.heap.size, 5, none⟩ = some (.int .i64 (r 5)) := fun pq => pq.cell (by rw [hW]; omega) (by rw [hW]; assumption)
            have q6 : ∀ pq : BW W, pq.w.cell? ⟨w1.heap.size, 6, none⟩ = some (.int .i64 (r 6)) := fun pq => pq.cell (by rw [hW]; omega) (by rw [hW]; assumption)
            have q7 : ∀ pq : BW W, pq.w.cell? ⟨w1.heap.size, 7, none⟩ = some (.int .i64 (r 7)) := fun pq => pq.cell (by rw [hW]; omega) (by rw [hW]; assumption)
            have q8 : ∀ pq : BW W, pq.w.cell? ⟨w1.heap.size, 8, none⟩ = some (.int .i64 (r 8)) := fun pq => pq.cell (by rw [hW]; omega) (by rw [hW]; assumption)
            have q9 : ∀ pq : BW W, pq.w.cell? ⟨w1.heap.size + 1, 0, none⟩ = some (.int .i64 (p' 0)) := fun pq => pq.cell (by rw [hW]; omega) (by rw [hW]; assumption)
            have q10 : ∀ pq : BW W, pq.w.cell? ⟨w1.heap.size + 1, 1, none⟩ = some (.int .i64 (p' 1)) := fun pq => pq.cell (by rw [hW]; omega) (by rw [hW]; assumption)
            have q11 : ∀ pq : BW W, pq.w.cell? ⟨w1.heap.size + 1, 2, none⟩ = some (.int .i64 (p' 2)) := fun pq => pq.cell (by rw [hW]; omega) (by rw [hW]; assumption)
            have q12 : ∀ pq : BW W, pq.w.cell? ⟨w1.heap.size + 1, 3, none⟩ = some (.int .i64 (p' 3)) := fun pq => pq.cell (by rw [hW]; omega) (by rw [hW]; assumption)
            have q13 : ∀ pq : BW W, pq.w.cell? ⟨w1.heap.size + 1, 4, none⟩ = some (.int .i64 (p' 4)) := fun pq => pq.cell (by rw [hW]; omega) (by rw [hW]; assumption)
            have q14 : ∀ pq : BW W, pq.w.cell? ⟨w1.heap.size + 1, 5, none⟩ = some (.int .i64 (p' 5)) := fun pq => pq.cell (by rw [hW]; omega) (by rw [hW]; assumption)
            have q15 : ∀ pq : BW W, pq.w.cell? ⟨w1.heap.size + 1, 6, none⟩ = some (.int .i64 (p' 6)) := fun pq => pq.cell (by rw [hW]; omega) (by rw [hW]; assumption)
            have q16 : ∀ pq : BW W, pq.w.cell? ⟨w1.heap.size + 1, 7, none⟩ = some (.int .i64 (p' 7)) := fun pq => pq.cell (by rw [hW]; omega) (by rw [hW]; assumption)
            have q17 : ∀ pq : BW W, pq.w.cell? ⟨w1.heap.size + 1, 8, none⟩ = some (.int .i64 (p' 8)) := fun pq => pq.cell (by rw [hW]; omega) (by rw [hW]; assumption)
            have q18 : ∀ pq : BW W, pq.w.cell? ⟨w1.heap.size + 1, 9, none⟩ = some (.int .i64 (p' 9)) := fun pq => pq.cell (by rw [hW]; omega) (by rw [hW]; assumption)
            have q19 : ∀ pq : BW W, pq.w.cell? ⟨w1.heap.size + 1 + 1, 0, none⟩ = some (.int .i64 (q' 0)) := fun pq => pq.cell (by rw [hW]; omega) (by rw [hW]; assumption)
            have q20 : ∀ pq : BW W, pq.w.cell? ⟨w1.heap.size + 1 + 1, 1, none⟩ = some (.int .i64 (q' 1)) := fun pq => pq.cell (by rw [hW]; omega) (by rw [hW]; assumption)
            have q21 : ∀ pq : BW W, pq.w.cell? ⟨w1.heap.size + 1 + 1, 2, none⟩ = some (.int .i64 (q' 2)) := fun pq => pq.cell (by rw [hW]; omega) (by rw [hW]; assumption)
            have q22 : ∀ pq : BW W, pq.w.cell? ⟨w1.heap.size + 1 + 1, 3, none⟩ = some (.int .i64 (q' 3)) := fun pq => pq.cell (by rw [hW]; omega) (by rw [hW]; assumption)
            have q23 : ∀ pq : BW W, pq.w.cell? ⟨w1.heap.size + 1 + 1, 4, none⟩ = some (.int .i64 (q' 4)) := fun pq => pq.cell (by rw [hW]; omega) (by rw [hW]; assumption)
            have q24 : ∀ pq : BW W, pq.w.cell? ⟨w1.heap.size + 1 + 1, 5, none⟩ = some (.int .i64 (q' 5)) := fun pq => pq.cell (by rw [hW]; omega) (by rw [hW]; assumption)
            have q25 : ∀ pq : BW W, pq.w.cell? ⟨w1.heap.size + 1 + 1, 6, none⟩ = some (.int .i64 (q' 6)) := fun pq => pq.cell (by rw [hW]; omega) (by rw [hW]; assumption)
            have q26 : ∀ pq : BW W, pq.w.cell? ⟨w1.heap.size + 1 + 1, 7, none⟩ = some (.int .i64 (q' 7)) := fun pq => pq.cell (by rw [hW]; omega) (by rw [hW]; assumption)
            have q27 : ∀ pq : BW W, pq.w.cell? ⟨w1.heap.size + 1 + 1, 8, none⟩ = some (.int .i64 (q' 8)) := fun pq => pq.cell (by rw [hW]; omega) (by rw [hW]; assumption)
            have q28 : ∀ pq : BW W, pq.w.cell? ⟨w1.heap.size + 1 + 1, 9, none⟩ = some (.int .i64 (q' 9)) := fun pq => pq.cell (by rw [hW]; omega) (by rw [hW]; assumption)
            have hbW : Below w.heap.size w W := by rw [hW]; exact HB4.out
            have hrd : ∀ pq : BW W, Rd pq.w 1 A1 n1 es := fun pq => Rd.below (by rw [hW]; exact HOX.out.rd) pq.below
            clear hW
            repeat (go_big_quiet_step ((first | (go_at_call 11; exact bw_of (ty (impl_Before A1 n1 c1 es r p' q' now _ (by omega) (hrd _)) hbf)) | (go_at_call 12; exact bw_of (ty (spec_Before A1 n1 c1 es r p' q' now _ (by omega) (hrd _)) hbf)))))
            refine wpQuiet_nil ?_
            intro wq hq
            have hbq : Below w.heap.size w wq := by (obtain ⟨p, hp⟩ := hq; rw [hp]; exact hbW.trans (p.below.mono hbW.size))
            clear hq hrd hbW q0 q1 q2 q3 q4 q5 q6 q7 q8 q9 q10 q11 q12 q13 q14 q15 q16 q17 q18 q19 q20 q21 q22 q23 q24 q25 q26 q27 q28
            go_wp2
            go_ret
            exact ⟨rfl, hbq⟩
          · skip
            refine wp_region_bw (by kernel_rfl) (by kernel_rfl) (fun W hW => ?_)
            have q0 : ∀ pq : BW W, pq.w.cell? ⟨w1.heap.size, 0, none⟩ = some (.slice A1 n1 c1) := fun pq => pq.cell (by rw [hW]; omega) (by rw [hW]; assumption)
            have q1 : ∀ pq : BW W, pq.w.cell? ⟨w1.heap.size, 1, none⟩ = some (.int .i64 (r 1)) := fun pq => pq.cell (by rw [hW]; omega) (by rw [hW]; assumption)
            have q2 : ∀ pq : BW W, pq.w.cell? ⟨w1.heap.size, 2, none⟩ = some (.int .i64 (r 2)) := fun pq => pq.cell (by rw [hW]; omega) (by rw [hW]; assumption)
            have q3 : ∀ pq : BW W, pq.w.cell? ⟨w1.heap.size, 3, none⟩ = some (.int .i64 (r 3)) := fun pq => pq.cell (by rw [hW]; omega) (by rw [hW]; assumption)
            have q4 : ∀ pq : BW W, pq.w.cell? ⟨w1.heap.size, 4, none⟩ = some (.int .i64 (r 4)) := fun pq => pq.cell (by rw [hW]; omega) (by rw [hW]; assumption)
            have q5 : ∀ pq : BW W, pq.w.cell? ⟨w1.heap.size, 5, none⟩ = some (.int .i64 (r 5)) := fun pq => pq.cell (by rw [hW]; omega) (by rw [hW]; assumption)
            have q6 : ∀ pq : BW W, pq.w.cell? ⟨w1.heap.size, 6, none⟩ = some (.int .i64 (r 6)) := fun pq => pq.cell (by rw [hW]; omega) (by rw [hW]; assumption)
            have q7 : ∀ pq : BW W, pq.w.cell? ⟨w1.heap.size, 7, none⟩ = some (.int .i64 (r 7)) := fun pq => pq.cell (by rw [hW]; omega) (by rw [hW]; assumption)
            have q8 : ∀ pq : BW W, pq.w.cell? ⟨w1.heap.size, 8, none⟩ = some (.int .i64 (r 8)) := fun pq => pq.cell (by rw [hW]; omega) (by rw [hW]; assumption)
            have q9 : ∀ pq : BW W, pq.w.cell? ⟨w1.heap.size + 1, 0, none⟩ = some (.int .i64 (p' 0)) := fun pq => pq.cell (by rw [hW]; omega) (by rw [hW]; assumption)
            have q10 : ∀ pq : BW W, pq.w.cell? ⟨w1.heap.size + 1, 1, none⟩ = some (.int .i64 (p' 1)) := fun pq => pq.cell (by rw [hW]; omega) (by rw [hW]; assumption)
            have q11 : ∀ pq : BW W, pq.w.cell? ⟨w1.heap.size + 1, 2, none⟩ = some (.int .i64 (p' 2)) := fun pq => pq.cell (by rw [hW]; omega) (by rw [hW]; assumption)
            have q12 : ∀ pq : BW W, pq.w.cell? ⟨w1.heap.size + 1, 3, none⟩ = some (.int .i64 (p' 3)) := fun pq => pq.cell (by rw [hW]; omega) (by rw [hW]; assumption)
            have q13 : ∀ pq : BW W, pq.w.cell? ⟨w1.heap.size + 1, 4, none⟩ = some (.int .i64 (p' 4)) := fun pq => pq.cell (by rw [hW]; omega) (by rw [hW]; assumption)
            have q14 : ∀ pq : BW W, pq.w.cell? ⟨w1.heap.size + 1, 5, none⟩ = some (.int .i64 (p' 5)) := fun pq => pq.cell (by rw [hW]; omega) (by rw [hW]; assumption)
            have q15 : ∀ pq : BW W, pq.w.cell? ⟨w1.heap.size + 1, 6, none⟩ = some (.int .i64 (p' 6)) := fun pq => pq.cell (by rw [hW]; omega) (by rw [hW]; assumption)
            have q16 : ∀ pq : BW W, pq.w.cell? ⟨w1.heap.size + 1, 7, none⟩ = some (.int .i64 (p' 7)) := fun pq => pq.cell (by rw [hW]; omega) (by rw [hW]; assumption)
            have q17 : ∀ pq : BW W, pq.w.cell? ⟨w1.heap.size + 1, 8, none⟩ = some (.int .i64 (p' 8)) := fun pq => pq.cell (by rw [hW]; omega) (by rw [hW]; assumption)
            have q18 : ∀ pq : BW W, pq.w.cell? ⟨w1.heap.size + 1, 9, none⟩ = some (.int .i64 (p' 9)) := fun pq => pq.cell (by rw [hW]; omega) (by rw [hW]; assumption)
            have q19 : ∀ pq : BW W, pq.w.cell? ⟨w1.heap.size + 1 + 1, 0, none⟩ = some (.int .i64 (q' 0)) := fun pq => pq.cell (by rw [hW]; omega) (by rw [hW]; assumption)
            have q20 : ∀ pq : BW W, pq.w.cell? ⟨w1.heap.size + 1 + 1, 1, none⟩ = some (.int .i64 (q' 1)) := fun pq => pq.cell (by rw [hW]; omega) (by rw [hW]; assumption)
            have q21 : ∀ pq : BW W, pq.w.cell? ⟨w1.heap.size + 1 + 1, 2, none⟩ = some (.int .i64 (q' 2)) := fun pq => pq.cell (by rw [hW]; omega) (by rw [hW]; assumption)
            have q22 : ∀ pq : BW W, pq.w.cell? ⟨w1.heap.size + 1 + 1, 3, none⟩ = some (.int .i64 (q' 3)) := fun pq => pq.cell (by rw [hW]; omega) (by rw [hW]; assumption)
            have q23 : ∀ pq : BW W, pq.w.cell? ⟨w1.heap.size + 1 + 1, 4, none⟩ = some (.int .i64 (q' 4)) := fun pq => pq.cell (by rw [hW]; omega) (by rw [hW]; assumption)
            have q24 : ∀ pq : BW W, pq.w.cell? ⟨w1.heap.size + 1 + 1, 5, none⟩ = some (.int .i64 (q' 5)) := fun pq => pq.cell (by rw [hW]; omega) (by rw [hW]; assumption)
            have q25 : ∀ pq : BW W, pq.w.cell? ⟨w1.heap.size + 1 + 1, 6, none⟩ = some (.int .i64 (q' 6)) := fun pq => pq.cell (by rw [hW]; omega) (by rw [hW]; assumption)
            have q26 : ∀ pq : BW W, pq.w.cell? ⟨w1.heap.size + 1 + 1, 7, none⟩ = some (.int .i64 (q' 7)) := fun pq => pq.cell (by rw [hW]; omega) (by rw [hW]; assumption)
            have q27 : ∀ pq : BW W, pq.w.cell? ⟨w1.heap.size + 1 + 1, 8, none⟩ = some (.int .i64 (q' 8)) := fun pq => pq.cell (by rw [hW]; omega) (by rw [hW]; assumption)
            have q28 : ∀ pq : BW W, pq.w.cell? ⟨w1.heap.size + 1 + 1, 9, none⟩ = some (.int .i64 (q' 9)) := fun pq => pq.cell (by rw [hW]; omega) (by rw [hW]; assumption)
            have hbW : Below w.heap.size w W := by rw [hW]; exact HB4.out
            have hrd : ∀ pq : BW W, Rd pq.w 1 A1 n1 es := fun pq => Rd.below (by rw [hW]; exact HOX.out.rd) pq.below
            clear hW
            repeat (go_big_quiet_step ((first | (go_at_call 11; exact bw_of (tn (impl_Before A1 n1 c1 es r p' q' now _ (by omega) (hrd _)) hbf)) | (go_at_call 12; exact bw_of (tn (spec_Before A1 n1 c1 es r p' q' now _ (by omega) (hrd _)) hbf)))))
            refine wpQuiet_nil ?_
            intro wq hq
            have hbq : Below w.heap.size w wq := by (obtain ⟨p, hp⟩ := hq; rw [hp]; exact hbW.trans (p.below.mono hbW.size))
            clear hq hrd hbW q0 q1 q2 q3 q4 q5 q6 q7 q8 q9 q10 q11 q12 q13 q14 q15 q16 q17 q18 q19 q20 q21 q22 q23 q24 q25 q26 q27 q28
            go_wp2
            go_ret
            exact ⟨rfl, hbq⟩
      · go_wp2_with fail
        refine (tn (spec_PartyOk A1 n1 c1 es r q' now _ (by omega) (HO3.out.rd.below (by (repeat (first | with_reducible exact Below.refl _ _ | with_reducible refine Below.drew ?_ | with_reducible refine below_drewN ?_ _ | (with_reducible refine bel_alloc ?_ ?_ _; (first | omega | (simp; omega) | simp)) | (with_reducible refine bel_set ?_ ?_ _; (first | omega | (simp; omega) | simp)) | (with_reducible refine bel_tr (by assumption) ?_ ?_; (first | omega | (simp; omega) | simp))))))) hQ).mono ?_
        rintro y w3 ⟨rfl, b3⟩
        have s4 := b3.size
        (try simp at s4)
        clear pc0 qc0 pc1 qc1 pc2 qc2 pc3 qc3 pc4 qc4 pc5 qc5 pc6 qc6 pc7 qc7 pc8 qc8 pc9 qc9 rc0 rc1 rc2 rc3 rc4 rc5 rc6 rc7 rc8
        have Zp4 := Lib.hid (Bx.below Zp3.out b3)
        have Zq4 := Lib.hid (Bx.below Zq3.out b3)
        have Zr4 := Lib.hid (Bx.below Zr3.out b3)
        have HB4 : Hid (Below w.heap.size w w3) := Lib.hid (bel_tr b3 (by have h1 := HB3.out.size; omega) HB3.out)
        have HO4 := Lib.hid (Own.below HO3.out b3)
        clear b3
        have pc0 : _ = some (Value.int .i64 (p' 0)) := (Zp4.out).2.2 0 (by omega)
        have pc1 : _ = some (Value.int .i64 (p' 1)) := (Zp4.out).2.2 1 (by omega)
        have pc2 : _ = some (Value.int .i64 (p' 2)) := (Zp4.out).2.2 2 (by omega)
        have pc3 : _ = some (Value.int .i64 (p' 3)) := (Zp4.out).2.2 3 (by omega)
        have pc4 : _ = some (Value.int .i64 (p' 4)) := (Zp4.out).2.2 4 (by omega)
        have pc5 : _ = some (Value.int .i64 (p' 5)) := (Zp4.out).2.2 5 (by omega)
        have pc6 : _ = some (Value.int .i64 (p' 6)) := (Zp4.out).2.2 6 (by omega)
        have pc7 : _ = some (Value.int .i64 (p' 7)) := (Zp4.out).2.2 7 (by omega)
        have pc8 : _ = some (Value.int .i64 (p' 8)) := (Zp4.out).2.2 8 (by omega)
        have pc9 : _ = some (Value.int .i64 (p' 9)) := (Zp4.out).2.2 9 (by omega)
        have qc0 : _ = some (Value.int .i64 (q' 0)) := (Zq4.out).2.2 0 (by omega)
        have qc1 : _ = some (Value.int .i64 (q' 1)) := (Zq4.out).2.2 1 (by omega)
        have qc2 : _ = some (Value.int .i64 (q' 2)) := (Zq4.out).2.2 2 (by omega)
        have qc3 : _ = some (Value.int .i64 (q' 3)) := (Zq4.out).2.2 3 (by omega)
        have qc4 : _ = some (Value.int .i64 (q' 4)) := (Zq4.out).2.2 4 (by omega)
        have qc5 : _ = some (Value.int .i64 (q' 5)) := (Zq4.out).2.2 5 (by omega)
        have qc6 : _ = some (Value.int .i64 (q' 6)) := (Zq4.out).2.2 6 (by omega)
        have qc7 : _ = some (Value.int .i64 (q' 7)) := (Zq4.out).2.2 7 (by omega)
        have qc8 : _ = some (Value.int .i64 (q' 8)) := (Zq4.out).2.2 8 (by omega)
        have qc9 : _ = some (Value.int .i64 (q' 9)) := (Zq4.out).2.2 9 (by omega)
        have rc0 : _ = some (Value.slice A1 n1 c1) := (Zr4.out).2.2 0 (by omega)
        have rc1 : _ = some (Value.int .i64 (r 1)) := (Zr4.out).2.2 1 (by omega)
        have rc2 : _ = some (Value.int .i64 (r 2)) := (Zr4.out).2.2 2 (by omega)
        have rc3 : _ = some (Value.int .i64 (r 3)) := (Zr4.out).2.2 3 (by omega)
        have rc4 : _ = some (Value.int .i64 (r 4)) := (Zr4.out).2.2 4 (by omega)
        have rc5 : _ = some (Value.int .i64 (r 5)) := (Zr4.out).2.2 5 (by omega)
        have rc6 : _ = some (Value.int .i64 (r 6)) := (Zr4.out).2.2 6 (by omega)
        have rc7 : _ = some (Value.int .i64 (r 7)) := (Zr4.out).2.2 7 (by omega)
        have rc8 : _ = some (Value.int .i64 (r 8)) := (Zr4.out).2.2 8 (by omega)
        have HOX := Lib.hid HO4.out
        go_wp2
        by_cases hbf : befP n1 es r p' q' now
        · skip
          refine wp_region_bw (by kernel_rfl) (by kernel_rfl) (fun W hW => ?_)
          have q0 : ∀ pq : BW W, pq.w.cell? ⟨w1.heap.size, 0, none⟩ = some (.slice A1 n1 c1) := fun pq => pq.cell (by rw [hW]; omega) (by rw [hW]; assumption)
          have q1 : ∀ pq : BW W, pq.w.cell? ⟨w1.heap.size, 1, none⟩ = some (.int .i64 (r 1)) := fun pq => pq.cell (by rw [hW]; omega) (by rw [hW]; assumption)
          have q2 : ∀ pq : BW W, pq.w.cell? ⟨w1.heap.size, 2, none⟩ = some (.int .i64 (r 2)) := fun pq => pq.cell (by rw [hW]; omega) (by rw [hW]; assumption)
          have q3 : ∀ pq : BW W, pq.w.cell? ⟨w1.heap.size, 3, none⟩ = some (.int .i64 (r 3)) := fun pq => pq.cell (by rw [hW]; omega) (by rw [hW]; assumption)
          have q4 : ∀ pq : BW W, pq.w.cell? ⟨w1.heap.size, 4, none⟩ = some (.int .i64 (r 4)) := fun pq => pq.cell (by rw [hW]; omega) (by rw [hW]; assumption)
          have q5 : ∀ pq : BW W, pq.w.cell? ⟨w1.heap.size, 5, none⟩ = some (.int .i64 (r 5)) := fun pq => pq.cell (by rw [hW]; omega) (by rw [hW]; assumption)
          have q6 : ∀ pq : BW W, pq.w.cell? ⟨w1.heap.size, 6, none⟩ = some (.int .i64 (r 6)) := fun pq => pq.cell (by rw [hW]; omega) (by rw [hW]; assumption)
          have q7 : ∀ pq : BW W, pq.w.cell? ⟨w1.heap.size, 7, none⟩ = some (.int .i64 (r 7)) := fun pq => pq.cell (by rw [hW]; omega) (by rw [hW]; assumption)
          have q8 : ∀ pq : BW W, pq.w.cell? ⟨w1.heap.size, 8, none⟩ = some (.int .i64 (r 8)) := fun pq => pq.cell (by rw [hW]; omega) (by rw [hW]; assumption)
          have q9 : ∀ pq : BW W, pq.w.cell? ⟨w1.heap.size + 1, 0, none⟩ = some (.int .i64 (p' 0)) := fun pq => pq.cell (by rw [hW]; omega) (by rw [hW]; assumption)
          have q10 : ∀ pq : BW W, pq.w.cell? ⟨w1.heap.size + 1, 1, none⟩ = some (.int .i64 (p' 1)) := fun pq => pq.cell (by rw [hW]; omega) (by rw [hW]; assumption)
          have q11 : ∀ pq : BW W, pq.w.cell? ⟨w1.heap.size + 1, 2, none⟩ = some (.int .i64 (p' 2)) := fun pq => pq.cell (by rw [hW]; omega) (by rw [hW]; assumption)
          have q12 : ∀ pq : BW W, pq.w.cell? ⟨w1.heap.size + 1, 3, none⟩ = some (.int .i64 (p' 3)) := fun pq => pq.cell (by rw [hW]; omega) (by rw [hW]; assumption)
          have q13 : ∀ pq : BW W, pq.w.cell? ⟨w1.heap.size + 1, 4, none⟩ = some (.int .i64 (p' 4)) := fun pq => pq.cell (by rw [hW]; omega) (by rw [hW]; assumption)
          have q14 : ∀ pq : BW W, pq.w.cell? ⟨w1.heap.size + 1, 5, none⟩ = some (.int .i64 (p' 5)) := fun pq => pq.cell (by rw [hW]; omega) (by rw [hW]; assumption)
          have q15 : ∀ pq : BW W, pq.w.cell? ⟨w1.heap.size + 1, 6, none⟩ = some (.int .i64 (p' 6)) := fun pq => pq.cell (by rw [hW]; omega) (by rw [hW]; assumption)
          have q16 : ∀ pq : BW W, pq.w.cell? ⟨w1.heap.size + 1, 7, none⟩ = some (.int .i64 (p' 7)) := fun pq => pq.cell (by rw [hW]; omega) (by rw [hW]; assumption)
          have q17 : ∀ pq : BW W, pq.w.cell? ⟨w1.heap.size + 1, 8, none⟩ = some (.int .i64 (p' 8)) := fun pq => pq.cell (by rw [hW]; omega) (by rw [hW]; assumption)
          have q18 : ∀ pq : BW W, pq.w.cell? ⟨w1.heap.size + 1, 9, none⟩ = some (.int .i64 (p' 9)) := fun pq => pq.cell (by rw [hW]; omega) (by rw [hW]; assumption)
          have q19 : ∀ pq : BW W, pq.w.cell? ⟨w1.heap.size + 1 + 1, 0, none⟩ = some (.int .i64 (q' 0)) := fun pq => pq.cell (by rw [hW]; omega) (by rw [hW]; assumption)
          have q20 : ∀ pq : BW W, pq.w.cell? ⟨w1.heap.size + 1 + 1, 1, none⟩ = some (.int .i64 (q' 1)) := fun pq => pq.cell (by rw [hW]; omega) (by rw [hW]; assumption)
          have q21 : ∀ pq : BW W, pq.w.cell? ⟨w1.heap.size + 1 + 1, 2, none⟩ = some (.int .i64 (q' 2)) := fun pq => pq.cell (by rw [hW]; omega) (by rw [hW]; assumption)
          have q22 : ∀ pq : BW W, pq.w.cell? ⟨w1.heap.size + 1 + 1, 3, none⟩ = some (.int .i64 (q' 3)) := fun pq => pq.cell (by rw [hW]; omega) (by rw [hW]; assumption)
          have q23 : ∀ pq : BW W, pq.w.cell? ⟨w1.heap.size + 1 + 1, 4, none⟩ = some (.int .i64 (q' 4)) := fun pq => pq.cell (by rw [hW]; omega) (by rw [hW]; assumption)
          have q24 : ∀ pq : BW W, pq.w.cell? ⟨w1.heap.size + 1 + 1, 5, none⟩ = some (.int .i64 (q' 5)) := fun pq => pq.cell (by rw [hW]; omega) (by rw [hW]; assumption)
          have q25 : ∀ pq : BW W, pq.w.cell? ⟨w1.heap.size + 1 + 1, 6, none⟩ = some (.int .i64 (q' 6)) := fun pq => pq.cell (by rw [hW]; omega) (by rw [hW]; assumption)
          have q26 : ∀ pq : BW W, pq.w.cell? ⟨w1.heap.size + 1 + 1, 7, none⟩ = some (.int .i64 (q' 7)) := fun pq => pq.cell (by rw [hW]; omega) (by rw [hW]; assumption)
          have q27 : ∀ pq : BW W, pq.w.cell? ⟨w1.heap.size + 1 + 1, 8, none⟩ = some (.int .i64 (q' 8)) := fun pq => pq.cell (by rw [hW]; omega) (by rw [hW]; assumption)
          have q28 : ∀ pq : BW W, pq.w.cell? ⟨w1.heap.size + 1 + 1, 9, none⟩ = some (.int .i64 (q' 9)) := fun pq => pq.cell (by rw [hW]; omega) (by rw [hW]; assumption)
          have hbW : Below w.heap.size w W := by rw [hW]; exact HB4.out
          have hrd : ∀ pq : BW W, Rd pq.w 1 A1 n1 es := fun pq => Rd.below (by rw [hW]; exact HOX.out.rd) pq.below
          clear hW
          repeat (go_big_quiet_step ((first | (go_at_call 11; exact bw_of (ty (impl_Before A1 n1 c1 es r p' q' now _ (by omega) (hrd _)) hbf)) | (go_at_call 12; exact bw_of (ty (spec_Before A1 n1 c1 es r p' q' now _ (by omega) (hrd _)) hbf)))))
          refine wpQuiet_nil ?_
          intro wq hq
          have hbq : Below w.heap.size w wq := by (obtain ⟨p, hp⟩ := hq; rw [hp]; exact hbW.trans (p.below.mono hbW.size))
          clear hq hrd hbW q0 q1 q2 q3 q4 q5 q6 q7 q8 q9 q10 q11 q12 q13 q14 q15 q16 q17 q18 q19 q20 q21 q22 q23 q24 q25 q26 q27 q28
          go_wp2
          go_ret
          exact ⟨rfl, hbq⟩
        · skip
          refine wp_region_bw (by kernel_rfl) (by kernel_rfl) (fun W hW => ?_)
          have q0 : ∀ pq : BW W, pq.w.cell? ⟨w1.heap.size, 0, none⟩ = some (.slice A1 n1 c1) := fun pq => pq.cell (by rw [hW]; omega) (by rw [hW]; assumption)
          have q1 : ∀ pq : BW W, pq.w.cell? ⟨w1.heap.size, 1, none⟩ = some (.int .i64 (r 1)) := fun pq => pq.cell (by rw [hW]; omega) (by rw [hW]; assumption)
          have q2 : ∀ pq : BW W, pq.w.cell? ⟨w1.heap.size, 2, none⟩ = some (.int .i64 (r 2)) := fun pq => pq.cell (by rw [hW]; omega) (by rw [hW]; assumption)
          have q3 : ∀ pq : BW W, pq.w.cell? ⟨w1.heap.size, 3, none⟩ = some (.int .i64 (r 3)) := fun pq => pq.cell (by rw [hW]; omega) (by rw [hW]; assumption)
          have q4 : ∀ pq : BW W, pq.w.cell? ⟨w1.heap.size, 4, none⟩ = some (.int .i64 (r 4)) := fun pq => pq.cell (by rw [hW]; omega) (by rw [hW]; assumption)
          have q5 : ∀ pq : BW W, pq.w.cell? ⟨w1.heap.size, 5, none⟩ = some (.int .i64 (r 5)) := fun pq => pq.cell (by rw [hW]; omega) (by rw [hW]; assumption)
          have q6 : ∀ pq : BW W, pq.w.cell? ⟨w1.heap.size, 6, none⟩ = some (.int .i64 (r 6)) := fun pq => pq.cell (by rw [hW]; omega) (by rw [hW]; assumption)
          have q7 : ∀ pq : BW W, pq.w.cell? ⟨w1.heap.size, 7, none⟩ = some (.int .i64 (r 7)) := fun pq => pq.cell (by rw [hW]; omega) (by rw [hW]; assumption)
          have q8 : ∀ pq : BW W, pq.w.cell? ⟨w1.heap.size, 8, none⟩ = some (.int .i64 (r 8)) := fun pq => pq.cell (by rw [hW]; omega) (by rw [hW]; assumption)
          have q9 : ∀ pq : BW W, pq.w.cell? ⟨w1.heap.size + 1, 0, none⟩ = some (.int .i64 (p' 0)) := fun pq => pq.cell (by rw [hW]; omega) (by rw [hW]; assumption)
          have q10 : ∀ pq : BW W, pq.w.cell? ⟨w1.heap.size + 1, 1, none⟩ = some (.int .i64 (p' 1)) := fun pq => pq.cell (by rw [hW]; omega) (by rw [hW]; assumption)
          have q11 : ∀ pq : BW W, pq.w.cell? ⟨w1.heap.size + 1, 2, none⟩ = some (.int .i64 (p' 2)) := fun pq => pq.cell (by rw [hW]; omega) (by rw [hW]; assumption)
          have q12 : ∀ pq : BW W, pq.w.cell? ⟨w1.heap.size + 1, 3, none⟩ = some (.int .i64 (p' 3)) := fun pq => pq.cell (by rw [hW]; omega) (by rw [hW]; assumption)
          have q13 : ∀ pq : BW W, pq.w.cell? ⟨w1.heap.size + 1, 4, none⟩ = some (.int .i64 (p' 4)) := fun pq => pq.cell (by rw [hW]; omega) (by rw [hW]; assumption)
          have q14 : ∀ pq : BW W, pq.w.cell? ⟨w1.heap.size + 1, 5, none⟩ = some (.int .i64 (p' 5)) := fun pq => pq.cell (by rw [hW]; omega) (by rw [hW]; assumption)
          have q15 : ∀ pq : BW W, pq.w.cell? ⟨w1.heap.size + 1, 6, none⟩ = some (.int .i64 (p' 6)) := fun pq => pq.cell (by rw [hW]; omega) (by rw [hW]; assumption)
          have q16 : ∀ pq : BW W, pq.w.cell? ⟨w1.heap.size + 1, 7, none⟩ = some (.int .i64 (p' 7)) := fun pq => pq.cell (by rw [hW]; omega) (by rw [hW]; assumption)
          have q17 : ∀ pq : BW W, pq.w.cell? ⟨w1.heap.size + 1, 8, none⟩ = some (.int .i64 (p' 8)) := fun pq => pq.cell (by rw [hW]; omega) (by rw [hW]; assumption)
          have q18 : ∀ pq : BW W, pq.w.cell? ⟨w1.heap.size + 1, 9, none⟩ = some (.int .i64 (p' 9)) := fun pq => pq.cell (by rw [hW]; omega) (by rw [hW]; assumption)
          have q19 : ∀ pq : BW W, pq.w.cell? ⟨w1.heap.size + 1 + 1, 0, none⟩ = some (.int .i64 (q' 0)) := fun pq => pq.cell (by rw [hW]; omega) (by rw [hW]; assumption)
          have q20 : ∀ pq : BW W, pq.w.cell? ⟨w1.heap.size + 1 + 1, 1, none⟩ = some (.int .i64 (q' 1)) := fun pq => pq.cell (by rw [hW]; omega) (by rw [hW]; assumption)
          have q21 : ∀ pq : BW W, pq.w.cell? ⟨w1.heap.size + 1 + 1, 2, none⟩ = some (.int .i64 (q' 2)) := fun pq => pq.cell (by rw [hW]; omega) (by rw [hW]; assumption)
          have q22 : ∀ pq : BW W, pq.w.cell? ⟨w1.heap.size + 1 + 1, 3, none⟩ = some (.int .i64 (q' 3)) := fun pq => pq.cell (by rw [hW]; omega) (by rw [hW]; assumption)
          have q23 : ∀ pq : BW W, pq.w.cell? ⟨w1.heap.size + 1 + 1, 4, none⟩ = some (.int .i64 (q' 4)) := fun pq => pq.cell (by rw [hW]; omega) (by rw [hW]; assumption)
          have q24 : ∀ pq : BW W, pq.w.cell? ⟨w1.heap.size + 1 + 1, 5, none⟩ = some (.int .i64 (q' 5)) := fun pq => pq.cell (by rw [hW]; omega) (by rw [hW]; assumption)
          have q25 : ∀ pq : BW W, pq.w.cell? ⟨w1.heap.size + 1 + 1, 6, none⟩ = some (.int .i64 (q' 6)) := fun pq => pq.cell (by rw [hW]; omega) (by rw [hW]; assumption)
          have q26 : ∀ pq : BW W, pq.w.cell? ⟨w1.heap.size + 1 + 1, 7, none⟩ = some (.int .i64 (q' 7)) := fun pq => pq.cell (by rw [hW]; omega) (by rw [hW]; assumption)
          have q27 : ∀ pq : BW W, pq.w.cell? ⟨w1.heap.size + 1 + 1, 8, none⟩ = some (.int .i64 (q' 8)) := fun pq => pq.cell (by rw [hW]; omega) (by rw [hW]; assumption)
          have q28 : ∀ pq : BW W, pq.w.cell? ⟨w1.heap.size + 1 + 1, 9, none⟩ = some (.int .i64 (q' 9)) := fun pq => pq.cell (by rw [hW]; omega) (by rw [hW]; assumption)
          have hbW : Below w.heap.size w W := by rw [hW]; exact HB4.out
          have hrd : ∀ pq : BW W, Rd pq.w 1 A1 n1 es := fun pq => Rd.below (by rw [hW]; exact HOX.out.rd) pq.below
          clear hW
          repeat (go_big_quiet_step ((first | (go_at_call 11; exact bw_of (tn (impl_Before A1 n1 c1 es r p' q' now _ (by omega) (hrd _)) hbf)) | (go_at_call 12; exact bw_of (tn (spec_Before A1 n1 c1 es r p' q' now _ (by omega) (hrd _)) hbf)))))
          refine wpQuiet_nil ?_
          intro wq hq
          have hbq : Below w.heap.size w wq := by (obtain ⟨p, hp⟩ := hq; rw [hp]; exact hbW.trans (p.below.mono hbW.size))
          clear hq hrd hbW q0 q1 q2 q3 q4 q5 q6 q7 q8 q9 q10 q11 q12 q13 q14 q15 q16 q17 q18 q19 q20 q21 q22 q23 q24 q25 q26 q27 q28
          go_wp2
          go_ret
          exact ⟨rfl, hbq⟩
    · go_wp2_with fail
      refine (tn (spec_PartyOk A1 n1 c1 es r p' now _ (by omega) (HO2.out.rd.below (by (repeat (first | with_reducible exact Below.refl _ _ | with_reducible refine Below.drew ?_ | with_reducible refine below_drewN ?_ _ | (with_reducible refine bel_alloc ?_ ?_ _; (first | omega | (simp; omega) | simp)) | (with_reducible refine bel_set ?_ ?_ _; (first | omega | (simp; omega) | simp)) | (with_reducible refine bel_tr (by assumption) ?_ ?_; (first | omega | (simp; omega) | simp))))))) hP).mono ?_
      rintro y w2 ⟨rfl, b2⟩
      have s3 := b2.size
      (try simp at s3)
      clear pc0 qc0 pc1 qc1 pc2 qc2 pc3 qc3 pc4 qc4 pc5 qc5 pc6 qc6 pc7 qc7 pc8 qc8 pc9 qc9 rc0 rc1 rc2 rc3 rc4 rc5 rc6 rc7 rc8
      have Zp3 := Lib.hid (Bx.below Y1.out b2)
      have Zq3 := Lib.hid (Bx.below Y2.out b2)
      have Zr3 := Lib.hid (Bx.below Y3.out b2)
      have HB3 : Hid (Below w.heap.size w w2) := Lib.hid (bel_tr b2 (by have h1 := HB2.out.size; omega) HB2.out)
      have HO3 := Lib.hid (Own.below HO2.out b2)
      clear b2
      have pc0 : _ = some (Value.int .i64 (p' 0)) := (Zp3.out).2.2 0 (by omega)
      have pc1 : _ = some (Value.int .i64 (p' 1)) := (Zp3.out).2.2 1 (by omega)
      have pc2 : _ = some (Value.int .i64 (p' 2)) := (Zp3.out).2.2 2 (by omega)
      have pc3 : _ = some (Value.int .i64 (p' 3)) := (Zp3.out).2.2 3 (by omega)
      have pc4 : _ = some (Value.int .i64 (p' 4)) := (Zp3.out).2.2 4 (by omega)
      have pc5 : _ = some (Value.int .i64 (p' 5)) := (Zp3.out).2.2 5 (by omega)
      have pc6 : _ = some (Value.int .i64 (p' 6)) := (Zp3.out).2.2 6 (by omega)
      have pc7 : _ = some (Value.int .i64 (p' 7)) := (Zp3.out).2.2 7 (by omega)
      have pc8 : _ = some (Value.int .i64 (p' 8)) := (Zp3.out).2.2 8 (by omega)
      have pc9 : _ = some (Value.int .i64 (p' 9)) := (Zp3.out).2.2 9 (by omega)
      have qc0 : _ = some (Value.int .i64 (q' 0)) := (Zq3.out).2.2 0 (by omega)
      have qc1 : _ = some (Value.int .i64 (q' 1)) := (Zq3.out).2.2 1 (by omega)
      have qc2 : _ = some (Value.int .i64 (q' 2)) := (Zq3.out).2.2 2 (by omega)
      have qc3 : _ = some (Value.int .i64 (q' 3)) := (Zq3.out).2.2 3 (by omega)
      have qc4 : _ = some (Value.int .i64 (q' 4)) := (Zq3.out).2.2 4 (by omega)
      have qc5 : _ = some (Value.int .i64 (q' 5)) := (Zq3.out).2.2 5 (by omega)
      have qc6 : _ = some (Value.int .i64 (q' 6)) := (Zq3.out).2.2 6 (by omega)
      have qc7 : _ = some (Value.int .i64 (q' 7)) := (Zq3.out).2.2 7 (by omega)
      have qc8 : _ = some (Value.int .i64 (q' 8)) := (Zq3.out).2.2 8 (by omega)
      have qc9 : _ = some (Value.int .i64 (q' 9)) := (Zq3.out).2.2 9 (by omega)
      have rc0 : _ = some (Value.slice A1 n1 c1) := (Zr3.out).2.2 0 (by omega)
      have rc1 : _ = some (Value.int .i64 (r 1)) := (Zr3.out).2.2 1 (by omega)
      have rc2 : _ = some (Value.int .i64 (r 2)) := (Zr3.out).2.2 2 (by omega)
      have rc3 : _ = some (Value.int .i64 (r 3)) := (Zr3.out).2.2 3 (by omega)
      have rc4 : _ = some (Value.int .i64 (r 4)) := (Zr3.out).2.2 4 (by omega)
      have rc5 : _ = some (Value.int .i64 (r 5)) := (Zr3.out).2.2 5 (by omega)
      have rc6 : _ = some (Value.int .i64 (r 6)) := (Zr3.out).2.2 6 (by omega)
      have rc7 : _ = some (Value.int .i64 (r 7)) := (Zr3.out).2.2 7 (by omega)
      have rc8 : _ = some (Value.int .i64 (r 8)) := (Zr3.out).2.2 8 (by omega)
      have HOX := Lib.hid HO3.out
      go_wp2
      by_cases hbf : befP n1 es r p' q' now
      · skip
        refine wp_region_bw (by kernel_rfl) (by kernel_rfl) (fun W hW => ?_)
        have q0 : ∀ pq : BW W, pq.w.cell? ⟨w1.heap.size, 0, none⟩ = some (.slice A1 n1 c1) := fun pq => pq.cell (by rw [hW]; omega) (by rw [hW]; assumption)
        have q1 : ∀ pq : BW W, pq.w.cell? ⟨w1.heap.size, 1, none⟩ = some (.int .i64 (r 1)) := fun pq => pq.cell (by rw [hW]; omega) (by rw [hW]; assumption)
        have q2 : ∀ pq : BW W, pq.w.cell? ⟨w1.heap.size, 2, none⟩ = some (.int .i64 (r 2)) := fun pq => pq.cell (by rw [hW]; omega) (by rw [hW]; assumption)
        have q3 : ∀ pq : BW W, pq.w.cell? ⟨w1.heap.size, 3, none⟩ = some (.int .i64 (r 3)) := fun pq => pq.cell (by rw [hW]; omega) (by rw [hW]; assumption)
        have q4 : ∀ pq : BW W, pq.w.cell? ⟨w1.heap.size, 4, none⟩ = some (.int .i64 (r 4)) := fun pq => pq.cell (by rw [hW]; omega) (by rw [hW]; assumption)
        have q5 : ∀ pq : BW W, pq.w.cell? ⟨w1.heap.size, 5, none⟩ = some (.int .i64 (r 5)) := fun pq => pq.cell (by rw [hW]; omega) (by rw [hW]; assumption)
        have q6 : ∀ pq : BW W, pq.w.cell? ⟨w1.heap.size, 6, none⟩ = some (.int .i64 (r 6)) := fun pq => pq.cell (by rw [hW]; omega) (by rw [hW]; assumption)
        have q7 : ∀ pq : BW W, pq.w.cell? ⟨w1.heap.size, 7, none⟩ = some (.int .i64 (r 7)) := fun pq => pq.cell (by rw [hW]; omega) (by rw [hW]; assumption)
        have q8 : ∀ pq : BW W, pq.w.cell? ⟨w1.heap.size, 8, none⟩ = some (.int .i64 (r 8)) := fun pq => pq.cell (by rw [hW]; omega) (by rw [hW]; assumption)
        have q9 : ∀ pq : BW W, pq.w.cell? ⟨w1.heap.size + 1, 0, none⟩ = some (.int .i64 (p' 0)) := fun pq => pq.cell (by rw [hW]; omega) (by rw [hW]; assumption)
        have q10 : ∀ pq : BW W, pq.w.cell? ⟨w1.heap.size + 1, 1, none⟩ = some (.int .i64 (p' 1)) := fun pq => pq.cell (by rw [hW]; omega) (by rw [hW]; assumption)
        have q11 : ∀ pq : BW W, pq.w.cell? ⟨w1.heap.size + 1, 2, none⟩ = some (.int .i64 (p' 2)) := fun pq => pq.cell (by rw [hW]; omega) (by rw [hW]; assumption)
        have q12 : ∀ pq : BW W, pq.w.cell? ⟨w1.heap.size + 1, 3, none⟩ = some (.int .i64 (p' 3)) := fun pq => pq.cell (by rw [hW]; omega) (by rw [hW]; assumption)
        have q13 : ∀ pq : BW W, pq.w.cell? ⟨w1.heap.size + 1, 4, none⟩ = some (.int .i64 (p' 4)) := fun pq => pq.cell (by rw [hW]; omega) (by rw [hW]; assumption)
        have q14 : ∀ pq : BW W, pq.w.cell? ⟨w1.heap.size + 1, 5, none⟩ = some (.int .i64 (p' 5)) := fun pq => pq.cell (by rw [hW]; omega) (by rw [hW]; assumption)
        have q15 : ∀ pq : BW W, pq.w.cell? ⟨w1.heap.size + 1, 6, none⟩ = some (.int .i64 (p' 6)) := fun pq => pq.cell (by rw [hW]; omega) (by rw [hW]; assumption)
        have q16 : ∀ pq : BW W, pq.w.cell? ⟨w1.heap.size + 1, 7, none⟩ = some (.int .i64 (p' 7)) := fun pq => pq.cell (by rw [hW]; omega) (by rw [hW]; assumption)
        have q17 : ∀ pq : BW W, pq.w.cell? ⟨w1.heap.size + 1, 8, none⟩ = some (.int .i64 (p' 8)) := fun pq => pq.cell (by rw [hW]; omega) (by rw [hW]; assumption)
        have q18 : ∀ pq : BW W, pq.w.cell? ⟨w1.heap.size + 1, 9, none⟩ = some (.int .i64 (p' 9)) := fun pq => pq.cell (by rw [hW]; omega) (by rw [hW]; assumption)
        have q19 : ∀ pq : BW W, pq.w.cell? ⟨w1.heap.size + 1 + 1, 0, none⟩ = some (.int .i64 (q' 0)) := fun pq => pq.cell (by rw [hW]; omega) (by rw [hW]; assumption)
        have q20 : ∀ pq : BW W, pq.w.cell? ⟨w1.heap.size + 1 + 1, 1, none⟩ = some (.int .i64 (q' 1)) := fun pq => pq.cell (by rw [hW]; omega) (by rw [hW]; assumption)
        have q21 : ∀ pq : BW W, pq.w.cell? ⟨w1.heap.size + 1 + 1, 2, none⟩ = some (.int .i64 (q' 2)) := fun pq => pq.cell (by rw [hW]; omega) (by rw [hW]; assumption)
        have q22 : ∀ pq : BW W, pq.w.cell? ⟨w1.heap.size + 1 + 1, 3, none⟩ = some (.int .i64 (q' 3)) := fun pq => pq.cell (by rw [hW]; omega) (by rw [hW]; assumption)
        have q23 : ∀ pq : BW W, pq.w.cell? ⟨w1.heap.size + 1 + 1, 4, none⟩ = some (.int .i64 (q' 4)) := fun pq => pq.cell (by rw [hW]; omega) (by rw [hW]; assumption)
        have q24 : ∀ pq : BW W, pq.w.cell? ⟨w1.heap.size + 1 + 1, 5, none⟩ = some (.int .i64 (q' 5)) := fun pq => pq.cell (by rw [hW]; omega) (by rw [hW]; assumption)
        have q25 : ∀ pq : BW W, pq.w.cell? ⟨w1.heap.size + 1 + 1, 6, none⟩ = some (.int .i64 (q' 6)) := fun pq => pq.cell (by rw [hW]; omega) (by rw [hW]; assumption)
        have q26 : ∀ pq : BW W, pq.w.cell? ⟨w1.heap.size + 1 + 1, 7, none⟩ = some (.int .i64 (q' 7)) := fun pq => pq.cell (by rw [hW]; omega) (by rw [hW]; assumption)
        have q27 : ∀ pq : BW W, pq.w.cell? ⟨w1.heap.size + 1 + 1, 8, none⟩ = some (.int .i64 (q' 8)) := fun pq => pq.cell (by rw [hW]; omega) (by rw [hW]; assumption)
        have q28 : ∀ pq : BW W, pq.w.cell? ⟨w1.heap.size + 1 + 1, 9, none⟩ = some (.int .i64 (q' 9)) := fun pq => pq.cell (by rw [hW]; omega) (by rw [hW]; assumption)
        have hbW : Below w.heap.size w W := by rw [hW]; exact HB3.out
        have hrd : ∀ pq : BW W, Rd pq.w 1 A1 n1 es := fun pq => Rd.below (by rw [hW]; exact HOX.out.rd) pq.below
        clear hW
        repeat (go_big_quiet_step ((first | (go_at_call 11; exact bw_of (ty (impl_Before A1 n1 c1 es r p' q' now _ (by omega) (hrd _)) hbf)) | (go_at_call 12; exact bw_of (ty (spec_Before A1 n1 c1 es r p' q' now _ (by omega) (hrd _)) hbf)))))
        refine wpQuiet_nil ?_
        intro wq hq
        have hbq : Below w.heap.size w wq := by (obtain ⟨p, hp⟩ := hq; rw [hp]; exact hbW.trans (p.below.mono hbW.size))
        clear hq hrd hbW q0 q1 q2 q3 q4 q5 q6 q7 q8 q9 q10 q11 q12 q13 q14 q15 q16 q17 q18 q19 q20 q21 q22 q23 q24 q25 q26 q27 q28
        go_wp2
        go_ret
        exact ⟨rfl, hbq⟩
      · skip
        refine wp_region_bw (by kernel_rfl) (by kernel_rfl) (fun W hW => ?_)
        have q0 : ∀ pq : BW W, pq.w.cell? ⟨w1.heap.size, 0, none⟩ = some (.slice A1 n1 c1) := fun pq => pq.cell (by rw [hW]; omega) (by rw [hW]; assumption)
        have q1 : ∀ pq : BW W, pq.w.cell? ⟨w1.heap.size, 1, none⟩ = some (.int .i64 (r 1)) := fun pq => pq.cell (by rw [hW]; omega) (by rw [hW]; assumption)
        have q2 : ∀ pq : BW W, pq.w.cell? ⟨w1.heap.size, 2, none⟩ = some (.int .i64 (r 2)) := fun pq => pq.cell (by rw [hW]; omega) (by rw [hW]; assumption)
        have q3 : ∀ pq : BW W, pq.w.cell? ⟨w1.heap.size, 3, none⟩ = some (.int .i64 (r 3)) := fun pq => pq.cell (by rw [hW]; omega) (by rw [hW]; assumption)
        have q4 : ∀ pq : BW W, pq.w.cell? ⟨w1.heap.size, 4, none⟩ = some (.int .i64 (r 4)) := fun pq => pq.cell (by rw [hW]; omega) (by rw [hW]; assumption)
        have q5 : ∀ pq : BW W, pq.w.cell? ⟨w1.heap.size, 5, none⟩ = some (.int .i64 (r 5)) := fun pq => pq.cell (by rw [hW]; omega) (by rw [hW]; assumption)
        have q6 : ∀ pq : BW W, pq.w.cell? ⟨w1.heap.size, 6, none⟩ = some (.int .i64 (r 6)) := fun pq => pq.cell (by rw [hW]; omega) (by rw [hW]; assumption)
        have q7 : ∀ pq : BW W, pq.w.cell? ⟨w1.heap.size, 7, none⟩ = some (.int .i64 (r 7)) := fun pq => pq.cell (by rw [hW]; omega) (by rw [hW]; assumption)
        have q8 : ∀ pq : BW W, pq.w.cell? ⟨w1.heap.size, 8, none⟩ = some (.int .i64 (r 8)) := fun pq => pq.cell (by rw [hW]; omega) (by rw [hW]; assumption)
        have q9 : ∀ pq : BW W, pq.w.cell? ⟨w1.heap.size + 1, 0, none⟩ = some (.int .i64 (p' 0)) := fun pq => pq.cell (by rw [hW]; omega) (by rw [hW]; assumption)
        have q10 : ∀ pq : BW W, pq.w.cell? ⟨w1.heap.size + 1, 1, none⟩ = some (.int .i64 (p' 1)) := fun pq => pq.cell (by rw [hW]; omega) (by rw [hW]; assumption)
        have q11 : ∀ pq : BW W, pq.w.cell? ⟨w1.heap.size + 1, 2, none⟩ = some (.int .i64 (p' 2)) := fun pq => pq.cell (by rw [hW]; omega) (by rw [hW]; assumption)
        have q12 : ∀ pq : BW W, pq.w.cell? ⟨w1.heap.size + 1, 3, none⟩ = some (.int .i64 (p' 3)) := fun pq => pq.cell (by rw [hW]; omega) (by rw [hW]; assumption)
        have q13 : ∀ pq : BW W, pq.w.cell? ⟨w1.heap.size + 1, 4, none⟩ = some (.int .i64 (p' 4)) := fun pq => pq.cell (by rw [hW]; omega) (by rw [hW]; assumption)
        have q14 : ∀ pq : BW W, pq.w.cell? ⟨w1.heap.size + 1, 5, none⟩ = some (.int .i64 (p' 5)) := fun pq => pq.cell (by rw [hW]; omega) (by rw [hW]; assumption)
        have q15 : ∀ pq : BW W, pq.w.cell? ⟨w1.heap.size + 1, 6, none⟩ = some (.int .i64 (p' 6)) := fun pq => pq.cell (by rw [hW]; omega) (by rw [hW]; assumption)
        have q16 : ∀ pq : BW W, pq.w.cell? ⟨w1.heap.size + 1, 7, none⟩ = some (.int .i64 (p' 7)) := fun pq => pq.cell (by rw [hW]; omega) (by rw [hW]; assumption)
        have q17 : ∀ pq : BW W, pq.w.cell? ⟨w1.heap.size + 1, 8, none⟩ = some (.int .i64 (p' 8)) := fun pq => pq.cell (by rw [hW]; omega) (by rw [hW]; assumption)
        have q18 : ∀ pq : BW W, pq.w.cell? ⟨w1.heap.size + 1, 9, none⟩ = some (.int .i64 (p' 9)) := fun pq => pq.cell (by rw [hW]; omega) (by rw [hW]; assumption)
        have q19 : ∀ pq : BW W, pq.w.cell? ⟨w1.heap.size + 1 + 1, 0, none⟩ = some (.int .i64 (q' 0)) := fun pq => pq.cell (by rw [hW]; omega) (by rw [hW]; assumption)
        have q20 : ∀ pq : BW W, pq.w.cell? ⟨w1.heap.size + 1 + 1, 1, none⟩ = some (.int .i64 (q' 1)) := fun pq => pq.cell (by rw [hW]; omega) (by rw [hW]; assumption)
        have q21 : ∀ pq : BW W, pq.w.cell? ⟨w1.heap.size + 1 + 1, 2, none⟩ = some (.int .i64 (q' 2)) := fun pq => pq.cell (by rw [hW]; omega) (by rw [hW]; assumption)
        have q22 : ∀ pq : BW W, pq.w.cell? ⟨w1.heap.size + 1 + 1, 3, none⟩ = some (.int .i64 (q' 3)) := fun pq => pq.cell (by rw [hW]; omega) (by rw [hW]; assumption)
        have q23 : ∀ pq : BW W, pq.w.cell? ⟨w1.heap.size + 1 + 1, 4, none⟩ = some (.int .i64 (q' 4)) := fun pq => pq.cell (by rw [hW]; omega) (by rw [hW]; assumption)
        have q24 : ∀ pq : BW W, pq.w.cell? ⟨w1.heap.size + 1 + 1, 5, none⟩ = some (.int .i64 (q' 5)) := fun pq => pq.cell (by rw [hW]; omega) (by rw [hW]; assumption)
        have q25 : ∀ pq : BW W, pq.w.cell? ⟨w1.heap.size + 1 + 1, 6, none⟩ = some (.int .i64 (q' 6)) := fun pq => pq.cell (by rw [hW]; omega) (by rw [hW]; assumption)
        have q26 : ∀ pq : BW W, pq.w.cell? ⟨w1.heap.size + 1 + 1, 7, none⟩ = some (.int .i64 (q' 7)) := fun pq => pq.cell (by rw [hW]; omega) (by rw [hW]; assumption)
        have q27 : ∀ pq : BW W, pq.w.cell? ⟨w1.heap.size + 1 + 1, 8, none⟩ = some (.int .i64 (q' 8)) := fun pq => pq.cell (by rw [hW]; omega) (by rw [hW]; assumption)
        have q28 : ∀ pq : BW W, pq.w.cell? ⟨w1.heap.size + 1 + 1, 9, none⟩ = some (.int .i64 (q' 9)) := fun pq => pq.cell (by rw [hW]; omega) (by rw [hW]; assumption)
        have hbW : Below w.heap.size w W := by rw [hW]; exact HB3.out
        have hrd : ∀ pq : BW W, Rd pq.w 1 A1 n1 es := fun pq => Rd.below (by rw [hW]; exact HOX.out.rd) pq.below
        clear hW
        repeat (go_big_quiet_step ((first | (go_at_call 11; exact bw_of (tn (impl_Before A1 n1 c1 es r p' q' now _ (by omega) (hrd _)) hbf)) | (go_at_call 12; exact bw_of (tn (spec_Before A1 n1 c1 es r p' q' now _ (by omega) (hrd _)) hbf)))))
        refine wpQuiet_nil ?_
        intro wq hq
        have hbq : Below w.heap.size w wq := by (obtain ⟨p, hp⟩ := hq; rw [hp]; exact hbW.trans (p.below.mono hbW.size))
        clear hq hrd hbW q0 q1 q2 q3 q4 q5 q6 q7 q8 q9 q10 q11 q12 q13 q14 q15 q16 q17 q18 q19 q20 q21 q22 q23 q24 q25 q26 q27 q28
        go_wp2
        go_ret
        exact ⟨rfl, hbq⟩
end Go.Proofs.Ytbpohbcbmicchaa
