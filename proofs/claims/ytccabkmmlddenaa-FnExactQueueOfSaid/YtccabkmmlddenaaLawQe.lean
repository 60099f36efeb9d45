/-
  Walk of the law on QueueOf: it returns true and leaves old memory alone.
-/
import Derived.Test.YtccabkmmlddenaaIs
import Derived.Test.YtccabkmmlddenaaRu
import Derived.Test.YtccabkmmlddenaaMk
import Derived.Test.YtccabkmmlddenaaQfS
import Derived.Test.YtccabkmmlddenaaEs
import Derived.Test.YtccabkmmlddenaaPs
import Derived.Test.YtccabkmmlddenaaDv0
import Derived.Deep.DeepCutAuto
namespace Go.Proofs.Ytccabkmmlddenaa
open Go.RowKit

theorem grown_al (w : World) (o : Obj) (row : Option Nat) : w.grownBy (w.alloc o) row :=
  have h := (Below.refl w.heap.size w).alloc (Nat.le_refl _) o
  ⟨h.os, h.tape, h.output, h.size, fun b hb _ => h.block b hb⟩
theorem grown_trans2 {w w1 w2 : World} {row : Option Nat} (h : w.grownBy w1 row) (h2 : w1.grownBy w2 row) : w.grownBy w2 row :=
  ⟨h2.os.trans h.os, h2.tape.trans h.tape, h2.output.trans h.output, Nat.le_trans h.size h2.size, fun b hb hne => (h2.block b (Nat.lt_of_lt_of_le hb h.size) hne).trans (h.block b hb hne)⟩
theorem below_of_grown {n lo hi B0 : Nat} {A : Option Addr} {w w' : World} (hg : w.grownBy w' (if n = 0 then none else A.map (·.block))) (hA : InB A n lo hi) (hB : B0 ≤ lo) (hw : B0 ≤ w.heap.size) : Below B0 w w' := by
  refine (Below.refl B0 w).grown hg hw ?_
  intro k hk
  by_cases h0 : n = 0
  · rw [if_pos h0] at hk
    cases hk
  · rw [if_neg h0] at hk
    obtain ⟨a, rfl, h3, h4⟩ := hA.resolve_left h0
    simp only [Option.map_some, Option.some.injEq] at hk
    omega
set_option maxHeartbeats 1000000 in
theorem markRules_any (B : Nat) (A : Option Addr) (n c m k1 : Nat) (es : List (Nat → Int)) (r : Nat → Int) (w : World) (hn : n ≤ 4194304) (hm : m ≤ 1073741824) (hk1 : m + n = k1) (row : Option Nat) (hrow : (if n = 0 then none else A.map (·.block)) = row) (h : Own B w 1 A n es) :
    Calls Try.prog 15 #[.agg #[.slice A n c, .int .i64 (r 1), .int .i64 (r 2), .int .i64 (r 3), .int .i64 (r 4), .int .i64 (r 5), .int .i64 (r 6), .int .i64 (r 7), .int .i64 (r 8)], .int .i64 m] w fun x w' => x = .returned (.int .i64 (k1 : Int)) ∧ w.grownBy w' row := by
  have H := Lib.hid h
  clear h
  go_enter Try.func15, Try.ntmps15
  go_wp2_with (go_at_call 41; refine (markIntS_any B A n c m es _ hn hm (by repeat (first | with_reducible exact H.out | with_reducible refine Own.alloc_ ?_ _))).mono ?_; rw [Nat.mul_one, hk1]; rintro y w2 ⟨rfl, hm2⟩; have hg := hm2.2.1; rw [hrow] at hg; clear hm2 hrow)
  go_ret
  exact ⟨rfl, by first | exact hg | exact grown_trans2 (grown_al w _ _) hg⟩
end Go.Proofs.Ytccabkmmlddenaa

namespace Go.Proofs.Ytccabkmmlddenaa
open Go.RowKit

set_option maxRecDepth 100000 in
set_option maxHeartbeats 8000000 in
theorem lawQueueOf (A : Option Addr) (n c : Nat) (es : List (Nat → Int)) (r : Nat → Int) (P : Option Addr) (m pc : Nat) (ps : List (Nat → Int)) (cab now : Int) (w : World) (hn0 : n ≤ 9223372036854775807) (hm0 : m ≤ 9223372036854775807) (h : Rd w 1 A n es) (hp : Rd w 10 P m ps) :
    Calls Try.prog 3 #[.agg #[.slice A n c, .int .i64 (r 1), .int .i64 (r 2), .int .i64 (r 3), .int .i64 (r 4), .int .i64 (r 5), .int .i64 (r 6), .int .i64 (r 7), .int .i64 (r 8)], .slice P m pc, .int .i64 cab, .int .i64 now] w fun x w' => x = .returned (.bool true) ∧ Below w.heap.size w w' := by
  obtain ⟨ok, hok⟩ := okF_ex n es r now ps cab
  have H := Lib.hid h
  have HP := Lib.hid hp
  have HK := Lib.hid hok
  clear h hp hok
  by_cases hn : n ≤ 1048576
  case neg =>
    have hni : ¬ (n : Int) ≤ 1048576 := by omega
    go_enter Try.func3, Try.ntmps3
    go_wp2_with fail
    refine (szRules_any A n c r 1048576 _ hn0 (by omega) (by omega)).mono ?_
    rw [if_neg (by omega : ¬ (n : Int) ≤ 1048576)]
    rintro y w1 ⟨rfl, b1⟩
    go_wp2
    go_ret
    exact ⟨rfl, by (repeat (first | with_reducible exact Below.refl _ _ | with_reducible refine Below.drew ?_ | with_reducible refine below_drewN ?_ _ | (with_reducible refine bel_alloc ?_ ?_ _; (first | omega | (simp; omega) | simp)) | (with_reducible refine bel_set ?_ ?_ _; (first | omega | (simp; omega) | simp)) | (with_reducible refine bel_tr (by assumption) ?_ ?_; (first | omega | (simp; omega) | simp))))⟩
  by_cases hmn : n + m ≤ 1048576
  case neg =>
    go_enter Try.func3, Try.ntmps3
    go_wp2_with fail
    refine (szRules_any A n c r 1048576 _ hn0 (by omega) (by omega)).mono ?_
    rw [if_pos (by omega : (n : Int) ≤ 1048576)]
    rintro y w1 ⟨rfl, b1⟩
    have hle0 : ¬ (1048576 - (n : Int)) < 0 := by omega
    go_wp2_with fail
    refine (szPartyS_any P m pc (1048576 - n) _ hm0 (by omega) (by omega)).mono ?_
    rw [if_neg (by omega : ¬ (m : Int) ≤ 1048576 - n)]
    rintro y wz ⟨rfl, rfl⟩
    go_wp2
    go_ret
    exact ⟨rfl, by (repeat (first | with_reducible exact Below.refl _ _ | with_reducible refine Below.drew ?_ | with_reducible refine below_drewN ?_ _ | (with_reducible refine bel_alloc ?_ ?_ _; (first | omega | (simp; omega) | simp)) | (with_reducible refine bel_set ?_ ?_ _; (first | omega | (simp; omega) | simp)) | (with_reducible refine bel_tr (by assumption) ?_ ?_; (first | omega | (simp; omega) | simp))))⟩
  have hn4 : n ≤ 4194304 := by omega
  have hm : m ≤ 1048576 := by omega
  have hm4 : m ≤ 4194303 := by omega
  have hle0 : ¬ (1048576 - (n : Int)) < 0 := by omega
  go_enter Try.func3, Try.ntmps3
  go_wp2_with fail
  refine (szRules_any A n c r 1048576 _ hn0 (by omega) (by omega)).mono ?_
  rw [if_pos (by omega : (n : Int) ≤ 1048576)]
  rintro y w1 ⟨rfl, b1⟩
  have s1 := b1.size
  (try simp at s1)
  have HB1 : Hid (Below w.heap.size w w1) := Lib.hid (bel_tr b1 (by (first | omega | (simp; omega) | simp)) (bel_alloc (Nat.le_refl _) (Below.refl _ _) _))
  have X1 := Lib.hid ((Bx.rules w 24 A n c r).below b1)
  have hz1 : w.heap.size < w1.heap.size := X1.out.1
  go_wp2_with fail
  refine (szPartyS_any P m pc (1048576 - n) _ hm0 (by omega) (by omega)).mono ?_
  rw [if_pos (by omega : (m : Int) ≤ 1048576 - n)]
  rintro y wz ⟨rfl, rfl⟩
  have hle : ¬ (1048576 - (n : Int) - (m : Int)) < 0 := by omega
  have hle0 : ¬ (1048576 - (n : Int)) < 0 := by omega
  have rc0 : _ = some (Value.slice A n c) := (X1.out).2.2 0 (by omega)
  have rc1 : _ = some (Value.int .i64 (r 1)) := (X1.out).2.2 1 (by omega)
  have rc2 : _ = some (Value.int .i64 (r 2)) := (X1.out).2.2 2 (by omega)
  have rc3 : _ = some (Value.int .i64 (r 3)) := (X1.out).2.2 3 (by omega)
  have rc4 : _ = some (Value.int .i64 (r 4)) := (X1.out).2.2 4 (by omega)
  have rc5 : _ = some (Value.int .i64 (r 5)) := (X1.out).2.2 5 (by omega)
  have rc6 : _ = some (Value.int .i64 (r 6)) := (X1.out).2.2 6 (by omega)
  have rc7 : _ = some (Value.int .i64 (r 7)) := (X1.out).2.2 7 (by omega)
  have rc8 : _ = some (Value.int .i64 (r 8)) := (X1.out).2.2 8 (by omega)
  go_wp2_with fail
  refine (toRules_any A n c es r _ hn (H.out.below HB1.out)).mono ?_
  rintro y w2 ⟨A2, c2, rfl, o2, b2⟩
  have s2 := b2.size
  (try simp at s2)
  have HB2 := Lib.hid (bel_tr b2 (by (first | omega | (simp; omega) | simp)) HB1.out)
  have O2 := Lib.hid o2
  have I2 := Lib.hid o2.inB
  clear o2
  have X2 := Lib.hid (X1.out.below b2)
  go_wp2_with fail
  refine (toPartyS_n P m pc ps _ hm (HP.out.below HB2.out)).mono ?_
  rintro y w3 ⟨A3, rfl, o3, b3⟩
  have s3 := b3.size
  (try simp at s3)
  have HB3 := Lib.hid (bel_tr b3 (by (first | omega | (simp; omega) | simp)) HB2.out)
  have O3 := Lib.hid o3
  have I3 := Lib.hid o3.inB
  clear o3
  have X3 := Lib.hid (X2.out.below b3)
  go_wp2_with fail
  refine (sQueueOf_any A2 n c2 es r A3 m m ps cab now ok _ hn4 hm4 (O2.out.rd.below b3) O3.out.rd HK.out).mono ?_
  rintro y w4 ⟨A4, q4, c4, rfl, o4, hc4, b4⟩
  have s4 := b4.size
  (try simp at s4)
  have HB4 := Lib.hid (bel_tr b4 (by (first | omega | (simp; omega) | simp)) HB3.out)
  have O4 := Lib.hid o4
  have I4 := Lib.hid o4.inB
  clear o4
  have X4 := Lib.hid (X3.out.below b4)
  clear rc0 rc1 rc2 rc3 rc4 rc5 rc6 rc7 rc8
  have rc0 : _ = some (Value.slice A n c) := (X4.out).2.2 0 (by omega)
  have rc1 : _ = some (Value.int .i64 (r 1)) := (X4.out).2.2 1 (by omega)
  have rc2 : _ = some (Value.int .i64 (r 2)) := (X4.out).2.2 2 (by omega)
  have rc3 : _ = some (Value.int .i64 (r 3)) := (X4.out).2.2 3 (by omega)
  have rc4 : _ = some (Value.int .i64 (r 4)) := (X4.out).2.2 4 (by omega)
  have rc5 : _ = some (Value.int .i64 (r 5)) := (X4.out).2.2 5 (by omega)
  have rc6 : _ = some (Value.int .i64 (r 6)) := (X4.out).2.2 6 (by omega)
  have rc7 : _ = some (Value.int .i64 (r 7)) := (X4.out).2.2 7 (by omega)
  have rc8 : _ = some (Value.int .i64 (r 8)) := (X4.out).2.2 8 (by omega)
  go_wp2_with fail
  refine (toRules_any A n c es r _ hn (H.out.below HB4.out)).mono ?_
  rintro y w5 ⟨A5, c5, rfl, o5, b5⟩
  have s5 := b5.size
  (try simp at s5)
  have HB5 := Lib.hid (bel_tr b5 (by (first | omega | (simp; omega) | simp)) HB4.out)
  have O5 := Lib.hid o5
  have I5 := Lib.hid o5.inB
  clear o5
  clear rc0 rc1 rc2 rc3 rc4 rc5 rc6 rc7 rc8
  have X5 := Lib.hid (X4.out.below b5)
  have O45 := Lib.hid (O4.out.below b5)
  have Y5 := Lib.hid (Bx.rules w5 30 A5 n c5 r)
  go_wp2_with fail
  refine (toPartyS_n P m pc ps _ hm (HP.out.below (bel_alloc (by (first | omega | (simp; omega) | simp)) HB5.out _))).mono ?_
  rintro y w6 ⟨A6, rfl, o6, b6⟩
  have s6 := b6.size
  (try simp at s6)
  have HB6 := Lib.hid (bel_tr b6 (by (first | omega | (simp; omega) | simp)) (bel_alloc (by (first | omega | (simp; omega) | simp)) HB5.out _))
  have O6 := Lib.hid o6
  have I6 := Lib.hid o6.inB
  clear o6
  have X6 := Lib.hid ((X5.out.alloc _).below b6)
  have Y6 := Lib.hid (Y5.out.below b6)
  have O46 := Lib.hid ((O45.out.alloc_ _).below b6)
  have O56 := Lib.hid ((O5.out.alloc_ _).below b6)
  have yc0 : _ = some (Value.slice A5 n c5) := (Y6.out).2.2 0 (by omega)
  have yc1 : _ = some (Value.int .i64 (r 1)) := (Y6.out).2.2 1 (by omega)
  have yc2 : _ = some (Value.int .i64 (r 2)) := (Y6.out).2.2 2 (by omega)
  have yc3 : _ = some (Value.int .i64 (r 3)) := (Y6.out).2.2 3 (by omega)
  have yc4 : _ = some (Value.int .i64 (r 4)) := (Y6.out).2.2 4 (by omega)
  have yc5 : _ = some (Value.int .i64 (r 5)) := (Y6.out).2.2 5 (by omega)
  have yc6 : _ = some (Value.int .i64 (r 6)) := (Y6.out).2.2 6 (by omega)
  have yc7 : _ = some (Value.int .i64 (r 7)) := (Y6.out).2.2 7 (by omega)
  have yc8 : _ = some (Value.int .i64 (r 8)) := (Y6.out).2.2 8 (by omega)
  go_wp2_with fail
  refine (iQueueOf_any A5 n c5 es r A6 m m ps cab now ok _ hn4 hm4 O56.out.rd O6.out.rd HK.out).mono ?_
  rintro y w7 ⟨A7, q7, c7, rfl, o7, hc7, b7⟩
  have s7 := b7.size
  (try simp at s7)
  have HB7 := Lib.hid (bel_tr b7 (by (first | omega | (simp; omega) | simp)) HB6.out)
  have hq : q7 = q4 := o7.1.symm.trans O4.out.1
  have O7 := Lib.hid o7
  have I7 := Lib.hid o7.inB
  clear o7
  subst hq
  have hq4 : q7 ≤ 1048576 := by have h1 := O4.out.1; have h2 := entL_len ok r now ps m; rw [sortR_len] at h1; omega
  clear yc0 yc1 yc2 yc3 yc4 yc5 yc6 yc7 yc8
  have X7 := Lib.hid (X6.out.below b7)
  have Y7 := Lib.hid (Y6.out.below b7)
  have O47 := Lib.hid (O46.out.below b7)
  have O57 := Lib.hid (O56.out.below b7)
  have O67 := Lib.hid (O6.out.below b7)
  go_wp2_with fail
  refine (eqEntryS_same A7 A4 q7 c7 c4 (sortR (entL ok r now ps m)) _ (by omega) O7.out.rd O47.out.rd).mono ?_
  rintro y w8 ⟨rfl, b8⟩
  have s8 := b8.size
  (try simp at s8)
  have HB8 := Lib.hid (bel_tr b8 (by (first | omega | (simp; omega) | simp)) HB7.out)
  have X8 := Lib.hid (X7.out.below b8)
  have Y8 := Lib.hid (Y7.out.below b8)
  have O48 := Lib.hid (O47.out.below b8)
  have O58 := Lib.hid (O57.out.below b8)
  have O68 := Lib.hid (O67.out.below b8)
  have O78 := Lib.hid (O7.out.below b8)
  go_upto_region 14 with fail
  go_cut [52] (fun s wx => s = .bool false ∧ Hid (Below w8.heap.size w8 wx))
  case first =>
    have rc0 : _ = some (Value.slice A n c) := (X8.out).2.2 0 (by omega)
    have rc1 : _ = some (Value.int .i64 (r 1)) := (X8.out).2.2 1 (by omega)
    have rc2 : _ = some (Value.int .i64 (r 2)) := (X8.out).2.2 2 (by omega)
    have rc3 : _ = some (Value.int .i64 (r 3)) := (X8.out).2.2 3 (by omega)
    have rc4 : _ = some (Value.int .i64 (r 4)) := (X8.out).2.2 4 (by omega)
    have rc5 : _ = some (Value.int .i64 (r 5)) := (X8.out).2.2 5 (by omega)
    have rc6 : _ = some (Value.int .i64 (r 6)) := (X8.out).2.2 6 (by omega)
    have rc7 : _ = some (Value.int .i64 (r 7)) := (X8.out).2.2 7 (by omega)
    have rc8 : _ = some (Value.int .i64 (r 8)) := (X8.out).2.2 8 (by omega)
    have yc0 : _ = some (Value.slice A5 n c5) := (Y8.out).2.2 0 (by omega)
    have yc1 : _ = some (Value.int .i64 (r 1)) := (Y8.out).2.2 1 (by omega)
    have yc2 : _ = some (Value.int .i64 (r 2)) := (Y8.out).2.2 2 (by omega)
    have yc3 : _ = some (Value.int .i64 (r 3)) := (Y8.out).2.2 3 (by omega)
    have yc4 : _ = some (Value.int .i64 (r 4)) := (Y8.out).2.2 4 (by omega)
    have yc5 : _ = some (Value.int .i64 (r 5)) := (Y8.out).2.2 5 (by omega)
    have yc6 : _ = some (Value.int .i64 (r 6)) := (Y8.out).2.2 6 (by omega)
    have yc7 : _ = some (Value.int .i64 (r 7)) := (Y8.out).2.2 7 (by omega)
    have yc8 : _ = some (Value.int .i64 (r 8)) := (Y8.out).2.2 8 (by omega)
    have hz8 : w.heap.size < w8.heap.size := X8.out.1
    have hy8 : w5.heap.size < w8.heap.size := Y8.out.1
    go_region_held3 (fun w' => w'.cell? ⟨w.heap.size, 0, none⟩ = some (.slice A n c) ∧ w'.cell? ⟨w.heap.size, 1, none⟩ = some (.int .i64 (r 1)) ∧ w'.cell? ⟨w.heap.size, 2, none⟩ = some (.int .i64 (r 2)) ∧ w'.cell? ⟨w.heap.size, 3, none⟩ = some (.int .i64 (r 3)) ∧ w'.cell? ⟨w.heap.size, 4, none⟩ = some (.int .i64 (r 4)) ∧ w'.cell? ⟨w.heap.size, 5, none⟩ = some (.int .i64 (r 5)) ∧ w'.cell? ⟨w.heap.size, 6, none⟩ = some (.int .i64 (r 6)) ∧ w'.cell? ⟨w.heap.size, 7, none⟩ = some (.int .i64 (r 7)) ∧ w'.cell? ⟨w.heap.size, 8, none⟩ = some (.int .i64 (r 8)) ∧ w'.cell? ⟨w5.heap.size, 0, none⟩ = some (.slice A5 n c5) ∧ w'.cell? ⟨w5.heap.size, 1, none⟩ = some (.int .i64 (r 1)) ∧ w'.cell? ⟨w5.heap.size, 2, none⟩ = some (.int .i64 (r 2)) ∧ w'.cell? ⟨w5.heap.size, 3, none⟩ = some (.int .i64 (r 3)) ∧ w'.cell? ⟨w5.heap.size, 4, none⟩ = some (.int .i64 (r 4)) ∧ w'.cell? ⟨w5.heap.size, 5, none⟩ = some (.int .i64 (r 5)) ∧ w'.cell? ⟨w5.heap.size, 6, none⟩ = some (.int .i64 (r 6)) ∧ w'.cell? ⟨w5.heap.size, 7, none⟩ = some (.int .i64 (r 7)) ∧ w'.cell? ⟨w5.heap.size, 8, none⟩ = some (.int .i64 (r 8))) ((first | (go_keep; done) | (go_simp; done))) (first
      | (go_at_call 9; refine (toRules_any A n c es r _ hn (H.out.below (bel_tr (Below.refl w8.heap.size _) (by (first | omega | (simp; omega) | simp)) (by (repeat (first | with_reducible exact Below.refl _ _ | with_reducible refine Below.drew ?_ | with_reducible refine below_drewN ?_ _ | (with_reducible refine bel_alloc ?_ ?_ _; (first | omega | (simp; omega) | simp)) | (with_reducible refine bel_set ?_ ?_ _; (first | omega | (simp; omega) | simp)) | (with_reducible refine bel_tr (by assumption) ?_ ?_; (first | omega | (simp; omega) | simp)))))))).mono ?_; rintro y wR ⟨A9, c9, rfl, o9, b9⟩; have sR := b9.size; (try simp at sR); have kxR : ∀ o, wR.cell? ⟨w.heap.size, o, none⟩ = _ := (fun o => b9.cell (p := ⟨w.heap.size, o, none⟩) (by (first | omega | (simp; omega) | simp))); have kxzR : w.heap.size < wR.heap.size := (by have hh := b9.size; (try simp at hh); omega); have kyR : ∀ o, wR.cell? ⟨w5.heap.size, o, none⟩ = _ := (fun o => b9.cell (p := ⟨w5.heap.size, o, none⟩) (by (first | omega | (simp; omega) | simp))); have kyzR : w5.heap.size < wR.heap.size := (by have hh := b9.size; (try simp at hh); omega))
      | (go_at_call 13; refine (eqRules_same A5 A9 n c5 c9 es r _ hn4 (O58.out.rd.below (by (repeat (first | with_reducible exact Below.refl _ _ | with_reducible refine Below.drew ?_ | with_reducible refine below_drewN ?_ _ | (with_reducible refine bel_alloc ?_ ?_ _; (first | omega | (simp; omega) | simp)) | (with_reducible refine bel_set ?_ ?_ _; (first | omega | (simp; omega) | simp)) | (with_reducible refine bel_tr (by assumption) ?_ ?_; (first | omega | (simp; omega) | simp)))))) (by first | exact o9.rd | exact (o9.rd.below (by (repeat (first | with_reducible exact Below.refl _ _ | with_reducible refine Below.drew ?_ | with_reducible refine below_drewN ?_ _ | (with_reducible refine bel_alloc ?_ ?_ _; (first | omega | (simp; omega) | simp)) | (with_reducible refine bel_set ?_ ?_ _; (first | omega | (simp; omega) | simp)) | (with_reducible refine bel_tr (by assumption) ?_ ?_; (first | omega | (simp; omega) | simp)))))))).mono ?_; rintro y wZ ⟨rfl, bz⟩; have sZ := bz.size; (try simp at sZ); have kxZ : ∀ o, wZ.cell? ⟨w.heap.size, o, none⟩ = _ := (fun o => bz.cell (p := ⟨w.heap.size, o, none⟩) (by (first | omega | (simp; omega) | simp))); have kxzZ : w.heap.size < wZ.heap.size := (by have hh := bz.size; (try simp at hh); omega); have kyZ : ∀ o, wZ.cell? ⟨w5.heap.size, o, none⟩ = _ := (fun o => bz.cell (p := ⟨w5.heap.size, o, none⟩) (by (first | omega | (simp; omega) | simp))); have kyzZ : w5.heap.size < wZ.heap.size := (by have hh := bz.size; (try simp at hh); omega)))
    all_goals
      go_wp2_with fail
      go_meet
      exact ⟨rfl, Lib.hid (by (repeat (first | with_reducible exact Below.refl _ _ | with_reducible refine Below.drew ?_ | with_reducible refine below_drewN ?_ _ | (with_reducible refine bel_alloc ?_ ?_ _; (first | omega | (simp; omega) | simp)) | (with_reducible refine bel_set ?_ ?_ _; (first | omega | (simp; omega) | simp)) | (with_reducible refine bel_tr (by assumption) ?_ ?_; (first | omega | (simp; omega) | simp)))))⟩
  case rest =>
    obtain ⟨rfl, B9⟩ := hcut
    have b9 := B9.out
    have O4_8 := O48
    have O5_8 := O58
    have O6_8 := O68
    have O7_8 := O78
    have X_8 := X8
    have Y_8 := Y8
    have s9 := b9.size
    (try simp at s9)
    have HB9 := Lib.hid (bel_tr b9 (by (first | omega | (simp; omega) | simp)) HB8.out)
    have X_9 := Lib.hid (X_8.out.below b9)
    have Y_9 := Lib.hid (Y_8.out.below b9)
    have O4_9 := Lib.hid (O4_8.out.below b9)
    have O5_9 := Lib.hid (O5_8.out.below b9)
    have O6_9 := Lib.hid (O6_8.out.below b9)
    have O7_9 := Lib.hid (O7_8.out.below b9)
    go_wp2_with fail
    refine (toPartyS_n P m pc ps _ hm (HP.out.below HB9.out)).mono ?_
    rintro y w10 ⟨A10, rfl, o10, b10⟩
    have s10 := b10.size
    (try simp at s10)
    have HB10 := Lib.hid (bel_tr b10 (by (first | omega | (simp; omega) | simp)) HB9.out)
    have O10 := Lib.hid o10
    have I10 := Lib.hid o10.inB
    clear o10
    have X_10 := Lib.hid (X_9.out.below b10)
    have Y_10 := Lib.hid (Y_9.out.below b10)
    have O4_10 := Lib.hid (O4_9.out.below b10)
    have O5_10 := Lib.hid (O5_9.out.below b10)
    have O6_10 := Lib.hid (O6_9.out.below b10)
    have O7_10 := Lib.hid (O7_9.out.below b10)
    go_wp2_with fail
    refine (eqPartyS_same A6 A10 m m m ps _ (by omega) O6_10.out.rd O10.out.rd).mono ?_
    rintro y w11 ⟨rfl, b11⟩
    have s11 := b11.size
    (try simp at s11)
    have HB11 := Lib.hid (bel_tr b11 (by (first | omega | (simp; omega) | simp)) HB10.out)
    have X_11 := Lib.hid (X_10.out.below b11)
    have Y_11 := Lib.hid (Y_10.out.below b11)
    have O4_11 := Lib.hid (O4_10.out.below b11)
    have O5_11 := Lib.hid (O5_10.out.below b11)
    have O6_11 := Lib.hid (O6_10.out.below b11)
    have O7_11 := Lib.hid (O7_10.out.below b11)
    have yc0 : _ = some (Value.slice A5 n c5) := (Y_11.out).2.2 0 (by omega)
    have yc1 : _ = some (Value.int .i64 (r 1)) := (Y_11.out).2.2 1 (by omega)
    have yc2 : _ = some (Value.int .i64 (r 2)) := (Y_11.out).2.2 2 (by omega)
    have yc3 : _ = some (Value.int .i64 (r 3)) := (Y_11.out).2.2 3 (by omega)
    have yc4 : _ = some (Value.int .i64 (r 4)) := (Y_11.out).2.2 4 (by omega)
    have yc5 : _ = some (Value.int .i64 (r 5)) := (Y_11.out).2.2 5 (by omega)
    have yc6 : _ = some (Value.int .i64 (r 6)) := (Y_11.out).2.2 6 (by omega)
    have yc7 : _ = some (Value.int .i64 (r 7)) := (Y_11.out).2.2 7 (by omega)
    have yc8 : _ = some (Value.int .i64 (r 8)) := (Y_11.out).2.2 8 (by omega)
    obtain ⟨k1, hk1⟩ : ∃ k1, 1 + n = k1 := ⟨_, rfl⟩
    have hk1b : k1 ≤ 1048577 := by omega
    go_wp2_with fail
    refine (markRules_any w4.heap.size A5 n c5 1 k1 es r _ hn4 (by omega) hk1 _ rfl O5_11.out).mono ?_
    rintro y w12 ⟨rfl, g12⟩
    clear hk1
    clear yc0 yc1 yc2 yc3 yc4 yc5 yc6 yc7 yc8
    have b12 : Below w4.heap.size w11 w12 := below_of_grown g12 I5.out (Nat.le_refl _) (by omega)
    have s12 := b12.size
    (try simp at s12)
    have HB12 := Lib.hid (bel_tr b12 (by (first | omega | (simp; omega) | simp)) HB11.out)
    have X_12 := Lib.hid (X_11.out.keep b12 (by omega))
    have O4_12 := Lib.hid (O4_11.out.grown_ g12 (ne_of_InB I4.out I5.out (.inl (Nat.le_refl _))))
    have O6_12 := Lib.hid (O6_11.out.grown_ g12 (ne_of_InB I6.out I5.out (.inr (by (first | omega | (simp; omega) | simp)))))
    have O7_12 := Lib.hid (O7_11.out.grown_ g12 (ne_of_InB I7.out I5.out (.inr (by omega))))
    clear g12
    go_wp2_with fail
    refine (markPartyS_any _ A6 m m k1 ps _ (by omega) (by omega) O6_12.out).mono ?_
    rintro y w13 ⟨rfl, m13⟩
    have b13 : Below w4.heap.size w12 w13 := m13.below I6.out (by (first | omega | (simp; omega) | simp)) (by omega)
    have s13 := b13.size
    (try simp at s13)
    have HB13 := Lib.hid (bel_tr b13 (by (first | omega | (simp; omega) | simp)) HB12.out)
    have X_13 := Lib.hid (X_12.out.keep b13 (by omega))
    have O4_13 := Lib.hid (O4_12.out.grown_ m13.2.1 (ne_of_InB I4.out I6.out (.inl (by (first | omega | (simp; omega) | simp)))))
    have O7_13 := Lib.hid (O7_12.out.grown_ m13.2.1 (ne_of_InB I7.out I6.out (.inr (Nat.le_refl _))))
    clear m13
    go_wp2_with fail
    refine (eqEntryS_same A7 A4 q7 c7 c4 (sortR (entL ok r now ps m)) _ (by omega) O7_13.out.rd O4_13.out.rd).mono ?_
    rintro y w14 ⟨rfl, b14⟩
    have s14 := b14.size
    (try simp at s14)
    have HB14 := Lib.hid (bel_tr b14 (by (first | omega | (simp; omega) | simp)) HB13.out)
    have X_14 := Lib.hid (X_13.out.below b14)
    have O4_14 := Lib.hid (O4_13.out.below b14)
    have O7_14 := Lib.hid (O7_13.out.below b14)
    go_wp2_with fail
    refine (markEntryS_any _ A7 q7 c7 1 (sortR (entL ok r now ps m)) _ (by omega) (by omega) O7_14.out).mono ?_
    rintro y w15 ⟨rfl, m15⟩
    have b15 : Below w4.heap.size w14 w15 := m15.below I7.out (by omega) (by omega)
    have s15 := b15.size
    (try simp at s15)
    have HB15 := Lib.hid (bel_tr b15 (by (first | omega | (simp; omega) | simp)) HB14.out)
    have X_15 := Lib.hid (X_14.out.keep b15 (by omega))
    have O4_15 := Lib.hid (O4_14.out.grown_ m15.2.1 (ne_of_InB I4.out I7.out (.inl (by omega))))
    have M7_15 := Lib.hid m15.1
    clear m15
    go_wp2_with fail
    refine (heldEntryS_any A7 q7 c7 1 _ (by omega) (by omega) M7_15.out.rd).mono ?_
    rintro y wy ⟨rfl, rfl⟩
    have rc0 : _ = some (Value.slice A n c) := (X_15.out).2.2 0 (by omega)
    have rc1 : _ = some (Value.int .i64 (r 1)) := (X_15.out).2.2 1 (by omega)
    have rc2 : _ = some (Value.int .i64 (r 2)) := (X_15.out).2.2 2 (by omega)
    have rc3 : _ = some (Value.int .i64 (r 3)) := (X_15.out).2.2 3 (by omega)
    have rc4 : _ = some (Value.int .i64 (r 4)) := (X_15.out).2.2 4 (by omega)
    have rc5 : _ = some (Value.int .i64 (r 5)) := (X_15.out).2.2 5 (by omega)
    have rc6 : _ = some (Value.int .i64 (r 6)) := (X_15.out).2.2 6 (by omega)
    have rc7 : _ = some (Value.int .i64 (r 7)) := (X_15.out).2.2 7 (by omega)
    have rc8 : _ = some (Value.int .i64 (r 8)) := (X_15.out).2.2 8 (by omega)
    go_wp2_with fail
    refine (toRules_any A n c es r _ hn (H.out.below HB15.out)).mono ?_
    rintro y w16 ⟨A16, c16, rfl, o16, b16⟩
    have s16 := b16.size
    (try simp at s16)
    have HB16 := Lib.hid (bel_tr b16 (by (first | omega | (simp; omega) | simp)) HB15.out)
    have O16 := Lib.hid o16
    have I16 := Lib.hid o16.inB
    clear o16
    clear rc0 rc1 rc2 rc3 rc4 rc5 rc6 rc7 rc8
    have O4_16 := Lib.hid (O4_15.out.below b16)
    have M7_16 := Lib.hid (M7_15.out.below b16)
    go_wp2_with fail
    refine (toPartyS_n P m pc ps _ hm (HP.out.below HB16.out)).mono ?_
    rintro y w17 ⟨A17, rfl, o17, b17⟩
    have s17 := b17.size
    (try simp at s17)
    have HB17 := Lib.hid (bel_tr b17 (by (first | omega | (simp; omega) | simp)) HB16.out)
    have O17 := Lib.hid o17
    have I17 := Lib.hid o17.inB
    clear o17
    have O4_17 := Lib.hid (O4_16.out.below b17)
    have M7_17 := Lib.hid (M7_16.out.below b17)
    go_wp2_with fail
    refine (iQueueOf_any A16 n c16 es r A17 m m ps cab now ok _ hn4 hm4 (O16.out.rd.below b17) O17.out.rd HK.out).mono ?_
    rintro y w18 ⟨A18, q18, c18, rfl, o18, hc18, b18⟩
    have s18 := b18.size
    (try simp at s18)
    have HB18 := Lib.hid (bel_tr b18 (by (first | omega | (simp; omega) | simp)) HB17.out)
    have O18 := Lib.hid o18
    have I18 := Lib.hid o18.inB
    clear o18
    have O4_18 := Lib.hid (O4_17.out.below b18)
    have M7_18 := Lib.hid (M7_17.out.below b18)
    have hq : q18 = q7 := O18.out.1.symm.trans O4_18.out.1
    subst hq
    go_wp2_with fail
    refine (eqEntryS_same A18 A4 q18 c18 c4 (sortR (entL ok r now ps m)) _ (by omega) O18.out.rd O4_18.out.rd).mono ?_
    rintro y w19 ⟨rfl, b19⟩
    have s19 := b19.size
    (try simp at s19)
    have HB19 := Lib.hid (bel_tr b19 (by (first | omega | (simp; omega) | simp)) HB18.out)
    have M7_19 := Lib.hid (M7_18.out.below b19)
    go_wp2_with fail
    refine (heldEntryS_any A7 q18 c7 1 _ (by omega) (by omega) M7_19.out.rd).mono ?_
    rintro y wx ⟨rfl, rfl⟩
    go_wp2
    go_ret
    exact ⟨rfl, HB19.out⟩
end Go.Proofs.Ytccabkmmlddenaa
