/-
  Walk of the law on PinsIn: it returns true and leaves old memory alone.
-/
import Derived.Test.YtlkladabefpnfaaPnS
import Derived.Test.YtlkladabefpnfaaPnA
import Derived.Test.YtlkladabefpnfaaQs
import Derived.Test.YtlkladabefpnfaaPs
import Derived.Test.YtlkladabefpnfaaMk
namespace Go.Proofs.Ytlkladabefpnfaa
open Go.RowKit

set_option maxRecDepth 100000 in
set_option maxHeartbeats 8000000 in
theorem lawPinsIn (P : Option Addr) (m pc : Nat) (cab : Int) (ps : List (Nat → Int)) (w : World) (hm0 : m ≤ 9223372036854775807) (hp : Rd w 10 P m ps) :
    Calls Try.prog 3 #[.slice P m pc, .int .i64 cab] w fun x w' => x = .returned (.bool true) ∧ Below w.heap.size w w' := by
  have HP := Lib.hid hp
  clear hp
  by_cases hm : m ≤ 1048576
  case neg =>
    go_enter Try.func3, Try.ntmps3
    go_wp2_with fail
    refine (szPartyS_any P m pc 1048576 _ hm0 (by omega) (by omega)).mono ?_
    rw [if_neg (by omega : ¬ (m : Int) ≤ 1048576)]
    rintro y wz ⟨rfl, rfl⟩
    go_wp2
    go_ret
    exact ⟨rfl, Below.refl _ _⟩
  have hm4 : m ≤ 4194303 := by omega
  have hle0 : ¬ (1048576 - (m : Int)) < 0 := by omega
  go_enter Try.func3, Try.ntmps3
  go_wp2_with fail
  refine (szPartyS_any P m pc 1048576 _ hm0 (by omega) (by omega)).mono ?_
  rw [if_pos (by omega : (m : Int) ≤ 1048576)]
  rintro y wz ⟨rfl, rfl⟩
  have HB0 : Hid (Below w.heap.size w w) := Lib.hid (Below.refl _ _)
  go_wp2_with fail
  refine (toPartyS_n P m pc ps _ hm HP.out).mono ?_
  rintro y w1 ⟨A1, rfl, o1, b1⟩
  have s1 := b1.size
  (try simp at s1)
  have HB1 := Lib.hid (bel_tr b1 (by (first | omega | (simp; omega) | simp)) HB0.out)
  have O1 := Lib.hid o1
  have I1 := Lib.hid o1.inB
  clear o1
  go_wp2_with fail
  refine (sPinsIn_any A1 m m cab ps _ hm4 O1.out.rd).mono ?_
  rintro y w2 ⟨v2, rfl, r2, b2⟩
  have s2 := b2.size
  (try simp at s2)
  have HB2 := Lib.hid (bel_tr b2 (by (first | omega | (simp; omega) | simp)) HB1.out)
  obtain ⟨A2, c2, rfl, _, _, o2⟩ := own_of_row_cap (sortL_len _ _) r2
  clear r2
  obtain ⟨q, hq⟩ : ∃ q, (pinF ps cab m).length = q := ⟨_, rfl⟩
  have hqm : q ≤ m := hq ▸ pinF_len ps cab m
  have hTl : (sortL (pinF ps cab m) (pinF ps cab m).length).length = q := by rw [sortL_len]; exact hq
  obtain ⟨T, hT⟩ : ∃ T, (sortL (pinF ps cab m) (pinF ps cab m).length) = T := ⟨_, rfl⟩
  rw [hT] at hTl o2
  rw [hq] at o2 ⊢
  have HT := Lib.hid hT
  clear hT hq
  have hq4 : q ≤ 4194304 := by omega
  have O2 := Lib.hid o2
  have I2 := Lib.hid o2.inB
  clear o2
  have O2_2 := O2
  go_wp2_with fail
  refine (toPartyS_n P m pc ps _ hm (HP.out.below HB2.out)).mono ?_
  rintro y w3 ⟨A3, rfl, o3, b3⟩
  have s3 := b3.size
  (try simp at s3)
  have HB3 := Lib.hid (bel_tr b3 (by (first | omega | (simp; omega) | simp)) HB2.out)
  have O3 := Lib.hid o3
  have I3 := Lib.hid o3.inB
  clear o3
  have O2_3 := Lib.hid (O2_2.out.below b3)
  have O3_3 := O3
  go_wp2_with fail
  refine (iPinsIn_any A3 m m cab ps _ hm4 O3.out.rd).mono ?_
  rintro y w4 ⟨A4, q4, c4, rfl, o4, hc4, b4⟩
  rw [HT.out] at o4
  have hq5 : q4 = q := o4.1.symm.trans hTl
  subst hq5
  have s4 := b4.size
  (try simp at s4)
  have HB4 := Lib.hid (bel_tr b4 (by (first | omega | (simp; omega) | simp)) HB3.out)
  have O4 := Lib.hid o4
  have I4 := Lib.hid o4.inB
  clear o4
  have O2_4 := Lib.hid (O2_3.out.below b4)
  have O3_4 := Lib.hid (O3_3.out.below b4)
  have O4_4 := O4
  go_wp2_with fail
  refine (eqPinS_same A4 A2 q4 c4 c2 T _ hq4 O4.out.rd O2_4.out.rd).mono ?_
  rintro y w5 ⟨rfl, b5⟩
  have s5 := b5.size
  (try simp at s5)
  have HB5 := Lib.hid (bel_tr b5 (by (first | omega | (simp; omega) | simp)) HB4.out)
  have O2_5 := Lib.hid (O2_4.out.below b5)
  have O3_5 := Lib.hid (O3_4.out.below b5)
  have O4_5 := Lib.hid (O4_4.out.below b5)
  go_wp2_with fail
  refine (toPartyS_n P m pc ps _ hm (HP.out.below HB5.out)).mono ?_
  rintro y w6 ⟨A6, rfl, o6, b6⟩
  have s6 := b6.size
  (try simp at s6)
  have HB6 := Lib.hid (bel_tr b6 (by (first | omega | (simp; omega) | simp)) HB5.out)
  have O6 := Lib.hid o6
  have I6 := Lib.hid o6.inB
  clear o6
  have O2_6 := Lib.hid (O2_5.out.below b6)
  have O3_6 := Lib.hid (O3_5.out.below b6)
  have O4_6 := Lib.hid (O4_5.out.below b6)
  go_wp2_with fail
  refine (eqPartyS_same A3 A6 m m m ps _ (by omega) O3_6.out.rd O6.out.rd).mono ?_
  rintro y w7 ⟨rfl, b7⟩
  have s7 := b7.size
  (try simp at s7)
  have HB7 := Lib.hid (bel_tr b7 (by (first | omega | (simp; omega) | simp)) HB6.out)
  have O2_7 := Lib.hid (O2_6.out.below b7)
  have O3_7 := Lib.hid (O3_6.out.below b7)
  have O4_7 := Lib.hid (O4_6.out.below b7)
  go_wp2_with fail
  refine (markPartyS_any _ A3 m m 1 ps _ (by omega) (by omega) O3_7.out).mono ?_
  rintro y w8 ⟨rfl, m8⟩
  have b8 : Below w2.heap.size w7 w8 := m8.below I3.out (Nat.le_refl _) (by omega)
  have s8 := b8.size
  (try simp at s8)
  have HB8 := Lib.hid (bel_tr b8 (by (first | omega | (simp; omega) | simp)) HB7.out)
  have O2_8 := Lib.hid (O2_7.out.grown_ m8.2.1 (ne_of_InB I2.out I3.out (.inl (Nat.le_refl _))))
  have O4_8 := Lib.hid (O4_7.out.grown_ m8.2.1 (ne_of_InB I4.out I3.out (.inr (Nat.le_refl _))))
  clear m8
  go_wp2_with fail
  refine (eqPinS_same A4 A2 q4 c4 c2 T _ hq4 O4_8.out.rd O2_8.out.rd).mono ?_
  rintro y w9 ⟨rfl, b9⟩
  have s9 := b9.size
  (try simp at s9)
  have HB9 := Lib.hid (bel_tr b9 (by (first | omega | (simp; omega) | simp)) HB8.out)
  have O2_9 := Lib.hid (O2_8.out.below b9)
  have O4_9 := Lib.hid (O4_8.out.below b9)
  go_wp2_with fail
  refine (markPinS_any _ A4 q4 c4 1 T _ hq4 (by omega) O4_9.out).mono ?_
  rintro y w10 ⟨rfl, m10⟩
  have b10 : Below w2.heap.size w9 w10 := m10.below I4.out (by omega) (by omega)
  have s10 := b10.size
  (try simp at s10)
  have HB10 := Lib.hid (bel_tr b10 (by (first | omega | (simp; omega) | simp)) HB9.out)
  have O2_10 := Lib.hid (O2_9.out.grown_ m10.2.1 (ne_of_InB I2.out I4.out (.inl (by omega))))
  have M4_10 := Lib.hid m10.1
  clear m10
  go_wp2_with fail
  refine (heldPinS_any A4 q4 c4 1 _ hq4 (by omega) M4_10.out.rd).mono ?_
  rintro y wy ⟨rfl, rfl⟩
  go_wp2_with fail
  refine (toPartyS_n P m pc ps _ hm (HP.out.below HB10.out)).mono ?_
  rintro y w12 ⟨A12, rfl, o12, b12⟩
  have s12 := b12.size
  (try simp at s12)
  have HB12 := Lib.hid (bel_tr b12 (by (first | omega | (simp; omega) | simp)) HB10.out)
  have O12 := Lib.hid o12
  have I12 := Lib.hid o12.inB
  clear o12
  have O2_12 := Lib.hid (O2_10.out.below b12)
  have M4_12 := Lib.hid (M4_10.out.below b12)
  go_wp2_with fail
  refine (iPinsIn_any A12 m m cab ps _ hm4 O12.out.rd).mono ?_
  rintro y w13 ⟨A13, q13, c13, rfl, o13, hc13, b13⟩
  rw [HT.out] at o13
  have hq6 : q13 = q4 := o13.1.symm.trans hTl
  subst hq6
  have s13 := b13.size
  (try simp at s13)
  have HB13 := Lib.hid (bel_tr b13 (by (first | omega | (simp; omega) | simp)) HB12.out)
  have O13 := Lib.hid o13
  have I13 := Lib.hid o13.inB
  clear o13
  have O2_13 := Lib.hid (O2_12.out.below b13)
  have M4_13 := Lib.hid (M4_12.out.below b13)
  go_wp2_with fail
  refine (eqPinS_same A13 A2 q13 c13 c2 T _ hq4 O13.out.rd O2_13.out.rd).mono ?_
  rintro y w14 ⟨rfl, b14⟩
  have s14 := b14.size
  (try simp at s14)
  have HB14 := Lib.hid (bel_tr b14 (by (first | omega | (simp; omega) | simp)) HB13.out)
  have M4_14 := Lib.hid (M4_13.out.below b14)
  go_wp2_with fail
  refine (heldPinS_any A4 q13 c4 1 _ hq4 (by omega) M4_14.out.rd).mono ?_
  rintro y wx ⟨rfl, rfl⟩
  go_wp2
  go_ret
  exact ⟨rfl, HB14.out⟩
end Go.Proofs.Ytlkladabefpnfaa
