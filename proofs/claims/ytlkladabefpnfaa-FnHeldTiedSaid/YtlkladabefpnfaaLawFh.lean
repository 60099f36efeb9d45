/-
  Walk of the law FnHeldTied: it returns true and leaves old memory alone.
-/
import Derived.Test.YtlkladabefpnfaaDh
import Derived.Test.YtlkladabefpnfaaSum
import Derived.Test.YtlkladabefpnfaaPnS
import Derived.Test.YtlkladabefpnfaaPnI
import Derived.Test.YtlkladabefpnfaaCut
import Derived.Deep.RegionHeld3
namespace Go.Proofs.Ytlkladabefpnfaa
open Go.RowKit

theorem sum_at {P : Program} {f : FuncId} {args : Array Value} {w : World} {a v : Int} (h : a = v) (c : Calls P f args w fun x w' => x = .returned (.int .i64 v) ∧ Below w.heap.size w w') : Calls P f args w fun x w' => x = .returned (.int .i64 a) ∧ Below w.heap.size w w' := h ▸ c
theorem sumTo_congr {f g : Nat → Int} : ∀ k, (∀ i, i < k → f i = g i) → sumTo f k = sumTo g k
  | 0, _ => rfl
  | k + 1, h => by
    unfold sumTo
    rw [sumTo_congr k (fun i hi => h i (by omega)), h k (by omega)]
theorem sumTo_add (f : Nat → Int) (k : Nat) : ∀ j, sumTo f (k + j) = sumTo f k + sumTo (fun i => f (k + i)) j
  | 0 => by simp [sumTo]
  | j + 1 => by
    show sumTo f (k + j) + f (k + j) = sumTo f k + (sumTo (fun i => f (k + i)) j + f (k + j))
    rw [sumTo_add f k j]
    omega
theorem sum_split {F1 F2 F3 : Nat → Int} {k m : Nat} (hk : k ≤ m) (h1 : ∀ i, i < k → F1 i = F3 i) (h2 : ∀ i, F2 i = F3 (k + i)) : sumTo F3 m = sumTo F1 k + sumTo F2 (m - k) := by
  have h := sumTo_add F3 k (m - k)
  rw [show k + (m - k) = m by omega] at h
  rw [h, sumTo_congr k h1, sumTo_congr (m - k) (fun i _ => h2 i)]
theorem held_split (ps : List (Nat → Int)) (cab : Int) {k m : Nat} (hk : k ≤ m) : sumTo (heldF ps cab) m = sumTo (heldF (ps.take k) cab) k + sumTo (heldF (ps.drop k) cab) (m - k) :=
  sum_split hk (fun i hi => by unfold heldF; simp only [fld_take hi]) (fun i => by unfold heldF; simp only [fld_drop])
theorem tied_split (ps : List (Nat → Int)) (cab : Int) {k m : Nat} (hk : k ≤ m) : sumTo (tiedF ps cab) m = sumTo (tiedF (ps.take k) cab) k + sumTo (tiedF (ps.drop k) cab) (m - k) :=
  sum_split hk (fun i hi => by unfold tiedF; simp only [fld_take hi]) (fun i => by unfold tiedF; simp only [fld_drop])
theorem cnt_split (ps : List (Nat → Int)) (cab : Int) {k m : Nat} (hk : k ≤ m) : sumTo (cntF ps cab) m = sumTo (cntF (ps.take k) cab) k + sumTo (cntF (ps.drop k) cab) (m - k) :=
  sum_split hk (fun i hi => by unfold cntF; simp only [fld_take hi]) (fun i => by unfold cntF; simp only [fld_drop])

set_option maxRecDepth 100000 in
set_option maxHeartbeats 16000000 in
theorem lawFnHeldTied (A : Option Addr) (n c : Nat) (w : World) (hn0 : n ≤ 9223372036854775807) (hB : RdB w A n) :
    Calls Try.prog 4 #[.slice A n c] w fun y w' => y = .returned (.bool true) ∧ Below w.heap.size w w' := by
  by_cases hn : n ≤ 1048576
  case neg =>
    have hbig : decide (1048576 < n) = true := by simp; omega
    go_enter Try.func4, Try.ntmps4
    go_wp2_with fail
    refine (big_any A n c _).mono ?_
    rintro y _ ⟨rfl, rfl⟩
    go_wp2
    go_ret
    exact ⟨rfl, Below.refl _ _⟩
  have HB := Lib.hid hB
  clear hB
  have hbig : decide (1048576 < n) = false := by simpa using hn
  go_enter Try.func4, Try.ntmps4
  go_wp2_with fail
  refine (big_any A n c _).mono ?_
  rintro y _ ⟨rfl, rfl⟩
  go_wp2_with fail
  refine (drawHeldIn_any A n c _ hn HB.out).mono ?_
  rintro y w1 ⟨A', m, c', ps, cab, rfl, h1, h2, h3, ho, hb1, hsh⟩
  have HO := Lib.hid ho.rd
  have s1 := hb1.size
  have B1 := Lib.hid hb1
  have SH := Lib.hid hsh
  have R1 := Lib.hid (HB.out.below hb1)
  clear ho hb1 hsh
  go_wp2_with fail
  refine (at0_any A n c 1 _ hn (by omega) R1.out).mono ?_
  rintro y _ ⟨x, rfl, ⟨x0, x1⟩, rfl⟩
  obtain ⟨k, hk⟩ : ∃ k : Nat, (k : Int) = x % ((m : Int) + 1) := ⟨(x % ((m : Int) + 1)).toNat, by have := Int.emod_nonneg x (show (m : Int) + 1 ≠ 0 by omega); omega⟩
  have hkm : k ≤ m := by have := Int.emod_lt_of_pos x (show (0 : Int) < (m : Int) + 1 by omega); omega
  have hq : x % ((m : Int) + 1) = (k : Int) := hk.symm
  have ht : x.tmod ((m : Int) + 1) = (k : Int) := by rw [Int.tmod_eq_emod_of_nonneg x0]; exact hq
  clear hk
  have hki : (k : Int) ≤ (m : Int) := by omega
  have hk0 : (0 : Int) ≤ (k : Int) := by omega
  have hkc : (k : Int) ≤ (c' : Int) := by omega
  have hmc : (m : Int) ≤ (c' : Int) := by omega
  obtain ⟨h1, hh1⟩ : ∃ a, a = sumTo (heldF (ps.take k) cab) k := ⟨_, rfl⟩
  obtain ⟨h2, hh2⟩ : ∃ a, a = sumTo (heldF (ps.drop k) cab) (m - k) := ⟨_, rfl⟩
  have hh3 : h1 + h2 = sumTo (heldF ps cab) m := by rw [hh1, hh2]; exact (held_split ps cab hkm).symm
  have ih1 : 0 ≤ h1 ∧ h1 ≤ 4194304 := by have h := sumTo_le (heldF (ps.take k) cab) 6 (heldF_b _ cab) k; rw [← hh1] at h; omega
  have ih2 : 0 ≤ h2 ∧ h2 ≤ 4194304 := by have h := sumTo_le (heldF (ps.drop k) cab) 6 (heldF_b _ cab) (m - k); rw [← hh2] at h; omega
  obtain ⟨jh1, jh2⟩ := ih1
  obtain ⟨jh3, jh4⟩ := ih2
  have Hh1 := Lib.hid hh1
  have Hh2 := Lib.hid hh2
  have Hh3 := Lib.hid hh3
  clear hh1 hh2 hh3
  obtain ⟨t1, ht1⟩ : ∃ a, a = sumTo (tiedF (ps.take k) cab) k := ⟨_, rfl⟩
  obtain ⟨t2, ht2⟩ : ∃ a, a = sumTo (tiedF (ps.drop k) cab) (m - k) := ⟨_, rfl⟩
  have ht3 : t1 + t2 = sumTo (tiedF ps cab) m := by rw [ht1, ht2]; exact (tied_split ps cab hkm).symm
  have it1 : 0 ≤ t1 ∧ t1 ≤ 4194304 := by have h := sumTo_le (tiedF (ps.take k) cab) 6 (tiedF_b _ cab) k; rw [← ht1] at h; omega
  have it2 : 0 ≤ t2 ∧ t2 ≤ 4194304 := by have h := sumTo_le (tiedF (ps.drop k) cab) 6 (tiedF_b _ cab) (m - k); rw [← ht2] at h; omega
  obtain ⟨jt1, jt2⟩ := it1
  obtain ⟨jt3, jt4⟩ := it2
  have Ht1 := Lib.hid ht1
  have Ht2 := Lib.hid ht2
  have Ht3 := Lib.hid ht3
  clear ht1 ht2 ht3
  obtain ⟨n1, hn1⟩ : ∃ a, a = sumTo (cntF (ps.take k) cab) k := ⟨_, rfl⟩
  obtain ⟨n2, hn2⟩ : ∃ a, a = sumTo (cntF (ps.drop k) cab) (m - k) := ⟨_, rfl⟩
  have hn3 : n1 + n2 = sumTo (cntF ps cab) m := by rw [hn1, hn2]; exact (cnt_split ps cab hkm).symm
  have in1 : 0 ≤ n1 ∧ n1 ≤ 4194304 := by have h := sumTo_le (cntF (ps.take k) cab) 6 (cntF_b _ cab) k; rw [← hn1] at h; omega
  have in2 : 0 ≤ n2 ∧ n2 ≤ 4194304 := by have h := sumTo_le (cntF (ps.drop k) cab) 6 (cntF_b _ cab) (m - k); rw [← hn2] at h; omega
  obtain ⟨jn1, jn2⟩ := in1
  obtain ⟨jn3, jn4⟩ := in2
  have Hn1 := Lib.hid hn1
  have Hn2 := Lib.hid hn2
  have Hn3 := Lib.hid hn3
  clear hn1 hn2 hn3
  have hm : m ≤ 4194304 := by omega
  have hwh : IntKind.i64.wrap (h1 + h2) = h1 + h2 := by (rw [IntKind.wrap_i64]; omega)
  have hwt : IntKind.i64.wrap (t1 + t2) = t1 + t2 := by (rw [IntKind.wrap_i64]; omega)
  have hwn : IntKind.i64.wrap (n1 + n2) = n1 + n2 := by (rw [IntKind.wrap_i64]; omega)
  have hhge : 0 ≤ h1 + h2 := by omega
  obtain ⟨b, rfl⟩ := SH.out
  by_cases hkm2 : k = m
  · subst hkm2
    obtain ⟨h0, hh0⟩ : ∃ a, a = sumTo (heldF ps cab) k := ⟨_, rfl⟩
    obtain ⟨t0, ht0⟩ : ∃ a, a = sumTo (tiedF ps cab) k := ⟨_, rfl⟩
    obtain ⟨n0, hn0'⟩ : ∃ a, a = sumTo (cntF ps cab) k := ⟨_, rfl⟩
    have ih0 : 0 ≤ h0 ∧ h0 ≤ 4194304 := by have h := sumTo_le (heldF ps cab) 6 (heldF_b _ cab) k; rw [← hh0] at h; omega
    obtain ⟨jh5, jh6⟩ := ih0
    have Eh := Lib.hid hh0
    clear hh0
    have hvh : IntKind.i64.wrap h0 = h0 := by (rw [IntKind.wrap_i64]; omega)
    have huh : IntKind.i64.wrap (h0 + 0) = h0 := by (rw [Int.add_zero]; exact hvh)
    have it0 : 0 ≤ t0 ∧ t0 ≤ 4194304 := by have h := sumTo_le (tiedF ps cab) 6 (tiedF_b _ cab) k; rw [← ht0] at h; omega
    obtain ⟨jt5, jt6⟩ := it0
    have Et := Lib.hid ht0
    clear ht0
    have hvt : IntKind.i64.wrap t0 = t0 := by (rw [IntKind.wrap_i64]; omega)
    have hut : IntKind.i64.wrap (t0 + 0) = t0 := by (rw [Int.add_zero]; exact hvt)
    have in0 : 0 ≤ n0 ∧ n0 ≤ 4194304 := by have h := sumTo_le (cntF ps cab) 6 (cntF_b _ cab) k; rw [← hn0'] at h; omega
    obtain ⟨jn5, jn6⟩ := in0
    have En := Lib.hid hn0'
    clear hn0'
    have hvn : IntKind.i64.wrap n0 = n0 := by (rw [IntKind.wrap_i64]; omega)
    have hun : IntKind.i64.wrap (n0 + 0) = n0 := by (rw [Int.add_zero]; exact hvn)
    clear hwh hwt hwn hhge
    have hz : k - k = 0 := by omega
    by_cases hkc2 : c' = k
    · subst hkc2
      go_wp2
      clear hq ht
      dsimp only [List.append]
      go_region_held3 (fun w' => Hid (Below w.heap.size w w')) ((exact Lib.hid (by have q1 := B1.out; (repeat (first | with_reducible exact Below.refl _ _ | with_reducible refine Below.drew ?_ | with_reducible refine below_drewN ?_ _ | (with_reducible refine bel_alloc ?_ ?_ _; (first | omega | (simp; omega) | simp)) | (with_reducible refine bel_set ?_ ?_ _; (first | omega | (simp; omega) | simp)) | (with_reducible refine bel_tr (by assumption) ?_ ?_; (first | omega | (simp; omega) | simp))))))) (first
        | (go_at_call_of 17 (Value.slice (some ⟨b, 0, none⟩) c' c'); refine (sum_at Eh.out (impl_HeldIn _ c' c' cab ps _ (by omega) (HO.out.below (by (repeat (first | with_reducible exact Below.refl _ _ | with_reducible refine Below.drew ?_ | with_reducible refine below_drewN ?_ _ | (with_reducible refine bel_alloc ?_ ?_ _; (first | omega | (simp; omega) | simp)) | (with_reducible refine bel_set ?_ ?_ _; (first | omega | (simp; omega) | simp)) | (with_reducible refine bel_tr (by assumption) ?_ ?_; (first | omega | (simp; omega) | simp)))))))).mono ?_; rintro y w2 ⟨rfl, b2⟩; have ss2 := b2.size; (try simp at ss2))
        | (go_at_call 17; refine (sum_at (a := 0) rfl (impl_HeldIn _ 0 _ cab [] _ (by omega) ⟨rfl, .inl rfl⟩)).mono ?_; rintro y w2 ⟨rfl, b2⟩; have ss2 := b2.size; (try simp at ss2))
        | (go_at_call_of 18 (Value.slice (some ⟨b, 0, none⟩) c' c'); refine (sum_at Et.out (impl_TiedIn _ c' c' cab ps _ (by omega) (HO.out.below (by (repeat (first | with_reducible exact Below.refl _ _ | with_reducible refine Below.drew ?_ | with_reducible refine below_drewN ?_ _ | (with_reducible refine bel_alloc ?_ ?_ _; (first | omega | (simp; omega) | simp)) | (with_reducible refine bel_set ?_ ?_ _; (first | omega | (simp; omega) | simp)) | (with_reducible refine bel_tr (by assumption) ?_ ?_; (first | omega | (simp; omega) | simp)))))))).mono ?_; rintro y w2 ⟨rfl, b2⟩; have ss2 := b2.size; (try simp at ss2))
        | (go_at_call 19; refine (sum_at (a := 0) rfl (spec_TiedIn _ 0 _ cab [] _ (by omega) ⟨rfl, .inl rfl⟩)).mono ?_; rintro y w2 ⟨rfl, b2⟩; have ss2 := b2.size; (try simp at ss2))
        | (go_at_call_of 20 (Value.slice (some ⟨b, 0, none⟩) c' c'); refine (sum_at En.out (impl_CountIn _ c' c' cab ps _ (by omega) (HO.out.below (by (repeat (first | with_reducible exact Below.refl _ _ | with_reducible refine Below.drew ?_ | with_reducible refine below_drewN ?_ _ | (with_reducible refine bel_alloc ?_ ?_ _; (first | omega | (simp; omega) | simp)) | (with_reducible refine bel_set ?_ ?_ _; (first | omega | (simp; omega) | simp)) | (with_reducible refine bel_tr (by assumption) ?_ ?_; (first | omega | (simp; omega) | simp)))))))).mono ?_; rintro y w2 ⟨rfl, b2⟩; have ss2 := b2.size; (try simp at ss2))
        | (go_at_call 21; refine (sum_at (a := 0) rfl (spec_CountIn _ 0 _ cab [] _ (by omega) ⟨rfl, .inl rfl⟩)).mono ?_; rintro y w2 ⟨rfl, b2⟩; have ss2 := b2.size; (try simp at ss2))
        | (go_at_call 8; refine (iPinsIn_any _ c' c' cab ps _ (by omega) (HO.out.below (by (repeat (first | with_reducible exact Below.refl _ _ | with_reducible refine Below.drew ?_ | with_reducible refine below_drewN ?_ _ | (with_reducible refine bel_alloc ?_ ?_ _; (first | omega | (simp; omega) | simp)) | (with_reducible refine bel_set ?_ ?_ _; (first | omega | (simp; omega) | simp)) | (with_reducible refine bel_tr (by assumption) ?_ ?_; (first | omega | (simp; omega) | simp))))))).mono ?_; rintro y w3 ⟨A5, m5, c5, rfl, es5, o5, p5, _, _, b3⟩; have ss3 := b3.size; (try simp at ss3); obtain rfl : m5 = (pinF ps cab c').length := (by rw [← o5.1]; exact p5.length_eq); clear o5 p5)
        | (go_at_call 6; refine (sPinsIn_any _ c' c' cab ps _ (by omega) (HO.out.below (by (repeat (first | with_reducible exact Below.refl _ _ | with_reducible refine Below.drew ?_ | with_reducible refine below_drewN ?_ _ | (with_reducible refine bel_alloc ?_ ?_ _; (first | omega | (simp; omega) | simp)) | (with_reducible refine bel_set ?_ ?_ _; (first | omega | (simp; omega) | simp)) | (with_reducible refine bel_tr (by assumption) ?_ ?_; (first | omega | (simp; omega) | simp))))))).mono ?_; rintro y w4 ⟨v6, rfl, r6, b4⟩; have ss4 := b4.size; (try simp at ss4); obtain ⟨A6, c6, rfl, _, _, _⟩ := own_of_row_cap (es := sortL (pinF ps cab c') (pinF ps cab c').length) (sortL_len _ _) r6; clear r6))
      go_wp2
      go_ret
      exact ⟨rfl, by have q1 := B1.out; (repeat (first | with_reducible exact Below.refl _ _ | with_reducible refine Below.drew ?_ | with_reducible refine below_drewN ?_ _ | (with_reducible refine bel_alloc ?_ ?_ _; (first | omega | (simp; omega) | simp)) | (with_reducible refine bel_set ?_ ?_ _; (first | omega | (simp; omega) | simp)) | (with_reducible refine bel_tr (by assumption) ?_ ?_; (first | omega | (simp; omega) | simp))))⟩
    · have hkc3 : ¬ k = c' := by omega
      have hnei : ¬ (c' : Int) = (k : Int) := by omega
      go_wp2
      clear hq ht
      dsimp only [List.append]
      go_region_held3 (fun w' => Hid (Below w.heap.size w w')) ((exact Lib.hid (by have q1 := B1.out; (repeat (first | with_reducible exact Below.refl _ _ | with_reducible refine Below.drew ?_ | with_reducible refine below_drewN ?_ _ | (with_reducible refine bel_alloc ?_ ?_ _; (first | omega | (simp; omega) | simp)) | (with_reducible refine bel_set ?_ ?_ _; (first | omega | (simp; omega) | simp)) | (with_reducible refine bel_tr (by assumption) ?_ ?_; (first | omega | (simp; omega) | simp))))))) (first
        | (go_at_call_of 17 (Value.slice (some ⟨b, 0, none⟩) k c'); refine (sum_at Eh.out (impl_HeldIn _ k c' cab ps _ (by omega) (HO.out.below (by (repeat (first | with_reducible exact Below.refl _ _ | with_reducible refine Below.drew ?_ | with_reducible refine below_drewN ?_ _ | (with_reducible refine bel_alloc ?_ ?_ _; (first | omega | (simp; omega) | simp)) | (with_reducible refine bel_set ?_ ?_ _; (first | omega | (simp; omega) | simp)) | (with_reducible refine bel_tr (by assumption) ?_ ?_; (first | omega | (simp; omega) | simp)))))))).mono ?_; rintro y w2 ⟨rfl, b2⟩; have ss2 := b2.size; (try simp at ss2))
        | (go_at_call 17; refine (sum_at (a := 0) rfl (impl_HeldIn _ 0 _ cab [] _ (by omega) ⟨rfl, .inl rfl⟩)).mono ?_; rintro y w2 ⟨rfl, b2⟩; have ss2 := b2.size; (try simp at ss2))
        | (go_at_call_of 18 (Value.slice (some ⟨b, 0, none⟩) k c'); refine (sum_at Et.out (impl_TiedIn _ k c' cab ps _ (by omega) (HO.out.below (by (repeat (first | with_reducible exact Below.refl _ _ | with_reducible refine Below.drew ?_ | with_reducible refine below_drewN ?_ _ | (with_reducible refine bel_alloc ?_ ?_ _; (first | omega | (simp; omega) | simp)) | (with_reducible refine bel_set ?_ ?_ _; (first | omega | (simp; omega) | simp)) | (with_reducible refine bel_tr (by assumption) ?_ ?_; (first | omega | (simp; omega) | simp)))))))).mono ?_; rintro y w2 ⟨rfl, b2⟩; have ss2 := b2.size; (try simp at ss2))
        | (go_at_call 19; refine (sum_at (a := 0) rfl (spec_TiedIn _ 0 _ cab [] _ (by omega) ⟨rfl, .inl rfl⟩)).mono ?_; rintro y w2 ⟨rfl, b2⟩; have ss2 := b2.size; (try simp at ss2))
        | (go_at_call_of 20 (Value.slice (some ⟨b, 0, none⟩) k c'); refine (sum_at En.out (impl_CountIn _ k c' cab ps _ (by omega) (HO.out.below (by (repeat (first | with_reducible exact Below.refl _ _ | with_reducible refine Below.drew ?_ | with_reducible refine below_drewN ?_ _ | (with_reducible refine bel_alloc ?_ ?_ _; (first | omega | (simp; omega) | simp)) | (with_reducible refine bel_set ?_ ?_ _; (first | omega | (simp; omega) | simp)) | (with_reducible refine bel_tr (by assumption) ?_ ?_; (first | omega | (simp; omega) | simp)))))))).mono ?_; rintro y w2 ⟨rfl, b2⟩; have ss2 := b2.size; (try simp at ss2))
        | (go_at_call 21; refine (sum_at (a := 0) rfl (spec_CountIn _ 0 _ cab [] _ (by omega) ⟨rfl, .inl rfl⟩)).mono ?_; rintro y w2 ⟨rfl, b2⟩; have ss2 := b2.size; (try simp at ss2))
        | (go_at_call 8; refine (iPinsIn_any _ k c' cab ps _ (by omega) (HO.out.below (by (repeat (first | with_reducible exact Below.refl _ _ | with_reducible refine Below.drew ?_ | with_reducible refine below_drewN ?_ _ | (with_reducible refine bel_alloc ?_ ?_ _; (first | omega | (simp; omega) | simp)) | (with_reducible refine bel_set ?_ ?_ _; (first | omega | (simp; omega) | simp)) | (with_reducible refine bel_tr (by assumption) ?_ ?_; (first | omega | (simp; omega) | simp))))))).mono ?_; rintro y w3 ⟨A5, m5, c5, rfl, es5, o5, p5, _, _, b3⟩; have ss3 := b3.size; (try simp at ss3); obtain rfl : m5 = (pinF ps cab k).length := (by rw [← o5.1]; exact p5.length_eq); clear o5 p5)
        | (go_at_call 6; refine (sPinsIn_any _ k c' cab ps _ (by omega) (HO.out.below (by (repeat (first | with_reducible exact Below.refl _ _ | with_reducible refine Below.drew ?_ | with_reducible refine below_drewN ?_ _ | (with_reducible refine bel_alloc ?_ ?_ _; (first | omega | (simp; omega) | simp)) | (with_reducible refine bel_set ?_ ?_ _; (first | omega | (simp; omega) | simp)) | (with_reducible refine bel_tr (by assumption) ?_ ?_; (first | omega | (simp; omega) | simp))))))).mono ?_; rintro y w4 ⟨v6, rfl, r6, b4⟩; have ss4 := b4.size; (try simp at ss4); obtain ⟨A6, c6, rfl, _, _, _⟩ := own_of_row_cap (es := sortL (pinF ps cab k) (pinF ps cab k).length) (sortL_len _ _) r6; clear r6))
      go_wp2
      go_ret
      exact ⟨rfl, by have q1 := B1.out; (repeat (first | with_reducible exact Below.refl _ _ | with_reducible refine Below.drew ?_ | with_reducible refine below_drewN ?_ _ | (with_reducible refine bel_alloc ?_ ?_ _; (first | omega | (simp; omega) | simp)) | (with_reducible refine bel_set ?_ ?_ _; (first | omega | (simp; omega) | simp)) | (with_reducible refine bel_tr (by assumption) ?_ ?_; (first | omega | (simp; omega) | simp))))⟩
  · have hlt : (k : Int) < (m : Int) := by omega
    have hne : ¬ c' = k := by omega
    have hne2 : ¬ k = c' := by omega
    have hnei : ¬ (c' : Int) = (k : Int) := by omega
    have HD := Lib.hid (show Rd w1 10 (some ⟨b, k * 10, none⟩) (m - k) (ps.drop k) by (have h := HO.out.drop hkm; rwa [Nat.zero_add] at h))
    go_wp2
    clear hq ht
    dsimp only [List.append]
    go_region_held3 (fun w' => Hid (Below w.heap.size w w')) ((exact Lib.hid (by have q1 := B1.out; (repeat (first | with_reducible exact Below.refl _ _ | with_reducible refine Below.drew ?_ | with_reducible refine below_drewN ?_ _ | (with_reducible refine bel_alloc ?_ ?_ _; (first | omega | (simp; omega) | simp)) | (with_reducible refine bel_set ?_ ?_ _; (first | omega | (simp; omega) | simp)) | (with_reducible refine bel_tr (by assumption) ?_ ?_; (first | omega | (simp; omega) | simp))))))) (first
      | (go_at_call_of 17 (Value.slice (some ⟨b, 0, none⟩) m c'); refine (sum_at Hh3.out (impl_HeldIn _ m c' cab ps _ (by omega) (HO.out.below (by (repeat (first | with_reducible exact Below.refl _ _ | with_reducible refine Below.drew ?_ | with_reducible refine below_drewN ?_ _ | (with_reducible refine bel_alloc ?_ ?_ _; (first | omega | (simp; omega) | simp)) | (with_reducible refine bel_set ?_ ?_ _; (first | omega | (simp; omega) | simp)) | (with_reducible refine bel_tr (by assumption) ?_ ?_; (first | omega | (simp; omega) | simp)))))))).mono ?_; rintro y w2 ⟨rfl, b2⟩; have ss2 := b2.size; (try simp at ss2))
      | (go_at_call_of 17 (Value.slice (some ⟨b, 0, none⟩) k c'); refine (sum_at Hh1.out (impl_HeldIn _ k c' cab (ps.take k) _ (by omega) ((HO.out.take hkm).below (by (repeat (first | with_reducible exact Below.refl _ _ | with_reducible refine Below.drew ?_ | with_reducible refine below_drewN ?_ _ | (with_reducible refine bel_alloc ?_ ?_ _; (first | omega | (simp; omega) | simp)) | (with_reducible refine bel_set ?_ ?_ _; (first | omega | (simp; omega) | simp)) | (with_reducible refine bel_tr (by assumption) ?_ ?_; (first | omega | (simp; omega) | simp)))))))).mono ?_; rintro y w2 ⟨rfl, b2⟩; have ss2 := b2.size; (try simp at ss2))
      | (go_at_call 17; refine (sum_at Hh2.out (impl_HeldIn _ (m - k) _ cab (ps.drop k) _ (by omega) (Rd.below HD.out (by (repeat (first | with_reducible exact Below.refl _ _ | with_reducible refine Below.drew ?_ | with_reducible refine below_drewN ?_ _ | (with_reducible refine bel_alloc ?_ ?_ _; (first | omega | (simp; omega) | simp)) | (with_reducible refine bel_set ?_ ?_ _; (first | omega | (simp; omega) | simp)) | (with_reducible refine bel_tr (by assumption) ?_ ?_; (first | omega | (simp; omega) | simp)))))))).mono ?_; rintro y w2 ⟨rfl, b2⟩; have ss2 := b2.size; (try simp at ss2))
      | (go_at_call_of 18 (Value.slice (some ⟨b, 0, none⟩) m c'); refine (sum_at Ht3.out (impl_TiedIn _ m c' cab ps _ (by omega) (HO.out.below (by (repeat (first | with_reducible exact Below.refl _ _ | with_reducible refine Below.drew ?_ | with_reducible refine below_drewN ?_ _ | (with_reducible refine bel_alloc ?_ ?_ _; (first | omega | (simp; omega) | simp)) | (with_reducible refine bel_set ?_ ?_ _; (first | omega | (simp; omega) | simp)) | (with_reducible refine bel_tr (by assumption) ?_ ?_; (first | omega | (simp; omega) | simp)))))))).mono ?_; rintro y w2 ⟨rfl, b2⟩; have ss2 := b2.size; (try simp at ss2))
      | (go_at_call_of 18 (Value.slice (some ⟨b, 0, none⟩) k c'); refine (sum_at Ht1.out (impl_TiedIn _ k c' cab (ps.take k) _ (by omega) ((HO.out.take hkm).below (by (repeat (first | with_reducible exact Below.refl _ _ | with_reducible refine Below.drew ?_ | with_reducible refine below_drewN ?_ _ | (with_reducible refine bel_alloc ?_ ?_ _; (first | omega | (simp; omega) | simp)) | (with_reducible refine bel_set ?_ ?_ _; (first | omega | (simp; omega) | simp)) | (with_reducible refine bel_tr (by assumption) ?_ ?_; (first | omega | (simp; omega) | simp)))))))).mono ?_; rintro y w2 ⟨rfl, b2⟩; have ss2 := b2.size; (try simp at ss2))
      | (go_at_call 19; refine (sum_at Ht2.out (spec_TiedIn _ (m - k) _ cab (ps.drop k) _ (by omega) (Rd.below HD.out (by (repeat (first | with_reducible exact Below.refl _ _ | with_reducible refine Below.drew ?_ | with_reducible refine below_drewN ?_ _ | (with_reducible refine bel_alloc ?_ ?_ _; (first | omega | (simp; omega) | simp)) | (with_reducible refine bel_set ?_ ?_ _; (first | omega | (simp; omega) | simp)) | (with_reducible refine bel_tr (by assumption) ?_ ?_; (first | omega | (simp; omega) | simp)))))))).mono ?_; rintro y w2 ⟨rfl, b2⟩; have ss2 := b2.size; (try simp at ss2))
      | (go_at_call_of 20 (Value.slice (some ⟨b, 0, none⟩) m c'); refine (sum_at Hn3.out (impl_CountIn _ m c' cab ps _ (by omega) (HO.out.below (by (repeat (first | with_reducible exact Below.refl _ _ | with_reducible refine Below.drew ?_ | with_reducible refine below_drewN ?_ _ | (with_reducible refine bel_alloc ?_ ?_ _; (first | omega | (simp; omega) | simp)) | (with_reducible refine bel_set ?_ ?_ _; (first | omega | (simp; omega) | simp)) | (with_reducible refine bel_tr (by assumption) ?_ ?_; (first | omega | (simp; omega) | simp)))))))).mono ?_; rintro y w2 ⟨rfl, b2⟩; have ss2 := b2.size; (try simp at ss2))
      | (go_at_call_of 20 (Value.slice (some ⟨b, 0, none⟩) k c'); refine (sum_at Hn1.out (impl_CountIn _ k c' cab (ps.take k) _ (by omega) ((HO.out.take hkm).below (by (repeat (first | with_reducible exact Below.refl _ _ | with_reducible refine Below.drew ?_ | with_reducible refine below_drewN ?_ _ | (with_reducible refine bel_alloc ?_ ?_ _; (first | omega | (simp; omega) | simp)) | (with_reducible refine bel_set ?_ ?_ _; (first | omega | (simp; omega) | simp)) | (with_reducible refine bel_tr (by assumption) ?_ ?_; (first | omega | (simp; omega) | simp)))))))).mono ?_; rintro y w2 ⟨rfl, b2⟩; have ss2 := b2.size; (try simp at ss2))
      | (go_at_call 21; refine (sum_at Hn2.out (spec_CountIn _ (m - k) _ cab (ps.drop k) _ (by omega) (Rd.below HD.out (by (repeat (first | with_reducible exact Below.refl _ _ | with_reducible refine Below.drew ?_ | with_reducible refine below_drewN ?_ _ | (with_reducible refine bel_alloc ?_ ?_ _; (first | omega | (simp; omega) | simp)) | (with_reducible refine bel_set ?_ ?_ _; (first | omega | (simp; omega) | simp)) | (with_reducible refine bel_tr (by assumption) ?_ ?_; (first | omega | (simp; omega) | simp)))))))).mono ?_; rintro y w2 ⟨rfl, b2⟩; have ss2 := b2.size; (try simp at ss2))
      | (go_at_call 8; refine (iPinsIn_any _ m c' cab ps _ (by omega) (HO.out.below (by (repeat (first | with_reducible exact Below.refl _ _ | with_reducible refine Below.drew ?_ | with_reducible refine below_drewN ?_ _ | (with_reducible refine bel_alloc ?_ ?_ _; (first | omega | (simp; omega) | simp)) | (with_reducible refine bel_set ?_ ?_ _; (first | omega | (simp; omega) | simp)) | (with_reducible refine bel_tr (by assumption) ?_ ?_; (first | omega | (simp; omega) | simp))))))).mono ?_; rintro y w3 ⟨A5, m5, c5, rfl, es5, o5, p5, _, _, b3⟩; have ss3 := b3.size; (try simp at ss3); obtain rfl : m5 = (pinF ps cab m).length := (by rw [← o5.1]; exact p5.length_eq); clear o5 p5)
      | (go_at_call 6; refine (sPinsIn_any _ m c' cab ps _ (by omega) (HO.out.below (by (repeat (first | with_reducible exact Below.refl _ _ | with_reducible refine Below.drew ?_ | with_reducible refine below_drewN ?_ _ | (with_reducible refine bel_alloc ?_ ?_ _; (first | omega | (simp; omega) | simp)) | (with_reducible refine bel_set ?_ ?_ _; (first | omega | (simp; omega) | simp)) | (with_reducible refine bel_tr (by assumption) ?_ ?_; (first | omega | (simp; omega) | simp))))))).mono ?_; rintro y w4 ⟨v6, rfl, r6, b4⟩; have ss4 := b4.size; (try simp at ss4); obtain ⟨A6, c6, rfl, _, _, _⟩ := own_of_row_cap (es := sortL (pinF ps cab m) (pinF ps cab m).length) (sortL_len _ _) r6; clear r6))
    go_wp2
    go_ret
    exact ⟨rfl, by have q1 := B1.out; (repeat (first | with_reducible exact Below.refl _ _ | with_reducible refine Below.drew ?_ | with_reducible refine below_drewN ?_ _ | (with_reducible refine bel_alloc ?_ ?_ _; (first | omega | (simp; omega) | simp)) | (with_reducible refine bel_set ?_ ?_ _; (first | omega | (simp; omega) | simp)) | (with_reducible refine bel_tr (by assumption) ?_ ?_; (first | omega | (simp; omega) | simp))))⟩
end Go.Proofs.Ytlkladabefpnfaa
