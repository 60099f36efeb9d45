/-
  Contracts of PartyCut of the program and of the reference. No conditions beyond those stated.
-/
import Derived.Test.YthideehlhhpkjaaCo
import Derived.Test.YthideehlhhpkjaaDp
import Derived.Test.YthideehlhhpkjaaPt
import Derived.Test.YthideehlhhpkjaaMk
namespace Go.Proofs.Ythideehlhhpkjaa
open Go.RowKit

set_option maxRecDepth 100000 in
set_option maxHeartbeats 1000000 in
theorem sPartyCut_n (A : Option Addr) (n c : Nat) (id : Int) (es : List (Nat → Int)) (w : World) (hn : n ≤ 1048576) (h : Rd w 10 A n es) (hall : ∀ i, i < n → hasPid es id i = false) :
    Calls Try.prog 50 #[.slice A n c, .int .i64 id] w fun y w' => ∃ v, y = .returned v ∧ w'.ownsRow w.heap.size 77 10 v n (flat 10 es) ∧ Below w.heap.size w w' := by
  obtain ⟨i0, hi0, hz0, hz1, hz2⟩ := info_parts delParty_info
  have H := Lib.hid h
  have HA := Lib.hid hall
  clear h hall
  go_enter Try.func50, Try.ntmps50
  go_wp2_with fail
  refine (sPartyAt_any A n c id es w (by omega) H.out).mono ?_
  rintro y w1 ⟨r, hr, rfl, b1⟩
  obtain rfl : r = -1 := hr.uniq (.inr ⟨rfl, HA.out⟩)
  clear hr
  have s1 := b1.size
  have b2 : Below w.heap.size w (w1.alloc (.cells #[] 77)) := b1.alloc s1 _
  go_wp2_with (at_builtin; go_must (refine wpList_append_rd _ rfl _ _ 56 rfl w1.heap.size 77 i0 _ 10 80 Try.underlying56 hi0 hz0 hz1 hz2 rfl (by omega) (.slice (some ⟨w1.heap.size, 0, none⟩) 0 0) 0 [] rfl (row_empty w1 _ 10) A n c es rfl (H.out.below b2) (by unfold maxLen; omega) (by omega) (by simp) ?_); intro v3 w3 hown3 hg3 hat3)
  go_ret
  refine ⟨_, rfl, ?_, b2.grown hg3 (by simp; omega) (by simp [Value.ownBlock]; omega)⟩
  have h1 := hown3.lower s1
  simpa using h1

set_option maxRecDepth 100000 in
set_option maxHeartbeats 2000000 in
theorem sPartyCut_y (A : Option Addr) (n c k : Nat) (id : Int) (es : List (Nat → Int)) (w : World) (hn : n ≤ 1048576) (hc : n ≤ c) (hcm : c ≤ 9223372036854775807) (h : Rd w 10 A n es) (hk : k < n) (hp : hasPid es id k = true) (hb : ∀ i, i < k → hasPid es id i = false) :
    Calls Try.prog 50 #[.slice A n c, .int .i64 id] w fun y w' => ∃ v, y = .returned v ∧ w'.ownsRow w.heap.size 77 10 v (k + (n - (k + 1))) (flat 10 (cutL es k)) ∧ Below w.heap.size w w' := by
  have H := Lib.hid h
  have HF : Hid (FirstAt (hasPid es id) n (k : Int)) := .inl ⟨k, hk, rfl, hp, hb⟩
  obtain ⟨b, off, rfl, _, _⟩ := h.2.resolve_left (by omega)
  clear h hp hb
  obtain ⟨i0, hi0, hz0, hz1, hz2⟩ := info_parts delParty_info
  obtain ⟨A', hA', hsrc⟩ : ∃ A', (if c = k + 1 then some (⟨b, off, none⟩ : Addr) else some ⟨b, off + (k + 1) * 10, none⟩) = some A' ∧ Hid (∀ W : World, Below w.heap.size w W → Rd W 10 (some A') (n - (k + 1)) (es.drop (k + 1))) := by
    by_cases hck : c = k + 1
    · refine ⟨⟨b, off, none⟩, if_pos hck, fun W hW => ?_⟩
      rw [show n - (k + 1) = 0 by omega]
      exact (H.out.below hW).none_left (k := k + 1) (by omega)
    · exact ⟨⟨b, off + (k + 1) * 10, none⟩, if_neg hck, fun W hW => (H.out.below hW).drop (by omega)⟩
  have e1 := wrap_add1 k (by omega)
  have e2 : (0 : Int) ≤ (k : Int) + 1 := by omega
  have e3 : ((k : Int) + 1).toNat = k + 1 := by omega
  have hkc : k ≤ c := by omega
  have hkn : k + 1 ≤ n := by omega
  have hki : (k : Int) + 1 ≤ (n : Int) := by omega
  have hk0 : (0 : Int) ≤ (k : Int) := by omega
  go_enter Try.func50, Try.ntmps50
  go_wp2_with fail
  refine (sPartyAt_any _ n c id es w (by omega) H.out).mono ?_
  rintro y w1 ⟨r, hr, rfl, b1⟩
  obtain rfl : r = (k : Int) := hr.uniq HF.out
  clear hr
  have s1 := b1.size
  go_wp2
  have HC := H.out
  go_region_held3 (fun _ => True) (trivial) (first
    | (refine step_append_rd _ (by rfl) (.tmp 14) (.tmp 17) 56 (by rfl) w1.heap.size 77 i0 _ 10 80 Try.underlying56 hi0 hz0 hz1 hz2 (by rfl) (by omega) (.slice (some ⟨w1.heap.size, 0, none⟩) 0 0) 0 [] (by rfl) (row_empty _ _ 10) (some ⟨b, off, none⟩) k c (es.take k) (by rfl) ((H.out.below (by (repeat (first | with_reducible exact Below.refl _ _ | with_reducible refine Below.drew ?_ | with_reducible refine below_drewN ?_ _ | (with_reducible refine bel_alloc ?_ ?_ _; (first | omega | (simp; omega) | simp)) | (with_reducible refine bel_set ?_ ?_ _; (first | omega | (simp; omega) | simp)) | (with_reducible refine bel_tr (by assumption) ?_ ?_; (first | omega | (simp; omega) | simp)))))).take (by omega)) (by unfold maxLen; omega) (by omega) (by simp) ?_; intro v3 w3 hown3 hg3 hat3; have b3 : Below w.heap.size w w3 := Below.grown (show Below w.heap.size w _ from by (repeat (first | with_reducible exact Below.refl _ _ | with_reducible refine Below.drew ?_ | with_reducible refine below_drewN ?_ _ | (with_reducible refine bel_alloc ?_ ?_ _; (first | omega | (simp; omega) | simp)) | (with_reducible refine bel_set ?_ ?_ _; (first | omega | (simp; omega) | simp)) | (with_reducible refine bel_tr (by assumption) ?_ ?_; (first | omega | (simp; omega) | simp))))) hg3 (by simp; omega) (by simp [Value.ownBlock]; omega); have O3 := Lib.hid hown3; have s3 := hg3.size; (try simp at s3); clear hown3 hg3)
    | (refine step_append_rd _ (by rfl) (.tmp 18) (.tmp 22) 56 (by rfl) w1.heap.size 77 i0 _ 10 80 Try.underlying56 hi0 hz0 hz1 hz2 (by rfl) (by omega) v3 (0 + k) ([] ++ es.take k) (by rfl) O3.out (some A') (n - (k + 1)) (c - (k + 1)) (es.drop (k + 1)) (by rfl) (hsrc.out _ (by (repeat (first | with_reducible exact Below.refl _ _ | with_reducible refine Below.drew ?_ | with_reducible refine below_drewN ?_ _ | (with_reducible refine bel_alloc ?_ ?_ _; (first | omega | (simp; omega) | simp)) | (with_reducible refine bel_set ?_ ?_ _; (first | omega | (simp; omega) | simp)) | (with_reducible refine bel_tr (by assumption) ?_ ?_; (first | omega | (simp; omega) | simp)))))) (by unfold maxLen; omega) (by omega) (by omega) ?_; intro v4 w4 hown4 hg4 hat4))
  go_wp2
  go_ret
  refine ⟨_, rfl, ?_, Below.grown (show Below w.heap.size w w3 from by (repeat (first | with_reducible exact Below.refl _ _ | with_reducible refine Below.drew ?_ | with_reducible refine below_drewN ?_ _ | (with_reducible refine bel_alloc ?_ ?_ _; (first | omega | (simp; omega) | simp)) | (with_reducible refine bel_set ?_ ?_ _; (first | omega | (simp; omega) | simp)) | (with_reducible refine bel_tr (by assumption) ?_ ?_; (first | omega | (simp; omega) | simp))))) hg4 (by omega) (row_ge O3.out s1)⟩
  have h1 := hown4.lower s1
  simpa [cutL] using h1

set_option maxRecDepth 100000 in
set_option maxHeartbeats 1000000 in
theorem iPartyCut_n (A : Option Addr) (n c : Nat) (id : Int) (es : List (Nat → Int)) (w : World) (hn : n ≤ 1048576) (h : Rd w 10 A n es) (hall : ∀ i, i < n → hasPid es id i = false) :
    Calls Try.prog 51 #[.slice A n c, .int .i64 id] w fun y w' => ∃ v, y = .returned v ∧ w'.ownsRow w.heap.size 77 10 v n (flat 10 es) ∧ Below w.heap.size w w' := by
  obtain ⟨i0, hi0, hz0, hz1, hz2⟩ := info_parts delParty_info
  have H := Lib.hid h
  have HA := Lib.hid hall
  clear h hall
  go_enter Try.func51, Try.ntmps51
  go_wp2_with (at_builtin; go_must (refine wpList_append_rd _ rfl _ _ 56 rfl w.heap.size 77 i0 _ 10 80 Try.underlying56 hi0 hz0 hz1 hz2 rfl (by omega) (.slice none 0 0) 0 [] rfl (World.ownsRow_nil _ _ _ _) A n c es rfl H.out (by unfold maxLen; omega) (by omega) (Nat.le_refl _) ?_); intro v1 w1 hown1 hg1 hat1; have b1 : Below w.heap.size w w1 := (Below.refl _ _).grown hg1 (Nat.le_refl _) (by simp [Value.ownBlock]); have O1 := Lib.hid hown1; clear hown1 hg1 hat1)
  refine (iPartyAt_any A n c id es _ (by omega) (H.out.below b1)).mono ?_
  rintro y w2 ⟨r, hr, rfl, b2⟩
  obtain rfl : r = -1 := hr.uniq (.inr ⟨rfl, HA.out⟩)
  clear hr
  have s1 := b1.size
  go_wp2
  go_ret
  refine ⟨_, rfl, row_below ?_ b2, by (repeat (first | with_reducible exact Below.refl _ _ | with_reducible refine Below.drew ?_ | with_reducible refine below_drewN ?_ _ | (with_reducible refine bel_alloc ?_ ?_ _; (first | omega | (simp; omega) | simp)) | (with_reducible refine bel_set ?_ ?_ _; (first | omega | (simp; omega) | simp)) | (with_reducible refine bel_tr (by assumption) ?_ ?_; (first | omega | (simp; omega) | simp))))⟩
  simpa using O1.out

set_option maxRecDepth 100000 in
set_option maxHeartbeats 1000000 in
theorem iPartyCut_y (A : Option Addr) (n c k : Nat) (id : Int) (es : List (Nat → Int)) (w : World) (hn : n ≤ 1048576) (h : Rd w 10 A n es) (hk : k < n) (hp : hasPid es id k = true) (hb : ∀ i, i < k → hasPid es id i = false) :
    Calls Try.prog 51 #[.slice A n c, .int .i64 id] w fun y w' => ∃ A' c', y = .returned (.slice A' (n - 1) c') ∧ Own w.heap.size w' 10 A' (n - 1) (cutL es k) ∧ Below w.heap.size w w' := by
  obtain ⟨i0, hi0, hz0, hz1, hz2⟩ := info_parts delParty_info
  have HL := Lib.hid h.1
  have H := Lib.hid h
  have HF : Hid (FirstAt (hasPid es id) n (k : Int)) := .inl ⟨k, hk, rfl, hp, hb⟩
  clear h hp hb
  have e1 := wrap_add1 k (by omega)
  go_enter Try.func51, Try.ntmps51
  go_wp2_with (at_builtin; go_must (refine wpList_append_rd _ rfl _ _ 56 rfl w.heap.size 77 i0 _ 10 80 Try.underlying56 hi0 hz0 hz1 hz2 rfl (by omega) (.slice none 0 0) 0 [] rfl (World.ownsRow_nil _ _ _ _) A n c es rfl H.out (by unfold maxLen; omega) (by omega) (Nat.le_refl _) ?_); intro v1 w1 hown1 hg1 hat1; have b1 : Below w.heap.size w w1 := (Below.refl _ _).grown hg1 (Nat.le_refl _) (by simp [Value.ownBlock]); obtain ⟨g, cap, rfl, hnc, hcm, p1⟩ := row_pos (w := w1) (v := v1) (n := n) (es := es) (base := w.heap.size) (e := 77) (K := 10) (by omega) (by omega) HL.out (by simpa using hown1); have P1 := Lib.hid p1; clear hown1 hg1 hat1 p1)
  refine (iPartyAt_any A n c id es _ (by omega) (H.out.below b1)).mono ?_
  rintro y w2 ⟨r, hr, rfl, b2⟩
  obtain rfl : r = (k : Int) := hr.uniq HF.out
  clear hr
  have s1 := b1.size
  have s2 := b2.size
  go_wp2_with fail
  refine (delParty_any w.heap.size g 0 cap n k es _ hk hnc hcm (by omega) (P1.out.below b2)).mono ?_
  rintro y w3 ⟨rfl, o3, b3⟩
  have O3 := Lib.hid o3
  clear o3
  go_wp2
  go_ret
  exact ⟨_, _, rfl, O3.out, by (repeat (first | with_reducible exact Below.refl _ _ | with_reducible refine Below.drew ?_ | with_reducible refine below_drewN ?_ _ | (with_reducible refine bel_alloc ?_ ?_ _; (first | omega | (simp; omega) | simp)) | (with_reducible refine bel_set ?_ ?_ _; (first | omega | (simp; omega) | simp)) | (with_reducible refine bel_tr (by assumption) ?_ ?_; (first | omega | (simp; omega) | simp))))⟩

theorem sPCut (A : Option Addr) (n c N : Nat) (id : Int) (es T : List (Nat → Int)) (w : World) (hn : n ≤ 1048576) (hc : n ≤ c) (hcm : c ≤ 9223372036854775807) (hT : cutT es (hasPid es id) n = T) (hN : T.length = N) (h : Rd w 10 A n es) :
    Calls Try.prog 50 #[.slice A n c, .int .i64 id] w fun y w' => ∃ A' c', y = .returned (.slice A' N c') ∧ Own w.heap.size w' 10 A' N T ∧ Below w.heap.size w w' := by
  subst hN hT
  have hl := h.1
  unfold cutT
  rcases hx : ixOf (hasPid es id) n with _ | k
  · refine (sPartyCut_n A n c id es w hn h (ixOf_none hx)).mono ?_
    rintro y w' ⟨v, rfl, h2, h3⟩
    obtain ⟨A', c', rfl, ho⟩ := own_of_row hl h2
    exact ⟨A', c', by simp [hl], by simpa [hl] using ho, h3⟩
  · obtain ⟨h1, h2, h3⟩ := ixOf_some hx
    refine (sPartyCut_y A n c k id es w hn hc hcm h h1 h2 h3).mono ?_
    rintro y w' ⟨v, rfl, h4, h5⟩
    have hcl := cutL_len hl h1
    have he : k + (n - (k + 1)) = n - 1 := by omega
    rw [he] at h4
    obtain ⟨A', c', rfl, ho⟩ := own_of_row hcl h4
    exact ⟨A', c', by simp [hcl], by simpa [hcl] using ho, h5⟩
theorem iPCut (A : Option Addr) (n c N : Nat) (id : Int) (es T : List (Nat → Int)) (w : World) (hn : n ≤ 1048576) (hT : cutT es (hasPid es id) n = T) (hN : T.length = N) (h : Rd w 10 A n es) :
    Calls Try.prog 51 #[.slice A n c, .int .i64 id] w fun y w' => ∃ A' c', y = .returned (.slice A' N c') ∧ Own w.heap.size w' 10 A' N T ∧ Below w.heap.size w w' := by
  subst hN hT
  have hl := h.1
  unfold cutT
  rcases hx : ixOf (hasPid es id) n with _ | k
  · refine (iPartyCut_n A n c id es w hn h (ixOf_none hx)).mono ?_
    rintro y w' ⟨v, rfl, h2, h3⟩
    obtain ⟨A', c', rfl, ho⟩ := own_of_row hl h2
    exact ⟨A', c', by simp [hl], by simpa [hl] using ho, h3⟩
  · obtain ⟨h1, h2, h3⟩ := ixOf_some hx
    refine (iPartyCut_y A n c k id es w hn h h1 h2 h3).mono ?_
    rintro y w' ⟨A', c', rfl, h4, h5⟩
    have hcl := cutL_len hl h1
    exact ⟨A', c', by simp [hcl], by simpa [hcl] using h4, h5⟩
end Go.Proofs.Ythideehlhhpkjaa
