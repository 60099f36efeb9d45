/-
  Walk of the law FnPureRow: it returns true and leaves old memory alone.
-/
import Derived.Test.YtfilagmboeeclaaPr0
import Derived.Test.YtfilagmboeeclaaPu
import Derived.Test.YtfilagmboeeclaaQc
namespace Go.Proofs.Ytfilagmboeeclaa
open Go.RowKit

theorem prEnt_info : (Try.prog.info? 26).map (fun i => (i.zero, i.size, i.bytes)) = some (some (.agg #[.int .i64 0, .int .i64 0, .int .i64 0, .int .i64 0]), 4, 32) := by kernel_rfl
theorem zsize160 : (madeCells #[.int .i64 0, .int .i64 0, .int .i64 0, .int .i64 0] 160).size = 40 * 4 := by kernel_rfl
theorem zeros160b : (madeCells #[.int .i64 0, .int .i64 0, .int .i64 0, .int .i64 0] 160).toList = List.replicate (40 * 4) (Value.int .i64 0) := by kernel_rfl
theorem row_emptyR (w : World) (t : TypeId) (K : Nat) {b : Nat} (h : b = w.heap.size) : (w.alloc (.cells #[] t)).ownsRow b t K (.slice (some ⟨b, 0, none⟩) 0 0) 0 (flat K []) :=
  h ▸ ⟨by simp [flat], .inr ⟨w.heap.size, 0, #[], rfl, Nat.le_refl _, heap_alloc_new w _, Nat.le_refl _, Nat.zero_le _, by simp, by simp [flat]⟩⟩
theorem bx_ent4 (w : World) (t : TypeId) (e : Nat → Int) : Bx (w.alloc (.cells #[.int .i64 (e 0), .int .i64 (e 1), .int .i64 (e 2), .int .i64 (e 3)] t)) w.heap.size 4 (fun j => .int .i64 (e j)) :=
  ⟨by simp, fun o => by (first | (simp; done) | (go_simp; done)), fun j hj => by
    match j, hj with
    | 0, _ => first | (simp; done) | (go_simp; done)
    | 1, _ => first | (simp; done) | (go_simp; done)
    | 2, _ => first | (simp; done) | (go_simp; done)
    | 3, _ => first | (simp; done) | (go_simp; done)⟩

set_option maxRecDepth 100000 in
set_option maxHeartbeats 16000000 in
theorem lawFnPureRow (A : Option Addr) (n c : Nat) (w : World) (hn0 : n ≤ 9223372036854775807) (hB : RdB w A n) :
    Calls Try.prog 3 #[.slice A n c] w fun y w' => y = .returned (.bool true) ∧ Below w.heap.size w w' := by
  by_cases hn : n ≤ 1048576
  case neg =>
    have hbig : decide (1048576 < n) = true := by simp; omega
    go_enter Try.func3, Try.ntmps3
    go_wp2_with fail
    refine (big_any A n c _).mono ?_
    rintro y _ ⟨rfl, rfl⟩
    go_wp2
    go_ret
    exact ⟨rfl, Below.refl _ _⟩
  obtain ⟨i0, hI0, hZ0, hZ1, hZ2⟩ := info_parts prEnt_info
  have HB := Lib.hid hB
  clear hB
  have hbig : decide (1048576 < n) = false := by simpa using hn
  go_enter Try.func3, Try.ntmps3
  go_wp2_with fail
  refine (big_any A n c _).mono ?_
  rintro y _ ⟨rfl, rfl⟩
  go_wp2_with fail
  refine (drawQueuePut_any A n c _ hn HB.out).mono ?_
  rintro y w1 ⟨A1, N, c1, es, e, rfl, hN, hNc, hcm, ho1, hb1⟩
  have s1 := hb1.size
  go_upto_region 4 with fail
  generalize hw2 : w1.alloc (.cells #[.int .i64 (e 0), .int .i64 (e 1), .int .i64 (e 2), .int .i64 (e 3)] 26) = w2
  have HX : Hid (Bx w2 w1.heap.size 4 (fun j => .int .i64 (e j))) := Lib.hid (hw2 ▸ bx_ent4 w1 26 e)
  have H1 : Hid (Rd w2 4 A1 N es) := Lib.hid (hw2 ▸ (ho1.alloc_ _).rd)
  have HB2 : Hid (Below w.heap.size w w2) := Lib.hid (hw2 ▸ bel_alloc (by omega) hb1 _)
  have s2 : w1.heap.size < w2.heap.size := by rw [← hw2]; simp
  have s2b : w.heap.size ≤ w2.heap.size := by omega
  have hel := Lib.hid ho1.1
  clear hw2 ho1 hb1
  go_upto_region 5 with (first | (at_make; refine wpList_make_cap rfl _ _ 24 rfl 26 i0 _ 4 Try.underlying24 hI0 hZ0 hZ1 .i64 .i64 40 rfl rfl (by rw [hZ2]; decide) (by omega) ?_) | (at_builtin; go_must (refine wpList_append_first rfl _ _ 24 rfl 26 i0 4 Try.underlying24 hI0 hZ1 w2.heap.size 40 _ (heap_alloc_new w2 _) zsize160 (by unfold maxLen; omega) rfl A1 N c1 es rfl ((H1.out.below (by (repeat (first | with_reducible exact Below.refl _ _ | with_reducible refine Below.drew ?_ | with_reducible refine below_drewN ?_ _ | (with_reducible refine bel_alloc ?_ ?_ _; (first | omega | (simp; omega) | simp)) | (with_reducible refine bel_set ?_ ?_ _; (first | omega | (simp; omega) | simp)) | (with_reducible refine bel_tr (by assumption) ?_ ?_; (first | omega | (simp; omega) | simp))))))) (by omega) ?_); intro w4 hh4 hg4))
  have RM : Hid (Own w2.heap.size w4 4 (some ⟨w2.heap.size, 0, none⟩) 40 (padZ es (40 - N))) := Lib.hid (own_pad (B := w2.heap.size) (N := 40) (K := 4) zeros160b hel.out (by omega) (by unfold maxLen; omega) (Nat.le_refl _) hh4)
  have b4 : Below w2.heap.size w2 w4 := Below.grown (bel_alloc (Nat.le_refl _) (Below.refl _ _) _) hg4 (by (first | omega | (simp; omega) | simp)) (fun k hk => by injection hk with hk; omega)
  have s4 : w2.heap.size < w4.heap.size := by have h := hg4.size; simp at h; omega
  clear hh4 hg4
  go_upto_region 6 with (at_builtin; go_must (refine wpList_append_rd _ rfl _ _ 24 rfl w4.heap.size 26 i0 _ 4 32 Try.underlying24 hI0 hZ0 hZ1 hZ2 rfl (by omega) _ 0 [] rfl (row_emptyR w4 _ 4 rfl) (some ⟨w2.heap.size, 0, none⟩) 40 40 (padZ es (40 - N)) rfl (RM.out.rd.below (by (repeat (first | with_reducible exact Below.refl _ _ | with_reducible refine Below.drew ?_ | with_reducible refine below_drewN ?_ _ | (with_reducible refine bel_alloc ?_ ?_ _; (first | omega | (simp; omega) | simp)) | (with_reducible refine bel_set ?_ ?_ _; (first | omega | (simp; omega) | simp)) | (with_reducible refine bel_tr (by assumption) ?_ ?_; (first | omega | (simp; omega) | simp)))))) (by unfold maxLen; omega) (by omega) (by simp) ?_); intro v6 w6 hown6 hg6 hat6)
  have hR6 : w6.ownsRow w4.heap.size 26 4 v6 40 (flat 4 (padZ es (40 - N))) := by simpa using hown6
  have hg6b : (w4.alloc (.cells #[] 26)).grownBy w6 (some w4.heap.size) := hg6
  have b6 : Below w4.heap.size w4 w6 := Below.grown (bel_alloc (Nat.le_refl _) (Below.refl _ _) _) hg6b (by (first | omega | (simp; omega) | simp)) (fun k hk => by injection hk with hk; omega)
  have s6 : w4.heap.size < w6.heap.size := by have h := hg6.size; simp at h; omega
  clear hown6 hg6 hg6b hat6
  obtain ⟨AW, cw, rfl, _, _, ow⟩ := own_of_row_cap RM.out.1 hR6
  have OW := Lib.hid ow
  clear ow hR6
  have RM6 := Lib.hid (RM.out.below b6)
  have RN6 : Hid (Rd w6 4 (some ⟨w2.heap.size, 0, none⟩) N es) := Lib.hid (by have h := RM6.out.rd.take (k := N) (by omega); rw [padZ_take hel.out] at h; exact h)
  have b26 : Below w2.heap.size w2 w6 := b4.trans (b6.mono (by omega))
  have H6 := Lib.hid (H1.out.below b26)
  have X6 := Lib.hid (HX.out.below b26)
  obtain ⟨T, N7, bv, hR, hlT, hN7⟩ := putR_ex es e N hel.out
  have HPR := Lib.hid hR
  clear hR
  have xc0 : _ = some (Value.int .i64 (e 0)) := X6.out.2.2 0 (by omega)
  have xc1 : _ = some (Value.int .i64 (e 1)) := X6.out.2.2 1 (by omega)
  have xc2 : _ = some (Value.int .i64 (e 2)) := X6.out.2.2 2 (by omega)
  have xc3 : _ = some (Value.int .i64 (e 3)) := X6.out.2.2 3 (by omega)
  go_wp2_with fail
  refine (iQueuePut_any (some ⟨w2.heap.size, 0, none⟩) N 40 N7 es T e bv _ (by omega) (by omega) (by omega) HPR.out RN6.out).mono ?_
  rintro y w7 ⟨A7, c7, rfl, o7, b7⟩
  have s7 := b7.size
  have O7 := Lib.hid o7
  have I7 := Lib.hid o7.inB
  clear o7
  have X7 := Lib.hid (X6.out.below b7)
  clear xc0 xc1 xc2 xc3
  have xc0 : _ = some (Value.int .i64 (e 0)) := X7.out.2.2 0 (by omega)
  have xc1 : _ = some (Value.int .i64 (e 1)) := X7.out.2.2 1 (by omega)
  have xc2 : _ = some (Value.int .i64 (e 2)) := X7.out.2.2 2 (by omega)
  have xc3 : _ = some (Value.int .i64 (e 3)) := X7.out.2.2 3 (by omega)
  go_wp2_with fail
  refine (sQueuePut_any A1 N c1 N7 es T e bv _ (by omega) hNc hcm HPR.out (H6.out.below b7)).mono ?_
  rintro y w8 ⟨A8, c8, rfl, _, b8⟩
  have s8 := b8.size
  have X8 := Lib.hid (X7.out.below b8)
  have xd2 : _ = some (Value.int .i64 (e 2)) := X8.out.2.2 2 (by omega)
  clear xc0 xc1 xc2 xc3
  obtain ⟨T9, hT9⟩ : ∃ T9, cutT es (hasId es (e 2)) N = T9 := ⟨_, rfl⟩
  obtain ⟨N9, hN9⟩ : ∃ N9, T9.length = N9 := ⟨_, rfl⟩
  obtain ⟨b9v, hb9v⟩ : ∃ b9v, cutB (hasId es (e 2)) N = b9v := ⟨_, rfl⟩
  have hN9b : N9 ≤ N := by rw [← hN9, ← hT9]; exact cutT_len hel.out
  have HT9 := Lib.hid hT9
  have HN9 := Lib.hid hN9
  have HB9 := Lib.hid hb9v
  clear hT9 hN9 hb9v
  go_wp2_with fail
  refine (iCut (some ⟨w2.heap.size, 0, none⟩) N 40 N9 (e 2) es T9 b9v _ (by omega) HT9.out HN9.out HB9.out ((RN6.out.below b7).below b8)).mono ?_
  rintro y w9 ⟨A9, c9, rfl, o9, b9⟩
  have s9 := b9.size
  have O9 := Lib.hid o9
  have I9 := Lib.hid o9.inB
  clear o9
  cases bv
  all_goals
    go_wp2
    go_loopw [13] (fun s wr => ∃ (i : Nat) (xs : List (Nat → Int)), i ≤ N7 ∧ s = .int .i64 i ∧ Hid (Own w6.heap.size wr 4 A7 N7 xs) ∧ Hid (Own w8.heap.size wr 4 A9 N9 T9) ∧ Below w6.heap.size w6 wr) (fun s _ => N7 - (intOf s).toNat)
    case atStart => exact ⟨0, T, Nat.zero_le _, rfl, Lib.hid (((O7.out.below b8).below b9)), O9, ((b7.trans (b8.mono (by omega))).trans (b9.mono (by omega)))⟩
    case round =>
      obtain ⟨i, xs, hi, rfl, HO, HKP, hbel⟩ := hrel
      by_cases hlt : i < N7
      case pos =>
        have hii : (i : Int) < (N7 : Int) := by omega
        have hi0 : (0 : Int) ≤ (i : Int) := by omega
        obtain ⟨g2, o2, hA2, hg2, hB2, hf2, hc2⟩ := HO.out.2.resolve_left (by omega)
        have hA3 := Lib.hid hA2
        subst hA2
        have k2 : wr.cell? ⟨g2, o2 + i * 4 + 2, none⟩ = some (.int .i64 (fld xs i 2)) := hc2 i hlt 2 (by omega)
        have k3 := hf2 (o2 + i * 4 + 2)
        clear hf2 hc2
        obtain ⟨xs2, ho2⟩ := HO.out.setf (i := i) (j := 2) hlt (by omega) 5000
        have HO2 := Lib.hid ho2
        clear ho2
        go_wp2
        go_roundw
        case rel => exact ⟨i + 1, xs2, by omega, by go_num, HO2, Lib.hid ((HKP.out.set_nb (fun a h0 ha => by (obtain ⟨a', ha', h3, _⟩ := I9.out.resolve_left h0; rw [ha] at ha'; injection ha' with ha'; subst ha'; obtain ⟨a7, ha7, _, h5⟩ := I7.out.resolve_left (by omega); injection ha7 with ha7; subst ha7; dsimp only at h5; omega)) _)), by (repeat (first | with_reducible exact Below.refl _ _ | with_reducible refine Below.drew ?_ | with_reducible refine below_drewN ?_ _ | (with_reducible refine bel_alloc ?_ ?_ _; (first | omega | (simp; omega) | simp)) | (with_reducible refine bel_set ?_ ?_ _; (first | omega | (simp; omega) | simp)) | (with_reducible refine bel_tr (by assumption) ?_ ?_; (first | omega | (simp; omega) | simp))))⟩
        case measure => simp [intOf]; omega
      have hiN : i = N7 := by omega
      subst hiN
      have hii : ¬ (i : Int) < (i : Int) := by omega
      obtain ⟨wq, hwq⟩ : ∃ wq, wq = wr := ⟨wr, rfl⟩
      subst hwq
      go_wp2
      have I9b := I9
      have OA9 := HKP
      go_loopw [14] (fun s wr => ∃ (i : Nat) (xs : List (Nat → Int)), i ≤ N9 ∧ s = .int .i64 i ∧ Hid (Own w6.heap.size wr 4 A9 N9 xs) ∧ Hid (True) ∧ Below w6.heap.size w6 wr) (fun s _ => N9 - (intOf s).toNat)
      case atStart => exact ⟨0, T9, Nat.zero_le _, rfl, Lib.hid (OA9.out.mono (by omega)), Lib.hid trivial, hbel⟩
      case round =>
        obtain ⟨i, xs, hi, rfl, HO, HKP, hbel⟩ := hrel
        by_cases hlt : i < N9
        case pos =>
          have hii : (i : Int) < (N9 : Int) := by omega
          have hi0 : (0 : Int) ≤ (i : Int) := by omega
          obtain ⟨g2, o2, hA2, hg2, hB2, hf2, hc2⟩ := HO.out.2.resolve_left (by omega)
          have hA3 := Lib.hid hA2
          subst hA2
          have k2 : wr.cell? ⟨g2, o2 + i * 4 + 2, none⟩ = some (.int .i64 (fld xs i 2)) := hc2 i hlt 2 (by omega)
          have k3 := hf2 (o2 + i * 4 + 2)
          clear hf2 hc2
          obtain ⟨xs2, ho2⟩ := HO.out.setf (i := i) (j := 2) hlt (by omega) 6000
          have HO2 := Lib.hid ho2
          clear ho2
          go_wp2
          go_roundw
          case rel => exact ⟨i + 1, xs2, by omega, by go_num, HO2, Lib.hid trivial, by (repeat (first | with_reducible exact Below.refl _ _ | with_reducible refine Below.drew ?_ | with_reducible refine below_drewN ?_ _ | (with_reducible refine bel_alloc ?_ ?_ _; (first | omega | (simp; omega) | simp)) | (with_reducible refine bel_set ?_ ?_ _; (first | omega | (simp; omega) | simp)) | (with_reducible refine bel_tr (by assumption) ?_ ?_; (first | omega | (simp; omega) | simp))))⟩
          case measure => simp [intOf]; omega
        have hiN : i = N9 := by omega
        subst hiN
        have hii : ¬ (i : Int) < (i : Int) := by omega
        obtain ⟨wq, hwq⟩ : ∃ wq, wq = wr := ⟨wr, rfl⟩
        subst hwq
        go_wp2
        clear HKP HO OA9
        go_loopw [2, 15] (fun s2 s wr => ∃ i : Nat, i ≤ 40 ∧ s = .int .i64 i ∧ s2 = .bool false ∧ Below w6.heap.size w6 wr) (fun _ s _ => 40 - (intOf s).toNat)
        case atStart => exact ⟨0, Nat.zero_le _, rfl, rfl, hbel⟩
        case round =>
          clear hbel
          obtain ⟨i, hi, rfl, rfl, hbel⟩ := hrel
          by_cases hlt : i < 40
          case pos =>
            have hii : (i : Int) < 40 := by omega
            have hi0 : (0 : Int) ≤ (i : Int) := by omega
            obtain ⟨g3, o3, hA3, hg3, hc3⟩ := RM6.out.rd.2.resolve_left (by omega)
            injection hA3 with hA3
            injection hA3 with hA3 hA4
            subst hA3 hA4
            obtain ⟨g4, o4, rfl, hg4, hc4⟩ := OW.out.rd.2.resolve_left (by omega)
            have c0 : wr.cell? ⟨w2.heap.size, i * 4, none⟩ = some (.int .i64 (fld (padZ es (40 - N)) i 0)) := (hbel.cell (p := ⟨w2.heap.size, i * 4, none⟩) hg3).trans (by have h := hc3 i hlt 0 (by omega); simpa using h)
            have c1 : wr.cell? ⟨w2.heap.size, i * 4 + 1, none⟩ = some (.int .i64 (fld (padZ es (40 - N)) i 1)) := (hbel.cell (p := ⟨w2.heap.size, i * 4 + 1, none⟩) hg3).trans (by have h := hc3 i hlt 1 (by omega); simpa using h)
            have c2 : wr.cell? ⟨w2.heap.size, i * 4 + 2, none⟩ = some (.int .i64 (fld (padZ es (40 - N)) i 2)) := (hbel.cell (p := ⟨w2.heap.size, i * 4 + 2, none⟩) hg3).trans (by have h := hc3 i hlt 2 (by omega); simpa using h)
            have c3 : wr.cell? ⟨w2.heap.size, i * 4 + 3, none⟩ = some (.int .i64 (fld (padZ es (40 - N)) i 3)) := (hbel.cell (p := ⟨w2.heap.size, i * 4 + 3, none⟩) hg3).trans (by have h := hc3 i hlt 3 (by omega); simpa using h)
            have d0 : wr.cell? ⟨g4, o4 + i * 4, none⟩ = some (.int .i64 (fld (padZ es (40 - N)) i 0)) := (hbel.cell (p := ⟨g4, o4 + i * 4, none⟩) hg4).trans (hc4 i hlt 0 (by omega))
            have d1 : wr.cell? ⟨g4, o4 + i * 4 + 1, none⟩ = some (.int .i64 (fld (padZ es (40 - N)) i 1)) := (hbel.cell (p := ⟨g4, o4 + i * 4 + 1, none⟩) hg4).trans (hc4 i hlt 1 (by omega))
            have d2 : wr.cell? ⟨g4, o4 + i * 4 + 2, none⟩ = some (.int .i64 (fld (padZ es (40 - N)) i 2)) := (hbel.cell (p := ⟨g4, o4 + i * 4 + 2, none⟩) hg4).trans (hc4 i hlt 2 (by omega))
            have d3 : wr.cell? ⟨g4, o4 + i * 4 + 3, none⟩ = some (.int .i64 (fld (padZ es (40 - N)) i 3)) := (hbel.cell (p := ⟨g4, o4 + i * 4 + 3, none⟩) hg4).trans (hc4 i hlt 3 (by omega))
            clear hc3 hc4
            go_wp2
            go_region
            all_goals
              go_wp2
              go_roundw
              case rel => exact ⟨i + 1, by omega, by go_num, rfl, by (repeat (first | with_reducible exact Below.refl _ _ | with_reducible refine Below.drew ?_ | with_reducible refine below_drewN ?_ _ | (with_reducible refine bel_alloc ?_ ?_ _; (first | omega | (simp; omega) | simp)) | (with_reducible refine bel_set ?_ ?_ _; (first | omega | (simp; omega) | simp)) | (with_reducible refine bel_tr (by assumption) ?_ ?_; (first | omega | (simp; omega) | simp))))⟩
              case measure => simp [intOf]; omega
          have hiN : i = 40 := by omega
          subst hiN
          go_wp2
          go_ret
          exact ⟨rfl, HB2.out.trans ((b26.trans (hbel.mono (by omega))).mono s2b)⟩
end Go.Proofs.Ytfilagmboeeclaa
