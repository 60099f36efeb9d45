/-
  The contract of the program's PinsIn, for any number of parties (in place of PnI: never import both). No conditions beyond those stated.
-/
import Derived.Test.YtlkladabefpnfaaPn
import Derived.Test.YtlkladabefpnfaaSbp
import Derived.Test.YtlkladabefpnfaaApp
import Derived.Test.YtlkladabefpnfaaCu
import Derived.Test.YtlkladabefpnfaaDx
namespace Go.Proofs.Ytlkladabefpnfaa
open Go.RowKit

theorem pinI_info : (Try.prog.info? 42).map (fun i => (i.zero, i.size, i.bytes)) = some (some (.agg #[.int .i64 0, .int .i64 0]), 2, 16) := by kernel_rfl
def PnI (w : World) (es : List (Nat → Int)) (cab : Int) (n : Nat) (y : Ending) (w' : World) : Prop := ∃ (A' : Option Addr) (m c' : Nat), y = .returned (.slice A' m c') ∧ Own w.heap.size w' 2 A' m (sortL (pinF es cab n) (pinF es cab n).length) ∧ (m ≤ c' ∧ c' ≤ 9223372036854775807) ∧ Below w.heap.size w w'
theorem insFQ_perm (e : Nat → Int) : ∀ l, (insF e l).Perm (e :: l)
  | [] => List.Perm.refl _
  | x :: l => by
    unfold insF
    split
    · exact ((insFQ_perm e l).cons x).trans (List.Perm.swap e x l)
    · exact List.Perm.refl _
theorem sortRQ_perm : ∀ l, (sortR l).Perm l
  | [] => List.Perm.refl _
  | e :: l => (insFQ_perm e (sortR l)).trans ((sortRQ_perm l).cons e)
theorem pinF_mem {es : List (Nat → Int)} {cab : Int} {x : Nat → Int} : ∀ {k : Nat}, x ∈ pinF es cab k → ∃ i, x = pinAt es i
  | 0, h => by cases h
  | k + 1, h => by
    rcases Bool.eq_false_or_eq_true (pinT es cab k) with t | t
    · rw [pinF_y t] at h
      rcases List.mem_append.1 h with h | h
      · exact pinF_mem h
      · exact ⟨k, by simpa using h⟩
    · rw [pinF_n t] at h
      exact pinF_mem h
theorem pinF_sort (es : List (Nat → Int)) (cab : Int) (k : Nat) : sortR (pinF es cab k) = sortL (pinF es cab k) (pinF es cab k).length := by
  have h1 := sortL_perm (es := pinF es cab k) (k := (pinF es cab k).length) (Nat.le_refl _)
  rw [List.take_length] at h1
  have h2 : Pw (sortL (pinF es cab k) (pinF es cab k).length) := Pw.of_srt (by rw [sortL_len]; exact sortL_srt _ _)
  refine List.Perm.eq_of_pairwise (le := fun a b => ¬ ltP b a) (fun a b ha hb hab hba => ?_) (sortR_pw _) h2 ((sortRQ_perm _).trans h1.symm)
  obtain ⟨i, rfl⟩ := pinF_mem ((sortRQ_perm _).mem_iff.1 ha)
  obtain ⟨j, rfl⟩ := pinF_mem (h1.mem_iff.1 hb)
  have e0 : fld es i 8 = fld es j 8 ∧ fld es i 0 = fld es j 0 := by
    unfold ltP at hab hba
    simp only [pinAt, List.getD_cons_zero, List.getD_cons_succ] at hab hba
    omega
  funext q
  unfold pinAt
  rw [e0.1, e0.2]
theorem bel_grown {a w w' : World} {B : Nat} {row : Option Nat} (hg : w.grownBy w' row) (hr : ∀ k, row = some k → B ≤ k) (hb : Below B a w) (hB : B ≤ w.heap.size) : Below B a w' := Below.grown hb hg hB hr
theorem pin_one2 (w : World) (t : TypeId) (p : Nat → Int) (b : Nat) (h : b = w.heap.size) : Rd (w.alloc (.cells #[.int .i64 (p 0), .int .i64 (p 1)] t)) 2 (some ⟨b, 0, none⟩) 1 [p] := h ▸ rd_one2 w t p

set_option maxRecDepth 100000 in
set_option maxHeartbeats 8000000 in
theorem iPinsIn_any (A : Option Addr) (n c : Nat) (cab : Int) (es : List (Nat → Int)) (w : World) (hn : n ≤ 4194303) (h : Rd w 10 A n es) :
    Calls Try.prog 8 #[.slice A n c, .int .i64 cab] w (PnI w es cab n) := by
  obtain ⟨i0, hi0, hz0, hz1, hz2⟩ := info_parts pinI_info
  have H := Lib.hid h
  clear h
  go_enter Try.func8, Try.ntmps8
  go_wp2
  go_loopw [5, 10] (fun v i wr => ∃ k : Nat, k ≤ n ∧ i = .int .i64 k ∧ Hid (wr.ownsRow w.heap.size 42 2 v (pinF es cab k).length (flat 2 (pinF es cab k))) ∧ Below w.heap.size w wr) (fun _ i _ => n - (intOf i).toNat)
  case atStart => exact ⟨0, Nat.zero_le _, rfl, Lib.hid (World.ownsRow_nil _ _ _ _), by (repeat (first | with_reducible exact Below.refl _ _ | with_reducible refine Below.drew ?_ | with_reducible refine below_drewN ?_ _ | (with_reducible refine bel_alloc ?_ ?_ _; (first | omega | (simp; omega) | simp)) | (with_reducible refine bel_set ?_ ?_ _; (first | omega | (simp; omega) | simp)) | (with_reducible refine bel_tr (by assumption) ?_ ?_; (first | omega | (simp; omega) | simp))))⟩
  case round =>
    obtain ⟨k, hk, rfl, HR, hbel⟩ := hrel
    have hsz := hbel.size
    have hml := pinF_len es cab k
    by_cases hlt : k < n
    · have hki : (k : Int) < (n : Int) := by omega
      have hk0 : (0 : Int) ≤ (k : Int) := by omega
      obtain ⟨b, off, rfl, hb, hc⟩ := H.out.2.resolve_left (by omega)
      have c0 : wr.cell? ⟨b, off + k * 10, none⟩ = some (.int .i64 (fld es k 0)) := (hbel.cell (p := ⟨b, off + k * 10, none⟩) hb).trans (hc k hlt 0 (by omega))
      have c1 : wr.cell? ⟨b, off + k * 10 + 1, none⟩ = some (.int .i64 (fld es k 1)) := (hbel.cell (p := ⟨b, off + k * 10 + 1, none⟩) hb).trans (hc k hlt 1 (by omega))
      have c2 : wr.cell? ⟨b, off + k * 10 + 2, none⟩ = some (.int .i64 (fld es k 2)) := (hbel.cell (p := ⟨b, off + k * 10 + 2, none⟩) hb).trans (hc k hlt 2 (by omega))
      have c3 : wr.cell? ⟨b, off + k * 10 + 3, none⟩ = some (.int .i64 (fld es k 3)) := (hbel.cell (p := ⟨b, off + k * 10 + 3, none⟩) hb).trans (hc k hlt 3 (by omega))
      have c4 : wr.cell? ⟨b, off + k * 10 + 4, none⟩ = some (.int .i64 (fld es k 4)) := (hbel.cell (p := ⟨b, off + k * 10 + 4, none⟩) hb).trans (hc k hlt 4 (by omega))
      have c5 : wr.cell? ⟨b, off + k * 10 + 5, none⟩ = some (.int .i64 (fld es k 5)) := (hbel.cell (p := ⟨b, off + k * 10 + 5, none⟩) hb).trans (hc k hlt 5 (by omega))
      have c6 : wr.cell? ⟨b, off + k * 10 + 6, none⟩ = some (.int .i64 (fld es k 6)) := (hbel.cell (p := ⟨b, off + k * 10 + 6, none⟩) hb).trans (hc k hlt 6 (by omega))
      have c7 : wr.cell? ⟨b, off + k * 10 + 7, none⟩ = some (.int .i64 (fld es k 7)) := (hbel.cell (p := ⟨b, off + k * 10 + 7, none⟩) hb).trans (hc k hlt 7 (by omega))
      have c8 : wr.cell? ⟨b, off + k * 10 + 8, none⟩ = some (.int .i64 (fld es k 8)) := (hbel.cell (p := ⟨b, off + k * 10 + 8, none⟩) hb).trans (hc k hlt 8 (by omega))
      have c9 : wr.cell? ⟨b, off + k * 10 + 9, none⟩ = some (.int .i64 (fld es k 9)) := (hbel.cell (p := ⟨b, off + k * 10 + 9, none⟩) hb).trans (hc k hlt 9 (by omega))
      clear hc
      rcases Bool.eq_false_or_eq_true (fld es k 7 == 2) with t0 | t0
      · rcases Bool.eq_false_or_eq_true (fld es k 1 == cab) with t1 | t1
        · have HY : Hid (pinF es cab (k + 1) = pinF es cab k ++ [pinAt es k]) := Lib.hid (pinF_y (by unfold pinT; simp [t0, t1]))
          go_wp2_with (at_builtin; go_must (refine wpList_append_rd _ rfl _ _ 24 rfl w.heap.size 42 i0 _ 2 16 Try.underlying24 hi0 hz0 hz1 hz2 rfl (by omega) _ (pinF es cab k).length (pinF es cab k) rfl (World.ownsRow.alloc (World.ownsRow.alloc HR.out _) _) (some ⟨wr.heap.size + 1, 0, none⟩) 1 1 [pinAt es k] rfl (pin_one2 _ _ _ _ (by simp)) (by unfold maxLen; omega) (by omega) (by simp; omega) ?_); intro v2 w2 hown2 hg2 hat2)
          have s2 := hg2.size
          (try simp at s2)
          have b2 : Below w.heap.size w w2 := bel_grown hg2 (row_ge HR.out (Nat.le_refl _)) (by (repeat (first | with_reducible exact Below.refl _ _ | with_reducible refine Below.drew ?_ | with_reducible refine below_drewN ?_ _ | (with_reducible refine bel_alloc ?_ ?_ _; (first | omega | (simp; omega) | simp)) | (with_reducible refine bel_set ?_ ?_ _; (first | omega | (simp; omega) | simp)) | (with_reducible refine bel_tr (by assumption) ?_ ?_; (first | omega | (simp; omega) | simp))))) (by (first | omega | (simp; omega) | simp))
          have R2 := Lib.hid hown2
          clear hown2 hg2 hat2
          go_wp2
          go_roundw
          case rel => exact ⟨k + 1, by omega, by go_num, by rw [HY.out, List.length_append, List.length_singleton]; exact R2, by (repeat (first | with_reducible exact Below.refl _ _ | with_reducible refine Below.drew ?_ | with_reducible refine below_drewN ?_ _ | (with_reducible refine bel_alloc ?_ ?_ _; (first | omega | (simp; omega) | simp)) | (with_reducible refine bel_set ?_ ?_ _; (first | omega | (simp; omega) | simp)) | (with_reducible refine bel_tr (by assumption) ?_ ?_; (first | omega | (simp; omega) | simp))))⟩
          case measure => simp [intOf]; omega
        · have HN : Hid (pinF es cab (k + 1) = pinF es cab k) := Lib.hid (pinF_n (by unfold pinT; simp [t0, t1]))
          go_wp2
          go_roundw
          case rel => exact ⟨k + 1, by omega, by go_num, by rw [HN.out]; first | exact HR | exact Lib.hid (World.ownsRow.alloc HR.out _), by (repeat (first | with_reducible exact Below.refl _ _ | with_reducible refine Below.drew ?_ | with_reducible refine below_drewN ?_ _ | (with_reducible refine bel_alloc ?_ ?_ _; (first | omega | (simp; omega) | simp)) | (with_reducible refine bel_set ?_ ?_ _; (first | omega | (simp; omega) | simp)) | (with_reducible refine bel_tr (by assumption) ?_ ?_; (first | omega | (simp; omega) | simp))))⟩
          case measure => simp [intOf]; omega
      · have HN : Hid (pinF es cab (k + 1) = pinF es cab k) := Lib.hid (pinF_n (by unfold pinT; simp [t0]))
        go_wp2
        go_roundw
        case rel => exact ⟨k + 1, by omega, by go_num, by rw [HN.out]; first | exact HR | exact Lib.hid (World.ownsRow.alloc HR.out _), by (repeat (first | with_reducible exact Below.refl _ _ | with_reducible refine Below.drew ?_ | with_reducible refine below_drewN ?_ _ | (with_reducible refine bel_alloc ?_ ?_ _; (first | omega | (simp; omega) | simp)) | (with_reducible refine bel_set ?_ ?_ _; (first | omega | (simp; omega) | simp)) | (with_reducible refine bel_tr (by assumption) ?_ ?_; (first | omega | (simp; omega) | simp))))⟩
        case measure => simp [intOf]; omega
    · have hkn : k = n := by omega
      subst hkn
      have hki : ¬ (k : Int) < (k : Int) := by omega
      obtain ⟨A3, c3, rfl, hc1, hc2, o3⟩ := own_of_row_cap rfl HR.out
      have O3 := Lib.hid o3
      clear o3
      go_wp2_with (go_at_call 24; refine (stableP_all w.heap.size A3 c3 _ (pinF es cab k) _ (by omega) hc1 hc2 hsz O3.out).mono ?_; rintro y w4 ⟨rfl, o4, b4⟩)
      rw [pinF_sort] at o4
      go_ret
      exact ⟨A3, _, c3, rfl, o4, ⟨hc1, hc2⟩, hbel.trans b4⟩
end Go.Proofs.Ytlkladabefpnfaa
