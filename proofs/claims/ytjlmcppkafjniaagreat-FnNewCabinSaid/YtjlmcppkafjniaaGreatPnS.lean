/-
  The contract of the reference's PinsIn. No conditions beyond those stated.
-/
import Derived.Test.YtjlmcppkafjniaaGreatSwp
import Derived.Test.YtjlmcppkafjniaaGreatSmp
import Derived.Test.YtjlmcppkafjniaaGreatDt0
import Derived.Test.YtjlmcppkafjniaaGreatQa
import Derived.Test.YtjlmcppkafjniaaGreatPo
import Derived.Test.YtjlmcppkafjniaaGreatSo
import Derived.Test.YtjlmcppkafjniaaGreatCo
namespace Go.Proofs.YtjlmcppkafjniaaGreat
open Go.RowKit

set_option maxRecDepth 100000 in
set_option maxHeartbeats 8000000 in
theorem staP_any (B : Nat) (A : Option Addr) (cap n : Nat) (es : List (Nat → Int)) (w : World) (hn : n ≤ 4194304) (hnc : n ≤ cap) (hcm : cap ≤ 9223372036854775807) (hBw : B ≤ w.heap.size) (h : Own B w 2 A n es) :
    Calls Tryz.prog 110 #[.slice A n cap, .int .i64 n, .func (.func 81) #[] #[]] w (SrD B 2 n A es w) := by
  have H := Lib.hid h
  clear h
  go_enter Tryz.func110, Tryz.ntmps110
  go_wp2
  go_loopw [7, 8] (fun s7 s8 wr => ∃ (a : Nat) (es1 : List (Nat → Int)), a ≤ n ∧ s7 = .int .i64 a ∧ s8 = .int .i64 ((a + 20 : Nat) : Int) ∧ Hid (Own B wr 2 A n es1) ∧ Hid (Stb es1 es) ∧ Hid (Bk20 es1 a) ∧ Hid (Below B w wr)) (fun s7 _ _ => n - (intOf s7).toNat)
  case atStart => exact ⟨0, es, Nat.zero_le _, rfl, rfl, H, Lib.hid (Stb.refl _), Lib.hid (Bk20.start _), Lib.hid (Below.refl _ _)⟩
  case round =>
    obtain ⟨a, es1, han, rfl, rfl, HO, HP, HK, HG⟩ := hrel
    by_cases hlt : a + 20 ≤ n
    case pos =>
      have hki : ((a + 20 : Nat) : Int) ≤ (n : Int) := by omega
      have hw : IntKind.i64.wrap (((a + 20 : Nat) : Int) + 20) = ((a + 20 + 20 : Nat) : Int) := by rw [IntKind.wrap_i64]; omega
      obtain ⟨b, hb⟩ : ∃ b, a + 20 = b := ⟨_, rfl⟩
      rw [hb] at hki hw ⊢
      have HB := Lib.hid hb
      have hbn : b ≤ n := by omega
      clear hb hlt
      go_wp2_with (go_at_call 124; refine (insP_any B A cap n a b es1 _ hn hnc hcm (Nat.le_trans hBw HG.out.size) hbn han HO.out).mono ?_; rintro y w3 ⟨rfl, es3, o3, p3, s3, u3, b3⟩)
      have O3 := Lib.hid o3
      have P3 := Lib.hid (p3.trans HP.out)
      have K3 : Hid (Bk20 es3 b) := Lib.hid ⟨by have := HK.out.1; have := HB.out; omega, HK.out.step s3 u3⟩
      have G3 := Lib.hid (HG.out.trans b3)
      clear o3 p3 s3 u3 b3
      go_roundw
      case rel => exact ⟨b, es3, hbn, rfl, by go_num, O3, P3, K3, G3⟩
      case measure => have := HB.out; simp [intOf]; omega
    have hki : ¬ ((a + 20 : Nat) : Int) ≤ (n : Int) := by omega
    obtain ⟨b, hb⟩ : ∃ b, a + 20 = b := ⟨_, rfl⟩
    rw [hb] at hki ⊢
    clear hb hlt
    go_wp2_with (go_at_call 124; refine (insP_any B A cap n a n es1 _ hn hnc hcm (Nat.le_trans hBw HG.out.size) (Nat.le_refl _) han HO.out).mono ?_; rintro y w3 ⟨rfl, es3, o3, p3, s3, u3, b3⟩)
    have O3 := Lib.hid o3
    have P3 := Lib.hid (p3.trans HP.out)
    have K3 : Hid (BkS es3 20 n) := Lib.hid (HK.out.step s3 u3)
    have G3 := Lib.hid (HG.out.trans b3)
    clear o3 p3 s3 u3 b3 HO HP HK HG hki
    go_loopw [6, 7, 8, 9] (fun s6 _ _ _ wr => ∃ (s : Nat) (es1 : List (Nat → Int)), 20 ≤ s ∧ s ≤ 8388608 ∧ s6 = .int .i64 s ∧ Hid (Own B wr 2 A n es1) ∧ Hid (Stb es1 es) ∧ Hid (BkS es1 s n) ∧ Hid (Below B w wr)) (fun s6 _ _ _ _ => n - (intOf s6).toNat)
    case atStart => exact ⟨20, es3, Nat.le_refl _, by omega, rfl, O3, P3, K3, G3⟩
    case round =>
      obtain ⟨s, es1, hs20, hsm, rfl, HO, HP, HK, HG⟩ := hrel
      by_cases hlt : s < n
      case neg =>
        have hki : ¬ (s : Int) < (n : Int) := by omega
        have HE := Lib.hid (sortR_of ((HK.out.done (by omega)).all HO.out.1) HP.out)
        go_wp2
        exact bodyPost_end (results_none rfl _ _ _) rfl ⟨rfl, HE.out ▸ HO.out, HG.out⟩
      have hki : (s : Int) < (n : Int) := by omega
      obtain ⟨d, hd⟩ : ∃ d, 2 * s = d := ⟨_, rfl⟩
      have hdw : IntKind.i64.wrap (2 * (s : Int)) = (d : Int) := by rw [IntKind.wrap_i64]; omega
      have hdw2 : 2 * (s : Int) = (d : Int) := by omega
      have hdw3 : IntKind.i64.wrap ((s : Int) * 2) = (d : Int) := by rw [IntKind.wrap_i64]; omega
      have hdw4 : (s : Int) * 2 = (d : Int) := by omega
      have hdm : d ≤ 8388608 := by omega
      have hsd : s < d := by omega
      have HD := Lib.hid hd
      have HK0 : Hid (BkM es1 s 0 n) := Lib.hid (BkM.start HK.out)
      clear hd HK hlt
      obtain ⟨wq, hwq⟩ : ∃ wq, wq = wr := ⟨wr, rfl⟩
      subst hwq
      go_wp2
      go_loopw [7, 8] (fun s7 s8 wr => ∃ (a : Nat) (es2 : List (Nat → Int)), a ≤ n ∧ s7 = .int .i64 a ∧ s8 = .int .i64 ((a + d : Nat) : Int) ∧ Hid (Own B wr 2 A n es2) ∧ Hid (Stb es2 es) ∧ Hid (BkM es2 s a n) ∧ Hid (Below B w wr)) (fun s7 _ _ => n - (intOf s7).toNat)
      case atStart => exact ⟨0, es1, Nat.zero_le _, rfl, by go_num, HO, HP, HK0, HG⟩
      case round =>
        clear HO HP HK0 HG
        obtain ⟨a, es2, han, rfl, rfl, HO, HP, HK, HG⟩ := hrel
        obtain ⟨b, hb⟩ : ∃ b, a + d = b := ⟨_, rfl⟩
        rw [hb]
        obtain ⟨m, hm⟩ : ∃ m, a + s = m := ⟨_, rfl⟩
        have hmw : IntKind.i64.wrap ((a : Int) + (s : Int)) = (m : Int) := by rw [IntKind.wrap_i64]; omega
        have hmw2 : (a : Int) + (s : Int) = (m : Int) := by omega
        have ham : a < m := by omega
        have hmb : m < b := by omega
        by_cases hlt : b ≤ n
        case pos =>
          have hli : (b : Int) ≤ (n : Int) := by omega
          have hbw : IntKind.i64.wrap ((b : Int) + (d : Int)) = (b : Int) + (d : Int) := by rw [IntKind.wrap_i64]; omega
          have HB := Lib.hid hb
          have HM := Lib.hid hm
          clear hb hm hdw3 hdw4
          have S1 : SrtR es2 a m := by have h := HK.out.fst (by have := HB.out; have := HM.out; omega); rw [HM.out] at h; exact h
          have S2 : SrtR es2 m b := by have h := HK.out.snd hlt (by have := HB.out; have := HD.out; omega); rw [HM.out] at h; exact h
          have T1 := Lib.hid S1
          have T2 := Lib.hid S2
          clear S1 S2
          go_wp2_with (go_at_call 134; refine (smP_any B A cap n a m b es2 _ hn hnc hcm (Nat.le_trans hBw HG.out.size) ham hmb hlt T1.out T2.out HO.out).mono ?_; rintro y w3 ⟨rfl, es3, o3, m3, b3⟩)
          have O3 := Lib.hid o3
          have P3 := Lib.hid (m3.2.1.trans HP.out)
          have K3 : Hid (BkM es3 s b n) := Lib.hid (by have h := HK.out.step (es' := es3) (by rw [show a + 2 * s = b by have := HB.out; have := HD.out; omega]; exact m3); rw [show a + 2 * s = b by have := HB.out; have := HD.out; omega] at h; exact h)
          have G3 := Lib.hid (HG.out.trans b3)
          clear o3 m3 b3
          go_roundw
          case rel => exact ⟨b, es3, hlt, rfl, by go_num, O3, P3, K3, G3⟩
          case measure => have := HB.out; simp [intOf]; omega
        have hli : ¬ (b : Int) ≤ (n : Int) := by omega
        have HB := Lib.hid hb
        have HM := Lib.hid hm
        clear hb hm
        by_cases hmn : m < n
        · have hmi : (m : Int) < (n : Int) := by omega
          have S1 : SrtR es2 a m := by have h := HK.out.fst (by have := HB.out; have := HM.out; omega); rw [HM.out] at h; exact h
          have S2 : SrtR es2 m n := by have h := HK.out.snd (Nat.le_refl n) (by have := HB.out; have := HD.out; omega); rw [HM.out] at h; exact h
          have T1 := Lib.hid S1
          have T2 := Lib.hid S2
          clear S1 S2
          go_wp2_with (go_at_call 134; refine (smP_any B A cap n a m n es2 _ hn hnc hcm (Nat.le_trans hBw HG.out.size) ham hmn (Nat.le_refl _) T1.out T2.out HO.out).mono ?_; rintro y w3 ⟨rfl, es3, o3, m3, b3⟩)
          have O3 := Lib.hid o3
          have P3 := Lib.hid (m3.2.1.trans HP.out)
          have K3 : Hid (BkS es3 d n) := Lib.hid (by have h := HK.out.last m3; rw [HD.out] at h; exact h)
          have G3 := Lib.hid (HG.out.trans b3)
          clear o3 m3 b3
          go_roundw
          case rel => exact ⟨d, es3, by omega, hdm, by go_num, O3, P3, K3, G3⟩
          case measure => simp [intOf]; omega
        · have hmi : ¬ (m : Int) < (n : Int) := by omega
          have K3 : Hid (BkS es2 d n) := Lib.hid (by have h := HK.out.none (by have := HM.out; omega); rw [HD.out] at h; exact h)
          go_wp2
          go_roundw
          case rel => exact ⟨d, es2, by omega, hdm, by go_num, HO, HP, K3, HG⟩
          case measure => simp [intOf]; omega

set_option maxRecDepth 100000 in
set_option maxHeartbeats 8000000 in
theorem stableP_all (B : Nat) (A : Option Addr) (cap n : Nat) (es : List (Nat → Int)) (w : World) (hn : n ≤ 4194304) (hnc : n ≤ cap) (hcm : cap ≤ 9223372036854775807) (hBw : B ≤ w.heap.size) (h : Own B w 2 A n es) :
    Calls Tryz.prog 86 #[.slice A n cap, .func (.func 81) #[] #[]] w (SrD B 2 n A es w) := by
  have H := Lib.hid h
  clear h
  go_enter Tryz.func86, Tryz.ntmps86
  go_wp2_with (go_at_call 110; refine (staP_any B A cap n es _ hn hnc hcm hBw H.out).mono ?_; rintro y w3 ⟨rfl, o3, b3⟩)
  exact bodyPost_end (results_none rfl _ _ _) rfl ⟨rfl, o3, b3⟩
end Go.Proofs.YtjlmcppkafjniaaGreat

namespace Go.Proofs.YtjlmcppkafjniaaGreat
open Go.RowKit

theorem pinI_info : (Tryz.prog.info? 87).map (fun i => (i.zero, i.size, i.bytes)) = some (some (.agg #[.int .i64 0, .int .i64 0]), 2, 16) := by kernel_rfl
def PnI (w : World) (es : List (Nat → Int)) (cab : Int) (n : Nat) (y : Ending) (w' : World) : Prop := ∃ (A' : Option Addr) (m c' : Nat), y = .returned (.slice A' m c') ∧ Own w.heap.size w' 2 A' m (sortL (pinF es cab n) (pinF es cab n).length) ∧ (m ≤ c' ∧ c' ≤ 9223372036854775807) ∧ Below w.heap.size w w'
theorem insFQ_perm (e : Nat → Int) : ∀ l, (insF e l).Perm (e :: l)
  | [] => List.Perm.refl _
  | x :: l => by
    unfold insF
    split
    · exact ((insFQ_perm e l).cons x).trans (List.Perm.swap e x l)
    · exact List.Perm.refl _
theorem sortRQ_perm : ∀ l, (sortR l).Perm l
  | [] => List.Perm.refl _
  | e :: l => (insFQ_perm e (sortR l)).trans ((sortRQ_perm l).cons e)
theorem pinF_mem {es : List (Nat → Int)} {cab : Int} {x : Nat → Int} : ∀ {k : Nat}, x ∈ pinF es cab k → ∃ i, x = pinAt es i
  | 0, h => by cases h
  | k + 1, h => by
    rcases Bool.eq_false_or_eq_true (pinT es cab k) with t | t
    · rw [pinF_y t] at h
      rcases List.mem_append.1 h with h | h
      · exact pinF_mem h
      · exact ⟨k, by simpa using h⟩
    · rw [pinF_n t] at h
      exact pinF_mem h
theorem pinF_sort (es : List (Nat → Int)) (cab : Int) (k : Nat) : sortR (pinF es cab k) = sortL (pinF es cab k) (pinF es cab k).length := by
  have h1 := sortL_perm (es := pinF es cab k) (k := (pinF es cab k).length) (Nat.le_refl _)
  rw [List.take_length] at h1
  have h2 : Pw (sortL (pinF es cab k) (pinF es cab k).length) := Pw.of_srt (by rw [sortL_len]; exact sortL_srt _ _)
  refine List.Perm.eq_of_pairwise (le := fun a b => ¬ ltP b a) (fun a b ha hb hab hba => ?_) (sortR_pw _) h2 ((sortRQ_perm _).trans h1.symm)
  obtain ⟨i, rfl⟩ := pinF_mem ((sortRQ_perm _).mem_iff.1 ha)
  obtain ⟨j, rfl⟩ := pinF_mem (h1.mem_iff.1 hb)
  have e0 : fld es i 8 = fld es j 8 ∧ fld es i 0 = fld es j 0 := by
    unfold ltP at hab hba
    simp only [pinAt, List.getD_cons_zero, List.getD_cons_succ] at hab hba
    omega
  funext q
  unfold pinAt
  rw [e0.1, e0.2]
theorem bel_grown {a w w' : World} {B : Nat} {row : Option Nat} (hg : w.grownBy w' row) (hr : ∀ k, row = some k → B ≤ k) (hb : Below B a w) (hB : B ≤ w.heap.size) : Below B a w' := Below.grown hb hg hB hr
theorem pin_one2 (w : World) (t : TypeId) (p : Nat → Int) (b : Nat) (h : b = w.heap.size) : Rd (w.alloc (.cells #[.int .i64 (p 0), .int .i64 (p 1)] t)) 2 (some ⟨b, 0, none⟩) 1 [p] := h ▸ rd_one2 w t p

set_option maxRecDepth 100000 in
set_option maxHeartbeats 8000000 in
theorem iPinsIn_any (A : Option Addr) (n c : Nat) (cab : Int) (es : List (Nat → Int)) (w : World) (hn : n ≤ 4194303) (h : Rd w 10 A n es) :
    Calls Tryz.prog 41 #[.slice A n c, .int .i64 cab] w (PnI w es cab n) := by
  obtain ⟨i0, hi0, hz0, hz1, hz2⟩ := info_parts pinI_info
  have H := Lib.hid h
  clear h
  go_enter Tryz.func41, Tryz.ntmps41
  go_wp2
  go_loopw [5, 10] (fun v i wr => ∃ k : Nat, k ≤ n ∧ i = .int .i64 k ∧ Hid (wr.ownsRow w.heap.size 87 2 v (pinF es cab k).length (flat 2 (pinF es cab k))) ∧ Below w.heap.size w wr) (fun _ i _ => n - (intOf i).toNat)
  case atStart => exact ⟨0, Nat.zero_le _, rfl, Lib.hid (World.ownsRow_nil _ _ _ _), by (repeat (first | with_reducible exact Below.refl _ _ | with_reducible refine Below.drew ?_ | with_reducible refine below_drewN ?_ _ | (with_reducible refine bel_alloc ?_ ?_ _; (first | omega | (simp; omega) | simp)) | (with_reducible refine bel_set ?_ ?_ _; (first | omega | (simp; omega) | simp)) | (with_reducible refine bel_tr (by assumption) ?_ ?_; (first | omega | (simp; omega) | simp))))⟩
  case round =>
    obtain ⟨k, hk, rfl, HR, hbel⟩ := hrel
    have hsz := hbel.size
    have hml := pinF_len es cab k
    by_cases hlt : k < n
    · have hki : (k : Int) < (n : Int) := by omega
      have hk0 : (0 : Int) ≤ (k : Int) := by omega
      obtain ⟨b, off, rfl, hb, hc⟩ := H.out.2.resolve_left (by omega)
      have c0 : wr.cell? ⟨b, off + k * 10, none⟩ = some (.int .i64 (fld es k 0)) := (hbel.cell (p := ⟨b, off + k * 10, none⟩) hb).trans (hc k hlt 0 (by omega))
      have c1 : wr.cell? ⟨b, off + k * 10 + 1, none⟩ = some (.int .i64 (fld es k 1)) := (hbel.cell (p := ⟨b, off + k * 10 + 1, none⟩) hb).trans (hc k hlt 1 (by omega))
      have c2 : wr.cell? ⟨b, off + k * 10 + 2, none⟩ = some (.int .i64 (fld es k 2)) := (hbel.cell (p := ⟨b, off + k * 10 + 2, none⟩) hb).trans (hc k hlt 2 (by omega))
      have c3 : wr.cell? ⟨b, off + k * 10 + 3, none⟩ = some (.int .i64 (fld es k 3)) := (hbel.cell (p := ⟨b, off + k * 10 + 3, none⟩) hb).trans (hc k hlt 3 (by omega))
      have c4 : wr.cell? ⟨b, off + k * 10 + 4, none⟩ = some (.int .i64 (fld es k 4)) := (hbel.cell (p := ⟨b, off + k * 10 + 4, none⟩) hb).trans (hc k hlt 4 (by omega))
      have c5 : wr.cell? ⟨b, off + k * 10 + 5, none⟩ = some (.int .i64 (fld es k 5)) := (hbel.cell (p := ⟨b, off + k * 10 + 5, none⟩) hb).trans (hc k hlt 5 (by omega))
      have c6 : wr.cell? ⟨b, off + k * 10 + 6, none⟩ = some (.int .i64 (fld es k 6)) := (hbel.cell (p := ⟨b, off + k * 10 + 6, none⟩) hb).trans (hc k hlt 6 (by omega))
      have c7 : wr.cell? ⟨b, off + k * 10 + 7, none⟩ = some (.int .i64 (fld es k 7)) := (hbel.cell (p := ⟨b, off + k * 10 + 7, none⟩) hb).trans (hc k hlt 7 (by omega))
      have c8 : wr.cell? ⟨b, off + k * 10 + 8, none⟩ = some (.int .i64 (fld es k 8)) := (hbel.cell (p := ⟨b, off + k * 10 + 8, none⟩) hb).trans (hc k hlt 8 (by omega))
      have c9 : wr.cell? ⟨b, off + k * 10 + 9, none⟩ = some (.int .i64 (fld es k 9)) := (hbel.cell (p := ⟨b, off + k * 10 + 9, none⟩) hb).trans (hc k hlt 9 (by omega))
      clear hc
      rcases Bool.eq_false_or_eq_true (fld es k 7 == 2) with t0 | t0
      · rcases Bool.eq_false_or_eq_true (fld es k 1 == cab) with t1 | t1
        · have HY : Hid (pinF es cab (k + 1) = pinF es cab k ++ [pinAt es k]) := Lib.hid (pinF_y (by unfold pinT; simp [t0, t1]))
          go_wp2_with (at_builtin; go_must (refine wpList_append_rd _ rfl _ _ 85 rfl w.heap.size 87 i0 _ 2 16 Tryz.underlying85 hi0 hz0 hz1 hz2 rfl (by omega) _ (pinF es cab k).length (pinF es cab k) rfl (World.ownsRow.alloc (World.ownsRow.alloc HR.out _) _) (some ⟨wr.heap.size + 1, 0, none⟩) 1 1 [pinAt es k] rfl (pin_one2 _ _ _ _ (by simp)) (by unfold maxLen; omega) (by omega) (by simp; omega) ?_); intro v2 w2 hown2 hg2 hat2)
          have s2 := hg2.size
          (try simp at s2)
          have b2 : Below w.heap.size w w2 := bel_grown hg2 (row_ge HR.out (Nat.le_refl _)) (by (repeat (first | with_reducible exact Below.refl _ _ | with_reducible refine Below.drew ?_ | with_reducible refine below_drewN ?_ _ | (with_reducible refine bel_alloc ?_ ?_ _; (first | omega | (simp; omega) | simp)) | (with_reducible refine bel_set ?_ ?_ _; (first | omega | (simp; omega) | simp)) | (with_reducible refine bel_tr (by assumption) ?_ ?_; (first | omega | (simp; omega) | simp))))) (by (first | omega | (simp; omega) | simp))
          have R2 := Lib.hid hown2
          clear hown2 hg2 hat2
          go_wp2
          go_roundw
          case rel => exact ⟨k + 1, by omega, by go_num, by rw [HY.out, List.length_append, List.length_singleton]; exact R2, by (repeat (first | with_reducible exact Below.refl _ _ | with_reducible refine Below.drew ?_ | with_reducible refine below_drewN ?_ _ | (with_reducible refine bel_alloc ?_ ?_ _; (first | omega | (simp; omega) | simp)) | (with_reducible refine bel_set ?_ ?_ _; (first | omega | (simp; omega) | simp)) | (with_reducible refine bel_tr (by assumption) ?_ ?_; (first | omega | (simp; omega) | simp))))⟩
          case measure => simp [intOf]; omega
        · have HN : Hid (pinF es cab (k + 1) = pinF es cab k) := Lib.hid (pinF_n (by unfold pinT; simp [t0, t1]))
          go_wp2
          go_roundw
          case rel => exact ⟨k + 1, by omega, by go_num, by rw [HN.out]; first | exact HR | exact Lib.hid (World.ownsRow.alloc HR.out _), by (repeat (first | with_reducible exact Below.refl _ _ | with_reducible refine Below.drew ?_ | with_reducible refine below_drewN ?_ _ | (with_reducible refine bel_alloc ?_ ?_ _; (first | omega | (simp; omega) | simp)) | (with_reducible refine bel_set ?_ ?_ _; (first | omega | (simp; omega) | simp)) | (with_reducible refine bel_tr (by assumption) ?_ ?_; (first | omega | (simp; omega) | simp))))⟩
          case measure => simp [intOf]; omega
      · have HN : Hid (pinF es cab (k + 1) = pinF es cab k) := Lib.hid (pinF_n (by unfold pinT; simp [t0]))
        go_wp2
        go_roundw
        case rel => exact ⟨k + 1, by omega, by go_num, by rw [HN.out]; first | exact HR | exact Lib.hid (World.ownsRow.alloc HR.out _), by (repeat (first | with_reducible exact Below.refl _ _ | with_reducible refine Below.drew ?_ | with_reducible refine below_drewN ?_ _ | (with_reducible refine bel_alloc ?_ ?_ _; (first | omega | (simp; omega) | simp)) | (with_reducible refine bel_set ?_ ?_ _; (first | omega | (simp; omega) | simp)) | (with_reducible refine bel_tr (by assumption) ?_ ?_; (first | omega | (simp; omega) | simp))))⟩
        case measure => simp [intOf]; omega
    · have hkn : k = n := by omega
      subst hkn
      have hki : ¬ (k : Int) < (k : Int) := by omega
      obtain ⟨A3, c3, rfl, hc1, hc2, o3⟩ := own_of_row_cap rfl HR.out
      have O3 := Lib.hid o3
      clear o3
      go_wp2_with (go_at_call 86; refine (stableP_all w.heap.size A3 c3 _ (pinF es cab k) _ (by omega) hc1 hc2 hsz O3.out).mono ?_; rintro y w4 ⟨rfl, o4, b4⟩)
      rw [pinF_sort] at o4
      go_ret
      exact ⟨A3, _, c3, rfl, o4, ⟨hc1, hc2⟩, hbel.trans b4⟩
end Go.Proofs.YtjlmcppkafjniaaGreat

namespace Go.Proofs.YtjlmcppkafjniaaGreat
open Go.RowKit

theorem row_empty0 (w : World) (t : TypeId) (K : Nat) : (w.alloc (.cells #[] t)).ownsRow w.heap.size t K (.slice (some ⟨w.heap.size, 0, none⟩) 0 0) 0 (flat K []) :=
  ⟨by simp [flat], .inr ⟨w.heap.size, 0, #[], rfl, Nat.le_refl _, heap_alloc_new w _, Nat.le_refl _, Nat.zero_le _, by simp, by simp [flat]⟩⟩
def PnS (w : World) (es : List (Nat → Int)) (cab : Int) (n : Nat) (y : Ending) (w' : World) : Prop := ∃ v, y = .returned v ∧ w'.ownsRow w.heap.size 87 2 v (pinF es cab n).length (flat 2 (sortL (pinF es cab n) (pinF es cab n).length)) ∧ Below w.heap.size w w'

set_option maxRecDepth 100000 in
set_option maxHeartbeats 8000000 in
theorem sPinsIn_any (A : Option Addr) (n c : Nat) (cab : Int) (es : List (Nat → Int)) (w : World) (hn : n ≤ 4194303) (h : Rd w 10 A n es) :
    Calls Tryz.prog 53 #[.slice A n c, .int .i64 cab] w (PnS w es cab n) := by
  have H := Lib.hid h
  clear h
  go_enter Tryz.func53, Tryz.ntmps53
  go_wp2
  go_loopw [5, 6] (fun v i wr => ∃ k : Nat, k ≤ n ∧ i = .int .i64 k ∧ Hid (wr.ownsRow w.heap.size 87 2 v (pinF es cab k).length (flat 2 (sortL (pinF es cab k) (pinF es cab k).length))) ∧ Below w.heap.size w wr) (fun _ i _ => n - (intOf i).toNat)
  case atStart => exact ⟨0, Nat.zero_le _, rfl, Lib.hid (row_empty0 w _ 2), by (repeat (first | with_reducible exact Below.refl _ _ | with_reducible refine Below.drew ?_ | with_reducible refine below_drewN ?_ _ | (with_reducible refine bel_alloc ?_ ?_ _; (first | omega | (simp; omega) | simp)) | (with_reducible refine bel_set ?_ ?_ _; (first | omega | (simp; omega) | simp)) | (with_reducible refine bel_tr (by assumption) ?_ ?_; (first | omega | (simp; omega) | simp))))⟩
  case round =>
    obtain ⟨k, hk, rfl, HR, hbel⟩ := hrel
    have hsz := hbel.size
    have hml := pinF_len es cab k
    by_cases hlt : k < n
    · have hki : (k : Int) < (n : Int) := by omega
      have hk0 : (0 : Int) ≤ (k : Int) := by omega
      obtain ⟨b, off, rfl, hb, hc⟩ := H.out.2.resolve_left (by omega)
      have c7 : wr.cell? ⟨b, off + k * 10 + 7, none⟩ = some (.int .i64 (fld es k 7)) := (hbel.cell (p := ⟨b, off + k * 10 + 7, none⟩) hb).trans (hc k hlt 7 (by omega))
      have c1 : wr.cell? ⟨b, off + k * 10 + 1, none⟩ = some (.int .i64 (fld es k 1)) := (hbel.cell (p := ⟨b, off + k * 10 + 1, none⟩) hb).trans (hc k hlt 1 (by omega))
      have c8 : wr.cell? ⟨b, off + k * 10 + 8, none⟩ = some (.int .i64 (fld es k 8)) := (hbel.cell (p := ⟨b, off + k * 10 + 8, none⟩) hb).trans (hc k hlt 8 (by omega))
      have c0 : wr.cell? ⟨b, off + k * 10, none⟩ = some (.int .i64 (fld es k 0)) := (hbel.cell (p := ⟨b, off + k * 10, none⟩) hb).trans (hc k hlt 0 (by omega))
      clear hc
      rcases Bool.eq_false_or_eq_true (fld es k 7 == 2) with t0 | t0
      · rcases Bool.eq_false_or_eq_true (fld es k 1 == cab) with t1 | t1
        · have HY : Hid (pinF es cab (k + 1) = pinF es cab k ++ [pinAt es k]) := Lib.hid (pinF_y (by unfold pinT; simp [t0, t1]))
          go_wp2
          go_region_held3 (fun w' => w'.cell? ⟨b, off + k * 10 + 8, none⟩ = some (.int .i64 (fld es k 8)) ∧ w'.cell? ⟨b, off + k * 10, none⟩ = some (.int .i64 (fld es k 0))) ((first | (go_keep; done) | (go_simp; done))) ((go_at_call 94; refine (l9Put_any w.heap.size (pinF es cab k).length _ (sortL (pinF es cab k) (pinF es cab k).length) (pinAt es k) _ (by omega) (sortL_len _ _) (by exact HR.out)).mono ?_; rintro y w2 ⟨v2, rfl, r2, b2⟩; have R2 : Hid (w2.ownsRow w.heap.size 87 2 v2 ((pinF es cab k).length + 1) (flat 2 (insL (sortL (pinF es cab k) (pinF es cab k).length) (plcP (sortL (pinF es cab k) (pinF es cab k).length) (pinAt es k) (pinF es cab k).length) (pinAt es k)))) := Lib.hid (World.ownsRow.lower r2 (by (first | omega | (simp; omega) | simp))); clear r2; have kc8 : w2.cell? ⟨b, off + k * 10 + 8, none⟩ = _ := b2.cell (p := ⟨b, off + k * 10 + 8, none⟩) (by (first | omega | (simp; omega) | simp)); have kc0 : w2.cell? ⟨b, off + k * 10, none⟩ = _ := b2.cell (p := ⟨b, off + k * 10, none⟩) (by (first | omega | (simp; omega) | simp))))
          all_goals
            go_wp2
            go_roundw
            case rel => exact ⟨k + 1, by omega, by go_num, by rw [HY.out, List.length_append, List.length_singleton, sortL_put]; exact R2, by (repeat (first | with_reducible exact Below.refl _ _ | with_reducible refine Below.drew ?_ | with_reducible refine below_drewN ?_ _ | (with_reducible refine bel_alloc ?_ ?_ _; (first | omega | (simp; omega) | simp)) | (with_reducible refine bel_set ?_ ?_ _; (first | omega | (simp; omega) | simp)) | (with_reducible refine bel_tr (by assumption) ?_ ?_; (first | omega | (simp; omega) | simp))))⟩
            case measure => simp [intOf]; omega
        · have HN : Hid (pinF es cab (k + 1) = pinF es cab k) := Lib.hid (pinF_n (by unfold pinT; simp [t0, t1]))
          go_wp2
          go_roundw
          case rel => exact ⟨k + 1, by omega, by go_num, by rw [HN.out]; first | exact HR | exact Lib.hid (World.ownsRow.alloc HR.out _), by (repeat (first | with_reducible exact Below.refl _ _ | with_reducible refine Below.drew ?_ | with_reducible refine below_drewN ?_ _ | (with_reducible refine bel_alloc ?_ ?_ _; (first | omega | (simp; omega) | simp)) | (with_reducible refine bel_set ?_ ?_ _; (first | omega | (simp; omega) | simp)) | (with_reducible refine bel_tr (by assumption) ?_ ?_; (first | omega | (simp; omega) | simp))))⟩
          case measure => simp [intOf]; omega
      · have HN : Hid (pinF es cab (k + 1) = pinF es cab k) := Lib.hid (pinF_n (by unfold pinT; simp [t0]))
        go_wp2
        go_roundw
        case rel => exact ⟨k + 1, by omega, by go_num, by rw [HN.out]; first | exact HR | exact Lib.hid (World.ownsRow.alloc HR.out _), by (repeat (first | with_reducible exact Below.refl _ _ | with_reducible refine Below.drew ?_ | with_reducible refine below_drewN ?_ _ | (with_reducible refine bel_alloc ?_ ?_ _; (first | omega | (simp; omega) | simp)) | (with_reducible refine bel_set ?_ ?_ _; (first | omega | (simp; omega) | simp)) | (with_reducible refine bel_tr (by assumption) ?_ ?_; (first | omega | (simp; omega) | simp))))⟩
        case measure => simp [intOf]; omega
    · have hkn : k = n := by omega
      subst hkn
      have hki : ¬ (k : Int) < (k : Int) := by omega
      go_wp2
      go_ret
      exact ⟨_, rfl, HR.out, by (repeat (first | with_reducible exact Below.refl _ _ | with_reducible refine Below.drew ?_ | with_reducible refine below_drewN ?_ _ | (with_reducible refine bel_alloc ?_ ?_ _; (first | omega | (simp; omega) | simp)) | (with_reducible refine bel_set ?_ ?_ _; (first | omega | (simp; omega) | simp)) | (with_reducible refine bel_tr (by assumption) ?_ ?_; (first | omega | (simp; omega) | simp))))⟩
end Go.Proofs.YtjlmcppkafjniaaGreat
