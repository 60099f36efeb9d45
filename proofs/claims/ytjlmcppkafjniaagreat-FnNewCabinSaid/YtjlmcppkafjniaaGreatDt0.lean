/-
  Boxes (blocks of known cells) and the functions that draw parties. No conditions beyond those stated.
-/
import Derived.Test.YtjlmcppkafjniaaGreatSm
import Derived.Test.YtjlmcppkafjniaaGreatSw
import Derived.Test.YtjlmcppkafjniaaGreatSme
import Derived.Test.YtjlmcppkafjniaaGreatPo
import Derived.Test.YtjlmcppkafjniaaGreatLv
import Derived.Deep.DeepCutAuto
import Derived.Deep.RegionHeld3
namespace Go.Proofs.YtjlmcppkafjniaaGreat
open Go.RowKit

/-- The first n elements are sorted, block by block of s. -/
def BkS (es : List (Nat → Int)) (s n : Nat) : Prop := ∀ q, q + 1 < n → (q + 1) % s ≠ 0 → ¬ ltP (fld es (q + 1)) (fld es q)
/-- Blocks of 2 * s ahead of a, of s behind it. -/
def BkM (es : List (Nat → Int)) (s a n : Nat) : Prop := a % (2 * s) = 0 ∧ (∀ q, q + 1 < n → q + 1 < a → (q + 1) % (2 * s) ≠ 0 → ¬ ltP (fld es (q + 1)) (fld es q)) ∧ ∀ q, a ≤ q → q + 1 < n → (q + 1) % s ≠ 0 → ¬ ltP (fld es (q + 1)) (fld es q)
theorem mod_half {a s : Nat} (h : a % (2 * s) = 0) : a % s = 0 := by
  obtain ⟨k, rfl⟩ := Nat.dvd_of_mod_eq_zero h
  rw [Nat.mul_comm 2 s, Nat.mul_assoc]
  exact Nat.mul_mod_right _ _
theorem mod_in {a s q : Nat} (h : a % s = 0) (h1 : a < q) (h2 : q < a + s) : q % s ≠ 0 := by
  obtain ⟨k, rfl⟩ := Nat.dvd_of_mod_eq_zero h
  obtain ⟨d, rfl⟩ : ∃ d, q = s * k + d := ⟨q - s * k, by omega⟩
  rw [Nat.mul_add_mod, Nat.mod_eq_of_lt (by omega)]
  omega
theorem mod_next {a s : Nat} (h : a % s = 0) : (a + s) % s = 0 := by
  rw [Nat.add_mod_right]
  exact h
theorem BkM.start {es : List (Nat → Int)} {s n : Nat} (h : BkS es s n) : BkM es s 0 n := ⟨Nat.zero_mod _, fun _ _ h => absurd h (by omega), fun q _ h1 h2 => h q h1 h2⟩
theorem BkM.fst {es : List (Nat → Int)} {s a n : Nat} (h : BkM es s a n) (hn : a + s ≤ n) : SrtR es a (a + s) := fun q h1 h2 => h.2.2 q h1 (by omega) (mod_in (mod_half h.1) (by omega) h2)
theorem BkM.snd {es : List (Nat → Int)} {s a n c : Nat} (h : BkM es s a n) (hc : c ≤ n) (hc2 : c ≤ a + 2 * s) : SrtR es (a + s) c := fun q h1 h2 => h.2.2 q (by omega) (by omega) (mod_in (mod_next (mod_half h.1)) (by omega) (by omega))
theorem BkM.step {es es' : List (Nat → Int)} {s a n : Nat} (h : BkM es s a n) (hm : MrgD es' es a (a + 2 * s)) : BkM es' s (a + 2 * s) n := by
  obtain ⟨_, _, hs, ho⟩ := hm
  refine ⟨mod_next h.1, fun q h1 h2 h3 => ?_, fun q h1 h2 h3 => ?_⟩
  · by_cases c1 : q + 1 < a
    · rw [ho q (by omega), ho (q + 1) (by omega)]
      exact h.2.1 q h1 c1 h3
    by_cases c2 : q + 1 = a
    · rw [c2] at h3
      exact absurd h.1 h3
    exact hs q (by omega) h2
  · rw [ho q (by omega), ho (q + 1) (by omega)]
    exact h.2.2 q (by omega) h2 h3
theorem BkM.last {es es' : List (Nat → Int)} {s a n : Nat} (h : BkM es s a n) (hm : MrgD es' es a n) : BkS es' (2 * s) n := fun q h1 h2 => by
  obtain ⟨_, _, hs, ho⟩ := hm
  by_cases c1 : q + 1 < a
  · rw [ho q (by omega), ho (q + 1) (by omega)]
    exact h.2.1 q h1 c1 h2
  by_cases c2 : q + 1 = a
  · rw [c2] at h2
    exact absurd h.1 h2
  exact hs q (by omega) h1
theorem BkM.none {es : List (Nat → Int)} {s a n : Nat} (h : BkM es s a n) (hn : n ≤ a + s) : BkS es (2 * s) n := fun q h1 h2 => by
  by_cases c1 : q + 1 < a
  · exact h.2.1 q h1 c1 h2
  by_cases c2 : q + 1 = a
  · rw [c2] at h2
    exact absurd h.1 h2
  exact h.2.2 q (by omega) h1 (mod_in (mod_half h.1) (by omega) (by omega))
theorem BkS.done {es : List (Nat → Int)} {s n : Nat} (h : BkS es s n) (hs : n ≤ s) : SrtR es 0 n := fun q _ h2 => h q h2 (by rw [Nat.mod_eq_of_lt (by omega)]; omega)
/-- The blocks of twenty ahead of a are sorted. -/
def Bk20 (es : List (Nat → Int)) (a : Nat) : Prop := a % 20 = 0 ∧ ∀ q, q + 1 < a → (q + 1) % 20 ≠ 0 → ¬ ltP (fld es (q + 1)) (fld es q)
theorem Bk20.start (es : List (Nat → Int)) : Bk20 es 0 := ⟨rfl, fun _ h => absurd h (by omega)⟩
theorem Bk20.step {es es' : List (Nat → Int)} {a b : Nat} (h : Bk20 es a) (hs : SrtR es' a b) (ho : OutR es' es a b) : ∀ q, q + 1 < b → (q + 1) % 20 ≠ 0 → ¬ ltP (fld es' (q + 1)) (fld es' q) := fun q h1 h2 => by
  by_cases c1 : q + 1 < a
  · rw [ho q (by omega), ho (q + 1) (by omega)]
    exact h.2 q c1 h2
  by_cases c2 : q + 1 = a
  · have := h.1
    omega
  exact hs q (by omega) h1
end Go.Proofs.YtjlmcppkafjniaaGreat

namespace Go.Proofs.YtjlmcppkafjniaaGreat
open Go.RowKit

set_option maxRecDepth 100000 in
set_option maxHeartbeats 8000000 in
theorem staE_any (B : Nat) (A : Option Addr) (cap n : Nat) (es : List (Nat → Int)) (w : World) (hn : n ≤ 4194304) (hnc : n ≤ cap) (hcm : cap ≤ 9223372036854775807) (hBw : B ≤ w.heap.size) (h : Own B w 4 A n es) :
    Calls Tryz.prog 107 #[.slice A n cap, .int .i64 n, .func (.func 84) #[] #[]] w (SrD B 4 n A es w) := by
  have H := Lib.hid h
  clear h
  go_enter Tryz.func107, Tryz.ntmps107
  go_wp2
  go_loopw [7, 8] (fun s7 s8 wr => ∃ (a : Nat) (es1 : List (Nat → Int)), a ≤ n ∧ s7 = .int .i64 a ∧ s8 = .int .i64 ((a + 20 : Nat) : Int) ∧ Hid (Own B wr 4 A n es1) ∧ Hid (Stb es1 es) ∧ Hid (Bk20 es1 a) ∧ Hid (Below B w wr)) (fun s7 _ _ => n - (intOf s7).toNat)
  case atStart => exact ⟨0, es, Nat.zero_le _, rfl, rfl, H, Lib.hid (Stb.refl _), Lib.hid (Bk20.start _), Lib.hid (Below.refl _ _)⟩
  case round =>
    obtain ⟨a, es1, han, rfl, rfl, HO, HP, HK, HG⟩ := hrel
    by_cases hlt : a + 20 ≤ n
    case pos =>
      have hki : ((a + 20 : Nat) : Int) ≤ (n : Int) := by omega
      have hw : IntKind.i64.wrap (((a + 20 : Nat) : Int) + 20) = ((a + 20 + 20 : Nat) : Int) := by rw [IntKind.wrap_i64]; omega
      obtain ⟨b, hb⟩ : ∃ b, a + 20 = b := ⟨_, rfl⟩
      rw [hb] at hki hw ⊢
      have HB := Lib.hid hb
      have hbn : b ≤ n := by omega
      clear hb hlt
      go_wp2_with (go_at_call 122; refine (insE_any B A cap n a b es1 _ hn hnc hcm (Nat.le_trans hBw HG.out.size) hbn han HO.out).mono ?_; rintro y w3 ⟨rfl, es3, o3, p3, s3, u3, b3⟩)
      have O3 := Lib.hid o3
      have P3 := Lib.hid (p3.trans HP.out)
      have K3 : Hid (Bk20 es3 b) := Lib.hid ⟨by have := HK.out.1; have := HB.out; omega, HK.out.step s3 u3⟩
      have G3 := Lib.hid (HG.out.trans b3)
      clear o3 p3 s3 u3 b3
      go_roundw
      case rel => exact ⟨b, es3, hbn, rfl, by go_num, O3, P3, K3, G3⟩
      case measure => have := HB.out; simp [intOf]; omega
    have hki : ¬ ((a + 20 : Nat) : Int) ≤ (n : Int) := by omega
    obtain ⟨b, hb⟩ : ∃ b, a + 20 = b := ⟨_, rfl⟩
    rw [hb] at hki ⊢
    clear hb hlt
    go_wp2_with (go_at_call 122; refine (insE_any B A cap n a n es1 _ hn hnc hcm (Nat.le_trans hBw HG.out.size) (Nat.le_refl _) han HO.out).mono ?_; rintro y w3 ⟨rfl, es3, o3, p3, s3, u3, b3⟩)
    have O3 := Lib.hid o3
    have P3 := Lib.hid (p3.trans HP.out)
    have K3 : Hid (BkS es3 20 n) := Lib.hid (HK.out.step s3 u3)
    have G3 := Lib.hid (HG.out.trans b3)
    clear o3 p3 s3 u3 b3 HO HP HK HG hki
    go_loopw [6, 7, 8, 9] (fun s6 _ _ _ wr => ∃ (s : Nat) (es1 : List (Nat → Int)), 20 ≤ s ∧ s ≤ 8388608 ∧ s6 = .int .i64 s ∧ Hid (Own B wr 4 A n es1) ∧ Hid (Stb es1 es) ∧ Hid (BkS es1 s n) ∧ Hid (Below B w wr)) (fun s6 _ _ _ _ => n - (intOf s6).toNat)
    case atStart => exact ⟨20, es3, Nat.le_refl _, by omega, rfl, O3, P3, K3, G3⟩
    case round =>
      obtain ⟨s, es1, hs20, hsm, rfl, HO, HP, HK, HG⟩ := hrel
      by_cases hlt : s < n
      case neg =>
        have hki : ¬ (s : Int) < (n : Int) := by omega
        have HE := Lib.hid (sortR_of ((HK.out.done (by omega)).all HO.out.1) HP.out)
        go_wp2
        exact bodyPost_end (results_none rfl _ _ _) rfl ⟨rfl, HE.out ▸ HO.out, HG.out⟩
      have hki : (s : Int) < (n : Int) := by omega
      obtain ⟨d, hd⟩ : ∃ d, 2 * s = d := ⟨_, rfl⟩
      have hdw : IntKind.i64.wrap (2 * (s : Int)) = (d : Int) := by rw [IntKind.wrap_i64]; omega
      have hdw2 : 2 * (s : Int) = (d : Int) := by omega
      have hdw3 : IntKind.i64.wrap ((s : Int) * 2) = (d : Int) := by rw [IntKind.wrap_i64]; omega
      have hdw4 : (s : Int) * 2 = (d : Int) := by omega
      have hdm : d ≤ 8388608 := by omega
      have hsd : s < d := by omega
      have HD := Lib.hid hd
      have HK0 : Hid (BkM es1 s 0 n) := Lib.hid (BkM.start HK.out)
      clear hd HK hlt
      obtain ⟨wq, hwq⟩ : ∃ wq, wq = wr := ⟨wr, rfl⟩
      subst hwq
      go_wp2
      go_loopw [7, 8] (fun s7 s8 wr => ∃ (a : Nat) (es2 : List (Nat → Int)), a ≤ n ∧ s7 = .int .i64 a ∧ s8 = .int .i64 ((a + d : Nat) : Int) ∧ Hid (Own B wr 4 A n es2) ∧ Hid (Stb es2 es) ∧ Hid (BkM es2 s a n) ∧ Hid (Below B w wr)) (fun s7 _ _ => n - (intOf s7).toNat)
      case atStart => exact ⟨0, es1, Nat.zero_le _, rfl, by go_num, HO, HP, HK0, HG⟩
      case round =>
        clear HO HP HK0 HG
        obtain ⟨a, es2, han, rfl, rfl, HO, HP, HK, HG⟩ := hrel
        obtain ⟨b, hb⟩ : ∃ b, a + d = b := ⟨_, rfl⟩
        rw [hb]
        obtain ⟨m, hm⟩ : ∃ m, a + s = m := ⟨_, rfl⟩
        have hmw : IntKind.i64.wrap ((a : Int) + (s : Int)) = (m : Int) := by rw [IntKind.wrap_i64]; omega
        have hmw2 : (a : Int) + (s : Int) = (m : Int) := by omega
        have ham : a < m := by omega
        have hmb : m < b := by omega
        by_cases hlt : b ≤ n
        case pos =>
          have hli : (b : Int) ≤ (n : Int) := by omega
          have hbw : IntKind.i64.wrap ((b : Int) + (d : Int)) = (b : Int) + (d : Int) := by rw [IntKind.wrap_i64]; omega
          have HB := Lib.hid hb
          have HM := Lib.hid hm
          clear hb hm hdw3 hdw4
          have S1 : SrtR es2 a m := by have h := HK.out.fst (by have := HB.out; have := HM.out; omega); rw [HM.out] at h; exact h
          have S2 : SrtR es2 m b := by have h := HK.out.snd hlt (by have := HB.out; have := HD.out; omega); rw [HM.out] at h; exact h
          have T1 := Lib.hid S1
          have T2 := Lib.hid S2
          clear S1 S2
          go_wp2_with (go_at_call 123; refine (smE_any B A cap n a m b es2 _ hn hnc hcm (Nat.le_trans hBw HG.out.size) ham hmb hlt T1.out T2.out HO.out).mono ?_; rintro y w3 ⟨rfl, es3, o3, m3, b3⟩)
          have O3 := Lib.hid o3
          have P3 := Lib.hid (m3.2.1.trans HP.out)
          have K3 : Hid (BkM es3 s b n) := Lib.hid (by have h := HK.out.step (es' := es3) (by rw [show a + 2 * s = b by have := HB.out; have := HD.out; omega]; exact m3); rw [show a + 2 * s = b by have := HB.out; have := HD.out; omega] at h; exact h)
          have G3 := Lib.hid (HG.out.trans b3)
          clear o3 m3 b3
          go_roundw
          case rel => exact ⟨b, es3, hlt, rfl, by go_num, O3, P3, K3, G3⟩
          case measure => have := HB.out; simp [intOf]; omega
        have hli : ¬ (b : Int) ≤ (n : Int) := by omega
        have HB := Lib.hid hb
        have HM := Lib.hid hm
        clear hb hm
        by_cases hmn : m < n
        · have hmi : (m : Int) < (n : Int) := by omega
          have S1 : SrtR es2 a m := by have h := HK.out.fst (by have := HB.out; have := HM.out; omega); rw [HM.out] at h; exact h
          have S2 : SrtR es2 m n := by have h := HK.out.snd (Nat.le_refl n) (by have := HB.out; have := HD.out; omega); rw [HM.out] at h; exact h
          have T1 := Lib.hid S1
          have T2 := Lib.hid S2
          clear S1 S2
          go_wp2_with (go_at_call 123; refine (smE_any B A cap n a m n es2 _ hn hnc hcm (Nat.le_trans hBw HG.out.size) ham hmn (Nat.le_refl _) T1.out T2.out HO.out).mono ?_; rintro y w3 ⟨rfl, es3, o3, m3, b3⟩)
          have O3 := Lib.hid o3
          have P3 := Lib.hid (m3.2.1.trans HP.out)
          have K3 : Hid (BkS es3 d n) := Lib.hid (by have h := HK.out.last m3; rw [HD.out] at h; exact h)
          have G3 := Lib.hid (HG.out.trans b3)
          clear o3 m3 b3
          go_roundw
          case rel => exact ⟨d, es3, by omega, hdm, by go_num, O3, P3, K3, G3⟩
          case measure => simp [intOf]; omega
        · have hmi : ¬ (m : Int) < (n : Int) := by omega
          have K3 : Hid (BkS es2 d n) := Lib.hid (by have h := HK.out.none (by have := HM.out; omega); rw [HD.out] at h; exact h)
          go_wp2
          go_roundw
          case rel => exact ⟨d, es2, by omega, hdm, by go_num, HO, HP, K3, HG⟩
          case measure => simp [intOf]; omega

set_option maxRecDepth 100000 in
set_option maxHeartbeats 8000000 in
theorem stableE_all (B : Nat) (A : Option Addr) (cap n : Nat) (es : List (Nat → Int)) (w : World) (hn : n ≤ 4194304) (hnc : n ≤ cap) (hcm : cap ≤ 9223372036854775807) (hBw : B ≤ w.heap.size) (h : Own B w 4 A n es) :
    Calls Tryz.prog 83 #[.slice A n cap, .func (.func 84) #[] #[]] w (SrD B 4 n A es w) := by
  have H := Lib.hid h
  clear h
  go_enter Tryz.func83, Tryz.ntmps83
  go_wp2_with (go_at_call 107; refine (staE_any B A cap n es _ hn hnc hcm hBw H.out).mono ?_; rintro y w3 ⟨rfl, o3, b3⟩)
  exact bodyPost_end (results_none rfl _ _ _) rfl ⟨rfl, o3, b3⟩
end Go.Proofs.YtjlmcppkafjniaaGreat

namespace Go.Proofs.YtjlmcppkafjniaaGreat
open Go.RowKit

def IntS (P : Int → Prop) (w : World) (cb : Nat) (e : Ending) (w' : World) : Prop := ∃ x : Int, e = .returned (.int .i64 x) ∧ P x ∧ Drew w cb w' ∧ w'.heap.size = w.heap.size
def BoolS (w : World) (cb : Nat) (e : Ending) (w' : World) : Prop := ∃ x : Bool, e = .returned (.bool x) ∧ Drew w cb w' ∧ w'.heap.size = w.heap.size

set_option maxRecDepth 100000 in
set_option maxHeartbeats 2000000 in
theorem l1ByteS (cb : Nat) (w : World) (h : Cur w cb) :
    Calls Tryz.prog 66 #[.pointer (some ⟨cb, 0, none⟩)] w (IntS (fun x => 0 ≤ x ∧ x ≤ 255) w cb) := by
  have hlt := h.lt
  obtain ⟨A, n, c, i, x, h0, h1, h2, h3, h4, h5, h6, h7⟩ := h
  have f0 := h6 0
  have f1 := h6 1
  have f2 := h6 2
  obtain ⟨M, hM⟩ : ∃ M : Int, M = 6364136223846793005 := ⟨_, rfl⟩
  by_cases hin : i < (n : Int)
  · obtain ⟨b, off, rfl, hb1, hb3⟩ := h7.resolve_left (by omega)
    have hb1' : b ≠ cb := by omega
    have hb2 : b < w.heap.size := by omega
    obtain ⟨k, rfl⟩ : ∃ k : Nat, i = k := ⟨i.toNat, by omega⟩
    obtain ⟨y, y1, y2, y3⟩ := hb3 k (by omega)
    have hkn : k < n := by omega
    go_enter Tryz.func66, Tryz.ntmps66
    go_wp2
    generalize (wrap64 (wrap64 (x * 6364136223846793005) + 1442695040888963407)) = H1
    go_quiet (fail)
    go_wp2
    go_quiet (fail)
    go_wp2
    go_quiet (fail)
    go_wp2
    go_ret
    exact ⟨_, rfl, and255 _, cur_of (A := some ⟨b, off, none⟩) (n := n) (c := c) (i := (k : Int) + 1) (h := H1) (by (repeat (first | with_reducible exact World.grownBy.refl _ _ | with_reducible assumption | with_reducible refine grown_set ?_ | with_reducible refine grown_drewN ?_ _ | with_reducible refine grown_alloc ?_ _))) (by (first | (go_keep; done) | (go_simp; done) | (simp [*]; done))) (by (first | (go_keep; done) | (go_simp; done) | (simp [*]; done))) (by (first | (go_keep; done) | (go_simp; done) | (simp [*]; done))) (by omega) h5 (fun o => by simp [h6]) hlt (.inr ⟨b, off, rfl, hb1, hb3⟩), by (first | rfl | (simp; done) | (go_simp; done) | (simp [*]; done))⟩
  · go_enter Tryz.func66, Tryz.ntmps66
    go_wp2
    generalize (wrap64 (wrap64 (x * 6364136223846793005) + 1442695040888963407)) = H1
    go_quiet (fail)
    go_wp2
    go_quiet (fail)
    go_wp2
    go_ret
    exact ⟨_, rfl, and255 _, cur_of (A := A) (n := n) (c := c) (i := i) (h := H1) (by (repeat (first | with_reducible exact World.grownBy.refl _ _ | with_reducible assumption | with_reducible refine grown_set ?_ | with_reducible refine grown_drewN ?_ _ | with_reducible refine grown_alloc ?_ _))) (by (first | (go_keep; done) | (go_simp; done) | (simp [*]; done))) (by (first | (go_keep; done) | (go_simp; done) | (simp [*]; done))) (by (first | (go_keep; done) | (go_simp; done) | (simp [*]; done))) ⟨h3, h4⟩ h5 (fun o => by simp [h6]) hlt h7, by (first | rfl | (simp; done) | (go_simp; done) | (simp [*]; done))⟩

set_option maxRecDepth 100000 in
set_option maxHeartbeats 2000000 in
theorem l1BelowS (cb : Nat) (n : Int) (w : World) (h : Cur w cb) :
    Calls Tryz.prog 28 #[.pointer (some ⟨cb, 0, none⟩), .int .i64 n] w (IntS (fun x => 0 ≤ x ∧ (0 < n → x < n) ∧ (n ≤ 0 → x = 0)) w cb) := by
  by_cases h1 : n ≤ 0
  · go_enter Tryz.func28, Tryz.ntmps28
    go_wp2
    go_ret
    exact ⟨0, rfl, ⟨by omega, by omega, fun _ => rfl⟩, h.drew_below (Below.refl _ _), rfl⟩
  by_cases h2 : n ≤ 256
  · have HC := Lib.hid h
    clear h
    go_enter Tryz.func28, Tryz.ntmps28
    go_wp2_with fail
    refine (l1ByteS cb _ HC.out).mono ?_
    rintro y w1 ⟨x, rfl, ⟨hx0, hx1⟩, d1, e1⟩
    go_wp2
    go_ret
    have h3 := Int.emod_nonneg x (show n ≠ 0 by omega)
    have h4 := Int.emod_lt_of_pos x (show 0 < n by omega)
    exact ⟨_, rfl, ⟨by omega, by omega, by omega⟩, d1, e1⟩
  · have HC := Lib.hid h
    clear h
    go_enter Tryz.func28, Tryz.ntmps28
    go_wp2_with fail
    refine (l1ByteS cb _ HC.out).mono ?_
    rintro y w1 ⟨x1, rfl, ⟨ha0, ha1⟩, d1, e1⟩
    have D1 := Lib.hid d1
    clear d1
    go_wp2_with fail
    refine (l1ByteS cb _ D1.out.1).mono ?_
    rintro y w2 ⟨x2, rfl, ⟨hb0, hb1⟩, d2, e2⟩
    have D2 := Lib.hid (D1.out.trans d2)
    clear d2
    go_wp2_with fail
    refine (l1ByteS cb _ D2.out.1).mono ?_
    rintro y w3 ⟨x3, rfl, ⟨hc0, hc1⟩, d3, e3⟩
    have D3 := Lib.hid (D2.out.trans d3)
    clear d3
    go_wp2_with fail
    refine (l1ByteS cb _ D3.out.1).mono ?_
    rintro y w4 ⟨x4, rfl, ⟨hd0, hd1⟩, d4, e4⟩
    have D4 := Lib.hid (D3.out.trans d4)
    clear d4
    go_wp2
    go_ret
    refine ⟨_, rfl, ?_, D4.out, by omega⟩
    generalize x1 * 16777216 + x2 * 65536 + x3 * 256 + x4 = X
    have h3 := Int.emod_nonneg X (show n ≠ 0 by omega)
    have h4 := Int.emod_lt_of_pos X (show 0 < n by omega)
    exact ⟨by omega, by omega, by omega⟩

set_option maxHeartbeats 400000 in
theorem l1OnceS (cb : Nat) (n : Int) (w : World) (h : Cur w cb) :
    Calls Tryz.prog 67 #[.pointer (some ⟨cb, 0, none⟩), .int .i64 n] w (BoolS w cb) := by
  have HC := Lib.hid h
  clear h
  go_enter Tryz.func67, Tryz.ntmps67
  go_wp2_with fail
  refine (l1BelowS cb n _ HC.out).mono ?_
  rintro y w1 ⟨x, rfl, _, d1, e1⟩
  go_wp2
  go_ret
  exact ⟨_, rfl, d1, e1⟩

set_option maxHeartbeats 400000 in
theorem l1PickIntS (cb : Nat) (A : Option Addr) (n c : Nat) (es : List (Nat → Int)) (w : World) (h : Cur w cb) (hr : Rd w 1 A n es) (hn : 0 < n) (hn2 : n ≤ 256) (hne : ∀ a, A = some a → a.block ≠ cb) :
    Calls Tryz.prog 65 #[.pointer (some ⟨cb, 0, none⟩), .slice A n c] w (IntS (fun x => ∃ k, k < n ∧ x = fld es k 0) w cb) := by
  have HC := Lib.hid h
  obtain ⟨b, off, rfl, hb, hc⟩ := hr.2.resolve_left (by omega)
  have hbc : b ≠ cb := hne _ rfl
  have HB := Lib.hid hc
  clear h hr hne hc
  go_enter Tryz.func65, Tryz.ntmps65
  go_wp2_with fail
  refine (l1BelowS cb n _ HC.out).mono ?_
  rintro y w1 ⟨x, rfl, ⟨hx0, hx1, _⟩, d1, e1⟩
  obtain ⟨k, rfl⟩ : ∃ k : Nat, x = k := ⟨x.toNat, by omega⟩
  have hk : k < n := by have := hx1 (by omega); omega
  have hcell : w1.cell? ⟨b, off + k, none⟩ = some (.int .i64 (fld es k 0)) := by
    rw [World.cell?_of_block (w := w) (w' := w1) (a := ⟨b, off + k, none⟩) (d1.2.block b hb (by simpa using hbc))]
    have := HB.out k hk 0 (by omega)
    simpa using this
  clear hx1
  go_wp2
  go_ret
  exact ⟨_, rfl, ⟨k, hk, rfl⟩, d1, e1⟩

theorem Cur.drw {w : World} {cb : Nat} (h : Cur w cb) : Cur w.drew cb := h
theorem Drew.drw {w w1 : World} {cb : Nat} (d : Drew w cb w1) : Drew w cb w1.drew := ⟨d.1, d.2.os, d.2.tape, d.2.output, d.2.size, d.2.block⟩
theorem Drew.refl {w : World} {cb : Nat} (h : Cur w cb) : Drew w cb w := h.drew_below (Below.refl _ _)
end Go.Proofs.YtjlmcppkafjniaaGreat

namespace Go.Proofs.YtjlmcppkafjniaaGreat
open Go.RowKit

/-- Block b holds the K values v, and may be written. -/
def Bx (w : World) (b K : Nat) (v : Nat → Value) : Prop := b < w.heap.size ∧ (∀ o, w.frozen? ⟨b, o, none⟩ = false) ∧ ∀ j, j < K → w.cell? ⟨b, j, none⟩ = some (v j)
def ints (p : Nat → Int) : Nat → Value := fun j => .int .i64 (p j)
def rv (A : Option Addr) (n c : Nat) (r : Nat → Int) : Nat → Value
  | 0 => .slice A n c
  | j + 1 => .int .i64 (r (j + 1))
def upd (p : Nat → Int) (k : Nat) (x : Int) : Nat → Int := fun j => if j = k then x else p j
theorem all9 {P : Nat → Prop} (h0 : P 0) (h1 : P 1) (h2 : P 2) (h3 : P 3) (h4 : P 4) (h5 : P 5) (h6 : P 6) (h7 : P 7) (h8 : P 8) : ∀ j, j < 9 → P j
  | 0, _ => h0 | 1, _ => h1 | 2, _ => h2 | 3, _ => h3 | 4, _ => h4 | 5, _ => h5 | 6, _ => h6 | 7, _ => h7 | 8, _ => h8
  | n + 9, h => absurd h (by omega)
theorem all10 {P : Nat → Prop} (h0 : P 0) (h1 : P 1) (h2 : P 2) (h3 : P 3) (h4 : P 4) (h5 : P 5) (h6 : P 6) (h7 : P 7) (h8 : P 8) (h9 : P 9) : ∀ j, j < 10 → P j
  | 0, _ => h0 | 1, _ => h1 | 2, _ => h2 | 3, _ => h3 | 4, _ => h4 | 5, _ => h5 | 6, _ => h6 | 7, _ => h7 | 8, _ => h8 | 9, _ => h9
  | n + 10, h => absurd h (by omega)
theorem Bx.drew {w w' : World} {b K cb : Nat} {v : Nat → Value} (h : Bx w b K v) (d : Drew w cb w') (hne : b ≠ cb) : Bx w' b K v :=
  ⟨Nat.lt_of_lt_of_le h.1 d.2.size, fun o => (d.frozen h.1 hne o).trans (h.2.1 o), fun j hj => (d.cell h.1 hne j).trans (h.2.2 j hj)⟩
theorem Bx.below {w w' : World} {b K : Nat} {v : Nat → Value} (h : Bx w b K v) (d : Below w.heap.size w w') : Bx w' b K v :=
  ⟨Nat.lt_of_lt_of_le h.1 d.size, fun o => (d.frozen (p := ⟨b, o, none⟩) h.1).trans (h.2.1 o), fun j hj => (d.cell (p := ⟨b, j, none⟩) h.1).trans (h.2.2 j hj)⟩
theorem Bx.set {w : World} {b K k : Nat} {v : Nat → Value} (u : Value) (h : Bx w b K v) (hk : k < K) : Bx (w.setCell ⟨b, k, none⟩ u) b K (fun j => if j = k then u else v j) := by
  have hs := h.2.2 k hk
  refine ⟨by simpa [World.setCell] using h.1, fun o => by simp [h.2.1 o], fun j hj => ?_⟩
  by_cases e : j = k
  · subst e
    show _ = some (if j = j then u else v j)
    rw [if_pos rfl]
    exact World.cell?_setCell_same' w _ u (by rw [hs]; rfl)
  · show _ = some (if j = k then u else v j)
    rw [if_neg e, ← h.2.2 j hj]
    exact World.cell?_setCell_other _ _ _ _ (by simp)
theorem Bx.set_ne {w : World} {b b' K o : Nat} {v : Nat → Value} (u : Value) (h : Bx w b K v) (hne : b ≠ b') : Bx (w.setCell ⟨b', o, none⟩ u) b K v := by
  have hh := Below.heap_setCell w ⟨b', o, none⟩ u b hne
  exact ⟨by simpa [World.setCell] using h.1, fun o' => (World.frozen?_of_block (w := w) (w' := w.setCell ⟨b', o, none⟩ u) (a := ⟨b, o', none⟩) hh).trans (h.2.1 o'), fun j hj => (World.cell?_of_block (w := w) (w' := w.setCell ⟨b', o, none⟩ u) (a := ⟨b, j, none⟩) hh).trans (h.2.2 j hj)⟩
theorem ints_upd (p : Nat → Int) (k : Nat) (x : Int) : (fun j => if j = k then Value.int .i64 x else ints p j) = ints (upd p k x) := by
  funext j
  unfold ints upd
  by_cases e : j = k
  · rw [if_pos e, if_pos e]
  · rw [if_neg e, if_neg e]

/-- The memory of l6Right and l6Bent: the box of the rules, the result, the party, the cursor. -/
def LR (w wx : World) (cb : Nat) (A : Option Addr) (n c : Nat) (r p : Nat → Int) : Prop := Bx wx (w.heap.size + 1 + 1) 10 (ints p) ∧ Bx wx w.heap.size 9 (rv A n c r) ∧ Bx wx (w.heap.size + 1) 10 (ints fun _ => 0) ∧ Drew w cb wx
theorem LR.drew {w wx wy : World} {cb : Nat} {A : Option Addr} {n c : Nat} {r p : Nat → Int} (h : LR w wx cb A n c r p) (hcb : cb < w.heap.size) (d : Drew wx cb wy) : LR w wy cb A n c r p :=
  ⟨h.1.drew d (by omega), h.2.1.drew d (by omega), h.2.2.1.drew d (by omega), h.2.2.2.trans d⟩
theorem LR.set {w wx : World} {cb k : Nat} {A : Option Addr} {n c : Nat} {r p : Nat → Int} (h : LR w wx cb A n c r p) (hcb : cb < w.heap.size) (x : Int) (hk : k < 10) : LR w (wx.setCell ⟨w.heap.size + 1 + 1, k, none⟩ (.int .i64 x)) cb A n c r (upd p k x) :=
  ⟨ints_upd p k x ▸ h.1.set _ hk, h.2.1.set_ne _ (by omega), h.2.2.1.set_ne _ (by omega), Drew.set hcb (by omega) h.2.2.2⟩
def PDr (n : Nat) (r : Nat → Int) (now : Int) (p : Nat → Int) : Prop := (1 ≤ p 0 ∧ p 0 ≤ 12) ∧ (0 ≤ p 1 ∧ p 1 < n) ∧ (p 2 = -1 ∨ 0 ≤ p 2 ∧ p 2 < n) ∧ (1 ≤ p 3 ∧ p 3 ≤ r 3) ∧ (0 ≤ p 4 ∧ p 4 < r 1) ∧ (1 ≤ p 6 ∧ p 6 ≤ 40) ∧ (0 ≤ p 9 ∧ p 9 < r 7) ∧
  (0 ≤ now ∧ now ≤ 10000000 → 0 ≤ p 5 ∧ p 5 ≤ now ∧ (p 7 = 1 ∧ 0 ≤ p 8 ∧ p 8 ≤ now + r 6 ∨ p 7 = 2 ∧ 1 ≤ p 8 ∧ p 8 ≤ now + r 5))
theorem PDr.up5 {n : Nat} {r p : Nat → Int} {now x : Int} (h : PDr n r now p) (h0 : 0 ≤ x) (h1 : x < now + 1) : PDr n r now (upd p 5 x) :=
  ⟨h.1, h.2.1, h.2.2.1, h.2.2.2.1, h.2.2.2.2.1, h.2.2.2.2.2.1, h.2.2.2.2.2.2.1, fun hn => ⟨h0, (show x ≤ now by omega), (h.2.2.2.2.2.2.2 hn).2.2⟩⟩
theorem PDr.up8 {n : Nat} {r p : Nat → Int} {now x : Int} (h : PDr n r now p) (h7 : p 7 = 1) (h0 : 0 ≤ x) (h1 : x < now + r 6 + 1) : PDr n r now (upd p 8 x) :=
  ⟨h.1, h.2.1, h.2.2.1, h.2.2.2.1, h.2.2.2.2.1, h.2.2.2.2.2.1, h.2.2.2.2.2.2.1, fun hn => ⟨(h.2.2.2.2.2.2.2 hn).1, (h.2.2.2.2.2.2.2 hn).2.1, .inl ⟨h7, h0, (show x ≤ now + r 6 by omega)⟩⟩⟩
theorem PDr.up78 {n : Nat} {r p : Nat → Int} {now x : Int} (h : PDr n r now p) (h0 : 1 ≤ x) (h1 : x ≤ now + r 5) : PDr n r now (upd (upd p 7 2) 8 x) :=
  ⟨h.1, h.2.1, h.2.2.1, h.2.2.2.1, h.2.2.2.2.1, h.2.2.2.2.2.1, h.2.2.2.2.2.2.1, fun hn => ⟨(h.2.2.2.2.2.2.2 hn).1, (h.2.2.2.2.2.2.2 hn).2.1, .inr ⟨rfl, h0, h1⟩⟩⟩
theorem PDr.up2 {n : Nat} {r p : Nat → Int} {now x : Int} (h : PDr n r now p) (h0 : 0 ≤ x) (h1 : x < n) : PDr n r now (upd p 2 x) :=
  ⟨h.1, h.2.1, .inr ⟨h0, h1⟩, h.2.2.2.1, h.2.2.2.2.1, h.2.2.2.2.2.1, h.2.2.2.2.2.2.1, h.2.2.2.2.2.2.2⟩
def PtyD (P : (Nat → Int) → Prop) (w : World) (cb : Nat) (e : Ending) (w' : World) : Prop := ∃ p : Nat → Int, e = .returned (.agg #[.int .i64 (p 0), .int .i64 (p 1), .int .i64 (p 2), .int .i64 (p 3), .int .i64 (p 4), .int .i64 (p 5), .int .i64 (p 6), .int .i64 (p 7), .int .i64 (p 8), .int .i64 (p 9)]) ∧ P p ∧ Drew w cb w'
theorem l1In_b (n a b : Int) (bo : Bool) (w : World) (h : bo = true ↔ (a ≤ n ∧ n ≤ b)) : Calls Tryz.prog 44 #[.int .i64 n, .int .i64 a, .int .i64 b] w fun e w' => e = .returned (.bool bo) ∧ w = w' :=
  (l1In_any n a b w).mono fun _ _ x => x.elim (fun y => ⟨by rw [h.2 y.2.1]; exact y.1, y.2.2⟩) (fun y => ⟨by
    have hb : bo = false := by
      cases bo
      · rfl
      · exact absurd (h.1 rfl) y.2.1
    rw [hb]
    exact y.1, y.2.2⟩)
end Go.Proofs.YtjlmcppkafjniaaGreat
