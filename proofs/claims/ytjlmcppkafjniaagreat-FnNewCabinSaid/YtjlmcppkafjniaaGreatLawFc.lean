/-
  The walk of the law FnNewCabin: it returns true and leaves old memory alone.
-/
import Derived.Test.YtjlmcppkafjniaaGreatSl
import Derived.Test.YtjlmcppkafjniaaGreatWo
import Derived.Test.YtjlmcppkafjniaaGreatEs
import Derived.Test.YtjlmcppkafjniaaGreatNc
import Derived.Test.YtjlmcppkafjniaaGreatAgi
import Derived.Test.YtjlmcppkafjniaaGreatWa
namespace Go.Proofs.YtjlmcppkafjniaaGreat
open Go.RowKit

set_option maxHeartbeats 1000000 in
theorem impl_New_y (t : Int) (w : World) (h : LOk t 0 0 t 0) :
    Calls Tryz.prog 24 #[.int .i64 t] w fun e w' => e = .returned (.tuple #[.agg #[.int .i64 t, .int .i64 0, .int .i64 0, .int .i64 t, .int .i64 0], .bool true]) ∧ Below w.heap.size w w' := by
  go_enter Tryz.func24, Tryz.ntmps24
  go_wp2_with (((go_at_call 34; first | refine (ty (okI_any _ _ _ _ _ _) (by assumption)).mono ?_ | refine (tn (okI_any _ _ _ _ _ _) (by assumption)).mono ?_); (rintro e w1 ⟨rfl, hb1⟩; have bc1 := bcell hb1; obtain ⟨hc1, hf1⟩ := bc1; have ks1 := hb1.size; (try simp at ks1); have kc10 : ∀ o, w1.cell? ⟨w.heap.size, o, none⟩ = _ := (fun o => hb1.cell (p := ⟨w.heap.size, o, none⟩) (by (first | omega | (simp; omega) | simp))); have kf10 : ∀ o, w1.frozen? ⟨w.heap.size, o, none⟩ = _ := (fun o => hb1.frozen (p := ⟨w.heap.size, o, none⟩) (by (first | omega | (simp; omega) | simp))); have kc11 : ∀ o, w1.cell? ⟨w.heap.size + 1, o, none⟩ = _ := (fun o => hb1.cell (p := ⟨w.heap.size + 1, o, none⟩) (by (first | omega | (simp; omega) | simp))); have kf11 : ∀ o, w1.frozen? ⟨w.heap.size + 1, o, none⟩ = _ := (fun o => hb1.frozen (p := ⟨w.heap.size + 1, o, none⟩) (by (first | omega | (simp; omega) | simp))); have kz10 : w.heap.size < w1.heap.size := (by have hh := hb1.size; (try simp at hh); omega); have kz11 : w.heap.size + 1 < w1.heap.size := (by have hh := hb1.size; (try simp at hh); omega))))
  refine bodyPost_ret (v := .tuple #[.agg #[.int .i64 t, .int .i64 0, .int .i64 0, .int .i64 t, .int .i64 0], .bool true]) (by simp only [results, Tryz.results24]; (first | (go_simp; done) | (go_simp; omega))) rfl ⟨rfl, ?_⟩
  (repeat (first | with_reducible exact Below.refl _ _ | with_reducible refine Below.drew ?_ | with_reducible refine below_drewN ?_ _ | (with_reducible refine bel_alloc ?_ ?_ _; (first | omega | (simp; omega) | simp)) | (with_reducible refine bel_set ?_ ?_ _; (first | omega | (simp; omega) | simp)) | (with_reducible refine bel_tr (by assumption) ?_ ?_; (first | omega | (simp; omega) | simp))))

set_option maxHeartbeats 1000000 in
theorem impl_New_n (t : Int) (w : World) (h : ¬ LOk t 0 0 t 0) :
    Calls Tryz.prog 24 #[.int .i64 t] w fun e w' => e = .returned (.tuple #[.agg #[.int .i64 0, .int .i64 0, .int .i64 0, .int .i64 0, .int .i64 0], .bool false]) ∧ Below w.heap.size w w' := by
  go_enter Tryz.func24, Tryz.ntmps24
  go_wp2_with (((go_at_call 34; first | refine (ty (okI_any _ _ _ _ _ _) (by assumption)).mono ?_ | refine (tn (okI_any _ _ _ _ _ _) (by assumption)).mono ?_); (rintro e w1 ⟨rfl, hb1⟩; have bc1 := bcell hb1; obtain ⟨hc1, hf1⟩ := bc1; have ks1 := hb1.size; (try simp at ks1); have kc10 : ∀ o, w1.cell? ⟨w.heap.size, o, none⟩ = _ := (fun o => hb1.cell (p := ⟨w.heap.size, o, none⟩) (by (first | omega | (simp; omega) | simp))); have kf10 : ∀ o, w1.frozen? ⟨w.heap.size, o, none⟩ = _ := (fun o => hb1.frozen (p := ⟨w.heap.size, o, none⟩) (by (first | omega | (simp; omega) | simp))); have kc11 : ∀ o, w1.cell? ⟨w.heap.size + 1, o, none⟩ = _ := (fun o => hb1.cell (p := ⟨w.heap.size + 1, o, none⟩) (by (first | omega | (simp; omega) | simp))); have kf11 : ∀ o, w1.frozen? ⟨w.heap.size + 1, o, none⟩ = _ := (fun o => hb1.frozen (p := ⟨w.heap.size + 1, o, none⟩) (by (first | omega | (simp; omega) | simp))); have kz10 : w.heap.size < w1.heap.size := (by have hh := hb1.size; (try simp at hh); omega); have kz11 : w.heap.size + 1 < w1.heap.size := (by have hh := hb1.size; (try simp at hh); omega))))
  refine bodyPost_ret (v := .tuple #[.agg #[.int .i64 0, .int .i64 0, .int .i64 0, .int .i64 0, .int .i64 0], .bool false]) (by simp only [results, Tryz.results24]; (first | (go_simp; done) | (go_simp; omega))) rfl ⟨rfl, ?_⟩
  (repeat (first | with_reducible exact Below.refl _ _ | with_reducible refine Below.drew ?_ | with_reducible refine below_drewN ?_ _ | (with_reducible refine bel_alloc ?_ ?_ _; (first | omega | (simp; omega) | simp)) | (with_reducible refine bel_set ?_ ?_ _; (first | omega | (simp; omega) | simp)) | (with_reducible refine bel_tr (by assumption) ?_ ?_; (first | omega | (simp; omega) | simp))))


end Go.Proofs.YtjlmcppkafjniaaGreat

namespace Go.Proofs.YtjlmcppkafjniaaGreat
open Go.RowKit

def CabV (t x : Int) (N : Nat) (b : Bool) : Prop := (LOk t 0 0 t 0 ∧ x = t ∧ N = 9 ∧ b = true) ∨ (¬ LOk t 0 0 t 0 ∧ x = 0 ∧ N = 0 ∧ b = false)
theorem set_lo {lo hi N : Nat} {w : World} {A : Option Addr} {S : Nat → Sp} {p : Addr} {v : Value} (hp : p.block < lo) (h : OwnW lo hi w A N S) : OwnW lo hi (w.setCell p v) A N S := h.set_ (.inl hp) v
theorem cabV_ex (t : Int) : ∃ x N b, CabV t x N b := by
  by_cases h : LOk t 0 0 t 0
  · exact ⟨t, 9, true, .inl ⟨h, rfl, rfl, rfl⟩⟩
  · exact ⟨0, 0, false, .inr ⟨h, rfl, rfl, rfl⟩⟩

set_option maxRecDepth 100000 in
set_option maxHeartbeats 4000000 in
theorem iCabinNew_any (t x : Int) (N : Nat) (b : Bool) (w : World) (hC : CabV t x N b) :
    Calls Tryz.prog 7 #[.int .i64 t] w fun y w' => ∃ A c S, y = .returned (.tuple #[.agg #[.int .i64 x, .int .i64 0, .int .i64 0, .int .i64 x, .int .i64 0, .slice none 0 0, .slice A N c], .bool b]) ∧ OwnW w.heap.size w'.heap.size w' A N S ∧ (∀ i, i < N → (S i).n = 0 ∧ (S i).es = []) ∧ Below w.heap.size w w' := by
  rcases hC with ⟨h, rfl, rfl, rfl⟩ | ⟨h, rfl, rfl, rfl⟩
  · go_enter Tryz.func7, Tryz.ntmps7
    go_wp2_with fail
    refine (impl_New_y _ _ h).mono ?_
    rintro y w1 ⟨rfl, hb1⟩
    have bc1 := bcell hb1; obtain ⟨hc1, hf1⟩ := bc1; have ks1 := hb1.size; (try simp at ks1); have kc10 : ∀ o, w1.cell? ⟨w.heap.size, o, none⟩ = _ := (fun o => hb1.cell (p := ⟨w.heap.size, o, none⟩) (by (first | omega | (simp; omega) | simp))); have kf10 : ∀ o, w1.frozen? ⟨w.heap.size, o, none⟩ = _ := (fun o => hb1.frozen (p := ⟨w.heap.size, o, none⟩) (by (first | omega | (simp; omega) | simp))); have kz10 : w.heap.size < w1.heap.size := (by have hh := hb1.size; (try simp at hh); omega)
    go_wp2
    go_region_held3 (fun w' => w'.cell? ⟨w1.heap.size, 0, none⟩ = some (.int .i64 x) ∧ w'.cell? ⟨w1.heap.size, 1, none⟩ = some (.int .i64 0) ∧ w'.cell? ⟨w1.heap.size, 2, none⟩ = some (.int .i64 0) ∧ w'.cell? ⟨w1.heap.size, 3, none⟩ = some (.int .i64 x) ∧ w'.cell? ⟨w1.heap.size, 4, none⟩ = some (.int .i64 0)) ((first | (go_keep; done) | (go_simp; done))) (
      (go_at_call 25; refine (iWheelNew_any _).mono ?_; rintro y w2 ⟨A2, c2, S2, rfl, g2, e2, hb2⟩; have G2 := Lib.hid g2; have E2 := Lib.hid e2; clear g2 e2; have bc2 := bcell hb2; obtain ⟨hc2, hf2⟩ := bc2; have ks2 := hb2.size; (try simp at ks2); have kc20 : ∀ o, w2.cell? ⟨w.heap.size, o, none⟩ = _ := (fun o => hb2.cell (p := ⟨w.heap.size, o, none⟩) (by (first | omega | (simp; omega) | simp))); have kf20 : ∀ o, w2.frozen? ⟨w.heap.size, o, none⟩ = _ := (fun o => hb2.frozen (p := ⟨w.heap.size, o, none⟩) (by (first | omega | (simp; omega) | simp))); have kz20 : w.heap.size < w2.heap.size := (by have hh := hb2.size; (try simp at hh); omega); (try (have jzw12 : w1.heap.size < w2.heap.size := (by have hh := hb2.size; (try simp at hh); omega); have jcw12 : ∀ o, w2.cell? ⟨w1.heap.size, o, none⟩ = _ := (fun o => hb2.cell (p := ⟨w1.heap.size, o, none⟩) (by (first | omega | (simp; omega) | simp))); have jfw12 : ∀ o, w2.frozen? ⟨w1.heap.size, o, none⟩ = _ := (fun o => hb2.frozen (p := ⟨w1.heap.size, o, none⟩) (by (first | omega | (simp; omega) | simp)))))))
    go_wp2
    refine bodyPost_ret (v := .tuple #[.agg #[.int .i64 x, .int .i64 0, .int .i64 0, .int .i64 x, .int .i64 0, .slice none 0 0, .slice A2 9 c2], .bool true]) (by simp only [results, Tryz.results7]; first | (go_simp; done) | (go_simp; omega)) rfl ⟨A2, c2, S2, rfl, ?_, E2.out, ?_⟩
    · refine OwnW.wide (lo := w1.heap.size + 1) (hi := w2.heap.size) ?_ (by (first | omega | (simp; omega) | simp)) (by (first | omega | (simp; omega) | simp)) (by (first | omega | (simp; omega) | simp))
      have h0 : OwnW (w1.heap.size + 1) w2.heap.size w2 A2 9 S2 := G2.out.own1.1.wide (by (first | omega | (simp; omega) | simp)) (Nat.le_refl _) (Nat.le_refl _)
      repeat (first | with_reducible exact h0 | (with_reducible refine set_lo ?_ ?_; ((first | omega | (simp; omega) | simp))))
    · (repeat (first | with_reducible exact Below.refl _ _ | with_reducible refine Below.drew ?_ | with_reducible refine below_drewN ?_ _ | (with_reducible refine bel_alloc ?_ ?_ _; (first | omega | (simp; omega) | simp)) | (with_reducible refine bel_set ?_ ?_ _; (first | omega | (simp; omega) | simp)) | (with_reducible refine bel_tr (by assumption) ?_ ?_; (first | omega | (simp; omega) | simp))))
  · go_enter Tryz.func7, Tryz.ntmps7
    go_wp2_with fail
    refine (impl_New_n _ _ h).mono ?_
    rintro y w1 ⟨rfl, hb1⟩
    have bc1 := bcell hb1; obtain ⟨hc1, hf1⟩ := bc1; have ks1 := hb1.size; (try simp at ks1); have kc10 : ∀ o, w1.cell? ⟨w.heap.size, o, none⟩ = _ := (fun o => hb1.cell (p := ⟨w.heap.size, o, none⟩) (by (first | omega | (simp; omega) | simp))); have kf10 : ∀ o, w1.frozen? ⟨w.heap.size, o, none⟩ = _ := (fun o => hb1.frozen (p := ⟨w.heap.size, o, none⟩) (by (first | omega | (simp; omega) | simp))); have kz10 : w.heap.size < w1.heap.size := (by have hh := hb1.size; (try simp at hh); omega)
    go_wp2
    refine bodyPost_ret (v := .tuple #[.agg #[.int .i64 0, .int .i64 0, .int .i64 0, .int .i64 0, .int .i64 0, .slice none 0 0, .slice none 0 0], .bool false]) (by simp only [results, Tryz.results7]; first | (go_simp; done) | (go_simp; omega)) rfl ⟨none, 0, (fun _ => (⟨none, 0, 0, []⟩ : Sp)), rfl, ownW_zero _ _ _ _ (Nat.le_refl _), fun i hi => absurd hi (by omega), ?_⟩
    (repeat (first | with_reducible exact Below.refl _ _ | with_reducible refine Below.drew ?_ | with_reducible refine below_drewN ?_ _ | (with_reducible refine bel_alloc ?_ ?_ _; (first | omega | (simp; omega) | simp)) | (with_reducible refine bel_set ?_ ?_ _; (first | omega | (simp; omega) | simp)) | (with_reducible refine bel_tr (by assumption) ?_ ?_; (first | omega | (simp; omega) | simp))))

end Go.Proofs.YtjlmcppkafjniaaGreat


namespace Go.Proofs.YtjlmcppkafjniaaGreat
open Go.RowKit

theorem sCountIn_t (A : Option Addr) (n c : Nat) (cab : Int) (es : List (Nat → Int)) (hd : Int) (w : World) (hn : n ≤ 4194304) (h : Rd w 10 A n es) (e : sumTo (cntF es cab) n = hd) :
    Calls Tryz.prog 11 #[.slice A n c, .int .i64 cab] w fun x w' => x = .returned (.int .i64 hd) ∧ Below w.heap.size w w' := e ▸ spec_CountIn A n c cab es w hn h
theorem sumTo_zero {f : Nat → Int} (h : ∀ i, 0 ≤ f i) : ∀ {k : Nat}, sumTo f k = 0 → ∀ i, i < k → f i = 0
  | 0, _, i, hi => absurd hi (by omega)
  | k + 1, e, i, hi => by
    have h1 : ∀ m, 0 ≤ sumTo f m := fun m => by
      induction m with
      | zero => exact Int.le_refl _
      | succ m ih => exact Int.add_nonneg ih (h m)
    have h2 := h1 k
    have h3 := h k
    have h4 : sumTo f k + f k = 0 := e
    rcases Nat.lt_or_ge i k with h5 | h5
    · exact sumTo_zero h (by omega) i h5
    · obtain rfl : i = k := by omega
      omega
theorem sumTo_none {f : Nat → Int} : ∀ {k : Nat}, (∀ i, i < k → f i = 0) → sumTo f k = 0
  | 0, _ => rfl
  | k + 1, h => by
    show sumTo f k + f k = 0
    rw [sumTo_none fun i hi => h i (by omega), h k (by omega)]
    rfl
theorem entL_none {ok : Nat → Bool} {r : Nat → Int} {now : Int} {ps : List (Nat → Int)} : ∀ {k : Nat}, (∀ i, i < k → ok i = false) → entL ok r now ps k = []
  | 0, _ => rfl
  | k + 1, h => by rw [entL_n (h k (by omega)), entL_none fun i hi => h i (by omega)]
theorem entL_nil {ok : Nat → Bool} {r : Nat → Int} {now : Int} {ps : List (Nat → Int)} : ∀ {k : Nat}, (entL ok r now ps k).length = 0 → ∀ i, i < k → ok i = false
  | 0, _, i, hi => absurd hi (by omega)
  | k + 1, e, i, hi => by
    rcases Bool.eq_false_or_eq_true (ok k) with h | h
    · rw [entL_y h, List.length_append] at e
      simp at e
    · rw [entL_n h] at e
      rcases Nat.lt_or_ge i k with h5 | h5
      · exact entL_nil e i h5
      · obtain rfl : i = k := by omega
        exact h
theorem pinF_none {es : List (Nat → Int)} {cab : Int} : ∀ {k : Nat}, (∀ i, i < k → pinT es cab i = false) → pinF es cab k = []
  | 0, _ => rfl
  | k + 1, h => by rw [pinF_n (h k (by omega)), pinF_none fun i hi => h i (by omega)]
/-- A new cabin agrees with a list of right parties exactly if none of them has to do with it. -/
theorem newAg {t : Int} {S : Nat → Sp} {n : Nat} {es : List (Nat → Int)} {r : Nat → Int} {now : Int} {ps : List (Nat → Int)} {q : Int} {m : Nat} {ok : Nat → Bool} (hL : LOk t 0 0 t 0) (hS : ∀ i, i < 9 → (S i).n = 0 ∧ (S i).es = []) (hT : tot S 9 = 0)
    (hok : OkF ok n es r now ps q) (hR : ROk n es r) (hP : ∀ i, i < m → PInts n r (fld ps i) now ∧ (fld ps i 7 = 1 ∨ fld ps i 7 = 2)) :
    AGR t 0 0 t 0 0 [] 9 S (entL ok r now ps m) ps q m ↔ (sumTo (cntF ps q) m = 0 ∧ sumTo (tiedF ps q) m = 0) := by
  have hW : WOK 9 S := ⟨rfl, by omega, fun i hi => absurd hi (by omega), fun k hk i hi => by rw [(hS k hk).1] at hi; exact absurd hi (by omega)⟩
  have hpin : pinsL 9 S = [] := by rw [pinsL_yes hW, hT]; rfl
  constructor
  · rintro ⟨_, h1, _, h3, h4⟩
    refine ⟨sumTo_none fun i hi => ?_, h4.symm⟩
    have hent : (entL ok r now ps m).length = 0 := by
      have := h1.1
      rw [sortR_len] at this
      exact this.symm
    have h5 := entL_nil hent i hi
    have h6 := sumTo_zero (fun i => (heldF_b ps q i).1) h3.symm i hi
    obtain ⟨p1, p2⟩ := hP i hi
    unfold cntF
    split
    · rename_i hc
      exfalso
      have hq : fld ps i 1 = q := by simpa using hc
      have b3 := p1.2.2.2.2.2.1
      have r3 := hR.2.1.2.2.1
      rcases p2 with p2 | p2
      · have : ok i = true := (hok i).2 ⟨⟨⟨hR, p1⟩, by simpa using p2⟩, hq⟩
        rw [h5] at this
        cases this
      · unfold heldF at h6
        rw [if_pos ⟨by simpa using p2, hc, by omega, by omega⟩] at h6
        omega
    · rfl
  · rintro ⟨h1, h2⟩
    have hne : ∀ i, i < m → ¬ fld ps i 1 = q := fun i hi he => by
      have h3 := sumTo_zero (fun i => (cntF_b ps q i).1) h1 i hi
      unfold cntF at h3
      rw [if_pos (by simpa using he)] at h3
      cases h3
    have hent : entL ok r now ps m = [] := entL_none fun i hi => by
      rcases Bool.eq_false_or_eq_true (ok i) with h | h
      · exact absurd ((hok i).1 h).2 (hne i hi)
      · exact h
    have hpf : pinF ps q m = [] := pinF_none fun i hi => by
      unfold pinT
      have := hne i hi
      simp [this]
    have hh : sumTo (heldF ps q) m = 0 := sumTo_none fun i hi => by
      unfold heldF
      rw [if_neg fun h => hne i hi (by simpa using h.2.1)]
    refine ⟨⟨hL, ⟨by omega, fun k hk => absurd hk (by omega)⟩, hW⟩, ?_, ?_, hh.symm, h2.symm⟩
    · rw [hent]
      exact SamE.of_eq rfl
    · rw [hpin, hpf]
      exact SamL.of_eq rfl

set_option maxRecDepth 100000 in
set_option maxHeartbeats 16000000 in
theorem lawFnNewCabin (A : Option Addr) (n c : Nat) (w : World) (hn0 : n ≤ 9223372036854775807) (hB : RdB w A n) :
    Calls Tryz.prog 3 #[.slice A n c] w fun y w' => y = .returned (.bool true) ∧ Below w.heap.size w w' := by
  by_cases hn : n ≤ 1048576
  case neg =>
    have hbig : decide (1048576 < n) = true := by simp; omega
    go_enter Tryz.func3, Tryz.ntmps3
    go_wp2_with fail
    refine (big_any A n c _).mono ?_
    rintro y _ ⟨rfl, rfl⟩
    go_wp2
    go_ret
    exact ⟨rfl, Below.refl _ _⟩
  have HB := Lib.hid hB
  clear hB
  have hbig : decide (1048576 < n) = false := by simpa using hn
  go_enter Tryz.func3, Tryz.ntmps3
  go_wp2_with fail
  refine (big_any A n c _).mono ?_
  rintro y _ ⟨rfl, rfl⟩
  go_wp2_with fail
  refine (drawCabinNew_any A n c _ hn HB.out).mono ?_
  rintro y w1 ⟨t, rfl, hb1⟩
  have B1 := Lib.hid hb1
  have s1 := hb1.size
  have R1 := Lib.hid (HB.out.below hb1)
  clear hb1
  by_cases hL : LOk t 0 0 t 0
  case neg =>
    have ht : ¬ (1 ≤ t ∧ t ≤ 60) := fun h => hL (by unfold LOk; omega)
    go_wp2_with fail
    refine (iCabinNew_any t 0 0 false _ (.inr ⟨hL, rfl, rfl, rfl⟩)).mono ?_
    rintro y w2 ⟨A2, c2, S2, rfl, -, -, hb2⟩
    have s2 := hb2.size
    have hBB : Below w.heap.size w w2 := by have q1 := B1.out; (repeat (first | with_reducible exact Below.refl _ _ | with_reducible refine Below.drew ?_ | with_reducible refine below_drewN ?_ _ | (with_reducible refine bel_alloc ?_ ?_ _; (first | omega | (simp; omega) | simp)) | (with_reducible refine bel_set ?_ ?_ _; (first | omega | (simp; omega) | simp)) | (with_reducible refine bel_tr (by assumption) ?_ ?_; (first | omega | (simp; omega) | simp))))
    clear hb2 hL
    by_cases h1 : t < 1
    · go_wp2
      go_ret
      exact ⟨rfl, by (repeat (first | with_reducible exact Below.refl _ _ | with_reducible refine Below.drew ?_ | with_reducible refine below_drewN ?_ _ | (with_reducible refine bel_alloc ?_ ?_ _; (first | omega | (simp; omega) | simp)) | (with_reducible refine bel_set ?_ ?_ _; (first | omega | (simp; omega) | simp)) | (with_reducible refine bel_tr (by assumption) ?_ ?_; (first | omega | (simp; omega) | simp))))⟩
    · have h2 : 60 < t := by omega
      go_wp2
      go_ret
      exact ⟨rfl, by (repeat (first | with_reducible exact Below.refl _ _ | with_reducible refine Below.drew ?_ | with_reducible refine below_drewN ?_ _ | (with_reducible refine bel_alloc ?_ ?_ _; (first | omega | (simp; omega) | simp)) | (with_reducible refine bel_set ?_ ?_ _; (first | omega | (simp; omega) | simp)) | (with_reducible refine bel_tr (by assumption) ?_ ?_; (first | omega | (simp; omega) | simp))))⟩
  have HL := Lib.hid hL
  have ht : 1 ≤ t ∧ t ≤ 60 := hL.1
  obtain ⟨ht1, ht2⟩ := ht
  have htn : ¬ t < 1 := by omega
  have htm : ¬ 60 < t := by omega
  go_wp2_with fail
  refine (iCabinNew_any t t 9 true _ (.inl ⟨HL.out, rfl, rfl, rfl⟩)).mono ?_
  rintro y w2 ⟨A2, c2, S2, rfl, o2, z2, hb2⟩
  have O2 := Lib.hid o2
  have Z2 := Lib.hid z2
  have s2 := hb2.size
  have B2 : Hid (Below w.heap.size w w2) := Lib.hid (by have q1 := B1.out; (repeat (first | with_reducible exact Below.refl _ _ | with_reducible refine Below.drew ?_ | with_reducible refine below_drewN ?_ _ | (with_reducible refine bel_alloc ?_ ?_ _; (first | omega | (simp; omega) | simp)) | (with_reducible refine bel_set ?_ ?_ _; (first | omega | (simp; omega) | simp)) | (with_reducible refine bel_tr (by assumption) ?_ ?_; (first | omega | (simp; omega) | simp)))))
  have R2 := Lib.hid (R1.out.below hb2)
  clear o2 z2 hb2 hL
  have hT0 : tot S2 9 = 0 := tot_zero fun i hi => (Z2.out i hi).1
  go_wp2_with fail
  refine (drawAgrees_any A n c _ hn (R2.out.below (by (repeat (first | with_reducible exact Below.refl _ _ | with_reducible refine Below.drew ?_ | with_reducible refine below_drewN ?_ _ | (with_reducible refine bel_alloc ?_ ?_ _; (first | omega | (simp; omega) | simp)) | (with_reducible refine bel_set ?_ ?_ _; (first | omega | (simp; omega) | simp)) | (with_reducible refine bel_tr (by assumption) ?_ ?_; (first | omega | (simp; omega) | simp))))))).mono ?_
  rintro y w3 ⟨A3, n3, c3, r, es, X, AE, e0, kc, WA, N0, cw, P, m, pc, ps, q, now, rfl, ⟨hn3, hnc3, hm5, hmp, hpc⟩, hR, oR, oP, hP, hb3⟩
  have HR := Lib.hid hR
  have OR := Lib.hid oR
  have OP := Lib.hid oP
  have HPP := Lib.hid hP
  have s3 := hb3.size
  (try simp at s3)
  have kc : ∀ o, w3.cell? ⟨w2.heap.size, o, none⟩ = _ := fun o => hb3.cell (p := ⟨w2.heap.size, o, none⟩) (by (first | omega | (simp; omega) | simp))
  have kz : w2.heap.size < w3.heap.size := by omega
  have B3 : Hid (Below w.heap.size w w3) := Lib.hid (by have q1 := B2.out; (repeat (first | with_reducible exact Below.refl _ _ | with_reducible refine Below.drew ?_ | with_reducible refine below_drewN ?_ _ | (with_reducible refine bel_alloc ?_ ?_ _; (first | omega | (simp; omega) | simp)) | (with_reducible refine bel_set ?_ ?_ _; (first | omega | (simp; omega) | simp)) | (with_reducible refine bel_tr (by assumption) ?_ ?_; (first | omega | (simp; omega) | simp)))))
  have O3 : Hid (RdW w3 A2 9 S2) := Lib.hid (RdW.below ((O2.out.rdw).below ((Below.refl _ _).alloc (Nat.le_refl _) _)) hb3)
  clear hR oR oP hP hb3
  obtain ⟨ok0, hok0⟩ := okF_ex n3 es r now [] (q : Int)
  obtain ⟨ok, hok⟩ := okF_ex n3 es r now ps (q : Int)
  have K0 := Lib.hid hok0
  have K1 := Lib.hid hok
  clear hok0 hok
  have AG0 : Hid (AGR t 0 0 t 0 0 [] 9 S2 (entL ok0 r now [] 0) [] q 0) := Lib.hid ((newAg HL.out (fun i hi => (Z2.out i hi)) hT0 K0.out HR.out (fun i hi => absurd hi (by omega))).2 ⟨rfl, rfl⟩)
  have AG1 := Lib.hid (newAg (t := t) (S := S2) (m := m) HL.out (fun i hi => (Z2.out i hi)) hT0 K1.out HR.out HPP.out)
  have hT4 : tot S2 9 ≤ 4194304 := by omega
  go_wp2_with fail
  refine (ty (iCabinOk_any t 0 0 t 0 none 0 0 [] A2 9 c2 S2 _ (by omega) (Nat.le_refl _) (by omega) hT4 ⟨rfl, .inl rfl⟩ (O3.out.below (by (repeat (first | with_reducible exact Below.refl _ _ | with_reducible refine Below.drew ?_ | with_reducible refine below_drewN ?_ _ | (with_reducible refine bel_alloc ?_ ?_ _; (first | omega | (simp; omega) | simp)) | (with_reducible refine bel_set ?_ ?_ _; (first | omega | (simp; omega) | simp)) | (with_reducible refine bel_tr (by assumption) ?_ ?_; (first | omega | (simp; omega) | simp))))))) AG0.out.1).mono ?_
  rintro y w4 ⟨rfl, hb4⟩
  have s4 := hb4.size
  (try simp at s4)
  have ka4 : ∀ o, w4.cell? ⟨w2.heap.size, o, none⟩ = _ := fun o => hb4.cell (p := ⟨w2.heap.size, o, none⟩) (by (first | omega | (simp; omega) | simp))
  have kb4 : ∀ o, w4.cell? ⟨w3.heap.size, o, none⟩ = _ := fun o => hb4.cell (p := ⟨w3.heap.size, o, none⟩) (by (first | omega | (simp; omega) | simp))
  go_wp2_with fail
  refine (ty (iAgrees_any A3 n3 c3 es r t 0 0 t 0 none 0 0 [] A2 9 c2 S2 none 0 0 [] q now ok0 _ (by omega) (by omega) (Nat.le_refl _) (by omega) hT4 (by omega) (OR.out.rd.below (by (repeat (first | with_reducible exact Below.refl _ _ | with_reducible refine Below.drew ?_ | with_reducible refine below_drewN ?_ _ | (with_reducible refine bel_alloc ?_ ?_ _; (first | omega | (simp; omega) | simp)) | (with_reducible refine bel_set ?_ ?_ _; (first | omega | (simp; omega) | simp)) | (with_reducible refine bel_tr (by assumption) ?_ ?_; (first | omega | (simp; omega) | simp)))))) ⟨rfl, .inl rfl⟩ (O3.out.below (by (repeat (first | with_reducible exact Below.refl _ _ | with_reducible refine Below.drew ?_ | with_reducible refine below_drewN ?_ _ | (with_reducible refine bel_alloc ?_ ?_ _; (first | omega | (simp; omega) | simp)) | (with_reducible refine bel_set ?_ ?_ _; (first | omega | (simp; omega) | simp)) | (with_reducible refine bel_tr (by assumption) ?_ ?_; (first | omega | (simp; omega) | simp)))))) ⟨rfl, .inl rfl⟩ K0.out) AG0.out).mono ?_
  rintro y w5 ⟨rfl, hb5⟩
  have s5 := hb5.size
  (try simp at s5)
  have ka5 : ∀ o, w5.cell? ⟨w2.heap.size, o, none⟩ = _ := fun o => hb5.cell (p := ⟨w2.heap.size, o, none⟩) (by (first | omega | (simp; omega) | simp))
  have kb5 : ∀ o, w5.cell? ⟨w3.heap.size, o, none⟩ = _ := fun o => hb5.cell (p := ⟨w3.heap.size, o, none⟩) (by (first | omega | (simp; omega) | simp))
  by_cases hc : sumTo (cntF ps q) m = 0
  case neg =>
    have hno : ¬ (sumTo (cntF ps q) m = 0 ∧ sumTo (tiedF ps q) m = 0) := fun h => hc h.1
    obtain ⟨cn, hcn⟩ : ∃ cn, sumTo (cntF ps q) m = cn := ⟨_, rfl⟩
    have HC := Lib.hid hcn
    rw [hcn] at hc
    clear hcn
    have hc0 : (cn == 0) = false := by simpa using hc
    have HNO := Lib.hid hno
    clear hno hc
    go_wp2_with fail
    refine (sCountIn_t P m pc q ps cn _ (by omega) (OP.out.rd.below (by (repeat (first | with_reducible exact Below.refl _ _ | with_reducible refine Below.drew ?_ | with_reducible refine below_drewN ?_ _ | (with_reducible refine bel_alloc ?_ ?_ _; (first | omega | (simp; omega) | simp)) | (with_reducible refine bel_set ?_ ?_ _; (first | omega | (simp; omega) | simp)) | (with_reducible refine bel_tr (by assumption) ?_ ?_; (first | omega | (simp; omega) | simp)))))) HC.out).mono ?_
    rintro y w6 ⟨rfl, hb6⟩
    have s6 := hb6.size
    (try simp at s6)
    have ka6 : ∀ o, w6.cell? ⟨w2.heap.size, o, none⟩ = _ := fun o => hb6.cell (p := ⟨w2.heap.size, o, none⟩) (by (first | omega | (simp; omega) | simp))
    have kb6 : ∀ o, w6.cell? ⟨w3.heap.size, o, none⟩ = _ := fun o => hb6.cell (p := ⟨w3.heap.size, o, none⟩) (by (first | omega | (simp; omega) | simp))
    go_wp2_with fail
    refine (tn (iAgrees_any A3 n3 c3 es r t 0 0 t 0 none 0 0 [] A2 9 c2 S2 P m pc ps q now ok _ (by omega) (by omega) (Nat.le_refl _) (by omega) hT4 (by omega) (OR.out.rd.below (by (repeat (first | with_reducible exact Below.refl _ _ | with_reducible refine Below.drew ?_ | with_reducible refine below_drewN ?_ _ | (with_reducible refine bel_alloc ?_ ?_ _; (first | omega | (simp; omega) | simp)) | (with_reducible refine bel_set ?_ ?_ _; (first | omega | (simp; omega) | simp)) | (with_reducible refine bel_tr (by assumption) ?_ ?_; (first | omega | (simp; omega) | simp)))))) ⟨rfl, .inl rfl⟩ (O3.out.below (by (repeat (first | with_reducible exact Below.refl _ _ | with_reducible refine Below.drew ?_ | with_reducible refine below_drewN ?_ _ | (with_reducible refine bel_alloc ?_ ?_ _; (first | omega | (simp; omega) | simp)) | (with_reducible refine bel_set ?_ ?_ _; (first | omega | (simp; omega) | simp)) | (with_reducible refine bel_tr (by assumption) ?_ ?_; (first | omega | (simp; omega) | simp)))))) (OP.out.rd.below (by (repeat (first | with_reducible exact Below.refl _ _ | with_reducible refine Below.drew ?_ | with_reducible refine below_drewN ?_ _ | (with_reducible refine bel_alloc ?_ ?_ _; (first | omega | (simp; omega) | simp)) | (with_reducible refine bel_set ?_ ?_ _; (first | omega | (simp; omega) | simp)) | (with_reducible refine bel_tr (by assumption) ?_ ?_; (first | omega | (simp; omega) | simp)))))) K1.out) (fun h => HNO.out (AG1.out.1 h))).mono ?_
    rintro y w8 ⟨rfl, hb8⟩
    go_wp2
    go_ret
    exact ⟨rfl, by have q1 := B3.out; (repeat (first | with_reducible exact Below.refl _ _ | with_reducible refine Below.drew ?_ | with_reducible refine below_drewN ?_ _ | (with_reducible refine bel_alloc ?_ ?_ _; (first | omega | (simp; omega) | simp)) | (with_reducible refine bel_set ?_ ?_ _; (first | omega | (simp; omega) | simp)) | (with_reducible refine bel_tr (by assumption) ?_ ?_; (first | omega | (simp; omega) | simp))))⟩
  have HC := Lib.hid hc
  clear hc
  by_cases ht : sumTo (tiedF ps q) m = 0
  case neg =>
    have hno : ¬ (sumTo (cntF ps q) m = 0 ∧ sumTo (tiedF ps q) m = 0) := fun h => ht h.2
    obtain ⟨td, htd⟩ : ∃ td, sumTo (tiedF ps q) m = td := ⟨_, rfl⟩
    have HT := Lib.hid htd
    rw [htd] at ht
    clear htd
    have ht0 : (td == 0) = false := by simpa using ht
    have HNO := Lib.hid hno
    clear hno ht
    go_wp2_with fail
    refine (sCountIn_t P m pc q ps 0 _ (by omega) (OP.out.rd.below (by (repeat (first | with_reducible exact Below.refl _ _ | with_reducible refine Below.drew ?_ | with_reducible refine below_drewN ?_ _ | (with_reducible refine bel_alloc ?_ ?_ _; (first | omega | (simp; omega) | simp)) | (with_reducible refine bel_set ?_ ?_ _; (first | omega | (simp; omega) | simp)) | (with_reducible refine bel_tr (by assumption) ?_ ?_; (first | omega | (simp; omega) | simp)))))) HC.out).mono ?_
    rintro y w6 ⟨rfl, hb6⟩
    have s6 := hb6.size
    (try simp at s6)
    have ka6 : ∀ o, w6.cell? ⟨w2.heap.size, o, none⟩ = _ := fun o => hb6.cell (p := ⟨w2.heap.size, o, none⟩) (by (first | omega | (simp; omega) | simp))
    have kb6 : ∀ o, w6.cell? ⟨w3.heap.size, o, none⟩ = _ := fun o => hb6.cell (p := ⟨w3.heap.size, o, none⟩) (by (first | omega | (simp; omega) | simp))
    go_wp2_with fail
    refine (sTiedIn_t P m pc q ps td _ (by omega) (OP.out.rd.below (by (repeat (first | with_reducible exact Below.refl _ _ | with_reducible refine Below.drew ?_ | with_reducible refine below_drewN ?_ _ | (with_reducible refine bel_alloc ?_ ?_ _; (first | omega | (simp; omega) | simp)) | (with_reducible refine bel_set ?_ ?_ _; (first | omega | (simp; omega) | simp)) | (with_reducible refine bel_tr (by assumption) ?_ ?_; (first | omega | (simp; omega) | simp)))))) HT.out).mono ?_
    rintro y w7 ⟨rfl, hb7⟩
    have s7 := hb7.size
    (try simp at s7)
    have ka7 : ∀ o, w7.cell? ⟨w2.heap.size, o, none⟩ = _ := fun o => hb7.cell (p := ⟨w2.heap.size, o, none⟩) (by (first | omega | (simp; omega) | simp))
    have kb7 : ∀ o, w7.cell? ⟨w3.heap.size, o, none⟩ = _ := fun o => hb7.cell (p := ⟨w3.heap.size, o, none⟩) (by (first | omega | (simp; omega) | simp))
    go_wp2_with fail
    refine (tn (iAgrees_any A3 n3 c3 es r t 0 0 t 0 none 0 0 [] A2 9 c2 S2 P m pc ps q now ok _ (by omega) (by omega) (Nat.le_refl _) (by omega) hT4 (by omega) (OR.out.rd.below (by (repeat (first | with_reducible exact Below.refl _ _ | with_reducible refine Below.drew ?_ | with_reducible refine below_drewN ?_ _ | (with_reducible refine bel_alloc ?_ ?_ _; (first | omega | (simp; omega) | simp)) | (with_reducible refine bel_set ?_ ?_ _; (first | omega | (simp; omega) | simp)) | (with_reducible refine bel_tr (by assumption) ?_ ?_; (first | omega | (simp; omega) | simp)))))) ⟨rfl, .inl rfl⟩ (O3.out.below (by (repeat (first | with_reducible exact Below.refl _ _ | with_reducible refine Below.drew ?_ | with_reducible refine below_drewN ?_ _ | (with_reducible refine bel_alloc ?_ ?_ _; (first | omega | (simp; omega) | simp)) | (with_reducible refine bel_set ?_ ?_ _; (first | omega | (simp; omega) | simp)) | (with_reducible refine bel_tr (by assumption) ?_ ?_; (first | omega | (simp; omega) | simp)))))) (OP.out.rd.below (by (repeat (first | with_reducible exact Below.refl _ _ | with_reducible refine Below.drew ?_ | with_reducible refine below_drewN ?_ _ | (with_reducible refine bel_alloc ?_ ?_ _; (first | omega | (simp; omega) | simp)) | (with_reducible refine bel_set ?_ ?_ _; (first | omega | (simp; omega) | simp)) | (with_reducible refine bel_tr (by assumption) ?_ ?_; (first | omega | (simp; omega) | simp)))))) K1.out) (fun h => HNO.out (AG1.out.1 h))).mono ?_
    rintro y w8 ⟨rfl, hb8⟩
    go_wp2
    go_ret
    exact ⟨rfl, by have q1 := B3.out; (repeat (first | with_reducible exact Below.refl _ _ | with_reducible refine Below.drew ?_ | with_reducible refine below_drewN ?_ _ | (with_reducible refine bel_alloc ?_ ?_ _; (first | omega | (simp; omega) | simp)) | (with_reducible refine bel_set ?_ ?_ _; (first | omega | (simp; omega) | simp)) | (with_reducible refine bel_tr (by assumption) ?_ ?_; (first | omega | (simp; omega) | simp))))⟩
  have HT := Lib.hid ht
  clear ht
  go_wp2_with fail
  refine (sCountIn_t P m pc q ps 0 _ (by omega) (OP.out.rd.below (by (repeat (first | with_reducible exact Below.refl _ _ | with_reducible refine Below.drew ?_ | with_reducible refine below_drewN ?_ _ | (with_reducible refine bel_alloc ?_ ?_ _; (first | omega | (simp; omega) | simp)) | (with_reducible refine bel_set ?_ ?_ _; (first | omega | (simp; omega) | simp)) | (with_reducible refine bel_tr (by assumption) ?_ ?_; (first | omega | (simp; omega) | simp)))))) HC.out).mono ?_
  rintro y w6 ⟨rfl, hb6⟩
  have s6 := hb6.size
  (try simp at s6)
  have ka6 : ∀ o, w6.cell? ⟨w2.heap.size, o, none⟩ = _ := fun o => hb6.cell (p := ⟨w2.heap.size, o, none⟩) (by (first | omega | (simp; omega) | simp))
  have kb6 : ∀ o, w6.cell? ⟨w3.heap.size, o, none⟩ = _ := fun o => hb6.cell (p := ⟨w3.heap.size, o, none⟩) (by (first | omega | (simp; omega) | simp))
  go_wp2_with fail
  refine (sTiedIn_t P m pc q ps 0 _ (by omega) (OP.out.rd.below (by (repeat (first | with_reducible exact Below.refl _ _ | with_reducible refine Below.drew ?_ | with_reducible refine below_drewN ?_ _ | (with_reducible refine bel_alloc ?_ ?_ _; (first | omega | (simp; omega) | simp)) | (with_reducible refine bel_set ?_ ?_ _; (first | omega | (simp; omega) | simp)) | (with_reducible refine bel_tr (by assumption) ?_ ?_; (first | omega | (simp; omega) | simp)))))) HT.out).mono ?_
  rintro y w7 ⟨rfl, hb7⟩
  have s7 := hb7.size
  (try simp at s7)
  have ka7 : ∀ o, w7.cell? ⟨w2.heap.size, o, none⟩ = _ := fun o => hb7.cell (p := ⟨w2.heap.size, o, none⟩) (by (first | omega | (simp; omega) | simp))
  have kb7 : ∀ o, w7.cell? ⟨w3.heap.size, o, none⟩ = _ := fun o => hb7.cell (p := ⟨w3.heap.size, o, none⟩) (by (first | omega | (simp; omega) | simp))
  go_wp2_with fail
  refine (ty (iAgrees_any A3 n3 c3 es r t 0 0 t 0 none 0 0 [] A2 9 c2 S2 P m pc ps q now ok _ (by omega) (by omega) (Nat.le_refl _) (by omega) hT4 (by omega) (OR.out.rd.below (by (repeat (first | with_reducible exact Below.refl _ _ | with_reducible refine Below.drew ?_ | with_reducible refine below_drewN ?_ _ | (with_reducible refine bel_alloc ?_ ?_ _; (first | omega | (simp; omega) | simp)) | (with_reducible refine bel_set ?_ ?_ _; (first | omega | (simp; omega) | simp)) | (with_reducible refine bel_tr (by assumption) ?_ ?_; (first | omega | (simp; omega) | simp)))))) ⟨rfl, .inl rfl⟩ (O3.out.below (by (repeat (first | with_reducible exact Below.refl _ _ | with_reducible refine Below.drew ?_ | with_reducible refine below_drewN ?_ _ | (with_reducible refine bel_alloc ?_ ?_ _; (first | omega | (simp; omega) | simp)) | (with_reducible refine bel_set ?_ ?_ _; (first | omega | (simp; omega) | simp)) | (with_reducible refine bel_tr (by assumption) ?_ ?_; (first | omega | (simp; omega) | simp)))))) (OP.out.rd.below (by (repeat (first | with_reducible exact Below.refl _ _ | with_reducible refine Below.drew ?_ | with_reducible refine below_drewN ?_ _ | (with_reducible refine bel_alloc ?_ ?_ _; (first | omega | (simp; omega) | simp)) | (with_reducible refine bel_set ?_ ?_ _; (first | omega | (simp; omega) | simp)) | (with_reducible refine bel_tr (by assumption) ?_ ?_; (first | omega | (simp; omega) | simp)))))) K1.out) (AG1.out.2 ⟨HC.out, HT.out⟩)).mono ?_
  rintro y w8 ⟨rfl, hb8⟩
  go_wp2
  go_ret
  exact ⟨rfl, by have q1 := B3.out; (repeat (first | with_reducible exact Below.refl _ _ | with_reducible refine Below.drew ?_ | with_reducible refine below_drewN ?_ _ | (with_reducible refine bel_alloc ?_ ?_ _; (first | omega | (simp; omega) | simp)) | (with_reducible refine bel_set ?_ ?_ _; (first | omega | (simp; omega) | simp)) | (with_reducible refine bel_tr (by assumption) ?_ ?_; (first | omega | (simp; omega) | simp))))⟩
end Go.Proofs.YtjlmcppkafjniaaGreat
