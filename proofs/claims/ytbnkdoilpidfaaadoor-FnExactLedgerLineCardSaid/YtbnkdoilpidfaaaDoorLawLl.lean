/-
  The walk of the law on LedgerLine. No conditions.
-/
import Derived.Test.YtbnkdoilpidfaaaDoorDg
namespace Go.Proofs.YtbnkdoilpidfaaaDoor
open Go.RowKit

set_option maxRecDepth 100000 in
set_option maxHeartbeats 4000000 in
theorem lawLedgerLine (t f h s d : Int) (w : World) :
    Calls Tryd.prog 3 #[.agg #[.int .i64 t, .int .i64 f, .int .i64 h, .int .i64 s, .int .i64 d]] w fun e w' => e = .returned (.bool true) ∧ Below w.heap.size w w' := by
  by_cases hL : LOk t f h s d
  · have hb : (0 ≤ f ∧ f ≤ 60) ∧ (0 ≤ h ∧ h ≤ 60) ∧ (0 ≤ s ∧ s ≤ 60) ∧ 0 ≤ d ∧ d ≤ 60 := by
      have h0 := hL
      unfold LOk at h0
      omega
    obtain ⟨⟨f0, f1⟩, ⟨g0, g1⟩, ⟨s0, s1⟩, d0, d1⟩ := hb
    obtain ⟨f, rfl⟩ := Int.eq_ofNat_of_zero_le f0
    obtain ⟨h, rfl⟩ := Int.eq_ofNat_of_zero_le g0
    obtain ⟨s, rfl⟩ := Int.eq_ofNat_of_zero_le s0
    obtain ⟨d, rfl⟩ := Int.eq_ofNat_of_zero_le d0
    have hf : f ≤ 60 := by omega
    have hh : h ≤ 60 := by omega
    have hs : s ≤ 60 := by omega
    have hd : d ≤ 60 := by omega
    have HL := Lib.hid hL
    clear hL f0 f1 g0 g1 s0 s1 d0 d1
    obtain ⟨str, hstr⟩ : ∃ str, lineS f h s d = str := ⟨_, rfl⟩
    have E1 := Lib.hid hstr
    clear hstr
    go_enter Tryd.func3, Tryd.ntmps3
    go_wp2_with fail
    refine (toLedger_any _ _ _ _ _ _).mono ?_
    rintro y w1 ⟨rfl, hb1⟩
    have bc1 := bcell hb1; obtain ⟨hc1, hf1⟩ := bc1; have ks1 := hb1.size; (try simp at ks1); have kc10 : ∀ o, w1.cell? ⟨w.heap.size, o, none⟩ = _ := (fun o => hb1.cell (p := ⟨w.heap.size, o, none⟩) (by (first | omega | (simp; omega) | simp))); have kf10 : ∀ o, w1.frozen? ⟨w.heap.size, o, none⟩ = _ := (fun o => hb1.frozen (p := ⟨w.heap.size, o, none⟩) (by (first | omega | (simp; omega) | simp))); have kz10 : w.heap.size < w1.heap.size := (by have hh := hb1.size; (try simp at hh); omega)
    go_wp2_with fail
    refine ((E1.out ▸ sLine_y t f h s d _ HL.out hf hh hs hd)).mono ?_
    rintro y w2 ⟨rfl, hb2⟩
    have bc2 := bcell hb2; obtain ⟨hc2, hf2⟩ := bc2; have ks2 := hb2.size; (try simp at ks2); have kc20 : ∀ o, w2.cell? ⟨w.heap.size, o, none⟩ = _ := (fun o => hb2.cell (p := ⟨w.heap.size, o, none⟩) (by (first | omega | (simp; omega) | simp))); have kf20 : ∀ o, w2.frozen? ⟨w.heap.size, o, none⟩ = _ := (fun o => hb2.frozen (p := ⟨w.heap.size, o, none⟩) (by (first | omega | (simp; omega) | simp))); have kz20 : w.heap.size < w2.heap.size := (by have hh := hb2.size; (try simp at hh); omega)
    go_wp2_with fail
    refine (toLedger_any _ _ _ _ _ _).mono ?_
    rintro y w3 ⟨rfl, hb3⟩
    have bc3 := bcell hb3; obtain ⟨hc3, hf3⟩ := bc3; have ks3 := hb3.size; (try simp at ks3); have kc30 : ∀ o, w3.cell? ⟨w.heap.size, o, none⟩ = _ := (fun o => hb3.cell (p := ⟨w.heap.size, o, none⟩) (by (first | omega | (simp; omega) | simp))); have kf30 : ∀ o, w3.frozen? ⟨w.heap.size, o, none⟩ = _ := (fun o => hb3.frozen (p := ⟨w.heap.size, o, none⟩) (by (first | omega | (simp; omega) | simp))); have kz30 : w.heap.size < w3.heap.size := (by have hh := hb3.size; (try simp at hh); omega)
    go_wp2_with fail
    refine ((E1.out ▸ iLine_y t f h s d _ HL.out hf hh hs hd)).mono ?_
    rintro y w4 ⟨rfl, hb4⟩
    have bc4 := bcell hb4; obtain ⟨hc4, hf4⟩ := bc4; have ks4 := hb4.size; (try simp at ks4); have kc40 : ∀ o, w4.cell? ⟨w.heap.size, o, none⟩ = _ := (fun o => hb4.cell (p := ⟨w.heap.size, o, none⟩) (by (first | omega | (simp; omega) | simp))); have kf40 : ∀ o, w4.frozen? ⟨w.heap.size, o, none⟩ = _ := (fun o => hb4.frozen (p := ⟨w.heap.size, o, none⟩) (by (first | omega | (simp; omega) | simp))); have kz40 : w.heap.size < w4.heap.size := (by have hh := hb4.size; (try simp at hh); omega)
    go_wp2
    go_ret
    exact ⟨rfl, by (repeat (first | with_reducible exact Below.refl _ _ | with_reducible refine Below.drew ?_ | with_reducible refine below_drewN ?_ _ | (with_reducible refine bel_alloc ?_ ?_ _; (first | omega | (simp; omega) | simp)) | (with_reducible refine bel_set ?_ ?_ _; (first | omega | (simp; omega) | simp)) | (with_reducible refine bel_tr (by assumption) ?_ ?_; (first | omega | (simp; omega) | simp))))⟩
  · have HL := Lib.hid hL
    clear hL
    go_enter Tryd.func3, Tryd.ntmps3
    go_wp2_with fail
    refine (toLedger_any _ _ _ _ _ _).mono ?_
    rintro y w1 ⟨rfl, hb1⟩
    have bc1 := bcell hb1; obtain ⟨hc1, hf1⟩ := bc1; have ks1 := hb1.size; (try simp at ks1); have kc10 : ∀ o, w1.cell? ⟨w.heap.size, o, none⟩ = _ := (fun o => hb1.cell (p := ⟨w.heap.size, o, none⟩) (by (first | omega | (simp; omega) | simp))); have kf10 : ∀ o, w1.frozen? ⟨w.heap.size, o, none⟩ = _ := (fun o => hb1.frozen (p := ⟨w.heap.size, o, none⟩) (by (first | omega | (simp; omega) | simp))); have kz10 : w.heap.size < w1.heap.size := (by have hh := hb1.size; (try simp at hh); omega)
    go_wp2_with fail
    refine (sLine_n t f h s d _ HL.out).mono ?_
    rintro y w2 ⟨rfl, hb2⟩
    have bc2 := bcell hb2; obtain ⟨hc2, hf2⟩ := bc2; have ks2 := hb2.size; (try simp at ks2); have kc20 : ∀ o, w2.cell? ⟨w.heap.size, o, none⟩ = _ := (fun o => hb2.cell (p := ⟨w.heap.size, o, none⟩) (by (first | omega | (simp; omega) | simp))); have kf20 : ∀ o, w2.frozen? ⟨w.heap.size, o, none⟩ = _ := (fun o => hb2.frozen (p := ⟨w.heap.size, o, none⟩) (by (first | omega | (simp; omega) | simp))); have kz20 : w.heap.size < w2.heap.size := (by have hh := hb2.size; (try simp at hh); omega)
    go_wp2_with fail
    refine (toLedger_any _ _ _ _ _ _).mono ?_
    rintro y w3 ⟨rfl, hb3⟩
    have bc3 := bcell hb3; obtain ⟨hc3, hf3⟩ := bc3; have ks3 := hb3.size; (try simp at ks3); have kc30 : ∀ o, w3.cell? ⟨w.heap.size, o, none⟩ = _ := (fun o => hb3.cell (p := ⟨w.heap.size, o, none⟩) (by (first | omega | (simp; omega) | simp))); have kf30 : ∀ o, w3.frozen? ⟨w.heap.size, o, none⟩ = _ := (fun o => hb3.frozen (p := ⟨w.heap.size, o, none⟩) (by (first | omega | (simp; omega) | simp))); have kz30 : w.heap.size < w3.heap.size := (by have hh := hb3.size; (try simp at hh); omega)
    go_wp2_with fail
    refine (iLine_n t f h s d _ HL.out).mono ?_
    rintro y w4 ⟨rfl, hb4⟩
    have bc4 := bcell hb4; obtain ⟨hc4, hf4⟩ := bc4; have ks4 := hb4.size; (try simp at ks4); have kc40 : ∀ o, w4.cell? ⟨w.heap.size, o, none⟩ = _ := (fun o => hb4.cell (p := ⟨w.heap.size, o, none⟩) (by (first | omega | (simp; omega) | simp))); have kf40 : ∀ o, w4.frozen? ⟨w.heap.size, o, none⟩ = _ := (fun o => hb4.frozen (p := ⟨w.heap.size, o, none⟩) (by (first | omega | (simp; omega) | simp))); have kz40 : w.heap.size < w4.heap.size := (by have hh := hb4.size; (try simp at hh); omega)
    go_wp2
    go_ret
    exact ⟨rfl, by (repeat (first | with_reducible exact Below.refl _ _ | with_reducible refine Below.drew ?_ | with_reducible refine below_drewN ?_ _ | (with_reducible refine bel_alloc ?_ ?_ _; (first | omega | (simp; omega) | simp)) | (with_reducible refine bel_set ?_ ?_ _; (first | omega | (simp; omega) | simp)) | (with_reducible refine bel_tr (by assumption) ?_ ?_; (first | omega | (simp; omega) | simp))))⟩
end Go.Proofs.YtbnkdoilpidfaaaDoor
