/-
  The contract of the reference's WheelOf. No conditions beyond those stated.
-/
import Derived.Test.YtndgaandcmiinaaWo
import Derived.Test.YtndgaandcmiinaaWps
import Derived.Deep.DeepCutAuto
namespace Go.Proofs.Ytndgaandcmiinaa
open Go.RowKit

set_option maxRecDepth 100000 in
set_option maxHeartbeats 8000000 in
theorem sWheelOf_any (A : Option Addr) (n c N : Nat) (es : List (Nat → Int)) (E : Nat → List (Nat → Int)) (b : Bool) (w : World) (hn : n ≤ 4194304) (h : Rd w 2 A n es) (hR : WofR es n N E b) :
    Calls Try.prog 30 #[.slice A n c] w fun y w' => ∃ A' c' S', y = .returned (.tuple #[.agg #[.slice A' N c'], .bool b]) ∧ OwnW w.heap.size w'.heap.size w' A' N S' ∧ (∀ i, i < N → (S' i).es = E i) ∧ tot S' N ≤ 10 ∧ (N ≤ c' ∧ c' ≤ 9223372036854775807) ∧ Below w.heap.size w w' := by
  have H := Lib.hid h
  have HR := Lib.hid hR
  clear h hR
  go_enter Try.func30, Try.ntmps30
  go_wp2_with fail
  refine (sWheelNew_any _).mono ?_
  rintro y w1 ⟨A1, c1, S1, rfl, g1, e1, hb1⟩
  have bc1 := bcell hb1; obtain ⟨hc1, hf1⟩ := bc1; have ks1 := hb1.size; (try simp at ks1); have kc10 : ∀ o, w1.cell? ⟨w.heap.size, o, none⟩ = _ := (fun o => hb1.cell (p := ⟨w.heap.size, o, none⟩) (by (first | omega | (simp; omega) | simp))); have kf10 : ∀ o, w1.frozen? ⟨w.heap.size, o, none⟩ = _ := (fun o => hb1.frozen (p := ⟨w.heap.size, o, none⟩) (by (first | omega | (simp; omega) | simp))); have kz10 : w.heap.size < w1.heap.size := (by have hh := hb1.size; (try simp at hh); omega)
  have O1 : Hid (OwnW (w.heap.size + 1) w1.heap.size w1 A1 9 S1) := Lib.hid (g1.own1.1.wide (by (first | omega | (simp; omega) | simp)) (Nat.le_refl _) (Nat.le_refl _))
  have C1 : Hid (∀ i, i < 9 → (S1 i).es = (fun _ => []) i) := Lib.hid fun i hi => (e1 i hi).2
  have T1 : tot S1 9 ≤ 10 := by rw [tot_zero fun i hi => (e1 i hi).1]; omega
  have hc1' := g1.own1.2
  have B1 : Hid (Below w.heap.size w w1) := Lib.hid (by
    show Below w.heap.size w w1
    (repeat (first | with_reducible exact Below.refl _ _ | with_reducible refine Below.drew ?_ | with_reducible refine below_drewN ?_ _ | (with_reducible refine bel_alloc ?_ ?_ _; (first | omega | (simp; omega) | simp)) | (with_reducible refine bel_set ?_ ?_ _; (first | omega | (simp; omega) | simp)) | (with_reducible refine bel_tr (by assumption) ?_ ?_; (first | omega | (simp; omega) | simp)))))
  have x0 : w1.cell? ⟨w.heap.size, 0, none⟩ = some (.slice none 0 0) := by (first | (go_keep; done) | (go_simp; done))
  have x1 : w1.frozen? ⟨w.heap.size, 0, none⟩ = false := by (first | (go_keep; done) | (go_simp; done))
  clear g1 e1 hb1 kc10 kf10 hf1 hc1
  go_wp2
  go_loopw [5] (fun i wr => ∃ k : Nat, k ≤ n ∧ i = .int .i64 k ∧ ∃ (A2 : Option Addr) (c2 : Nat) (S2 : Nat → Sp) (C : Nat → List (Nat → Int)) (lo hi : Nat), Hid (foldP es k = some C) ∧ Hid (OwnW lo hi wr A2 9 S2) ∧ w.heap.size < lo ∧ (hi ≤ w1.heap.size ∨ w1.heap.size < lo) ∧ Hid (∀ i, i < 9 → (S2 i).es = C i) ∧ tot S2 9 ≤ 10 ∧ (9 ≤ c2 ∧ c2 ≤ 9223372036854775807) ∧ Hid (Below w.heap.size w wr) ∧ w1.heap.size < wr.heap.size ∧ wr.cell? ⟨w1.heap.size, 0, none⟩ = some (.slice A2 9 c2) ∧ wr.frozen? ⟨w1.heap.size, 0, none⟩ = false ∧ wr.cell? ⟨w.heap.size, 0, none⟩ = some (.slice none 0 0) ∧ wr.frozen? ⟨w.heap.size, 0, none⟩ = false) (fun i _ => n - (intOf i).toNat)
  case atStart => exact ⟨0, Nat.zero_le _, rfl, A1, c1, S1, _, w.heap.size + 1, w1.heap.size, Lib.hid rfl, Lib.hid (OwnW.alloc_ O1.out _), by omega, .inl (Nat.le_refl _), C1, T1, hc1', Lib.hid (B1.out.alloc (by (first | omega | (simp; omega) | simp)) _), by simp, by (first | (go_keep; done) | (go_simp; done)), by (first | (go_keep; done) | (go_simp; done)), by (first | (go_keep; done) | (go_simp; done)), by (first | (go_keep; done) | (go_simp; done))⟩
  case round =>
    obtain ⟨k, hk, rfl, A2, c2, S2, C, lo, hi, HC, HO, hlo, hd, HCC, hT2, hc2, HB, hs2', y0, y1, y2, y3⟩ := hrel
    clear x0 x1
    by_cases hlt : k < n
    case neg =>
      have hkn : k = n := by omega
      subst hkn
      have hdk : decide (k < k) = false := by simp
      obtain ⟨rfl, rfl, hE⟩ := HR.out.yes HC.out
      go_wp2
      refine bodyPost_ret (v := .tuple #[.agg #[.slice A2 9 c2], .bool true]) (by simp only [results, Try.results30]; first | (go_simp; done) | (go_simp; omega)) rfl ?_
      have hfin : OwnW w.heap.size (wr.setCell ⟨w.heap.size, 0, none⟩ (.slice A2 9 c2)).heap.size (wr.setCell ⟨w.heap.size, 0, none⟩ (.slice A2 9 c2)) A2 9 S2 := ((HO.out.set_ (.inl (by (first | omega | (simp; omega) | simp))) _)).wide (by omega) (by have := HO.out.up; simp [World.setCell]; omega) (Nat.le_refl _)
      have hes : ∀ i, i < 9 → (S2 i).es = E i := fun i hi => by rw [hE i hi]; exact HCC.out i hi
      have hbl : Below w.heap.size w (wr.setCell ⟨w.heap.size, 0, none⟩ (.slice A2 9 c2)) := Below.setCell HB.out (Nat.le_refl _) _
      exact ⟨A2, c2, S2, rfl, hfin, hes, hT2, hc2, hbl⟩
    have HWS : w.heap.size < w1.heap.size := kz10
    have hki : (k : Int) < (n : Int) := by omega
    have hk0 : (0 : Int) ≤ (k : Int) := by omega
    have hdk : decide (k < n) = true := by simpa using hlt
    have RW := Lib.hid (H.out.below HB.out)
    obtain ⟨b4, off, rfl, hb, hc⟩ := RW.out.2.resolve_left (by omega)
    have f0 := hc k hlt 0 (by omega)
    have f1 := hc k hlt 1 (by omega)
    rw [Nat.add_zero] at f0
    clear hc
    rcases stepP_putR (p := fld es k) HO.out.rdw.lens HCC.out with ⟨C2, hs1, hs2⟩ | ⟨hs1, hs2⟩
    case inl =>
        have HC2 : Hid (foldP es (k + 1) = some C2) := Lib.hid (by simp only [foldP]; rw [HC.out]; exact hs1)
        go_upto_region 5 with fail
        go_cut [6, 7] (fun s1 s2 wx => ∃ (bx : Nat) (A3 : Option Addr) (c3 : Nat) (S3 : Nat → Sp) (lo3 hi3 : Nat), s1 = .pointer (some ⟨bx, 0, none⟩) ∧ s2 = .bool true ∧ wr.heap.size ≤ bx ∧ bx < wx.heap.size ∧ Below wr.heap.size wr wx ∧ wx.cell? ⟨bx, 0, none⟩ = some (.slice A3 9 c3) ∧ Hid (OwnW lo3 hi3 wx A3 9 S3) ∧ wr.heap.size ≤ lo3 ∧ (9 ≤ c3 ∧ c3 ≤ 9223372036854775807) ∧ Hid (∀ i, i < 9 → (S3 i).es = C2 i))
        case first =>
          go_region_held3 (fun w' => w'.cell? ⟨w1.heap.size, 0, none⟩ = some (.slice A2 9 c2) ∧ w'.cell? ⟨b4, off + k * 2, none⟩ = some (.int .i64 (fld es k 0)) ∧ w'.cell? ⟨b4, off + k * 2 + 1, none⟩ = some (.int .i64 (fld es k 1))) ((first | (go_keep; done) | (go_simp; done))) (
            (go_at_call 27; refine (sWheelPut_any A2 9 c2 S2 (fld es k) C2 true _ (by omega) (by omega) (HO.out.rdw.below (by (repeat (first | with_reducible exact Below.refl _ _ | with_reducible refine Below.drew ?_ | with_reducible refine below_drewN ?_ _ | (with_reducible refine bel_alloc ?_ ?_ _; (first | omega | (simp; omega) | simp)) | (with_reducible refine bel_set ?_ ?_ _; (first | omega | (simp; omega) | simp)) | (with_reducible refine bel_tr (by assumption) ?_ ?_; (first | omega | (simp; omega) | simp)))))) hs2).mono ?_; rintro y wN ⟨A3, c3, S3, rfl, o3, e3, hc3, hb3⟩; have s3 := hb3.size; (try simp at s3); obtain ⟨lo, hlo, o3⟩ : ∃ lo, lo = _ ∧ OwnW lo wN.heap.size wN A3 9 S3 := ⟨_, rfl, o3⟩; (try simp at hlo); have OS := Lib.hid o3; have ESY := Lib.hid e3; have hcb := hb3.cell (p := ⟨w1.heap.size, 0, none⟩) (by (first | omega | (simp; omega) | simp)); have hce := (fun (o : Nat) => hb3.cell (p := ⟨b4, o, none⟩) (by (first | omega | (simp; omega) | simp))); have hcr := (fun (o : Nat) => hb3.cell (p := ⟨wr.heap.size, o, none⟩)); have hfr := (fun (o : Nat) => hb3.frozen (p := ⟨wr.heap.size, o, none⟩)); clear o3 e3))
          all_goals (go_wp2_with fail; go_meet; refine ⟨_, A3, c3, S3, lo, wN.heap.size, rfl, rfl, ?_, ?_, ?_, ?_, ?_, ?_, hc3, ESY⟩)
          all_goals (first | (exact Lib.hid (OwnW.alloc_ OS.out _)) | (refine Lib.hid (OwnW.set_ OS.out ?_ _); ((first | omega | (simp; omega) | simp))) | ((first | omega | (simp; omega) | simp); done) | ((first | (go_keep; done) | (go_simp; done) | (simp [*]; done)); done) | ((repeat (first | with_reducible exact Below.refl _ _ | with_reducible refine Below.drew ?_ | with_reducible refine below_drewN ?_ _ | (with_reducible refine bel_alloc ?_ ?_ _; (first | omega | (simp; omega) | simp)) | (with_reducible refine bel_set ?_ ?_ _; (first | omega | (simp; omega) | simp)) | (with_reducible refine bel_tr (by assumption) ?_ ?_; (first | omega | (simp; omega) | simp)))); done))
        case rest =>
        obtain ⟨bx, A3, c3, S3, lo3, hi3, rfl, rfl, hbx, hlx, bN, d3, O3, hlo3, hc3, HE3⟩ := hcut
        rename World => wN
        have s3 := bN.size
        have z0 : wN.cell? ⟨w1.heap.size, 0, none⟩ = some (.slice A2 9 c2) := (bN.cell (p := ⟨w1.heap.size, 0, none⟩) hs2').trans y0
        have z1 : wN.frozen? ⟨w1.heap.size, 0, none⟩ = false := (bN.frozen (p := ⟨w1.heap.size, 0, none⟩) hs2').trans y1
        have z2 : wN.cell? ⟨w.heap.size, 0, none⟩ = some (.slice none 0 0) := (bN.cell (p := ⟨w.heap.size, 0, none⟩) (by (first | omega | (simp; omega) | simp))).trans y2
        have z3 : wN.frozen? ⟨w.heap.size, 0, none⟩ = false := (bN.frozen (p := ⟨w.heap.size, 0, none⟩) (by (first | omega | (simp; omega) | simp))).trans y3
        have hT3 : tot S3 9 ≤ 4194304 := by
          rw [tot_eqE O3.out.rdw.lens HE3.out]
          have := hs2.tot HO.out.rdw.lens
          omega
        have L3 := Lib.hid O3.out.rdw.lens
        have hT10 : tot S3 9 ≤ 10 := put_ten hs2 HO.out.rdw.lens L3.out HE3.out
        go_wp2
        go_roundw
        case rel => exact ⟨k + 1, by omega, by go_num, A3, c3, S3, C2, lo3, hi3, HC2, (Lib.hid (O3.out.set_ (.inl (by (first | omega | (simp; omega) | simp))) _)), by omega, .inr (by omega), HE3, hT10, hc3, Lib.hid (by (have hh := HB.out.trans (bN.mono HB.out.size)); (first | exact Below.setCell hh (show w.heap.size ≤ w1.heap.size by omega) _ | exact Below.setCell (hh.alloc (show w.heap.size ≤ wN.heap.size by omega) _) (show w.heap.size ≤ w1.heap.size by omega) _ | exact (Below.setCell hh (show w.heap.size ≤ w1.heap.size by omega) _).alloc (by simp [World.setCell]; omega) _ | exact Below.setCell (hh.alloc (by (first | omega | (simp; omega) | simp)) _) (by (first | omega | (simp; omega) | simp)) _)), by (first | omega | (simp; omega) | simp), by (first | (go_keep; done) | (go_simp; done)), by (first | (go_keep; done) | (go_simp; done)), by (first | (go_keep; done) | (go_simp; done)), by (first | (go_keep; done) | (go_simp; done))⟩
        case measure => simp [intOf]; omega
    case inr =>
        have HC2 : foldP es (k + 1) = none := by simp only [foldP]; rw [HC.out]; exact hs1
        obtain ⟨rfl, rfl⟩ := HR.out.no (by omega) HC2
        go_upto_region 5 with fail
        go_cut [6, 7] (fun s1 s2 wx => ∃ (bx : Nat) (A3 : Option Addr) (c3 : Nat) (S3 : Nat → Sp) (lo3 hi3 : Nat), s1 = .pointer (some ⟨bx, 0, none⟩) ∧ s2 = .bool false ∧ wr.heap.size ≤ bx ∧ bx < wx.heap.size ∧ Below wr.heap.size wr wx ∧ wx.cell? ⟨bx, 0, none⟩ = some (.slice A3 9 c3) ∧ Hid (OwnW lo3 hi3 wx A3 9 S3) ∧ wr.heap.size ≤ lo3 ∧ (9 ≤ c3 ∧ c3 ≤ 9223372036854775807) ∧ Hid (∀ i, i < 9 → (S3 i).es = C i))
        case first =>
          go_region_held3 (fun w' => w'.cell? ⟨w1.heap.size, 0, none⟩ = some (.slice A2 9 c2) ∧ w'.cell? ⟨b4, off + k * 2, none⟩ = some (.int .i64 (fld es k 0)) ∧ w'.cell? ⟨b4, off + k * 2 + 1, none⟩ = some (.int .i64 (fld es k 1))) ((first | (go_keep; done) | (go_simp; done))) (
            (go_at_call 27; refine (sWheelPut_any A2 9 c2 S2 (fld es k) C false _ (by omega) (by omega) (HO.out.rdw.below (by (repeat (first | with_reducible exact Below.refl _ _ | with_reducible refine Below.drew ?_ | with_reducible refine below_drewN ?_ _ | (with_reducible refine bel_alloc ?_ ?_ _; (first | omega | (simp; omega) | simp)) | (with_reducible refine bel_set ?_ ?_ _; (first | omega | (simp; omega) | simp)) | (with_reducible refine bel_tr (by assumption) ?_ ?_; (first | omega | (simp; omega) | simp)))))) hs2).mono ?_; rintro y wN ⟨A3, c3, S3, rfl, o3, e3, hc3, hb3⟩; have s3 := hb3.size; (try simp at s3); obtain ⟨lo, hlo, o3⟩ : ∃ lo, lo = _ ∧ OwnW lo wN.heap.size wN A3 9 S3 := ⟨_, rfl, o3⟩; (try simp at hlo); have OS := Lib.hid o3; have ESY := Lib.hid e3; have hcb := hb3.cell (p := ⟨w1.heap.size, 0, none⟩) (by (first | omega | (simp; omega) | simp)); have hce := (fun (o : Nat) => hb3.cell (p := ⟨b4, o, none⟩) (by (first | omega | (simp; omega) | simp))); have hcr := (fun (o : Nat) => hb3.cell (p := ⟨wr.heap.size, o, none⟩)); have hfr := (fun (o : Nat) => hb3.frozen (p := ⟨wr.heap.size, o, none⟩)); clear o3 e3))
          all_goals (go_wp2_with fail; go_meet; refine ⟨_, A3, c3, S3, lo, wN.heap.size, rfl, rfl, ?_, ?_, ?_, ?_, ?_, ?_, hc3, ESY⟩)
          all_goals (first | (exact Lib.hid (OwnW.alloc_ OS.out _)) | (refine Lib.hid (OwnW.set_ OS.out ?_ _); ((first | omega | (simp; omega) | simp))) | ((first | omega | (simp; omega) | simp); done) | ((first | (go_keep; done) | (go_simp; done) | (simp [*]; done)); done) | ((repeat (first | with_reducible exact Below.refl _ _ | with_reducible refine Below.drew ?_ | with_reducible refine below_drewN ?_ _ | (with_reducible refine bel_alloc ?_ ?_ _; (first | omega | (simp; omega) | simp)) | (with_reducible refine bel_set ?_ ?_ _; (first | omega | (simp; omega) | simp)) | (with_reducible refine bel_tr (by assumption) ?_ ?_; (first | omega | (simp; omega) | simp)))); done))
        case rest =>
        obtain ⟨bx, A3, c3, S3, lo3, hi3, rfl, rfl, hbx, hlx, bN, d3, O3, hlo3, hc3, HE3⟩ := hcut
        rename World => wN
        have s3 := bN.size
        have z0 : wN.cell? ⟨w1.heap.size, 0, none⟩ = some (.slice A2 9 c2) := (bN.cell (p := ⟨w1.heap.size, 0, none⟩) hs2').trans y0
        have z1 : wN.frozen? ⟨w1.heap.size, 0, none⟩ = false := (bN.frozen (p := ⟨w1.heap.size, 0, none⟩) hs2').trans y1
        have z2 : wN.cell? ⟨w.heap.size, 0, none⟩ = some (.slice none 0 0) := (bN.cell (p := ⟨w.heap.size, 0, none⟩) (by (first | omega | (simp; omega) | simp))).trans y2
        have z3 : wN.frozen? ⟨w.heap.size, 0, none⟩ = false := (bN.frozen (p := ⟨w.heap.size, 0, none⟩) (by (first | omega | (simp; omega) | simp))).trans y3
        have hT3 : tot S3 9 ≤ 4194304 := by
          rw [tot_eqE O3.out.rdw.lens HE3.out]
          have := hs2.tot HO.out.rdw.lens
          omega
        have L3 := Lib.hid O3.out.rdw.lens
        go_wp2
        refine bodyPost_ret (v := .tuple #[.agg #[.slice none 0 0], .bool false]) (by simp only [results, Try.results30]; first | (go_simp; done) | (go_simp; omega)) rfl ?_
        have hh := HB.out.trans (bN.mono HB.out.size)
        exact ⟨none, 0, (fun _ => (⟨none, 0, 0, []⟩ : Sp)), rfl, ownW_zero _ _ _ _ (Nat.le_refl _), fun i hi => absurd hi (by omega), by simp [tot], ⟨Nat.le_refl _, by omega⟩, by first | exact Below.setCell hh (Nat.le_refl _) _ | exact Below.setCell (hh.alloc (by (first | omega | (simp; omega) | simp)) _) (Nat.le_refl _) _ | exact (Below.setCell hh (Nat.le_refl _) _).alloc (by (first | omega | (simp; omega) | simp)) _⟩
end Go.Proofs.Ytndgaandcmiinaa
