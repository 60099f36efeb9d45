/-
  The contract of slices.rotateCmpFunc (impl.Entry). Conditions: the row may be written; neither block is empty.
-/
import Derived.Test.YtjlmcppkafjniaaGreatSw
import Derived.Test.YtjlmcppkafjniaaGreatSl
import Derived.Test.YtjlmcppkafjniaaGreatEs
import Derived.Great.Walk
import Derived.Test.YtjlmcppkafjniaaGreatSm
namespace Go.Proofs.YtjlmcppkafjniaaGreat
open Go.RowKit

theorem Own.swxE {B n g off j m : Nat} {w : World} {es : List (Nat → Int)} (h : Own B w 4 (some ⟨g, off, none⟩) n es) (hm : m < j) (hj : j < n) :
    Own B ((w.setCells g (off + m * 4) [.int .i64 (fld es (j) 0), .int .i64 (fld es (j) 1), .int .i64 (fld es (j) 2), .int .i64 (fld es (j) 3)]).setCells g (off + j * 4) [.int .i64 (fld es (m) 0), .int .i64 (fld es (m) 1), .int .i64 (fld es (m) 2), .int .i64 (fld es (m) 3)]) 4 (some ⟨g, off, none⟩) n (swx es m j) := by
  obtain ⟨hl, h2⟩ := h
  obtain ⟨b, o, he, hlt, hB, hf, hc⟩ := h2.resolve_left (by omega)
  injection he with he
  injection he with hb ho
  subst hb ho
  refine ⟨by rw [swx_len]; exact hl, .inr ⟨g, off, rfl, by rw [size_setCells, size_setCells]; exact hlt, hB, fun o => ?_, fun i hi q hq => ?_⟩⟩
  · rw [World.frozen?_setCells, World.frozen?_setCells]
    exact hf o
  have hsome : ∀ i q, i < n → q < 4 → (w.cell? ⟨g, off + i * 4 + q, none⟩).isSome = true := fun i q hi hq => by rw [hc i hi q hq]; rfl
  have hin1 := World.cell?_setCells_in g [.int .i64 (fld es (j) 0), .int .i64 (fld es (j) 1), .int .i64 (fld es (j) 2), .int .i64 (fld es (j) 3)] (off + m * 4) w (fun q hq => hsome m q (by omega) hq)
  have hin2 := World.cell?_setCells_in g [.int .i64 (fld es (m) 0), .int .i64 (fld es (m) 1), .int .i64 (fld es (m) 2), .int .i64 (fld es (m) 3)] (off + j * 4) (w.setCells g (off + m * 4) [.int .i64 (fld es (j) 0), .int .i64 (fld es (j) 1), .int .i64 (fld es (j) 2), .int .i64 (fld es (j) 3)]) (fun q hq => World.isSome_setCells g _ _ _ ⟨g, _, none⟩ (hsome j q hj hq))
  by_cases h4 : i = j
  · subst h4
    rw [hin2 q hq, swx_j (by omega)]
    match q, hq with
    | 0, _ => rfl
    | 1, _ => rfl
    | 2, _ => rfl
    | 3, _ => rfl
  have hout : (off + i * 4 + q < off + j * 4) ∨ (off + j * 4 + 4 ≤ off + i * 4 + q) := by rcases Nat.lt_or_ge i j with h | h <;> omega
  rw [World.cell?_setCells_out g _ _ _ ⟨g, off + i * 4 + q, none⟩ (fun _ _ => by simp only [List.length_cons, List.length_nil]; omega)]
  by_cases h5 : i = m
  · subst h5
    rw [hin1 q hq, swx_m (by omega) (by omega)]
    match q, hq with
    | 0, _ => rfl
    | 1, _ => rfl
    | 2, _ => rfl
    | 3, _ => rfl
  have hout2 : (off + i * 4 + q < off + m * 4) ∨ (off + m * 4 + 4 ≤ off + i * 4 + q) := by rcases Nat.lt_or_ge i m with h | h <;> omega
  rw [World.cell?_setCells_out g _ _ _ ⟨g, off + i * 4 + q, none⟩ (fun _ _ => by simp only [List.length_cons, List.length_nil]; omega), swx_other h5 h4]
  exact hc i hi q hq

set_option maxRecDepth 100000 in
set_option maxHeartbeats 8000000 in
theorem swapE_any (B : Nat) (A : Option Addr) (cap n a b k : Nat) (es : List (Nat → Int)) (w : World) (hn : n ≤ 4194304) (hnc : n ≤ cap) (hcm : cap ≤ 9223372036854775807) (_hBw : B ≤ w.heap.size) (hab : a + k ≤ b) (hbn : b + k ≤ n) (h : Own B w 4 A n es) :
    Calls Tryz.prog 147 #[.slice A n cap, .int .i64 a, .int .i64 b, .int .i64 k, .func (.func 84) #[] #[]] w fun y w' => y = .returned (.tuple #[]) ∧ ∃ es', Own B w' 4 A n es' ∧ SwR es' es a b k ∧ Below B w w' := by
  have H := Lib.hid h
  clear h
  go_enter Tryz.func147, Tryz.ntmps147
  go_wp2
  go_loopw [10] (fun s wr => ∃ (i : Nat) (es2 : List (Nat → Int)), i ≤ k ∧ s = .int .i64 i ∧ Hid (Own B wr 4 A n es2) ∧ Hid (SwR es2 es a b i) ∧ Hid (Below B w wr)) (fun s _ => k - (intOf s).toNat)
  case atStart => exact ⟨0, es, Nat.zero_le _, rfl, H, Lib.hid (SwR.zero _ _ _), Lib.hid (Below.refl _ _)⟩
  case round =>
    obtain ⟨i, es2, hi, rfl, HO, HS, HG⟩ := hrel
    by_cases hlt : i < k
    case neg =>
      have hik : i = k := by omega
      subst hik
      have hki : ¬ (i : Int) < (i : Int) := by omega
      go_wp2
      exact bodyPost_end (results_none rfl _ _ _) rfl ⟨rfl, es2, HO.out, HS.out, HG.out⟩
    have hki : (i : Int) < (k : Int) := by omega
    have ha1 : IntKind.i64.wrap ((a : Int) + (i : Int)) = ((a + i : Nat) : Int) := by rw [IntKind.wrap_i64]; omega
    have hb1 : IntKind.i64.wrap ((b : Int) + (i : Int)) = ((b + i : Nat) : Int) := by rw [IntKind.wrap_i64]; omega
    obtain ⟨g, off, rfl⟩ : ∃ g off, A = some ⟨g, off, none⟩ := by
      obtain ⟨b', o, he, _⟩ := HO.out.2.resolve_left (by omega)
      exact ⟨b', o, he⟩
    obtain ⟨hgl, hB, hfz, hc⟩ : g < wr.heap.size ∧ B ≤ g ∧ (∀ o, wr.frozen? ⟨g, o, none⟩ = false) ∧ Hid (∀ i, i < n → ∀ q, q < 4 → wr.cell? ⟨g, off + i * 4 + q, none⟩ = some (.int .i64 (fld es2 i q))) := by
      obtain ⟨b', o, he, h1, h2, h3, h4⟩ := HO.out.2.resolve_left (by omega)
      injection he with he
      injection he with hb ho
      subst hb ho
      exact ⟨h1, h2, h3, h4⟩
    have e0 : wr.cell? ⟨g, off + (a + i) * 4, none⟩ = some (.int .i64 (fld es2 (a + i) 0)) := hc.out (a + i) (by omega) 0 (by omega)
    have e1 : wr.cell? ⟨g, off + (a + i) * 4 + 1, none⟩ = some (.int .i64 (fld es2 (a + i) 1)) := hc.out (a + i) (by omega) 1 (by omega)
    have e2 : wr.cell? ⟨g, off + (a + i) * 4 + 2, none⟩ = some (.int .i64 (fld es2 (a + i) 2)) := hc.out (a + i) (by omega) 2 (by omega)
    have e3 : wr.cell? ⟨g, off + (a + i) * 4 + 3, none⟩ = some (.int .i64 (fld es2 (a + i) 3)) := hc.out (a + i) (by omega) 3 (by omega)
    have f0 : wr.cell? ⟨g, off + (b + i) * 4, none⟩ = some (.int .i64 (fld es2 (b + i) 0)) := hc.out (b + i) (by omega) 0 (by omega)
    have f1 : wr.cell? ⟨g, off + (b + i) * 4 + 1, none⟩ = some (.int .i64 (fld es2 (b + i) 1)) := hc.out (b + i) (by omega) 1 (by omega)
    have f2 : wr.cell? ⟨g, off + (b + i) * 4 + 2, none⟩ = some (.int .i64 (fld es2 (b + i) 2)) := hc.out (b + i) (by omega) 2 (by omega)
    have f3 : wr.cell? ⟨g, off + (b + i) * 4 + 3, none⟩ = some (.int .i64 (fld es2 (b + i) 3)) := hc.out (b + i) (by omega) 3 (by omega)
    have ka0 := hfz (off + (a + i) * 4)
    have ka1 := hfz (off + (a + i) * 4 + 1)
    have ka2 := hfz (off + (a + i) * 4 + 2)
    have ka3 := hfz (off + (a + i) * 4 + 3)
    have kb0 := hfz (off + (b + i) * 4)
    have kb1 := hfz (off + (b + i) * 4 + 1)
    have kb2 := hfz (off + (b + i) * 4 + 2)
    have kb3 := hfz (off + (b + i) * 4 + 3)
    have h1 : (wr.setCell ⟨g, off + (a + i) * 4, none⟩ (.int .i64 (fld es2 (b + i) 0))).cell? ⟨g, off + (a + i) * 4 + 1, none⟩ = some (.int .i64 (fld es2 (a + i) 1)) := (World.cell?_setCells_out g [.int .i64 (fld es2 (b + i) 0)] (off + (a + i) * 4) wr ⟨g, off + (a + i) * 4 + 1, none⟩ (fun _ _ => .inr (by simp only [List.length_cons, List.length_nil]; omega))).trans e1
    have h2 : ((wr.setCell ⟨g, off + (a + i) * 4, none⟩ (.int .i64 (fld es2 (b + i) 0))).setCell ⟨g, off + (a + i) * 4 + 1, none⟩ (.int .i64 (fld es2 (b + i) 1))).cell? ⟨g, off + (a + i) * 4 + 2, none⟩ = some (.int .i64 (fld es2 (a + i) 2)) := (World.cell?_setCells_out g [.int .i64 (fld es2 (b + i) 0), .int .i64 (fld es2 (b + i) 1)] (off + (a + i) * 4) wr ⟨g, off + (a + i) * 4 + 2, none⟩ (fun _ _ => .inr (by simp only [List.length_cons, List.length_nil]; omega))).trans e2
    have h3 : (((wr.setCell ⟨g, off + (a + i) * 4, none⟩ (.int .i64 (fld es2 (b + i) 0))).setCell ⟨g, off + (a + i) * 4 + 1, none⟩ (.int .i64 (fld es2 (b + i) 1))).setCell ⟨g, off + (a + i) * 4 + 2, none⟩ (.int .i64 (fld es2 (b + i) 2))).cell? ⟨g, off + (a + i) * 4 + 3, none⟩ = some (.int .i64 (fld es2 (a + i) 3)) := (World.cell?_setCells_out g [.int .i64 (fld es2 (b + i) 0), .int .i64 (fld es2 (b + i) 1), .int .i64 (fld es2 (b + i) 2)] (off + (a + i) * 4) wr ⟨g, off + (a + i) * 4 + 3, none⟩ (fun _ _ => .inr (by simp only [List.length_cons, List.length_nil]; omega))).trans e3
    have g0 : ((((wr.setCell ⟨g, off + (a + i) * 4, none⟩ (.int .i64 (fld es2 (b + i) 0))).setCell ⟨g, off + (a + i) * 4 + 1, none⟩ (.int .i64 (fld es2 (b + i) 1))).setCell ⟨g, off + (a + i) * 4 + 2, none⟩ (.int .i64 (fld es2 (b + i) 2))).setCell ⟨g, off + (a + i) * 4 + 3, none⟩ (.int .i64 (fld es2 (b + i) 3))).cell? ⟨g, off + (b + i) * 4, none⟩ = some (.int .i64 (fld es2 (b + i) 0)) := (World.cell?_setCells_out g [.int .i64 (fld es2 (b + i) 0), .int .i64 (fld es2 (b + i) 1), .int .i64 (fld es2 (b + i) 2), .int .i64 (fld es2 (b + i) 3)] (off + (a + i) * 4) wr ⟨g, off + (b + i) * 4, none⟩ (fun _ _ => .inr (by simp only [List.length_cons, List.length_nil]; omega))).trans f0
    have g1 : (((((wr.setCell ⟨g, off + (a + i) * 4, none⟩ (.int .i64 (fld es2 (b + i) 0))).setCell ⟨g, off + (a + i) * 4 + 1, none⟩ (.int .i64 (fld es2 (b + i) 1))).setCell ⟨g, off + (a + i) * 4 + 2, none⟩ (.int .i64 (fld es2 (b + i) 2))).setCell ⟨g, off + (a + i) * 4 + 3, none⟩ (.int .i64 (fld es2 (b + i) 3))).setCell ⟨g, off + (b + i) * 4, none⟩ (.int .i64 (fld es2 (a + i) 0))).cell? ⟨g, off + (b + i) * 4 + 1, none⟩ = some (.int .i64 (fld es2 (b + i) 1)) := (World.cell?_setCells_out g [.int .i64 (fld es2 (a + i) 0)] (off + (b + i) * 4) _ ⟨g, off + (b + i) * 4 + 1, none⟩ (fun _ _ => .inr (by simp only [List.length_cons, List.length_nil]; omega))).trans ((World.cell?_setCells_out g [.int .i64 (fld es2 (b + i) 0), .int .i64 (fld es2 (b + i) 1), .int .i64 (fld es2 (b + i) 2), .int .i64 (fld es2 (b + i) 3)] (off + (a + i) * 4) wr ⟨g, off + (b + i) * 4 + 1, none⟩ (fun _ _ => .inr (by simp only [List.length_cons, List.length_nil]; omega))).trans f1)
    have g2 : ((((((wr.setCell ⟨g, off + (a + i) * 4, none⟩ (.int .i64 (fld es2 (b + i) 0))).setCell ⟨g, off + (a + i) * 4 + 1, none⟩ (.int .i64 (fld es2 (b + i) 1))).setCell ⟨g, off + (a + i) * 4 + 2, none⟩ (.int .i64 (fld es2 (b + i) 2))).setCell ⟨g, off + (a + i) * 4 + 3, none⟩ (.int .i64 (fld es2 (b + i) 3))).setCell ⟨g, off + (b + i) * 4, none⟩ (.int .i64 (fld es2 (a + i) 0))).setCell ⟨g, off + (b + i) * 4 + 1, none⟩ (.int .i64 (fld es2 (a + i) 1))).cell? ⟨g, off + (b + i) * 4 + 2, none⟩ = some (.int .i64 (fld es2 (b + i) 2)) := (World.cell?_setCells_out g [.int .i64 (fld es2 (a + i) 0), .int .i64 (fld es2 (a + i) 1)] (off + (b + i) * 4) _ ⟨g, off + (b + i) * 4 + 2, none⟩ (fun _ _ => .inr (by simp only [List.length_cons, List.length_nil]; omega))).trans ((World.cell?_setCells_out g [.int .i64 (fld es2 (b + i) 0), .int .i64 (fld es2 (b + i) 1), .int .i64 (fld es2 (b + i) 2), .int .i64 (fld es2 (b + i) 3)] (off + (a + i) * 4) wr ⟨g, off + (b + i) * 4 + 2, none⟩ (fun _ _ => .inr (by simp only [List.length_cons, List.length_nil]; omega))).trans f2)
    have g3 : (((((((wr.setCell ⟨g, off + (a + i) * 4, none⟩ (.int .i64 (fld es2 (b + i) 0))).setCell ⟨g, off + (a + i) * 4 + 1, none⟩ (.int .i64 (fld es2 (b + i) 1))).setCell ⟨g, off + (a + i) * 4 + 2, none⟩ (.int .i64 (fld es2 (b + i) 2))).setCell ⟨g, off + (a + i) * 4 + 3, none⟩ (.int .i64 (fld es2 (b + i) 3))).setCell ⟨g, off + (b + i) * 4, none⟩ (.int .i64 (fld es2 (a + i) 0))).setCell ⟨g, off + (b + i) * 4 + 1, none⟩ (.int .i64 (fld es2 (a + i) 1))).setCell ⟨g, off + (b + i) * 4 + 2, none⟩ (.int .i64 (fld es2 (a + i) 2))).cell? ⟨g, off + (b + i) * 4 + 3, none⟩ = some (.int .i64 (fld es2 (b + i) 3)) := (World.cell?_setCells_out g [.int .i64 (fld es2 (a + i) 0), .int .i64 (fld es2 (a + i) 1), .int .i64 (fld es2 (a + i) 2)] (off + (b + i) * 4) _ ⟨g, off + (b + i) * 4 + 3, none⟩ (fun _ _ => .inr (by simp only [List.length_cons, List.length_nil]; omega))).trans ((World.cell?_setCells_out g [.int .i64 (fld es2 (b + i) 0), .int .i64 (fld es2 (b + i) 1), .int .i64 (fld es2 (b + i) 2), .int .i64 (fld es2 (b + i) 3)] (off + (a + i) * 4) wr ⟨g, off + (b + i) * 4 + 3, none⟩ (fun _ _ => .inr (by simp only [List.length_cons, List.length_nil]; omega))).trans f3)
    have hA0 : (0 : Int) ≤ ((a + i : Nat) : Int) := by omega
    have hAn : ((a + i : Nat) : Int) < (n : Int) := by omega
    have hB0 : (0 : Int) ≤ ((b + i : Nat) : Int) := by omega
    have hBn : ((b + i : Nat) : Int) < (n : Int) := by omega
    have hAn2 : a + i < n := by omega
    have hBn2 : b + i < n := by omega
    have HO4 := Lib.hid (HO.out.swxE (show a + i < b + i by omega) (by omega))
    have HG4 := below_setCells hB [.int .i64 (fld es2 (a + i) 0), .int .i64 (fld es2 (a + i) 1), .int .i64 (fld es2 (a + i) 2), .int .i64 (fld es2 (a + i) 3)] (off + (b + i) * 4) _ (below_setCells hB [.int .i64 (fld es2 (b + i) 0), .int .i64 (fld es2 (b + i) 1), .int .i64 (fld es2 (b + i) 2), .int .i64 (fld es2 (b + i) 3)] (off + (a + i) * 4) wr HG.out)
    have E4 : (wr.setCells g (off + (a + i) * 4) [.int .i64 (fld es2 (b + i) 0), .int .i64 (fld es2 (b + i) 1), .int .i64 (fld es2 (b + i) 2), .int .i64 (fld es2 (b + i) 3)]).setCells g (off + (b + i) * 4) [.int .i64 (fld es2 (a + i) 0), .int .i64 (fld es2 (a + i) 1), .int .i64 (fld es2 (a + i) 2), .int .i64 (fld es2 (a + i) 3)] = ((((((((wr.setCell ⟨g, off + (a + i) * 4, none⟩ (.int .i64 (fld es2 (b + i) 0))).setCell ⟨g, off + (a + i) * 4 + 1, none⟩ (.int .i64 (fld es2 (b + i) 1))).setCell ⟨g, off + (a + i) * 4 + 2, none⟩ (.int .i64 (fld es2 (b + i) 2))).setCell ⟨g, off + (a + i) * 4 + 3, none⟩ (.int .i64 (fld es2 (b + i) 3))).setCell ⟨g, off + (b + i) * 4, none⟩ (.int .i64 (fld es2 (a + i) 0))).setCell ⟨g, off + (b + i) * 4 + 1, none⟩ (.int .i64 (fld es2 (a + i) 1))).setCell ⟨g, off + (b + i) * 4 + 2, none⟩ (.int .i64 (fld es2 (a + i) 2))).setCell ⟨g, off + (b + i) * 4 + 3, none⟩ (.int .i64 (fld es2 (a + i) 3))) := by simp only [World.setCells, Nat.add_assoc, Nat.reduceAdd]
    rw [E4] at HO4 HG4
    have HO5 := Lib.hid (Own.drew_ HO4.out)
    have HG5 := Lib.hid (Below.drew HG4)
    have HS5 := Lib.hid (HS.out.step (by omega) (by have := HO.out.1; have := HS.out.1; omega))
    clear E4 HO4 HG4 hfz hc
    go_wp2
    go_region
    all_goals
      go_wp2
      go_roundw
      case rel => exact ⟨i + 1, swx es2 (a + i) (b + i), by omega, by go_num, by with_reducible exact HO5, HS5, by with_reducible exact HG5⟩
      case measure => simp [intOf]; omega
end Go.Proofs.YtjlmcppkafjniaaGreat

namespace Go.Proofs.YtjlmcppkafjniaaGreat
open Go.RowKit

set_option maxRecDepth 100000 in
set_option maxHeartbeats 8000000 in
theorem rotE_any (B : Nat) (A : Option Addr) (cap n a m b : Nat) (es : List (Nat → Int)) (w : World) (hn : n ≤ 4194304) (hnc : n ≤ cap) (hcm : cap ≤ 9223372036854775807) (hBw : B ≤ w.heap.size) (ham : a < m) (hmb : m < b) (hbn : b ≤ n) (h : Own B w 4 A n es) :
    Calls Tryz.prog 139 #[.slice A n cap, .int .i64 a, .int .i64 m, .int .i64 b, .func (.func 84) #[] #[]] w fun y w' => y = .returned (.tuple #[]) ∧ Own B w' 4 A n (rotL es a m b) ∧ Below B w w' := by
  have H := Lib.hid h
  clear h
  go_enter Tryz.func139, Tryz.ntmps139
  go_wp2
  go_loopw [10, 11] (fun s t wr => ∃ (i j : Nat) (es2 : List (Nat → Int)), 0 < i ∧ 0 < j ∧ a + i ≤ m ∧ m + j ≤ b ∧ s = .int .i64 i ∧ t = .int .i64 j ∧ Hid (Own B wr 4 A n es2) ∧ Hid (rotL es2 (m - i) m (m + j) = rotL es a m b) ∧ Hid (Below B w wr)) (fun s t _ => (intOf s + intOf t).toNat)
  case atStart => exact ⟨m - a, b - m, es, by omega, by omega, by omega, by omega, by go_num, by go_num, H, Lib.hid (by rw [show m - (m - a) = a by omega, show m + (b - m) = b by omega]), Lib.hid (Below.refl _ _)⟩
  case round =>
    obtain ⟨i, j, es2, hi, hj, hai, hbj, rfl, rfl, HO, HE, HG⟩ := hrel
    obtain ⟨p, hp⟩ : ∃ p, m - i = p := ⟨_, rfl⟩
    have hmi : IntKind.i64.wrap ((m : Int) - (i : Int)) = (p : Int) := by rw [IntKind.wrap_i64]; omega
    have hmi2 : (m : Int) - (i : Int) = (p : Int) := by omega
    have hpi : p + i = m := by omega
    have HP := Lib.hid hp
    have HPI := Lib.hid hpi
    have hpa : a ≤ p := by omega
    have hpm : p ≤ m := by omega
    clear hp hpi
    have hlen := HO.out.1
    rcases Nat.lt_trichotomy i j with h3 | h3 | h3
    · have hne : ¬ (i : Int) = (j : Int) := by omega
      have hgt : ¬ (j : Int) < (i : Int) := by omega
      obtain ⟨q, hq⟩ : ∃ q, m + (j - i) = q := ⟨_, rfl⟩
      have hmj : IntKind.i64.wrap ((m : Int) + (j : Int)) = (m : Int) + (j : Int) := by rw [IntKind.wrap_i64]; omega
      have hq1 : (m : Int) + (j : Int) - (i : Int) = (q : Int) := by omega
      have hq2 : IntKind.i64.wrap ((m : Int) + (j : Int) - (i : Int)) = (q : Int) := by rw [IntKind.wrap_i64]; omega
      have HQ := Lib.hid hq
      clear hq
      go_wp2_with (go_at_call 147; refine (swapE_any B A cap n (p) (q) (i) es2 _ hn hnc hcm (Nat.le_trans hBw HG.out.size) (by (have := HPI.out; (try have := HQ.out); omega)) (by (have := HPI.out; (try have := HQ.out); omega)) HO.out).mono ?_; rintro y w3 ⟨rfl, es3, o3, s3, b3⟩)
      have O3 := Lib.hid o3
      have E3 := Lib.hid (rot_lt HPI.out h3 (by omega) (HQ.out ▸ s3))
      have G3 := Lib.hid (HG.out.trans b3)
      clear o3 s3 b3
      go_roundw
      case rel => exact ⟨i, j - i, es3, hi, by omega, hai, by omega, rfl, by go_num, O3, Lib.hid (by rw [HP.out]; exact E3.out.trans (by have hE := HE.out; rw [HP.out] at hE; exact hE)), G3⟩
      case measure => simp [intOf]; omega
    · subst h3
      go_wp2_with (go_at_call 147; refine (swapE_any B A cap n (p) (m) (i) es2 _ hn hnc hcm (Nat.le_trans hBw HG.out.size) (by (have := HPI.out; (try have := HQ.out); omega)) (by (have := HPI.out; (try have := HQ.out); omega)) HO.out).mono ?_; rintro y w3 ⟨rfl, es3, o3, s3, b3⟩)
      have e3 := rot_eq HPI.out (by omega) s3
      have hE := HE.out
      rw [HP.out] at hE
      rw [hE] at e3
      rw [e3] at o3
      exact bodyPost_end (results_none rfl _ _ _) rfl ⟨rfl, o3, HG.out.trans b3⟩
    · have hne : ¬ (i : Int) = (j : Int) := by omega
      have hgt : (j : Int) < (i : Int) := by omega
      go_wp2_with (go_at_call 147; refine (swapE_any B A cap n (p) (m) (j) es2 _ hn hnc hcm (Nat.le_trans hBw HG.out.size) (by (have := HPI.out; (try have := HQ.out); omega)) (by (have := HPI.out; (try have := HQ.out); omega)) HO.out).mono ?_; rintro y w3 ⟨rfl, es3, o3, s3, b3⟩)
      have O3 := Lib.hid o3
      have E3 := Lib.hid (rot_gt HPI.out h3 (by omega) s3)
      have G3 := Lib.hid (HG.out.trans b3)
      clear o3 s3 b3
      go_roundw
      case rel => exact ⟨i - j, j, es3, by omega, hj, by omega, hbj, by go_num, rfl, O3, Lib.hid (by rw [show m - (i - j) = p + j by have := HPI.out; omega]; exact E3.out.trans (by have hE := HE.out; rw [HP.out] at hE; exact hE)), G3⟩
      case measure => simp [intOf]; omega
end Go.Proofs.YtjlmcppkafjniaaGreat
