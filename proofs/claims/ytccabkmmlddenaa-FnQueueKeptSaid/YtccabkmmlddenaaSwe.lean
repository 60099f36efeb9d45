/-
  The contract of slices.swapRangeCmpFunc (impl.Entry). Conditions: the row may be written; the ranges lie apart.
-/
import Derived.Test.YtccabkmmlddenaaSm
import Derived.Test.YtccabkmmlddenaaBase
import Derived.Test.YtccabkmmlddenaaFill
import Derived.Great.Walk
namespace Go.Proofs.Ytccabkmmlddenaa
open Go.RowKit

theorem Own.swxE {B n g off j m : Nat} {w : World} {es : List (Nat → Int)} (h : Own B w 4 (some ⟨g, off, none⟩) n es) (hm : m < j) (hj : j < n) :
    Own B ((w.setCells g (off + m * 4) [.int .i64 (fld es (j) 0), .int .i64 (fld es (j) 1), .int .i64 (fld es (j) 2), .int .i64 (fld es (j) 3)]).setCells g (off + j * 4) [.int .i64 (fld es (m) 0), .int .i64 (fld es (m) 1), .int .i64 (fld es (m) 2), .int .i64 (fld es (m) 3)]) 4 (some ⟨g, off, none⟩) n (swx es m j) := by
  obtain ⟨hl, h2⟩ := h
  obtain ⟨b, o, he, hlt, hB, hf, hc⟩ := h2.resolve_left (by omega)
  injection he with he
  injection he with hb ho
  subst hb ho
  refine ⟨by rw [swx_len]; exact hl, .inr ⟨g, off, rfl, by rw [size_setCells, size_setCells]; exact hlt, hB, fun o => ?_, fun i hi q hq => ?_⟩⟩
  · rw [World.frozen?_setCells, World.frozen?_setCells]
    exact hf o
  have hsome : ∀ i q, i < n → q < 4 → (w.cell? ⟨g, off + i * 4 + q, none⟩).isSome = true := fun i q hi hq => by rw [hc i hi q hq]; rfl
  have hin1 := World.cell?_setCells_in g [.int .i64 (fld es (j) 0), .int .i64 (fld es (j) 1), .int .i64 (fld es (j) 2), .int .i64 (fld es (j) 3)] (off + m * 4) w (fun q hq => hsome m q (by omega) hq)
  have hin2 := World.cell?_setCells_in g [.int .i64 (fld es (m) 0), .int .i64 (fld es (m) 1), .int .i64 (fld es (m) 2), .int .i64 (fld es (m) 3)] (off + j * 4) (w.setCells g (off + m * 4) [.int .i64 (fld es (j) 0), .int .i64 (fld es (j) 1), .int .i64 (fld es (j) 2), .int .i64 (fld es (j) 3)]) (fun q hq => World.isSome_setCells g _ _ _ ⟨g, _, none⟩ (hsome j q hj hq))
  by_cases h4 : i = j
  · subst h4
    rw [hin2 q hq, swx_j (by omega)]
    match q, hq with
    | 0, _ => rfl
    | 1, _ => rfl
    | 2, _ => rfl
    | 3, _ => rfl
  have hout : (off + i * 4 + q < off + j * 4) ∨ (off + j * 4 + 4 ≤ off + i * 4 + q) := by rcases Nat.lt_or_ge i j with h | h <;> omega
  rw [World.cell?_setCells_out g _ _ _ ⟨g, off + i * 4 + q, none⟩ (fun _ _ => by simp only [List.length_cons, List.length_nil]; omega)]
  by_cases h5 : i = m
  · subst h5
    rw [hin1 q hq, swx_m (by omega) (by omega)]
    match q, hq with
    | 0, _ => rfl
    | 1, _ => rfl
    | 2, _ => rfl
    | 3, _ => rfl
  have hout2 : (off + i * 4 + q < off + m * 4) ∨ (off + m * 4 + 4 ≤ off + i * 4 + q) := by rcases Nat.lt_or_ge i m with h | h <;> omega
  rw [World.cell?_setCells_out g _ _ _ ⟨g, off + i * 4 + q, none⟩ (fun _ _ => by simp only [List.length_cons, List.length_nil]; omega), swx_other h5 h4]
  exact hc i hi q hq

set_option maxRecDepth 100000 in
set_option maxHeartbeats 8000000 in
theorem swapE_any (B : Nat) (A : Option Addr) (cap n a b k : Nat) (es : List (Nat → Int)) (w : World) (hn : n ≤ 4194304) (hnc : n ≤ cap) (hcm : cap ≤ 9223372036854775807) (hBw : B ≤ w.heap.size) (hab : a + k ≤ b) (hbn : b + k ≤ n) (h : Own B w 4 A n es) :
    Calls Try.prog 82 #[.slice A n cap, .int .i64 a, .int .i64 b, .int .i64 k, .func (.func 37) #[] #[]] w fun y w' => y = .returned (.tuple #[]) ∧ ∃ es', Own B w' 4 A n es' ∧ SwR es' es a b k ∧ Below B w w' := by
  have H := Lib.hid h
  clear h
  go_enter Try.func82, Try.ntmps82
  go_wp2
  go_loopw [10] (fun s wr => ∃ (i : Nat) (es2 : List (Nat → Int)), i ≤ k ∧ s = .int .i64 i ∧ Hid (Own B wr 4 A n es2) ∧ Hid (SwR es2 es a b i) ∧ Hid (Below B w wr)) (fun s _ => k - (intOf s).toNat)
  case atStart => exact ⟨0, es, Nat.zero_le _, rfl, H, Lib.hid (SwR.zero _ _ _), Lib.hid (Below.refl _ _)⟩
  case round =>
    obtain ⟨i, es2, hi, rfl, HO, HS, HG⟩ := hrel
    by_cases hlt : i < k
    case neg =>
      have hik : i = k := by omega
      subst hik
      have hki : ¬ (i : Int) < (i : Int) := by omega
      go_wp2
      exact bodyPost_end (results_none rfl _ _ _) rfl ⟨rfl, es2, HO.out, HS.out, HG.out⟩
    have hki : (i : Int) < (k : Int) := by omega
    have ha1 : IntKind.i64.wrap ((a : Int) + (i : Int)) = ((a + i : Nat) : Int) := by rw [IntKind.wrap_i64]; omega
    have hb1 : IntKind.i64.wrap ((b : Int) + (i : Int)) = ((b + i : Nat) : Int) := by rw [IntKind.wrap_i64]; omega
    obtain ⟨g, off, rfl⟩ : ∃ g off, A = some ⟨g, off, none⟩ := by
      obtain ⟨b', o, he, _⟩ := HO.out.2.resolve_left (by omega)
      exact ⟨b', o, he⟩
    obtain ⟨hgl, hB, hfz, hc⟩ : g < wr.heap.size ∧ B ≤ g ∧ (∀ o, wr.frozen? ⟨g, o, none⟩ = false) ∧ Hid (∀ i, i < n → ∀ q, q < 4 → wr.cell? ⟨g, off + i * 4 + q, none⟩ = some (.int .i64 (fld es2 i q))) := by
      obtain ⟨b', o, he, h1, h2, h3, h4⟩ := HO.out.2.resolve_left (by omega)
      injection he with he
      injection he with hb ho
      subst hb ho
      exact ⟨h1, h2, h3, h4⟩
    have e0 : wr.cell? ⟨g, off + (a + i) * 4, none⟩ = some (.int .i64 (fld es2 (a + i) 0)) := hc.out (a + i) (by omega) 0 (by omega)
    have e1 : wr.cell? ⟨g, off + (a + i) * 4 + 1, none⟩ = some (.int .i64 (fld es2 (a + i) 1)) := hc.out (a + i) (by omega) 1 (by omega)
    have e2 : wr.cell? ⟨g, off + (a + i) * 4 + 2, none⟩ = some (.int .i64 (fld es2 (a + i) 2)) := hc.out (a + i) (by omega) 2 (by omega)
    have e3 : wr.cell? ⟨g, off + (a + i) * 4 + 3, none⟩ = some (.int .i64 (fld es2 (a + i) 3)) := hc.out (a + i) (by omega) 3 (by omega)
    have f0 : wr.cell? ⟨g, off + (b + i) * 4, none⟩ = some (.int .i64 (fld es2 (b + i) 0)) := hc.out (b + i) (by omega) 0 (by omega)
    have f1 : wr.cell? ⟨g, off + (b + i) * 4 + 1, none⟩ = some (.int .i64 (fld es2 (b + i) 1)) := hc.out (b + i) (by omega) 1 (by omega)
    have f2 : wr.cell? ⟨g, off + (b + i) * 4 + 2, none⟩ = some (.int .i64 (fld es2 (b + i) 2)) := hc.out (b + i) (by omega) 2 (by omega)
    have f3 : wr.cell? ⟨g, off + (b + i) * 4 + 3, none⟩ = some (.int .i64 (fld es2 (b + i) 3)) := hc.out (b + i) (by omega) 3 (by omega)
    have ka0 := hfz (off + (a + i) * 4)
    have ka1 := hfz (off + (a + i) * 4 + 1)
    have ka2 := hfz (off + (a + i) * 4 + 2)
    have ka3 := hfz (off + (a + i) * 4 + 3)
    have kb0 := hfz (off + (b + i) * 4)
    have kb1 := hfz (off + (b + i) * 4 + 1)
    have kb2 := hfz (off + (b + i) * 4 + 2)
    have kb3 := hfz (off + (b + i) * 4 + 3)
    have h1 : (wr.setCell ⟨g, off + (a + i) * 4, none⟩ (.int .i64 (fld es2 (b + i) 0))).cell? ⟨g, off + (a + i) * 4 + 1, none⟩ = some (.int .i64 (fld es2 (a + i) 1)) := (World.cell?_setCells_out g [.int .i64 (fld es2 (b + i) 0)] (off + (a + i) * 4) wr ⟨g, off + (a + i) * 4 + 1, none⟩ (fun _ _ => .inr (by simp only [List.length_cons, List.length_nil]; omega))).trans e1
    have h2 : ((wr.setCell ⟨g, off + (a + i) * 4, none⟩ (.int .i64 (fld es2 (b + i) 0))).setCell ⟨g, off + (a + i) * 4 + 1, none⟩ (.int .i64 (fld es2 (b + i) 1))).cell? ⟨g, off + (a + i) * 4 + 2, none⟩ = some (.int .i64 (fld es2 (a + i) 2)) := (World.cell?_setCells_out g [.int .i64 (fld es2 (b + i) 0), .int .i64 (fld es2 (b + i) 1)] (off + (a + i) * 4) wr ⟨g, off + (a + i) * 4 + 2, none⟩ (fun _ _ => .inr (by simp only [List.length_cons, List.length_nil]; omega))).trans e2
    have h3 : (((wr.setCell ⟨g, off + (a + i) * 4, none⟩ (.int .i64 (fld es2 (b + i) 0))).setCell ⟨g, off + (a + i) * 4 + 1, none⟩ (.int .i64 (fld es2 (b + i) 1))).setCell ⟨g, off + (a + i) * 4 + 2, none⟩ (.int .i64 (fld es2 (b + i) 2))).cell? ⟨g, off + (a + i) * 4 + 3, none⟩ = some (.int .i64 (fld es2 (a + i) 3)) := (World.cell?_setCells_out g [.int .i64 (fld es2 (b + i) 0), .int .i64 (fld es2 (b + i) 1), .int .i64 (fld es2 (b + i) 2)] (off + (a + i) * 4) wr ⟨g, off + (a + i) * 4 + 3, none⟩ (fun _ _ => .inr (by simp only [List.length_cons, List.length_nil]; omega))).trans e3
    have g0 : ((((wr.setCell ⟨g, off + (a + i) * 4, none⟩ (.int .i64 (fld es2 (b + i) 0))).setCell ⟨g, off + (a + i) * 4 + 1, none⟩ (.int .i64 (fld es2 (b + i) 1))).setCell ⟨g, off + (a + i) * 4 + 2, none⟩ (.int .i64 (fld es2 (b + i) 2))).setCell ⟨g, off + (a + i) * 4 + 3, none⟩ (.int .i64 (fld es2 (b + i) 3))).cell? ⟨g, off + (b + i) * 4, none⟩ = some (.int .i64 (fld es2 (b + i) 0)) := (World.cell?_setCells_out g [.int .i64 (fld es2 (b + i) 0), .int .i64 (fld es2 (b + i) 1), .int .i64 (fld es2 (b + i) 2), .int .i64 (fld es2 (b + i) 3)] (off + (a + i) * 4) wr ⟨g, off + (b + i) * 4, none⟩ (fun _ _ => .inr (by simp only [List.length_cons, List.length_nil]; omega))).trans f0
    have g1 : (((((wr.setCell ⟨g, off + (a + i) * 4, none⟩ (.int .i64 (fld es2 (b + i) 0))).setCell ⟨g, off + (a + i) * 4 + 1, none⟩ (.int .i64 (fld es2 (b + i) 1))).setCell ⟨g, off + (a + i) * 4 + 2, none⟩ (.int .i64 (fld es2 (b + i) 2))).setCell ⟨g, off + (a + i) * 4 + 3, none⟩ (.int .i64 (fld es2 (b + i) 3))).setCell ⟨g, off + (b + i) * 4, none⟩ (.int .i64 (fld es2 (a + i) 0))).cell? ⟨g, off + (b + i) * 4 + 1, none⟩ = some (.int .i64 (fld es2 (b + i) 1)) := (World.cell?_setCells_out g [.int .i64 (fld es2 (a + i) 0)] (off + (b + i) * 4) _ ⟨g, off + (b + i) * 4 + 1, none⟩ (fun _ _ => .inr (by simp only [List.length_cons, List.length_nil]; omega))).trans ((World.cell?_setCells_out g [.int .i64 (fld es2 (b + i) 0), .int .i64 (fld es2 (b + i) 1), .int .i64 (fld es2 (b + i) 2), .int .i64 (fld es2 (b + i) 3)] (off + (a + i) * 4) wr ⟨g, off + (b + i) * 4 + 1, none⟩ (fun _ _ => .inr (by simp only [List.length_cons, List.length_nil]; omega))).trans f1)
    have g2 : ((((((wr.setCell ⟨g, off + (a + i) * 4, none⟩ (.int .i64 (fld es2 (b + i) 0))).setCell ⟨g, off + (a + i) * 4 + 1, none⟩ (.int .i64 (fld es2 (b + i) 1))).setCell ⟨g, off + (a + i) * 4 + 2, none⟩ (.int .i64 (fld es2 (b + i) 2))).setCell ⟨g, off + (a + i) * 4 + 3, none⟩ (.int .i64 (fld es2 (b + i) 3))).setCell ⟨g, off + (b + i) * 4, none⟩ (.int .i64 (fld es2 (a + i) 0))).setCell ⟨g, off + (b + i) * 4 + 1, none⟩ (.int .i64 (fld es2 (a + i) 1))).cell? ⟨g, off + (b + i) * 4 + 2, none⟩ = some (.int .i64 (fld es2 (b + i) 2)) := (World.cell?_setCells_out g [.int .i64 (fld es2 (a + i) 0), .int .i64 (fld es2 (a + i) 1)] (off + (b + i) * 4) _ ⟨g, off + (b + i) * 4 + 2, none⟩ (fun _ _ => .inr (by simp only [List.length_cons, List.length_nil]; omega))).trans ((World.cell?_setCells_out g [.int .i64 (fld es2 (b + i) 0), .int .i64 (fld es2 (b + i) 1), .int .i64 (fld es2 (b + i) 2), .int .i64 (fld es2 (b + i) 3)] (off + (a + i) * 4) wr ⟨g, off + (b + i) * 4 + 2, none⟩ (fun _ _ => .inr (by simp only [List.length_cons, List.length_nil]; omega))).trans f2)
    have g3 : (((((((wr.setCell ⟨g, off + (a + i) * 4, none⟩ (.int .i64 (fld es2 (b + i) 0))).setCell ⟨g, off + (a + i) * 4 + 1, none⟩ (.int .i64 (fld es2 (b + i) 1))).setCell ⟨g, off + (a + i) * 4 + 2, none⟩ (.int .i64 (fld es2 (b + i) 2))).setCell ⟨g, off + (a + i) * 4 + 3, none⟩ (.int .i64 (fld es2 (b + i) 3))).setCell ⟨g, off + (b + i) * 4, none⟩ (.int .i64 (fld es2 (a + i) 0))).setCell ⟨g, off + (b + i) * 4 + 1, none⟩ (.int .i64 (fld es2 (a + i) 1))).setCell ⟨g, off + (b + i) * 4 + 2, none⟩ (.int .i64 (fld es2 (a + i) 2))).cell? ⟨g, off + (b + i) * 4 + 3, none⟩ = some (.int .i64 (fld es2 (b + i) 3)) := (World.cell?_setCells_out g [.int .i64 (fld es2 (a + i) 0), .int .i64 (fld es2 (a + i) 1), .int .i64 (fld es2 (a + i) 2)] (off + (b + i) * 4) _ ⟨g, off + (b + i) * 4 + 3, none⟩ (fun _ _ => .inr (by simp only [List.length_cons, List.length_nil]; omega))).trans ((World.cell?_setCells_out g [.int .i64 (fld es2 (b + i) 0), .int .i64 (fld es2 (b + i) 1), .int .i64 (fld es2 (b + i) 2), .int .i64 (fld es2 (b + i) 3)] (off + (a + i) * 4) wr ⟨g, off + (b + i) * 4 + 3, none⟩ (fun _ _ => .inr (by simp only [List.length_cons, List.length_nil]; omega))).trans f3)
    have hA0 : (0 : Int) ≤ ((a + i : Nat) : Int) := by omega
    have hAn : ((a + i : Nat) : Int) < (n : Int) := by omega
    have hB0 : (0 : Int) ≤ ((b + i : Nat) : Int) := by omega
    have hBn : ((b + i : Nat) : Int) < (n : Int) := by omega
    have hAn2 : a + i < n := by omega
    have hBn2 : b + i < n := by omega
    have HO4 := Lib.hid (HO.out.swxE (show a + i < b + i by omega) (by omega))
    have HG4 := below_setCells hB [.int .i64 (fld es2 (a + i) 0), .int .i64 (fld es2 (a + i) 1), .int .i64 (fld es2 (a + i) 2), .int .i64 (fld es2 (a + i) 3)] (off + (b + i) * 4) _ (below_setCells hB [.int .i64 (fld es2 (b + i) 0), .int .i64 (fld es2 (b + i) 1), .int .i64 (fld es2 (b + i) 2), .int .i64 (fld es2 (b + i) 3)] (off + (a + i) * 4) wr HG.out)
    have E4 : (wr.setCells g (off + (a + i) * 4) [.int .i64 (fld es2 (b + i) 0), .int .i64 (fld es2 (b + i) 1), .int .i64 (fld es2 (b + i) 2), .int .i64 (fld es2 (b + i) 3)]).setCells g (off + (b + i) * 4) [.int .i64 (fld es2 (a + i) 0), .int .i64 (fld es2 (a + i) 1), .int .i64 (fld es2 (a + i) 2), .int .i64 (fld es2 (a + i) 3)] = ((((((((wr.setCell ⟨g, off + (a + i) * 4, none⟩ (.int .i64 (fld es2 (b + i) 0))).setCell ⟨g, off + (a + i) * 4 + 1, none⟩ (.int .i64 (fld es2 (b + i) 1))).setCell ⟨g, off + (a + i) * 4 + 2, none⟩ (.int .i64 (fld es2 (b + i) 2))).setCell ⟨g, off + (a + i) * 4 + 3, none⟩ (.int .i64 (fld es2 (b + i) 3))).setCell ⟨g, off + (b + i) * 4, none⟩ (.int .i64 (fld es2 (a + i) 0))).setCell ⟨g, off + (b + i) * 4 + 1, none⟩ (.int .i64 (fld es2 (a + i) 1))).setCell ⟨g, off + (b + i) * 4 + 2, none⟩ (.int .i64 (fld es2 (a + i) 2))).setCell ⟨g, off + (b + i) * 4 + 3, none⟩ (.int .i64 (fld es2 (a + i) 3))) := by simp only [World.setCells, Nat.add_assoc, Nat.reduceAdd]
    rw [E4] at HO4 HG4
    have HO5 := Lib.hid (Own.drew_ HO4.out)
    have HG5 := Lib.hid (Below.drew HG4)
    have HS5 := Lib.hid (HS.out.step (by omega) (by have := HO.out.1; have := HS.out.1; omega))
    clear E4 HO4 HG4 hfz hc
    go_wp2
    go_region
    all_goals
      go_wp2
      go_roundw
      case rel => exact ⟨i + 1, swx es2 (a + i) (b + i), by omega, by go_num, by with_reducible exact HO5, HS5, by with_reducible exact HG5⟩
      case measure => simp [intOf]; omega
end Go.Proofs.Ytccabkmmlddenaa
