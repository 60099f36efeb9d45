/-
  The contract of slices.swapRangeCmpFunc (impl.Pin). Conditions: the row may be written; the ranges lie apart.
-/
import Derived.Test.YtlkladabefpnfaaSw
import Derived.Test.YtlkladabefpnfaaBase
import Derived.Test.YtlkladabefpnfaaFill
import Derived.Great.Walk
namespace Go.Proofs.Ytlkladabefpnfaa
open Go.RowKit

theorem Own.swxP {B n g off j m : Nat} {w : World} {es : List (Nat → Int)} (h : Own B w 2 (some ⟨g, off, none⟩) n es) (hm : m < j) (hj : j < n) :
    Own B ((w.setCells g (off + m * 2) [.int .i64 (fld es (j) 0), .int .i64 (fld es (j) 1)]).setCells g (off + j * 2) [.int .i64 (fld es (m) 0), .int .i64 (fld es (m) 1)]) 2 (some ⟨g, off, none⟩) n (swx es m j) := by
  obtain ⟨hl, h2⟩ := h
  obtain ⟨b, o, he, hlt, hB, hf, hc⟩ := h2.resolve_left (by omega)
  injection he with he
  injection he with hb ho
  subst hb ho
  refine ⟨by rw [swx_len]; exact hl, .inr ⟨g, off, rfl, by rw [size_setCells, size_setCells]; exact hlt, hB, fun o => ?_, fun i hi q hq => ?_⟩⟩
  · rw [World.frozen?_setCells, World.frozen?_setCells]
    exact hf o
  have hsome : ∀ i q, i < n → q < 2 → (w.cell? ⟨g, off + i * 2 + q, none⟩).isSome = true := fun i q hi hq => by rw [hc i hi q hq]; rfl
  have hin1 := World.cell?_setCells_in g [.int .i64 (fld es (j) 0), .int .i64 (fld es (j) 1)] (off + m * 2) w (fun q hq => hsome m q (by omega) hq)
  have hin2 := World.cell?_setCells_in g [.int .i64 (fld es (m) 0), .int .i64 (fld es (m) 1)] (off + j * 2) (w.setCells g (off + m * 2) [.int .i64 (fld es (j) 0), .int .i64 (fld es (j) 1)]) (fun q hq => World.isSome_setCells g _ _ _ ⟨g, _, none⟩ (hsome j q hj hq))
  by_cases h4 : i = j
  · subst h4
    rw [hin2 q hq, swx_j (by omega)]
    match q, hq with
    | 0, _ => rfl
    | 1, _ => rfl
  have hout : (off + i * 2 + q < off + j * 2) ∨ (off + j * 2 + 2 ≤ off + i * 2 + q) := by rcases Nat.lt_or_ge i j with h | h <;> omega
  rw [World.cell?_setCells_out g _ _ _ ⟨g, off + i * 2 + q, none⟩ (fun _ _ => by simp only [List.length_cons, List.length_nil]; omega)]
  by_cases h5 : i = m
  · subst h5
    rw [hin1 q hq, swx_m (by omega) (by omega)]
    match q, hq with
    | 0, _ => rfl
    | 1, _ => rfl
  have hout2 : (off + i * 2 + q < off + m * 2) ∨ (off + m * 2 + 2 ≤ off + i * 2 + q) := by rcases Nat.lt_or_ge i m with h | h <;> omega
  rw [World.cell?_setCells_out g _ _ _ ⟨g, off + i * 2 + q, none⟩ (fun _ _ => by simp only [List.length_cons, List.length_nil]; omega), swx_other h5 h4]
  exact hc i hi q hq

set_option maxRecDepth 100000 in
set_option maxHeartbeats 8000000 in
theorem swapP_any (B : Nat) (A : Option Addr) (cap n a b k : Nat) (es : List (Nat → Int)) (w : World) (hn : n ≤ 4194304) (hnc : n ≤ cap) (hcm : cap ≤ 9223372036854775807) (hBw : B ≤ w.heap.size) (hab : a + k ≤ b) (hbn : b + k ≤ n) (h : Own B w 2 A n es) :
    Calls Try.prog 47 #[.slice A n cap, .int .i64 a, .int .i64 b, .int .i64 k, .func (.func 25) #[] #[]] w fun y w' => y = .returned (.tuple #[]) ∧ ∃ es', Own B w' 2 A n es' ∧ SwR es' es a b k ∧ Below B w w' := by
  have H := Lib.hid h
  clear h
  go_enter Try.func47, Try.ntmps47
  go_wp2
  go_loopw [10] (fun s wr => ∃ (i : Nat) (es2 : List (Nat → Int)), i ≤ k ∧ s = .int .i64 i ∧ Hid (Own B wr 2 A n es2) ∧ Hid (SwR es2 es a b i) ∧ Hid (Below B w wr)) (fun s _ => k - (intOf s).toNat)
  case atStart => exact ⟨0, es, Nat.zero_le _, rfl, H, Lib.hid (SwR.zero _ _ _), Lib.hid (Below.refl _ _)⟩
  case round =>
    obtain ⟨i, es2, hi, rfl, HO, HS, HG⟩ := hrel
    by_cases hlt : i < k
    case neg =>
      have hik : i = k := by omega
      subst hik
      have hki : ¬ (i : Int) < (i : Int) := by omega
      go_wp2
      exact bodyPost_end (results_none rfl _ _ _) rfl ⟨rfl, es2, HO.out, HS.out, HG.out⟩
    have hki : (i : Int) < (k : Int) := by omega
    have ha1 : IntKind.i64.wrap ((a : Int) + (i : Int)) = ((a + i : Nat) : Int) := by rw [IntKind.wrap_i64]; omega
    have hb1 : IntKind.i64.wrap ((b : Int) + (i : Int)) = ((b + i : Nat) : Int) := by rw [IntKind.wrap_i64]; omega
    obtain ⟨g, off, rfl⟩ : ∃ g off, A = some ⟨g, off, none⟩ := by
      obtain ⟨b', o, he, _⟩ := HO.out.2.resolve_left (by omega)
      exact ⟨b', o, he⟩
    obtain ⟨hgl, hB, hfz, hc⟩ : g < wr.heap.size ∧ B ≤ g ∧ (∀ o, wr.frozen? ⟨g, o, none⟩ = false) ∧ Hid (∀ i, i < n → ∀ q, q < 2 → wr.cell? ⟨g, off + i * 2 + q, none⟩ = some (.int .i64 (fld es2 i q))) := by
      obtain ⟨b', o, he, h1, h2, h3, h4⟩ := HO.out.2.resolve_left (by omega)
      injection he with he
      injection he with hb ho
      subst hb ho
      exact ⟨h1, h2, h3, h4⟩
    have e0 : wr.cell? ⟨g, off + (a + i) * 2, none⟩ = some (.int .i64 (fld es2 (a + i) 0)) := hc.out (a + i) (by omega) 0 (by omega)
    have e1 : wr.cell? ⟨g, off + (a + i) * 2 + 1, none⟩ = some (.int .i64 (fld es2 (a + i) 1)) := hc.out (a + i) (by omega) 1 (by omega)
    have f0 : wr.cell? ⟨g, off + (b + i) * 2, none⟩ = some (.int .i64 (fld es2 (b + i) 0)) := hc.out (b + i) (by omega) 0 (by omega)
    have f1 : wr.cell? ⟨g, off + (b + i) * 2 + 1, none⟩ = some (.int .i64 (fld es2 (b + i) 1)) := hc.out (b + i) (by omega) 1 (by omega)
    have ka0 := hfz (off + (a + i) * 2)
    have ka1 := hfz (off + (a + i) * 2 + 1)
    have kb0 := hfz (off + (b + i) * 2)
    have kb1 := hfz (off + (b + i) * 2 + 1)
    have h1 : (wr.setCell ⟨g, off + (a + i) * 2, none⟩ (.int .i64 (fld es2 (b + i) 0))).cell? ⟨g, off + (a + i) * 2 + 1, none⟩ = some (.int .i64 (fld es2 (a + i) 1)) := (World.cell?_setCells_out g [.int .i64 (fld es2 (b + i) 0)] (off + (a + i) * 2) wr ⟨g, off + (a + i) * 2 + 1, none⟩ (fun _ _ => .inr (by simp only [List.length_cons, List.length_nil]; omega))).trans e1
    have g0 : ((wr.setCell ⟨g, off + (a + i) * 2, none⟩ (.int .i64 (fld es2 (b + i) 0))).setCell ⟨g, off + (a + i) * 2 + 1, none⟩ (.int .i64 (fld es2 (b + i) 1))).cell? ⟨g, off + (b + i) * 2, none⟩ = some (.int .i64 (fld es2 (b + i) 0)) := (World.cell?_setCells_out g [.int .i64 (fld es2 (b + i) 0), .int .i64 (fld es2 (b + i) 1)] (off + (a + i) * 2) wr ⟨g, off + (b + i) * 2, none⟩ (fun _ _ => .inr (by simp only [List.length_cons, List.length_nil]; omega))).trans f0
    have g1 : (((wr.setCell ⟨g, off + (a + i) * 2, none⟩ (.int .i64 (fld es2 (b + i) 0))).setCell ⟨g, off + (a + i) * 2 + 1, none⟩ (.int .i64 (fld es2 (b + i) 1))).setCell ⟨g, off + (b + i) * 2, none⟩ (.int .i64 (fld es2 (a + i) 0))).cell? ⟨g, off + (b + i) * 2 + 1, none⟩ = some (.int .i64 (fld es2 (b + i) 1)) := (World.cell?_setCells_out g [.int .i64 (fld es2 (a + i) 0)] (off + (b + i) * 2) _ ⟨g, off + (b + i) * 2 + 1, none⟩ (fun _ _ => .inr (by simp only [List.length_cons, List.length_nil]; omega))).trans ((World.cell?_setCells_out g [.int .i64 (fld es2 (b + i) 0), .int .i64 (fld es2 (b + i) 1)] (off + (a + i) * 2) wr ⟨g, off + (b + i) * 2 + 1, none⟩ (fun _ _ => .inr (by simp only [List.length_cons, List.length_nil]; omega))).trans f1)
    have hA0 : (0 : Int) ≤ ((a + i : Nat) : Int) := by omega
    have hAn : ((a + i : Nat) : Int) < (n : Int) := by omega
    have hB0 : (0 : Int) ≤ ((b + i : Nat) : Int) := by omega
    have hBn : ((b + i : Nat) : Int) < (n : Int) := by omega
    have hAn2 : a + i < n := by omega
    have hBn2 : b + i < n := by omega
    have HO4 := Lib.hid (HO.out.swxP (show a + i < b + i by omega) (by omega))
    have HG4 := below_setCells hB [.int .i64 (fld es2 (a + i) 0), .int .i64 (fld es2 (a + i) 1)] (off + (b + i) * 2) _ (below_setCells hB [.int .i64 (fld es2 (b + i) 0), .int .i64 (fld es2 (b + i) 1)] (off + (a + i) * 2) wr HG.out)
    have E4 : (wr.setCells g (off + (a + i) * 2) [.int .i64 (fld es2 (b + i) 0), .int .i64 (fld es2 (b + i) 1)]).setCells g (off + (b + i) * 2) [.int .i64 (fld es2 (a + i) 0), .int .i64 (fld es2 (a + i) 1)] = ((((wr.setCell ⟨g, off + (a + i) * 2, none⟩ (.int .i64 (fld es2 (b + i) 0))).setCell ⟨g, off + (a + i) * 2 + 1, none⟩ (.int .i64 (fld es2 (b + i) 1))).setCell ⟨g, off + (b + i) * 2, none⟩ (.int .i64 (fld es2 (a + i) 0))).setCell ⟨g, off + (b + i) * 2 + 1, none⟩ (.int .i64 (fld es2 (a + i) 1))) := by simp only [World.setCells, Nat.add_assoc, Nat.reduceAdd]
    rw [E4] at HO4 HG4
    have HO5 := Lib.hid (Own.drew_ HO4.out)
    have HG5 := Lib.hid (Below.drew HG4)
    have HS5 := Lib.hid (HS.out.step (by omega) (by have := HO.out.1; have := HS.out.1; omega))
    clear E4 HO4 HG4 hfz hc
    go_wp2
    go_region
    all_goals
      go_wp2
      go_roundw
      case rel => exact ⟨i + 1, swx es2 (a + i) (b + i), by omega, by go_num, by with_reducible exact HO5, HS5, by with_reducible exact HG5⟩
      case measure => simp [intOf]; omega
end Go.Proofs.Ytlkladabefpnfaa
