/-
  Contracts of the ledger functions of the program and of the reference. No conditions beyond those stated.
-/
import Derived.Test.YtjlmcppkafjniaaGreatW
import Derived.Test.YtjlmcppkafjniaaGreatSl
import Derived.Test.YtjlmcppkafjniaaGreatMk
namespace Go.Proofs.YtjlmcppkafjniaaGreat
open Go.ChangeShapes Go.WideShapes Go.ChangeAt Go.RowKit Go.Deep

section
variable {H : Type} {enc : TypeId × Value → H} {P : Program} {w : World} {base : Nat} {spare : Nat → Bool} {held : Bool}
theorem trod_nat {t : TypeId} {fuel fuel' : Nat} (_ : fuel = fuel') {cs : List Value} {x : DataW H × List MemPlace} (h : DataW.trod enc P w base spare held fuel t cs = some x) : DataW.trod enc P w base spare held fuel' t cs = some x := by subst_vars; exact h
theorem open_cabin {r0 : Reach} {b0 : Nat} {t tL tE e tW t0 t1 q ti : TypeId} {fs0 fsL fsE fsW fsQ : Array Field} {v : Value} {d : DataW H} {p : List MemPlace} (hs : P.underlying t = some (.struct fs0)) (hty : fs0.toList.map (·.type) = [tL, tE, tW]) (hoff : fs0.toList.map (·.offset) = [0, 5, 6])
    (hC : P.cellsOf t = 7) (hCL : P.cellsOf tL = 5) (hCE : P.cellsOf tE = 1) (hCW : P.cellsOf tW = 1) (hti : P.underlying ti = some (.int .i64))
    (hL : P.underlying tL = some (.struct fsL)) (honeL : oneCellFields P fsL = true) (hallL : fsL.toList.all (fun f => f.type == ti) = true) (hszL : fsL.size = 5)
    (hE : P.underlying tE = some (.slice e)) (he : P.underlying e = some (.struct fsE)) (honeE : oneCellFields P fsE = true) (hallE : fsE.toList.all (fun f => f.type == ti) = true) (hCe : P.cellsOf e = fsE.size) (hsE : fsE.size = 4)
    (hW : P.underlying tW = some (.struct fsW)) (honeW : oneCellFields P fsW = true) (htyW : fsW.toList.map (·.type) = [t0])
    (ht0 : P.underlying t0 = some (.slice t1)) (ht1 : P.underlying t1 = some (.slice q)) (hq : P.underlying q = some (.struct fsQ)) (honeQ : oneCellFields P fsQ = true) (hallQ : fsQ.toList.all (fun f => f.type == ti) = true) (hC1 : P.cellsOf t1 = 1) (hCq : P.cellsOf q = fsQ.size) (hsQ : fsQ.size = 2)
    (hv : Value.okWide P w r0 b0 t v) (h : DataW.Trod enc P w base spare held t v d p) :
    ∃ (x0 x1 x2 x3 x4 : Int) (AE : Option Addr) (n c : Nat) (es : List (Nat → Int)) (A : Option Addr) (N cw : Nat) (S : Nat → Sp),
      v = .agg #[.int .i64 x0, .int .i64 x1, .int .i64 x2, .int .i64 x3, .int .i64 x4, .slice AE n c, .slice A N cw] ∧ n ≤ c ∧ c ≤ maxLen ∧ Rd w 4 AE n es ∧ N ≤ cw ∧ cw ≤ maxLen ∧ RdW w A N S := by
  obtain ⟨cs, rfl, hsz⟩ := okWide_struct hs hv
  obtain ⟨fuel, hf⟩ := h
  obtain ⟨xs, n, _, _, _, hlen, hg⟩ := DataW.trod_struct hs hf
  have h3 : fs0.size = 3 := by
    have := congrArg List.length hty
    simpa using this
  obtain ⟨f0, f1, f2, hfs⟩ := len3 (l := fs0.toList) (by simpa using h3)
  rw [hfs] at hty hoff
  simp only [List.map_cons, List.map_nil, List.cons.injEq, and_true] at hty hoff
  obtain ⟨y0, y1, y2⟩ := hty
  obtain ⟨o0, o1, o2⟩ := hoff
  have g : ∀ i (f : Field), fs0.toList[i]? = some f → fs0[i]? = some f := fun i f hh => by rwa [Array.getElem?_toList] at hh
  have e0 := hg 0 f0 (g 0 f0 (by rw [hfs]; rfl))
  have e1 := hg 1 f1 (g 1 f1 (by rw [hfs]; rfl))
  have e2 := hg 2 f2 (g 2 f2 (by rw [hfs]; rfl))
  have hx : ∀ i (hi : i < 3), ∃ z, xs[i]? = some z := fun i hi => ⟨xs[i]'(by omega), List.getElem?_eq_getElem (by omega)⟩
  obtain ⟨z0, hz0⟩ := hx 0 (by omega)
  obtain ⟨z1, hz1⟩ := hx 1 (by omega)
  obtain ⟨z2, hz2⟩ := hx 2 (by omega)
  have hcl : (Value.agg cs).cells.toList.length = 7 := by simpa [Value.cells, hC] using hsz
  obtain ⟨c0, c1, c2, c3, c4, c5, c6, hcs⟩ : ∃ a0 a1 a2 a3 a4 a5 a6, (Value.agg cs).cells.toList = [a0, a1, a2, a3, a4, a5, a6] := by
    match (Value.agg cs).cells.toList, hcl with
    | [a0, a1, a2, a3, a4, a5, a6], _ => exact ⟨a0, a1, a2, a3, a4, a5, a6, rfl⟩
  rw [hcs, y0, o0, hCL, hz0] at e0
  rw [hcs, y1, o1, hCE, hz1] at e1
  rw [hcs, y2, o2, hCW, hz2] at e2
  have e0' : DataW.trod enc P w base spare held n tL [c0, c1, c2, c3, c4] = some z0 := e0
  have e1' : DataW.trod enc P w base spare held n tE [c5] = some z1 := e1
  have e2' : DataW.trod enc P w base spare held n tW [c6] = some z2 := e2
  obtain ⟨xl, nl, _, _, _, hlenL, hgL⟩ := DataW.trod_struct hL e0'
  obtain ⟨zs, hzs, hlz, _⟩ := ints_of_cells hti honeL hallL (cs := [c0, c1, c2, c3, c4]) (by rw [hszL]; rfl) hlenL hgL
  obtain ⟨x0, x1, x2, x3, x4, rfl⟩ := len5 (l := zs) (by rw [hlz, hszL])
  obtain ⟨AE, m, c, es, hv5, k1, k2, k3⟩ := slice_of_trod (t := tE) hE he hti honeE hallE hCe (by omega) e1'
  obtain ⟨xw, nw, _, _, _, hlenW, hgW⟩ := DataW.trod_struct hW e2'
  have h1 : fsW.size = 1 := by
    have := congrArg List.length htyW
    simpa using this
  have hi : (0 : Nat) < fsW.size := by omega
  have hf0 : fsW[0]? = some fsW[0] := Array.getElem?_eq_getElem hi
  have htW : fsW[0].type = t0 := by
    have : (fsW.toList.map (·.type))[0]? = [t0][0]? := by rw [htyW]
    rw [List.getElem?_map, List.getElem?_eq_getElem (by simpa using hi)] at this
    simpa using this
  obtain ⟨ho, hc⟩ := hone_of honeW 0 fsW[0] hf0
  have h2 := hgW 0 fsW[0] hf0
  rw [ho, hc, htW] at h2
  have hxw : xw[0]? = some (xw[0]'(by omega)) := List.getElem?_eq_getElem (by omega)
  rw [hxw] at h2
  obtain ⟨A, N, cw, S, hv6, q1, q2, q3⟩ := wheel_of_trod ht0 ht1 hq hti honeQ hallQ hC1 hCq hsQ (v := c6) (by simpa using h2)
  refine ⟨x0, x1, x2, x3, x4, AE, m, c, es, A, N, cw, S, ?_, k1, k2, by rw [← hsE]; exact k3, q1, q2, q3⟩
  refine congrArg Value.agg (Array.toList_inj.1 ?_)
  have hcs2 : cs.toList = [c0, c1, c2, c3, c4, c5, c6] := by simpa [Value.cells] using hcs
  rw [hcs2, hv5, hv6]
  unfold intsV at hzs
  simp only [List.map_cons, List.map_nil, List.cons.injEq, and_true] at hzs
  obtain ⟨r0, r1, r2, r3, r4⟩ := hzs
  rw [r0, r1, r2, r3, r4]
end
end Go.Proofs.YtjlmcppkafjniaaGreat

namespace Go.Proofs.YtjlmcppkafjniaaGreat
open Go.ChangeShapes Go.WideShapes Go.ChangeAt Go.RowKit

theorem trodAll_5 {H : Type} {enc : TypeId × Value → H} {P : Program} {w : World} {base : Nat} {spare : Nat → Bool} {held : Bool} {t0 t1 t2 t3 t4 : TypeId} {args : Array Value} {ds : List (DataW H)} {ps : List MemPlace}
    (h : DataW.TrodAll enc P w base spare held [t0, t1, t2, t3, t4] args.toList ds ps) :
    ∃ (v0 v1 v2 v3 v4 : Value) (d0 d1 d2 d3 d4 : DataW H), args = #[v0, v1, v2, v3, v4] ∧ ds = [d0, d1, d2, d3, d4] ∧ (∃ p, DataW.Trod enc P w base spare held t0 v0 d0 p) ∧ (∃ p, DataW.Trod enc P w base spare held t1 v1 d1 p) ∧ (∃ p, DataW.Trod enc P w base spare held t2 v2 d2 p) ∧ (∃ p, DataW.Trod enc P w base spare held t3 v3 d3 p) ∧ (∃ p, DataW.Trod enc P w base spare held t4 v4 d4 p) := by
  obtain ⟨v0, r0, d0, s0, p0, q0, ha, rfl, rfl, k0, h⟩ := trodAll_cons h
  obtain ⟨v1, r1, d1, s1, p1, q1, rfl, rfl, rfl, k1, h⟩ := trodAll_cons h
  obtain ⟨v2, r2, d2, s2, p2, q2, rfl, rfl, rfl, k2, h⟩ := trodAll_cons h
  obtain ⟨v3, r3, d3, s3, p3, q3, rfl, rfl, rfl, k3, h⟩ := trodAll_cons h
  obtain ⟨v4, r4, d4, s4, p4, q4, rfl, rfl, rfl, k4, h⟩ := trodAll_cons h
  obtain ⟨rfl, rfl, rfl⟩ := trodAll_nil h
  exact ⟨v0, v1, v2, v3, v4, d0, d1, d2, d3, d4, Array.toList_inj.1 ha, rfl, ⟨p0, k0⟩, ⟨p1, k1⟩, ⟨p2, k2⟩, ⟨p3, k3⟩, ⟨p4, k4⟩⟩
end Go.Proofs.YtjlmcppkafjniaaGreat

namespace Go.Proofs.YtjlmcppkafjniaaGreat
open Go.RowKit

def LOk (t f h s d : Int) : Prop := (1 ≤ t ∧ t ≤ 60) ∧ (0 ≤ f ∧ f ≤ t) ∧ (0 ≤ h ∧ h ≤ t) ∧ (0 ≤ s ∧ s ≤ t) ∧ f + h + s = t ∧ 0 ≤ d ∧ d ≤ s

set_option maxHeartbeats 400000 in
theorem okI_any (t f h s d : Int) (w : World) :
    Calls Tryz.prog 34 #[.agg #[.int .i64 t, .int .i64 f, .int .i64 h, .int .i64 s, .int .i64 d]] w (TFB (LOk t f h s d) w) := by
  go_enter Tryz.func34, Tryz.ntmps34
  go_wp2_with (go_at_call 76; refine (within_any _ _ _ _).mono ?_; rintro e w' (⟨rfl, ⟨h1, h2⟩, rfl⟩ | ⟨rfl, h1, rfl⟩))
  all_goals go_ret
  all_goals first
    | exact .inl ⟨rfl, by unfold LOk; omega, (Below.refl _ _).alloc (Nat.le_refl _) _⟩
    | exact .inr ⟨rfl, by unfold LOk; omega, (Below.refl _ _).alloc (Nat.le_refl _) _⟩

set_option maxHeartbeats 400000 in
theorem okS_any (t f h s d : Int) (w : World) :
    Calls Tryz.prog 88 #[.agg #[.int .i64 t, .int .i64 f, .int .i64 h, .int .i64 s, .int .i64 d]] w (TFB (LOk t f h s d) w) := by
  go_enter Tryz.func88, Tryz.ntmps88
  go_wp2_with (go_at_call 44; refine (l1In_any _ _ _ _).mono ?_; rintro e w' (⟨rfl, ⟨h1, h2⟩, rfl⟩ | ⟨rfl, h1, rfl⟩))
  all_goals go_ret
  all_goals first
    | exact .inl ⟨rfl, by unfold LOk; omega, (Below.refl _ _).alloc (Nat.le_refl _) _⟩
    | exact .inr ⟨rfl, by unfold LOk; omega, (Below.refl _ _).alloc (Nat.le_refl _) _⟩

set_option maxHeartbeats 400000 in
theorem toLedger_any (t f h s d : Int) (w : World) :
    Calls Tryz.prog 56 #[.agg #[.int .i64 t, .int .i64 f, .int .i64 h, .int .i64 s, .int .i64 d]] w fun e w' => e = .returned (.agg #[.int .i64 t, .int .i64 f, .int .i64 h, .int .i64 s, .int .i64 d]) ∧ Below w.heap.size w w' := by
  go_enter Tryz.func56, Tryz.ntmps56
  go_wp2
  refine bodyPost_ret (v := .agg #[.int .i64 t, .int .i64 f, .int .i64 h, .int .i64 s, .int .i64 d]) (by simp [results, Tryz.results56, go_sem]) rfl ⟨rfl, ?_⟩
  (repeat (first | with_reducible exact Below.refl _ _ | with_reducible refine Below.drew ?_ | with_reducible refine below_drewN ?_ _ | (with_reducible refine bel_alloc ?_ ?_ _; (first | omega | (simp; omega) | simp)) | (with_reducible refine bel_set ?_ ?_ _; (first | omega | (simp; omega) | simp)) | (with_reducible refine bel_tr (by assumption) ?_ ?_; (first | omega | (simp; omega) | simp))))

set_option maxHeartbeats 400000 in
theorem eqLedger_any (t f h s d : Int) (w : World) :
    Calls Tryz.prog 61 #[.agg #[.int .i64 t, .int .i64 f, .int .i64 h, .int .i64 s, .int .i64 d], .agg #[.int .i64 t, .int .i64 f, .int .i64 h, .int .i64 s, .int .i64 d]] w fun e w' => e = .returned (.bool true) ∧ Below w.heap.size w w' := by
  go_enter Tryz.func61, Tryz.ntmps61
  go_wp2
  go_ret
  refine ⟨rfl, ?_⟩
  (repeat (first | with_reducible exact Below.refl _ _ | with_reducible refine Below.drew ?_ | with_reducible refine below_drewN ?_ _ | (with_reducible refine bel_alloc ?_ ?_ _; (first | omega | (simp; omega) | simp)) | (with_reducible refine bel_set ?_ ?_ _; (first | omega | (simp; omega) | simp)) | (with_reducible refine bel_tr (by assumption) ?_ ?_; (first | omega | (simp; omega) | simp))))
end Go.Proofs.YtjlmcppkafjniaaGreat
