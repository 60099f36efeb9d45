/-
  An argument of the type House opened: rules, two integers, slices of parties, of cabins and of integers, by value. No conditions beyond closed facts of the program's tables.
-/
import Derived.Test.YtcicldcgibgnfaaHc
import Derived.Test.YtcicldcgibgnfaaOpC
import Derived.Test.YtcicldcgibgnfaaOpR
namespace Go.Proofs.Ytcicldcgibgnfaa
open Go.ChangeShapes Go.WideShapes Go.ChangeAt Go.RowKit Go.Deep

section
variable {H : Type} {enc : TypeId × Value → H} {P : Program} {w : World} {base : Nat} {spare : Nat → Bool} {held : Bool}
/-- The cells of one cabin. -/
theorem cabin_of_trod {t tL tE e tW t0 t1 q ti : TypeId} {fs0 fsL fsE fsW fsQ : Array Field} {cs : List Value} {fuel : Nat} {z : DataW H × List MemPlace} (hs : P.underlying t = some (.struct fs0)) (hty : fs0.toList.map (·.type) = [tL, tE, tW]) (hoff : fs0.toList.map (·.offset) = [0, 5, 6])
    (hCL : P.cellsOf tL = 5) (hCE : P.cellsOf tE = 1) (hCW : P.cellsOf tW = 1) (hti : P.underlying ti = some (.int .i64))
    (hL : P.underlying tL = some (.struct fsL)) (honeL : oneCellFields P fsL = true) (hallL : fsL.toList.all (fun f => f.type == ti) = true) (hszL : fsL.size = 5)
    (hE : P.underlying tE = some (.slice e)) (he : P.underlying e = some (.struct fsE)) (honeE : oneCellFields P fsE = true) (hallE : fsE.toList.all (fun f => f.type == ti) = true) (hCe : P.cellsOf e = fsE.size) (hsE : fsE.size = 4)
    (hW : P.underlying tW = some (.struct fsW)) (honeW : oneCellFields P fsW = true) (htyW : fsW.toList.map (·.type) = [t0])
    (ht0 : P.underlying t0 = some (.slice t1)) (ht1 : P.underlying t1 = some (.slice q)) (hq : P.underlying q = some (.struct fsQ)) (honeQ : oneCellFields P fsQ = true) (hallQ : fsQ.toList.all (fun f => f.type == ti) = true) (hC1 : P.cellsOf t1 = 1) (hCq : P.cellsOf q = fsQ.size) (hsQ : fsQ.size = 2)
    (hcl : cs.length = 7) (hf : DataW.trod enc P w base spare held fuel t cs = some z) :
    ∃ c : Cb, cs = [.int .i64 (c.x 0), .int .i64 (c.x 1), .int .i64 (c.x 2), .int .i64 (c.x 3), .int .i64 (c.x 4), .slice c.E c.n c.c, .slice c.W c.N c.cw] ∧ Rd w 4 c.E c.n c.es ∧ RdW w c.W c.N c.S ∧ c.n ≤ 9223372036854775807 ∧ c.N ≤ 9223372036854775807 := by
  obtain ⟨xs, n, _, _, _, hlen, hg⟩ := DataW.trod_struct hs hf
  have h3 : fs0.size = 3 := by
    have := congrArg List.length hty
    simpa using this
  obtain ⟨f0, f1, f2, hfs⟩ := len3 (l := fs0.toList) (by simpa using h3)
  rw [hfs] at hty hoff
  simp only [List.map_cons, List.map_nil, List.cons.injEq, and_true] at hty hoff
  obtain ⟨y0, y1, y2⟩ := hty
  obtain ⟨o0, o1, o2⟩ := hoff
  have g : ∀ i (f : Field), fs0.toList[i]? = some f → fs0[i]? = some f := fun i f hh => by rwa [Array.getElem?_toList] at hh
  have e0 := hg 0 f0 (g 0 f0 (by rw [hfs]; rfl))
  have e1 := hg 1 f1 (g 1 f1 (by rw [hfs]; rfl))
  have e2 := hg 2 f2 (g 2 f2 (by rw [hfs]; rfl))
  have hx : ∀ i (hi : i < 3), ∃ z, xs[i]? = some z := fun i hi => ⟨xs[i]'(by omega), List.getElem?_eq_getElem (by omega)⟩
  obtain ⟨z0, hz0⟩ := hx 0 (by omega)
  obtain ⟨z1, hz1⟩ := hx 1 (by omega)
  obtain ⟨z2, hz2⟩ := hx 2 (by omega)
  obtain ⟨c0, c1, c2, c3, c4, c5, c6, rfl⟩ : ∃ a0 a1 a2 a3 a4 a5 a6, cs = [a0, a1, a2, a3, a4, a5, a6] := by
    match cs, hcl with
    | [a0, a1, a2, a3, a4, a5, a6], _ => exact ⟨a0, a1, a2, a3, a4, a5, a6, rfl⟩
  rw [y0, o0, hCL, hz0] at e0
  rw [y1, o1, hCE, hz1] at e1
  rw [y2, o2, hCW, hz2] at e2
  have e0' : DataW.trod enc P w base spare held n tL [c0, c1, c2, c3, c4] = some z0 := e0
  have e1' : DataW.trod enc P w base spare held n tE [c5] = some z1 := e1
  have e2' : DataW.trod enc P w base spare held n tW [c6] = some z2 := e2
  obtain ⟨xl, nl, _, _, _, hlenL, hgL⟩ := DataW.trod_struct hL e0'
  obtain ⟨zs, hzs, hlz, _⟩ := ints_of_cells hti honeL hallL (cs := [c0, c1, c2, c3, c4]) (by rw [hszL]; rfl) hlenL hgL
  obtain ⟨x0, x1, x2, x3, x4, rfl⟩ := len5 (l := zs) (by rw [hlz, hszL])
  obtain ⟨AE, m, c, es, rfl, k1, k2, k3⟩ := slice_of_trod (t := tE) hE he hti honeE hallE hCe (by omega) e1'
  obtain ⟨xw, nw, _, _, _, hlenW, hgW⟩ := DataW.trod_struct hW e2'
  have h1 : fsW.size = 1 := by
    have := congrArg List.length htyW
    simpa using this
  have hi : (0 : Nat) < fsW.size := by omega
  have hf0 : fsW[0]? = some fsW[0] := Array.getElem?_eq_getElem hi
  have htW : fsW[0].type = t0 := by
    have : (fsW.toList.map (·.type))[0]? = [t0][0]? := by rw [htyW]
    rw [List.getElem?_map, List.getElem?_eq_getElem (by simpa using hi)] at this
    simpa using this
  obtain ⟨ho, hc⟩ := hone_of honeW 0 fsW[0] hf0
  have h2 := hgW 0 fsW[0] hf0
  rw [ho, hc, htW] at h2
  have hxw : xw[0]? = some (xw[0]'(by omega)) := List.getElem?_eq_getElem (by omega)
  rw [hxw] at h2
  obtain ⟨A, N, cw, S, rfl, q1, q2, q3⟩ := wheel_of_trod ht0 ht1 hq hti honeQ hallQ hC1 hCq hsQ (v := c6) (by simpa using h2)
  unfold intsV at hzs
  simp only [List.map_cons, List.map_nil, List.cons.injEq, and_true] at hzs
  obtain ⟨r0, r1, r2, r3, r4⟩ := hzs
  refine ⟨⟨fun j => [x0, x1, x2, x3, x4].getD j 0, AE, m, c, es, A, N, cw, S⟩, ?_, by rw [← hsE]; exact k3, q3, by unfold maxLen at k2; show m ≤ _; omega, by unfold maxLen at q2; show N ≤ _; omega⟩
  rw [r0, r1, r2, r3, r4]
  rfl

/-- A slice of cabins, as it is read. -/
theorem cabS_of_trod {tC t tL tE e tW t0 t1 q ti : TypeId} {fs0 fsL fsE fsW fsQ : Array Field} {v : Value} {fuel : Nat} {x : DataW H × List MemPlace} (htC : P.underlying tC = some (.slice t)) (hs : P.underlying t = some (.struct fs0)) (hty : fs0.toList.map (·.type) = [tL, tE, tW]) (hoff : fs0.toList.map (·.offset) = [0, 5, 6])
    (hC : P.cellsOf t = 7) (hCL : P.cellsOf tL = 5) (hCE : P.cellsOf tE = 1) (hCW : P.cellsOf tW = 1) (hti : P.underlying ti = some (.int .i64))
    (hL : P.underlying tL = some (.struct fsL)) (honeL : oneCellFields P fsL = true) (hallL : fsL.toList.all (fun f => f.type == ti) = true) (hszL : fsL.size = 5)
    (hE : P.underlying tE = some (.slice e)) (he : P.underlying e = some (.struct fsE)) (honeE : oneCellFields P fsE = true) (hallE : fsE.toList.all (fun f => f.type == ti) = true) (hCe : P.cellsOf e = fsE.size) (hsE : fsE.size = 4)
    (hW : P.underlying tW = some (.struct fsW)) (honeW : oneCellFields P fsW = true) (htyW : fsW.toList.map (·.type) = [t0])
    (ht0 : P.underlying t0 = some (.slice t1)) (ht1 : P.underlying t1 = some (.slice q)) (hq : P.underlying q = some (.struct fsQ)) (honeQ : oneCellFields P fsQ = true) (hallQ : fsQ.toList.all (fun f => f.type == ti) = true) (hC1 : P.cellsOf t1 = 1) (hCq : P.cellsOf q = fsQ.size) (hsQ : fsQ.size = 2)
    (hf : DataW.trod enc P w base spare held fuel tC [v] = some x) :
    ∃ (A : Option Addr) (n c : Nat) (C : Nat → Cb), v = .slice A n c ∧ n ≤ c ∧ c ≤ maxLen ∧ RdC w A n C := by
  rcases open_slice htC hf with ⟨hcs, _⟩ | ⟨a, n, c, m, nn, D, Pl, hcs, hb, hl, hm, hmm, _, hi⟩
  · exact ⟨none, 0, 0, fun _ => ⟨fun _ => 0, none, 0, 0, [], none, 0, 0, fun _ => ⟨none, 0, 0, []⟩⟩, by simpa using hcs, Nat.le_refl _, Nat.zero_le _, .inl rfl, fun i hi => absurd hi (by omega), fun i hi => absurd hi (by omega), fun i hi => absurd hi (by omega)⟩
  · have hcs' : v = .slice (some a) n c := by simpa using hcs
    subst hcs'
    have hlm : n ≤ m := by rw [hmm]; split <;> omega
    have key : ∀ i, ∃ d : Cb, i < n → (∀ j, j < 7 → w.cell? (a.add (i * 7 + j)) = some (d.v j)) ∧ Rd w 4 d.E d.n d.es ∧ RdW w d.W d.N d.S ∧ d.n ≤ 9223372036854775807 ∧ d.N ≤ 9223372036854775807 := by
      intro i
      by_cases hin : i < n
      · obtain ⟨cs', hc, ht'⟩ := hi i (by omega)
        rw [hC] at hc
        obtain ⟨_, hcl, hat⟩ := World.cells?_some hc
        obtain ⟨d, hd, d1, d2, d3⟩ := cabin_of_trod hs hty hoff hCL hCE hCW hti hL honeL hallL hszL hE he honeE hallE hCe hsE hW honeW htyW ht0 ht1 hq honeQ hallQ hC1 hCq hsQ hcl ht'
        refine ⟨d, fun _ => ⟨fun j hj => ?_, d1, d2, d3⟩⟩
        have h1 := hat j hj
        rw [← Go.Deep.add_add, h1]
        subst hd
        match j, hj with
        | 0, _ => rfl
        | 1, _ => rfl
        | 2, _ => rfl
        | 3, _ => rfl
        | 4, _ => rfl
        | 5, _ => rfl
        | 6, _ => rfl
      · exact ⟨⟨fun _ => 0, none, 0, 0, [], none, 0, 0, fun _ => ⟨none, 0, 0, []⟩⟩, fun h => absurd h hin⟩
    obtain ⟨C, hS⟩ := Classical.skolem.1 key
    refine ⟨some a, n, c, C, rfl, hl, hm, ?_, fun i hi => (hS i hi).2.1, fun i hi => (hS i hi).2.2.1, fun i hi => (hS i hi).2.2.2⟩
    rcases Nat.eq_zero_or_pos n with h0 | h0
    · exact .inl h0
    refine .inr ?_
    obtain ⟨b, off, spot⟩ := a
    have hz0 := (hS 0 h0).1 0 (by omega)
    have hspot : spot = none := by
      have := World.cell?_spot hz0
      simpa [Addr.add] using this
    subst hspot
    have hadd : ∀ m, (⟨b, off, none⟩ : Addr).add m = ⟨b, off + m, none⟩ := fun m => by
      unfold Addr.add
      split <;> simp_all
    exact ⟨b, off, rfl, by simpa [hadd] using lt_of_cell hz0, fun i hi j hj => by rw [Nat.add_assoc, ← hadd]; exact (hS i hi).1 j hj⟩

/-- An argument of the type House. -/
theorem open_house {r0 : Reach} {b0 : Nat} {tH tR tP eP tC tI t tL tE e tW t0 t1 q ti : TypeId} {fsH fsR fsP fs0 fsL fsE fsW fsQ : Array Field} {v : Value} {d : DataW H} {p : List MemPlace}
    (hH : P.underlying tH = some (.struct fsH)) (htyH : fsH.toList.map (·.type) = [tR, ti, ti, tP, tC, tI, tI]) (hoffH : fsH.toList.map (·.offset) = [0, 9, 10, 11, 12, 13, 14]) (hCH : P.cellsOf tH = 15) (hCR : P.cellsOf tR = 9) (hCi : P.cellsOf ti = 1) (hCP : P.cellsOf tP = 1) (hCC : P.cellsOf tC = 1) (hCI : P.cellsOf tI = 1)
    (hR : P.underlying tR = some (.struct fsR)) (honeR : oneCellFields P fsR = true) (htyR : fsR.toList.map (·.type) = [tI, ti, ti, ti, ti, ti, ti, ti, ti]) (hI : P.underlying tI = some (.slice ti))
    (hP : P.underlying tP = some (.slice eP)) (heP : P.underlying eP = some (.struct fsP)) (honeP : oneCellFields P fsP = true) (hallP : fsP.toList.all (fun f => f.type == ti) = true) (hCeP : P.cellsOf eP = fsP.size) (hsP : fsP.size = 10)
    (htC : P.underlying tC = some (.slice t)) (hs : P.underlying t = some (.struct fs0)) (hty : fs0.toList.map (·.type) = [tL, tE, tW]) (hoff : fs0.toList.map (·.offset) = [0, 5, 6])
    (hC : P.cellsOf t = 7) (hCL : P.cellsOf tL = 5) (hCE : P.cellsOf tE = 1) (hCW : P.cellsOf tW = 1) (hti : P.underlying ti = some (.int .i64))
    (hL : P.underlying tL = some (.struct fsL)) (honeL : oneCellFields P fsL = true) (hallL : fsL.toList.all (fun f => f.type == ti) = true) (hszL : fsL.size = 5)
    (hE : P.underlying tE = some (.slice e)) (he : P.underlying e = some (.struct fsE)) (honeE : oneCellFields P fsE = true) (hallE : fsE.toList.all (fun f => f.type == ti) = true) (hCe : P.cellsOf e = fsE.size) (hsE : fsE.size = 4)
    (hW : P.underlying tW = some (.struct fsW)) (honeW : oneCellFields P fsW = true) (htyW : fsW.toList.map (·.type) = [t0])
    (ht0 : P.underlying t0 = some (.slice t1)) (ht1 : P.underlying t1 = some (.slice q)) (hq : P.underlying q = some (.struct fsQ)) (honeQ : oneCellFields P fsQ = true) (hallQ : fsQ.toList.all (fun f => f.type == ti) = true) (hC1 : P.cellsOf t1 = 1) (hCq : P.cellsOf q = fsQ.size) (hsQ : fsQ.size = 2)
    (hv : Value.okWide P w r0 b0 tH v) (h : DataW.Trod enc P w base spare held tH v d p) :
    ∃ (A : Option Addr) (n c : Nat) (es : List (Nat → Int)) (r u : Nat → Int) (B : Option Addr) (m pc : Nat) (ps : List (Nat → Int)) (Q : Option Addr) (nq qc : Nat) (C : Nat → Cb) (T : Option Addr) (nt tc : Nat) (ts : List (Nat → Int)) (J : Option Addr) (nj jc : Nat) (js : List (Nat → Int)),
      v = .agg #[.slice A n c, .int .i64 (r 1), .int .i64 (r 2), .int .i64 (r 3), .int .i64 (r 4), .int .i64 (r 5), .int .i64 (r 6), .int .i64 (r 7), .int .i64 (r 8), .int .i64 (u 0), .int .i64 (u 1), .slice B m pc, .slice Q nq qc, .slice T nt tc, .slice J nj jc] ∧
      (n ≤ 9223372036854775807 ∧ m ≤ 9223372036854775807 ∧ nq ≤ 9223372036854775807 ∧ nt ≤ 9223372036854775807 ∧ nj ≤ 9223372036854775807) ∧ Rd w 1 A n es ∧ Rd w 10 B m ps ∧ RdC w Q nq C ∧ Rd w 1 T nt ts ∧ Rd w 1 J nj js := by
  obtain ⟨cs, rfl, hsz⟩ := okWide_struct hH hv
  obtain ⟨fuel, hf⟩ := h
  obtain ⟨xs, k, _, _, _, hlen, hg⟩ := DataW.trod_struct hH hf
  have h7 : fsH.size = 7 := by
    have := congrArg List.length htyH
    simpa using this
  obtain ⟨f0, f1, f2, f3, f4, f5, f6, hfs⟩ : ∃ a0 a1 a2 a3 a4 a5 a6, fsH.toList = [a0, a1, a2, a3, a4, a5, a6] := by
    have hl : fsH.toList.length = 7 := by simpa using h7
    match fsH.toList, hl with
    | [a0, a1, a2, a3, a4, a5, a6], _ => exact ⟨a0, a1, a2, a3, a4, a5, a6, rfl⟩
  rw [hfs] at htyH hoffH
  simp only [List.map_cons, List.map_nil, List.cons.injEq, and_true] at htyH hoffH
  obtain ⟨y0, y1, y2, y3, y4, y5, y6⟩ := htyH
  obtain ⟨o0, o1, o2, o3, o4, o5, o6⟩ := hoffH
  have g : ∀ i (f : Field), fsH.toList[i]? = some f → fsH[i]? = some f := fun i f hh => by rwa [Array.getElem?_toList] at hh
  have e0 := hg 0 f0 (g 0 f0 (by rw [hfs]; rfl))
  have e1 := hg 1 f1 (g 1 f1 (by rw [hfs]; rfl))
  have e2 := hg 2 f2 (g 2 f2 (by rw [hfs]; rfl))
  have e3 := hg 3 f3 (g 3 f3 (by rw [hfs]; rfl))
  have e4 := hg 4 f4 (g 4 f4 (by rw [hfs]; rfl))
  have e5 := hg 5 f5 (g 5 f5 (by rw [hfs]; rfl))
  have e6 := hg 6 f6 (g 6 f6 (by rw [hfs]; rfl))
  have hx : ∀ i (hi : i < 7), ∃ z, xs[i]? = some z := fun i hi => ⟨xs[i]'(by omega), List.getElem?_eq_getElem (by omega)⟩
  obtain ⟨z0, hz0⟩ := hx 0 (by omega)
  obtain ⟨z1, hz1⟩ := hx 1 (by omega)
  obtain ⟨z2, hz2⟩ := hx 2 (by omega)
  obtain ⟨z3, hz3⟩ := hx 3 (by omega)
  obtain ⟨z4, hz4⟩ := hx 4 (by omega)
  obtain ⟨z5, hz5⟩ := hx 5 (by omega)
  obtain ⟨z6, hz6⟩ := hx 6 (by omega)
  have hcl : (Value.agg cs).cells.toList.length = 15 := by simpa [Value.cells, hCH] using hsz
  obtain ⟨c0, c1, c2, c3, c4, c5, c6, c7, c8, c9, c10, c11, c12, c13, c14, hcs⟩ : ∃ a0 a1 a2 a3 a4 a5 a6 a7 a8 a9 a10 a11 a12 a13 a14, (Value.agg cs).cells.toList = [a0, a1, a2, a3, a4, a5, a6, a7, a8, a9, a10, a11, a12, a13, a14] := by
    match (Value.agg cs).cells.toList, hcl with
    | [a0, a1, a2, a3, a4, a5, a6, a7, a8, a9, a10, a11, a12, a13, a14], _ => exact ⟨a0, a1, a2, a3, a4, a5, a6, a7, a8, a9, a10, a11, a12, a13, a14, rfl⟩
  rw [hcs, y0, o0, hCR, hz0] at e0
  rw [hcs, y1, o1, hCi, hz1] at e1
  rw [hcs, y2, o2, hCi, hz2] at e2
  rw [hcs, y3, o3, hCP, hz3] at e3
  rw [hcs, y4, o4, hCC, hz4] at e4
  rw [hcs, y5, o5, hCI, hz5] at e5
  rw [hcs, y6, o6, hCI, hz6] at e6
  have e0' : DataW.trod enc P w base spare held k tR [c0, c1, c2, c3, c4, c5, c6, c7, c8] = some z0 := e0
  have e1' : DataW.trod enc P w base spare held k ti [c9] = some z1 := e1
  have e2' : DataW.trod enc P w base spare held k ti [c10] = some z2 := e2
  have e3' : DataW.trod enc P w base spare held k tP [c11] = some z3 := e3
  have e4' : DataW.trod enc P w base spare held k tC [c12] = some z4 := e4
  have e5' : DataW.trod enc P w base spare held k tI [c13] = some z5 := e5
  have e6' : DataW.trod enc P w base spare held k tI [c14] = some z6 := e6
  obtain ⟨xr, nr, _, _, _, hlenR, hgR⟩ := DataW.trod_struct hR e0'
  have h9 : fsR.size = 9 := by
    have := congrArg List.length htyR
    simpa using this
  obtain ⟨A, n, c, es, r, hrl, i1, i2, i3⟩ := rules_of_cells hti hI hCi honeR htyR (cs := [c0, c1, c2, c3, c4, c5, c6, c7, c8]) (by rw [h9]; rfl) hlenR hgR
  obtain ⟨u0, hu0, _, _⟩ := DataW.trod_int hti e1'
  obtain ⟨u1, hu1, _, _⟩ := DataW.trod_int hti e2'
  obtain ⟨B, m, pc, ps, hv3, j1, j2, j3⟩ := slice_of_trod (t := tP) hP heP hti honeP hallP hCeP (by omega) e3'
  obtain ⟨Q, nq, qc, C, hv4, l1, l2, l3⟩ := cabS_of_trod htC hs hty hoff hC hCL hCE hCW hti hL honeL hallL hszL hE he honeE hallE hCe hsE hW honeW htyW ht0 ht1 hq honeQ hallQ hC1 hCq hsQ e4'
  obtain ⟨T, nt, tc, ts, hv5, m1, m2, m3⟩ := slice_of_trod1 (t := tI) hI hti hCi e5'
  obtain ⟨J, nj, jc, js, hv6, n1, n2, n3⟩ := slice_of_trod1 (t := tI) hI hti hCi e6'
  refine ⟨A, n, c, es, r, (fun j => [u0, u1].getD j 0), B, m, pc, ps, Q, nq, qc, C, T, nt, tc, ts, J, nj, jc, js, ?_, by unfold maxLen at i2 j2 l2 m2 n2; omega, i3, by rw [← hsP]; exact j3, l3, m3, n3⟩
  refine congrArg Value.agg (Array.toList_inj.1 ?_)
  have hcs2 : cs.toList = [c0, c1, c2, c3, c4, c5, c6, c7, c8, c9, c10, c11, c12, c13, c14] := by simpa [Value.cells] using hcs
  simp only [List.cons.injEq, and_true] at hrl hu0 hu1
  obtain ⟨r0, r1, r2, r3, r4, r5, r6, r7, r8⟩ := hrl
  rw [hcs2, hv3, hv4, hv5, hv6, r0, r1, r2, r3, r4, r5, r6, r7, r8, hu0, hu1]
  rfl
end
end Go.Proofs.Ytcicldcgibgnfaa
