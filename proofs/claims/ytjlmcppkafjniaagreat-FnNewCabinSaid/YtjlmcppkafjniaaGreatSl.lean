/-
  Slices of structs of integer fields as lists: the predicates, how they are kept, and how an argument of such a type is opened.
-/
import Derived.ProofKit
import Derived.SizedLaws
import Derived.Test.YtjlmcppkafjniaaGreatRows
import Derived.WalkKit
import Derived.WalkSpells
import Derived.WalkLawsBesides
import Derived.RegionTactic
import Derived.BigRegion
import Derived.ChangeAlike
import Derived.Lib.Hide
import Derived.Deep.RegionWith
import Derived.Deep.RegionHeld3
import Derived.Deep.Fields
import Derived.Deep.Slices
import Derived.OpenShut
namespace Go.Proofs.YtjlmcppkafjniaaGreat
open Go.ChangeShapes Go.WideShapes Go.ChangeAt Go.RowKit

section
variable {H : Type} {enc : TypeId × Value → H} {P : Program}

theorem trodAll_below (hl : laidOutB P = true) {W W' : World} (hb : Below W.heap.size W W') :
    ∀ {ts : List TypeId} {vs : List Value} {ds : List (DataW H)} {ps : List MemPlace}, ts.all (fun t => P.readableRec t && decide (t < P.types.size)) = true →
      DataW.TrodAll enc P W 0 (fun _ => true) true ts vs ds ps → (∀ x ∈ ps, x.block < W.heap.size) → DataW.TrodAll enc P W' 0 (fun b => decide (b < W.heap.size)) true ts vs ds ps
  | [], _, _, _, _, h, _ => by
    obtain ⟨rfl, rfl, rfl⟩ := trodAll_nil h
    exact trodAll_mk0
  | t :: ts, _, _, _, hp, h, hlt => by
    obtain ⟨v, vs', d, ds', p, q, rfl, rfl, rfl, h1, h2⟩ := trodAll_cons h
    simp only [List.all_cons, Bool.and_eq_true, decide_eq_true_eq] at hp
    exact ⟨p, q, Below.trod hl hp.1.1 hp.1.2 h1 hb (fun x hx => hlt x (List.mem_append_left _ hx)), trodAll_below hl hb hp.2 h2 (fun x hx => hlt x (List.mem_append_right _ hx)), rfl⟩

theorem trodAll_len {w : World} {base : Nat} {spare : Nat → Bool} {held : Bool} : ∀ {ts : List TypeId} {vs : List Value} {ds : List (DataW H)} {ps : List MemPlace}, DataW.TrodAll enc P w base spare held ts vs ds ps → ds.length = ts.length
  | [], _, _, _, h => by
    obtain ⟨rfl, rfl, rfl⟩ := trodAll_nil h
    rfl
  | _ :: _, _, _, _, h => by
    obtain ⟨_, _, _, _, _, _, rfl, rfl, rfl, _, h2⟩ := trodAll_cons h
    simp [trodAll_len h2]

theorem law_frame {C : Checked} {os : Os} {f : FuncId} {fn : Func} {s : ChangeSpec} {tb : TypeId}
    (own : ownKnob C.prog.godebug = none) (started : os.Started) (noInit : C.prog.inits.idxOf? f = none) (hfn : C.prog.funcs[f]? = some fn) (hl : laidOutB C.prog = true)
    (hp : fn.params.toList.all (fun t => C.prog.readableRec t && decide (t < C.prog.types.size)) = true)
    (hr : fn.resultTypes = #[tb]) (hb : C.prog.underlying tb = some .bool) (hv : s.vars = [])
    (hs : ∀ ds : List (DataW H), ds.length = fn.params.toList.length → s.fn H ds = { results := [.lit (.bool true)], args := ds })
    (witness : ∃ (w : World) (tape : Tape) (i : Input), w.os = os ∧ (w.forCall tape i).Shaped C.prog ∧ i.vars = [] ∧ Input.okWide C.prog (w.forCall tape i) .any w.heap.size f i ∧
      s.pre6 enc C.prog fn [] false (w.forCall tape i).memory i.args ∧ ({} : Assume).holds C.prog (lone (Frame.enter C.prog f i.args .normal) [] (w.forCall tape i)))
    (contract : ∀ (W : World) (base : Nat) (args : Array Value) (ds : List (DataW H)) (ps : List MemPlace),
      (∀ (j : Nat) t v, fn.params[j]? = some t → args[j]? = some v → Value.okWide C.prog W .any base t v) →
      DataW.TrodAll enc C.prog W 0 (fun _ => true) true fn.params.toList args.toList ds ps → (∀ x ∈ ps, x.block < W.heap.size) →
      (DataW.weightsEach C.prog fn.params.toList ds).all (· ≤ reachBytes) = true →
      Calls C.prog f args W fun e W' => e = .returned (.bool true) ∧ Below W.heap.size W W') :
    ReturnsInHanded {} C os f .any (s.pre6 enc C.prog fn [] false) (s.post enc C.prog fn false true false false) := by
  refine returnsInHanded_of_change_sized own started noInit hfn witness ?_
  intro W base args ds gs before hval hW _ hsz _
  have hW' := hW
  have hlt : ∀ x ∈ before, x.block < W.heap.size := fun x hx => by simpa using hW'.lt x hx
  obtain ⟨p, q, hA, hV, rfl, hfz, hnd⟩ := hW
  rw [hv] at hV
  obtain ⟨rfl, rfl⟩ := trodVars_none hV
  simp only [List.append_nil] at hW' hlt
  have hz : (DataW.weightsEach C.prog fn.params.toList ds).all (· ≤ reachBytes) = true := by
    have e : s.plain.varTypes C.prog = [] := by
      simp [ChangeSpec.plain, hv, DataSpec.varTypes]
    simpa [e] using hsz
  have hA' : DataW.TrodAll enc C.prog W 0 (fun _ => true) true fn.params.toList args.toList ds p := hA
  have hlen := trodAll_len hA'
  refine (contract W base args ds p hval hA' hlt hz).mono fun e W' ⟨he, hbel⟩ => ⟨_, he, ?_⟩
  have hfs := hs ds hlen
  have hnew := trodAll_below hl hbel hp hA' hlt
  refine ⟨ds, [], p, [], p, [], hW', ?_, ?_, ?_, World.keptBut_mono (fun x hx => ⟨hx, Or.inr (by simpa using hx)⟩) (hbel.frame (· ∈ p)), fun h => by cases h⟩
  · rw [List.append_nil, hfs, hr]
    exact trodAll_mk1 (shut_bool hb true)
  · rw [List.append_nil, hfs]
    exact hnew
  · rw [List.append_nil, hfs, hv]
    rfl
end
end Go.Proofs.YtjlmcppkafjniaaGreat

namespace Go.Proofs.YtjlmcppkafjniaaGreat
open Go.RowKit

theorem below_drewN {B : Nat} {a w : World} (h : Below B a w) (n : Nat) : Below B a (w.drewN n) := ⟨h.os, h.tape, h.output, h.size, h.block⟩
theorem bel_alloc {B : Nat} {a w : World} (hB : B ≤ w.heap.size) (h : Below B a w) (o : Obj) : Below B a (w.alloc o) := h.alloc hB o
theorem bel_set {B : Nat} {a w : World} {p : Addr} (hp : B ≤ p.block) (h : Below B a w) (u : Value) : Below B a (w.setCell p u) := h.setCell hp u
theorem bel_tr {B B' : Nat} {a b c : World} (k : Below B' b c) (hB : B ≤ B') (h : Below B a b) : Below B a c := h.trans (k.mono hB)
theorem bcell {W w1 : World} (hb : Below W.heap.size W w1) : (∀ b o, b < W.heap.size → w1.cell? ⟨b, o, none⟩ = W.cell? ⟨b, o, none⟩) ∧ (∀ b o, b < W.heap.size → w1.frozen? ⟨b, o, none⟩ = W.frozen? ⟨b, o, none⟩) :=
  ⟨fun b o h => hb.cell (p := ⟨b, o, none⟩) h, fun b o h => hb.frozen (p := ⟨b, o, none⟩) h⟩

def TF (P : Prop) (w : World) (e : Ending) (w' : World) : Prop := (e = .returned (.bool true) ∧ P ∧ w = w') ∨ (e = .returned (.bool false) ∧ ¬ P ∧ w = w')
def TFB (P : Prop) (w : World) (e : Ending) (w' : World) : Prop := (e = .returned (.bool true) ∧ P ∧ Below w.heap.size w w') ∨ (e = .returned (.bool false) ∧ ¬ P ∧ Below w.heap.size w w')

set_option maxHeartbeats 400000 in
theorem within_any (n a b : Int) (w : World) :
    Calls Tryz.prog 76 #[.int .i64 n, .int .i64 a, .int .i64 b] w (TF (a ≤ n ∧ n ≤ b) w) := by
  go_enter Tryz.func76, Tryz.ntmps76
  by_cases h1 : a ≤ n <;> by_cases h2 : n ≤ b
  all_goals go_wp2
  all_goals go_ret
  · exact .inl ⟨by simp <;> omega, ⟨h1, h2⟩, rfl⟩
  · exact .inr ⟨by simp <;> omega, by omega, rfl⟩
  · exact .inr ⟨by simp, by omega, rfl⟩
  · exact .inr ⟨by simp, by omega, rfl⟩

set_option maxHeartbeats 400000 in
theorem l1In_any (n a b : Int) (w : World) :
    Calls Tryz.prog 44 #[.int .i64 n, .int .i64 a, .int .i64 b] w (TF (a ≤ n ∧ n ≤ b) w) := by
  go_enter Tryz.func44, Tryz.ntmps44
  by_cases h1 : a ≤ n <;> by_cases h2 : n ≤ b
  all_goals go_wp2
  all_goals go_ret
  · exact .inl ⟨by simp <;> omega, ⟨h1, h2⟩, rfl⟩
  · exact .inr ⟨by simp <;> omega, by omega, rfl⟩
  · exact .inr ⟨by simp, by omega, rfl⟩
  · exact .inr ⟨by simp, by omega, rfl⟩
theorem ty {P : Program} {f : FuncId} {args : Array Value} {w : World} {A : Prop} (c : Calls P f args w (TFB A w)) (h : A) : Calls P f args w fun e w' => e = .returned (.bool true) ∧ Below w.heap.size w w' :=
  c.mono fun _ _ x => x.elim (fun y => ⟨y.1, y.2.2⟩) (fun y => absurd h y.2.1)
theorem tn {P : Program} {f : FuncId} {args : Array Value} {w : World} {A : Prop} (c : Calls P f args w (TFB A w)) (h : ¬ A) : Calls P f args w fun e w' => e = .returned (.bool false) ∧ Below w.heap.size w w' :=
  c.mono fun _ _ x => x.elim (fun y => absurd y.2.1 h) (fun y => ⟨y.1, y.2.2⟩)
theorem sy {P : Program} {f : FuncId} {args : Array Value} {w : World} {A : Prop} (c : Calls P f args w (TF A w)) (h : A) : Calls P f args w fun e w' => e = .returned (.bool true) ∧ w = w' :=
  c.mono fun _ _ x => x.elim (fun y => ⟨y.1, y.2.2⟩) (fun y => absurd h y.2.1)
theorem sn {P : Program} {f : FuncId} {args : Array Value} {w : World} {A : Prop} (c : Calls P f args w (TF A w)) (h : ¬ A) : Calls P f args w fun e w' => e = .returned (.bool false) ∧ w = w' :=
  c.mono fun _ _ x => x.elim (fun y => absurd y.2.1 h) (fun y => ⟨y.1, y.2.2⟩)

end Go.Proofs.YtjlmcppkafjniaaGreat

namespace Go.Proofs.YtjlmcppkafjniaaGreat
open Go.RowKit

def LOk (t f h s d : Int) : Prop := (1 ≤ t ∧ t ≤ 60) ∧ (0 ≤ f ∧ f ≤ t) ∧ (0 ≤ h ∧ h ≤ t) ∧ (0 ≤ s ∧ s ≤ t) ∧ f + h + s = t ∧ 0 ≤ d ∧ d ≤ s

set_option maxHeartbeats 400000 in
theorem okI_any (t f h s d : Int) (w : World) :
    Calls Tryz.prog 34 #[.agg #[.int .i64 t, .int .i64 f, .int .i64 h, .int .i64 s, .int .i64 d]] w (TFB (LOk t f h s d) w) := by
  go_enter Tryz.func34, Tryz.ntmps34
  go_wp2_with (go_at_call 76; refine (within_any _ _ _ _).mono ?_; rintro e w' (⟨rfl, ⟨h1, h2⟩, rfl⟩ | ⟨rfl, h1, rfl⟩))
  all_goals go_ret
  all_goals first
    | exact .inl ⟨rfl, by unfold LOk; omega, (Below.refl _ _).alloc (Nat.le_refl _) _⟩
    | exact .inr ⟨rfl, by unfold LOk; omega, (Below.refl _ _).alloc (Nat.le_refl _) _⟩

set_option maxHeartbeats 400000 in
theorem okS_any (t f h s d : Int) (w : World) :
    Calls Tryz.prog 88 #[.agg #[.int .i64 t, .int .i64 f, .int .i64 h, .int .i64 s, .int .i64 d]] w (TFB (LOk t f h s d) w) := by
  go_enter Tryz.func88, Tryz.ntmps88
  go_wp2_with (go_at_call 44; refine (l1In_any _ _ _ _).mono ?_; rintro e w' (⟨rfl, ⟨h1, h2⟩, rfl⟩ | ⟨rfl, h1, rfl⟩))
  all_goals go_ret
  all_goals first
    | exact .inl ⟨rfl, by unfold LOk; omega, (Below.refl _ _).alloc (Nat.le_refl _) _⟩
    | exact .inr ⟨rfl, by unfold LOk; omega, (Below.refl _ _).alloc (Nat.le_refl _) _⟩

end Go.Proofs.YtjlmcppkafjniaaGreat


namespace Go.Proofs.YtjlmcppkafjniaaGreat
open Go.ChangeShapes Go.WideShapes Go.ChangeAt Go.RowKit Go.Deep

/-- n is a number of Go's int. -/
def I64 (n : Int) : Prop := -9223372036854775808 ≤ n ∧ n ≤ 9223372036854775807

theorem I64.of_wf {n : Int} (h : (Lit.int .i64 n).wf = true) : I64 n := by
  unfold I64
  simpa [Lit.wf, IntKind.min, IntKind.max, IntKind.signed, IntKind.bits] using h

def intsV (zs : List Int) : List Value := zs.map (Value.int .i64)

section
variable {H : Type} {enc : TypeId × Value → H} {P : Program} {w : World} {base : Nat} {spare : Nat → Bool} {held : Bool}

/-- The cells of a struct whose fields are all of Go's int are integers. -/
theorem ints_of_cells {ti : TypeId} {fs : Array Field} (hti : P.underlying ti = some (.int .i64)) (hone : oneCellFields P fs = true) (hall : fs.toList.all (fun f => f.type == ti) = true)
    {cs : List Value} (hlen : cs.length = fs.size) {xs : List (DataW H × List MemPlace)} {n : Nat} (hxl : xs.length = fs.size)
    (hg : ∀ (i : Nat) (f : Field), fs[i]? = some f → DataW.trod enc P w base spare held n f.type ((cs.drop f.offset).take (P.cellsOf f.type)) = xs[i]?) :
    ∃ zs : List Int, cs = intsV zs ∧ zs.length = fs.size ∧ ∀ z ∈ zs, I64 z := by
  have key : ∀ i, i < fs.size → ∃ z, cs[i]? = some (.int .i64 z) ∧ I64 z := by
    intro i hi
    have hf : fs[i]? = some fs[i] := Array.getElem?_eq_getElem hi
    have ht : fs[i].type = ti := by
      have := List.all_eq_true.1 hall fs[i] (by simp)
      simpa using this
    obtain ⟨ho, hc⟩ := hone_of hone i fs[i] hf
    have h1 := hg i fs[i] hf
    rw [ho, hc, ht] at h1
    have hx : xs[i]? = some (xs[i]'(by omega)) := List.getElem?_eq_getElem (by omega)
    have hd : (cs.drop i).take 1 = [cs[i]'(by omega)] := by
      rw [List.drop_eq_getElem_cons (by omega)]
      rfl
    rw [hd, hx] at h1
    obtain ⟨z, hz, _, hwf⟩ := DataW.trod_int hti h1
    refine ⟨z, ?_, I64.of_wf hwf⟩
    rw [List.getElem?_eq_getElem (by omega)]
    simpa using hz
  have hcell : ∀ i (h : i < cs.length), cs[i] = .int .i64 (intOf cs[i]) ∧ I64 (intOf cs[i]) := by
    intro i h
    obtain ⟨z, hz, hw⟩ := key i (by omega)
    rw [List.getElem?_eq_getElem h] at hz
    injection hz with hz
    rw [hz]
    exact ⟨rfl, hw⟩
  refine ⟨cs.map intOf, ?_, by simpa using hlen, ?_⟩
  · unfold intsV
    rw [List.map_map]
    refine List.ext_getElem (by simp) fun i h1 h2 => ?_
    rw [List.getElem_map]
    exact (hcell i h1).1
  · intro z hz
    obtain ⟨i, hi, rfl⟩ := List.mem_iff_getElem.1 hz
    rw [List.getElem_map]
    exact (hcell i (by simpa using hi)).2

/-- A struct of integer fields, by value. -/
theorem open_structI {r : Reach} {b0 : Nat} {t ti : TypeId} {fs : Array Field} {v : Value} {d : DataW H} {p : List MemPlace} (hs : P.underlying t = some (.struct fs)) (hti : P.underlying ti = some (.int .i64))
    (hone : oneCellFields P fs = true) (hall : fs.toList.all (fun f => f.type == ti) = true) (hC : P.cellsOf t = fs.size)
    (hv : Value.okWide P w r b0 t v) (h : DataW.Trod enc P w base spare held t v d p) :
    ∃ zs : List Int, v = .agg (intsV zs).toArray ∧ zs.length = fs.size ∧ ∀ z ∈ zs, I64 z := by
  obtain ⟨cs, rfl, hsz⟩ := okWide_struct hs hv
  obtain ⟨fuel, hf⟩ := h
  obtain ⟨xs, n, _, _, _, hlen, hg⟩ := DataW.trod_struct hs hf
  obtain ⟨zs, hz, hl, hw⟩ := ints_of_cells hti hone hall (cs := (Value.agg cs).cells.toList) (by simpa [Value.cells] using hsz.trans hC) hlen hg
  refine ⟨zs, ?_, hl, hw⟩
  rw [← hz]
  simp [Value.cells]
end

theorem len1 {α : Type _} {l : List α} (h : l.length = 1) : ∃ a0, l = [a0] := by
  match l, h with
  | [a0], _ => exact ⟨a0, rfl⟩
theorem len2 {α : Type _} {l : List α} (h : l.length = 2) : ∃ a0 a1, l = [a0, a1] := by
  match l, h with
  | [a0, a1], _ => exact ⟨a0, a1, rfl⟩
theorem len3 {α : Type _} {l : List α} (h : l.length = 3) : ∃ a0 a1 a2, l = [a0, a1, a2] := by
  match l, h with
  | [a0, a1, a2], _ => exact ⟨a0, a1, a2, rfl⟩
theorem len4 {α : Type _} {l : List α} (h : l.length = 4) : ∃ a0 a1 a2 a3, l = [a0, a1, a2, a3] := by
  match l, h with
  | [a0, a1, a2, a3], _ => exact ⟨a0, a1, a2, a3, rfl⟩
theorem len5 {α : Type _} {l : List α} (h : l.length = 5) : ∃ a0 a1 a2 a3 a4, l = [a0, a1, a2, a3, a4] := by
  match l, h with
  | [a0, a1, a2, a3, a4], _ => exact ⟨a0, a1, a2, a3, a4, rfl⟩
theorem len10 {α : Type _} {l : List α} (h : l.length = 10) : ∃ a0 a1 a2 a3 a4 a5 a6 a7 a8 a9, l = [a0, a1, a2, a3, a4, a5, a6, a7, a8, a9] := by
  match l, h with
  | [a0, a1, a2, a3, a4, a5, a6, a7, a8, a9], _ => exact ⟨a0, a1, a2, a3, a4, a5, a6, a7, a8, a9, rfl⟩
end Go.Proofs.YtjlmcppkafjniaaGreat

namespace Go.Proofs.YtjlmcppkafjniaaGreat
open Go.ChangeShapes Go.WideShapes Go.ChangeAt Go.RowKit Go.Deep

def zf : Nat → Int := fun _ => 0
/-- Field j of element i. -/
def fld (es : List (Nat → Int)) (i j : Nat) : Int := (es.getD i zf) j

/-- The slice with address A and length n reads as es, k cells an element. -/
def Rd (w : World) (k : Nat) (A : Option Addr) (n : Nat) (es : List (Nat → Int)) : Prop :=
  es.length = n ∧ (n = 0 ∨ ∃ b off, A = some ⟨b, off, none⟩ ∧ b < w.heap.size ∧ ∀ i, i < n → ∀ j, j < k → w.cell? ⟨b, off + i * k + j, none⟩ = some (.int .i64 (fld es i j)))

/-- The same in a block from B on that is not frozen. -/
def Own (B : Nat) (w : World) (k : Nat) (A : Option Addr) (n : Nat) (es : List (Nat → Int)) : Prop :=
  es.length = n ∧ (n = 0 ∨ ∃ b off, A = some ⟨b, off, none⟩ ∧ b < w.heap.size ∧ B ≤ b ∧ (∀ o, w.frozen? ⟨b, o, none⟩ = false) ∧ ∀ i, i < n → ∀ j, j < k → w.cell? ⟨b, off + i * k + j, none⟩ = some (.int .i64 (fld es i j)))

theorem lt_of_cell {w : World} {a : Addr} {v : Value} (h : w.cell? a = some v) : a.block < w.heap.size := by
  unfold World.cell? at h
  split at h
  · rename_i hb
    exact (Array.getElem?_eq_some_iff.1 hb).1
  · cases h

section
variable {w w' : World} {B B' k n : Nat} {A : Option Addr} {es : List (Nat → Int)}
theorem Own.rd (h : Own B w k A n es) : Rd w k A n es := ⟨h.1, h.2.imp id fun ⟨b, off, h1, h2, _, _, h5⟩ => ⟨b, off, h1, h2, h5⟩⟩
theorem Own.mono (h : Own B w k A n es) (hB : B' ≤ B) : Own B' w k A n es := ⟨h.1, h.2.imp id fun ⟨b, off, h1, h2, h3, h4, h5⟩ => ⟨b, off, h1, h2, Nat.le_trans hB h3, h4, h5⟩⟩
theorem Rd.below (h : Rd w k A n es) (hb : Below w.heap.size w w') : Rd w' k A n es :=
  ⟨h.1, h.2.imp id fun ⟨b, off, h1, h2, h5⟩ => ⟨b, off, h1, Nat.lt_of_lt_of_le h2 hb.size, fun i hi j hj => (hb.cell (p := ⟨b, _, none⟩) h2).trans (h5 i hi j hj)⟩⟩
theorem Own.below (h : Own B w k A n es) (hb : Below w.heap.size w w') : Own B w' k A n es :=
  ⟨h.1, h.2.imp id fun ⟨b, off, h1, h2, h3, h4, h5⟩ => ⟨b, off, h1, Nat.lt_of_lt_of_le h2 hb.size, h3, fun o => (hb.frozen (p := ⟨b, o, none⟩) h2).trans (h4 o), fun i hi j hj => (hb.cell (p := ⟨b, _, none⟩) h2).trans (h5 i hi j hj)⟩⟩
/-- A slice below B is kept while only blocks from B on turn. -/
theorem Rd.belowB (h : Rd w k A n es) (hlt : ∀ a, n ≠ 0 → A = some a → a.block < B) (hb : Below B w w') : Rd w' k A n es := by
  refine ⟨h.1, ?_⟩
  rcases Nat.eq_zero_or_pos n with h0 | h0
  · exact .inl h0
  · obtain ⟨b, off, h1, h2, h5⟩ := h.2.resolve_left (by omega)
    have hl := hlt _ (by omega) h1
    exact .inr ⟨b, off, h1, Nat.lt_of_lt_of_le h2 hb.size, fun i hi j hj => (hb.cell (p := ⟨b, off + i * k + j, none⟩) hl).trans (h5 i hi j hj)⟩
/-- A store into a block below B. -/
theorem Own.set_ {p : Addr} (hp : p.block < B) (h : Own B w k A n es) (v : Value) : Own B (w.setCell p v) k A n es :=
  ⟨h.1, h.2.imp id fun ⟨b, off, h1, h2, h3, h4, h5⟩ => by
    have hne : b ≠ p.block := by omega
    have hh := Below.heap_setCell w p v b hne
    exact ⟨b, off, h1, by simpa [World.setCell] using h2, h3, fun o => (World.frozen?_of_block (w := w) (w' := w.setCell p v) (a := ⟨b, o, none⟩) hh).trans (h4 o), fun i hi j hj => (World.cell?_of_block (w := w) (w' := w.setCell p v) (a := ⟨b, _, none⟩) hh).trans (h5 i hi j hj)⟩⟩
theorem Own.alloc_ (h : Own B w k A n es) (o : Obj) : Own B (w.alloc o) k A n es := h.below ((Below.refl _ _).alloc (Nat.le_refl _) o)
theorem Own.drew_ (h : Own B w k A n es) : Own B w.drew k A n es := h
theorem Rd.blk (h : Rd w k A n es) : ∀ a, n ≠ 0 → A = some a → a.block < w.heap.size := by
  intro a hn ha
  obtain ⟨b, off, h1, h2, _⟩ := h.2.resolve_left hn
  rw [ha] at h1
  injection h1 with h1
  rw [h1]
  exact h2
end

theorem rd_of_key {w : World} {a : Addr} {n K : Nat} (hs0 : 0 < K) (key : ∀ i, i < n → ∃ zs : List Int, zs.length = K ∧ ∀ j, j < K → w.cell? (a.add (i * K + j)) = some (.int .i64 (zs.getD j 0))) :
    ∃ es : List (Nat → Int), Rd w K (some a) n es := by
  refine ⟨(List.range n).map (fun i => fun j => match w.cell? (a.add (i * K + j)) with | some (.int _ z) => z | _ => 0), by simp, ?_⟩
  rcases Nat.eq_zero_or_pos n with h0 | h0
  · exact .inl h0
  refine .inr ?_
  obtain ⟨b, off, spot⟩ := a
  obtain ⟨z0, _, hz0⟩ := key 0 h0
  have hspot : spot = none := by
    have := World.cell?_spot (hz0 0 hs0)
    simpa [Addr.add] using this
  subst hspot
  have hadd : ∀ m, (⟨b, off, none⟩ : Addr).add m = ⟨b, off + m, none⟩ := fun m => by
    unfold Addr.add
    split <;> simp_all
  refine ⟨b, off, rfl, by simpa [hadd] using lt_of_cell (hz0 0 hs0), fun i hi j hj => ?_⟩
  obtain ⟨zs, _, hz⟩ := key i hi
  have h1 := hz j hj
  have h2 : fld ((List.range n).map (fun i => fun j => match w.cell? ((⟨b, off, none⟩ : Addr).add (i * K + j)) with | some (.int _ z) => z | _ => 0)) i j = zs.getD j 0 := by
    unfold fld
    rw [List.getD_eq_getElem?_getD, List.getElem?_map, List.getElem?_range hi]
    simp only [Option.map_some, Option.getD_some, h1]
  rw [h2, ← h1, hadd, Nat.add_assoc]

section
variable {H : Type} {enc : TypeId × Value → H} {P : Program} {w : World} {base : Nat} {spare : Nat → Bool} {held : Bool}

/-- A slice of structs of integer fields, as it is read. -/
theorem slice_of_trod {t e ti : TypeId} {fs : Array Field} {v : Value} {fuel : Nat} {x : DataW H × List MemPlace} (ht : P.underlying t = some (.slice e)) (he : P.underlying e = some (.struct fs)) (hti : P.underlying ti = some (.int .i64))
    (hone : oneCellFields P fs = true) (hall : fs.toList.all (fun f => f.type == ti) = true) (hC : P.cellsOf e = fs.size) (hs0 : 0 < fs.size)
    (hf : DataW.trod enc P w base spare held fuel t [v] = some x) :
    ∃ (A : Option Addr) (n c : Nat) (es : List (Nat → Int)), v = .slice A n c ∧ n ≤ c ∧ c ≤ maxLen ∧ Rd w fs.size A n es := by
  rcases open_slice ht hf with ⟨hcs, _⟩ | ⟨a, n, c, m, nn, D, Pl, hcs, hb, hl, hm, hmm, _, hi⟩
  · exact ⟨none, 0, 0, [], by simpa using hcs, Nat.le_refl _, Nat.zero_le _, rfl, .inl rfl⟩
  · have hcs' : v = .slice (some a) n c := by simpa using hcs
    subst hcs'
    have hlm : n ≤ m := by rw [hmm]; split <;> omega
    have key : ∀ i, i < n → ∃ zs : List Int, zs.length = fs.size ∧ ∀ j, j < fs.size → w.cell? (a.add (i * fs.size + j)) = some (.int .i64 (zs.getD j 0)) := by
      intro i hin
      obtain ⟨cs', hc, ht'⟩ := hi i (by omega)
      rw [hC] at hc
      obtain ⟨xs, n', _, _, _, hyl, hg⟩ := DataW.trod_struct he ht'
      obtain ⟨_, hcl, hat⟩ := World.cells?_some hc
      obtain ⟨zs, hz, hzl, _⟩ := ints_of_cells hti hone hall hcl hyl hg
      refine ⟨zs, hzl, fun j hj => ?_⟩
      have h1 := hat j hj
      rw [← Go.Deep.add_add, h1]
      subst hz
      have hj2 : j < zs.length := by omega
      simp [intsV, List.getD_eq_getElem?_getD, List.getElem?_eq_getElem hj2]
    obtain ⟨es, hr⟩ := rd_of_key hs0 key
    exact ⟨some a, n, c, es, rfl, hl, hm, hr⟩

/-- A slice of integers, as it is read. -/
theorem slice_of_trod1 {t ti : TypeId} {v : Value} {fuel : Nat} {x : DataW H × List MemPlace} (ht : P.underlying t = some (.slice ti)) (hti : P.underlying ti = some (.int .i64)) (hC : P.cellsOf ti = 1)
    (hf : DataW.trod enc P w base spare held fuel t [v] = some x) :
    ∃ (A : Option Addr) (n c : Nat) (es : List (Nat → Int)), v = .slice A n c ∧ n ≤ c ∧ c ≤ maxLen ∧ Rd w 1 A n es := by
  rcases open_slice ht hf with ⟨hcs, _⟩ | ⟨a, n, c, m, nn, D, Pl, hcs, hb, hl, hm, hmm, _, hi⟩
  · exact ⟨none, 0, 0, [], by simpa using hcs, Nat.le_refl _, Nat.zero_le _, rfl, .inl rfl⟩
  · have hcs' : v = .slice (some a) n c := by simpa using hcs
    subst hcs'
    have hlm : n ≤ m := by rw [hmm]; split <;> omega
    have key : ∀ i, i < n → ∃ zs : List Int, zs.length = 1 ∧ ∀ j, j < 1 → w.cell? (a.add (i * 1 + j)) = some (.int .i64 (zs.getD j 0)) := by
      intro i hin
      obtain ⟨cs', hc, ht'⟩ := hi i (by omega)
      rw [hC] at hc
      obtain ⟨z, hz, _, _⟩ := DataW.trod_int hti ht'
      obtain ⟨_, hcl, hat⟩ := World.cells?_some hc
      refine ⟨[z], rfl, fun j hj => ?_⟩
      have h1 := hat j hj
      rw [← Go.Deep.add_add, h1]
      subst hz
      obtain rfl : j = 0 := by omega
      rfl
    obtain ⟨es, hr⟩ := rd_of_key (by omega) key
    exact ⟨some a, n, c, es, rfl, hl, hm, hr⟩

/-- An argument that is a slice of structs of integer fields. -/
theorem open_sliceI {r : Reach} {b0 : Nat} {t e ti : TypeId} {fs : Array Field} {v : Value} {d : DataW H} {p : List MemPlace} (ht : P.underlying t = some (.slice e)) (he : P.underlying e = some (.struct fs)) (hti : P.underlying ti = some (.int .i64))
    (hone : oneCellFields P fs = true) (hall : fs.toList.all (fun f => f.type == ti) = true) (hC : P.cellsOf e = fs.size) (hs0 : 0 < fs.size)
    (hv : Value.okWide P w r b0 t v) (h : DataW.Trod enc P w base spare held t v d p) :
    ∃ (A : Option Addr) (n c : Nat) (es : List (Nat → Int)), v = .slice A n c ∧ n ≤ c ∧ c ≤ maxLen ∧ Rd w fs.size A n es := by
  obtain ⟨A, n, c, rfl⟩ := okWide_slice ht hv
  obtain ⟨fuel, hf⟩ := h
  exact slice_of_trod ht he hti hone hall hC hs0 (by simpa [Value.cells] using hf)

/-- An argument that is a slice of integers. -/
theorem open_sliceN {r : Reach} {b0 : Nat} {t ti : TypeId} {v : Value} {d : DataW H} {p : List MemPlace} (ht : P.underlying t = some (.slice ti)) (hti : P.underlying ti = some (.int .i64)) (hC : P.cellsOf ti = 1)
    (hv : Value.okWide P w r b0 t v) (h : DataW.Trod enc P w base spare held t v d p) :
    ∃ (A : Option Addr) (n c : Nat) (es : List (Nat → Int)), v = .slice A n c ∧ n ≤ c ∧ c ≤ maxLen ∧ Rd w 1 A n es := by
  obtain ⟨A, n, c, rfl⟩ := okWide_slice ht hv
  obtain ⟨fuel, hf⟩ := h
  exact slice_of_trod1 ht hti hC (by simpa [Value.cells] using hf)
end
end Go.Proofs.YtjlmcppkafjniaaGreat
