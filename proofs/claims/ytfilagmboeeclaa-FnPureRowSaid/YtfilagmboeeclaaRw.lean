/-
  A row made with room, and an append into the room: what the whole block holds. No conditions beyond those stated.
-/
import Derived.Test.YtfilagmboeeclaaApp
import Derived.Test.YtfilagmboeeclaaFill
namespace Go.Proofs.Ytfilagmboeeclaa
open Go.RowKit

section
variable {P : Program} {w : World}
/-- 'make([]T, 0, n)': the block that it makes. -/
theorem wpList_make_cap {ops : Array Oper} {rest : List Oper} {o : Oper} {a : Act} {Q : Exit → Act → World → Prop}
    (hg : o.guard = none) (l c : Operand) (t : TypeId) (hop : o.op = Op.makeSlice t l c)
    (e : TypeId) (i : TypeInfo) (z : Value) (size : Nat) (h1 : P.underlying t = some (.slice e)) (h2 : P.info? e = some i) (h3 : i.zero = some z) (h4 : i.size = size)
    (kl kc : IntKind) (n : Nat) (hl : a.eval l = .int kl 0) (hc : a.eval c = .int kc (n : Int)) (b2 : i.bytes * n ≤ 281474976710656) (b3 : n ≤ 9223372036854775807)
    (hK : wpList P ops Q rest (a.put o.dst (.slice (some ⟨w.heap.size, 0, none⟩) 0 n)) (w.alloc (.cells (madeCells z.cells (n * size)) e))) :
    wpList P ops Q (o :: rest) a w := by
  refine wpList_plain hg fun K hK' => ?_
  subst h4
  have hb : (i.bytes : Int) * (n : Int) ≤ 281474976710656 := by
    have h : ((i.bytes * n : Nat) : Int) ≤ 281474976710656 := by omega
    rwa [Int.natCast_mul] at h
  have hr := run_make (P := P) w t e i z h1 h2 h3 kl kc 0 n (Int.le_refl _) (by omega) hb (by omega)
  simp only [Int.toNat_zero, Int.toNat_natCast] at hr
  unfold Oper.wp
  simp [execOp, hop, hl, hc, hr, Result.andThen]
  exact hK' _ _ hK
/-- 'append(s, x...)' at the head of an empty row with room: what the whole block holds. -/
theorem wpList_append_first {ops : Array Oper} {rest : List Oper} {o : Oper} {a : Act} {Q : Exit → Act → World → Prop} (hgd : o.guard = none) (s x : Operand) (t : TypeId)
    (ho : o.op = .call { callee := .builtin .append, args := #[s, x], argTypes := #[t, t] })
    (e : TypeId) (i : TypeInfo) (K : Nat) (ht : P.underlying t = some (.slice e)) (hi : P.info? e = some i) (hK : i.size = K)
    (g cap : Nat) (cur : Array Value) (hg : w.heap[g]? = some (.cells cur e (0, 0))) (hcur : cur.size = cap * K) (hcm : cap ≤ maxLen) (hs : a.eval s = .slice (some ⟨g, 0, none⟩) 0 cap)
    (A : Option Addr) (n c : Nat) (es : List (Nat → Int)) (hx : a.eval x = .slice A n c) (hr : Rd w K A n es) (hroom : n ≤ cap)
    (h : ∀ w', w'.heap[g]? = some (.cells (flat K es ++ cur.toList.drop (n * K)).toArray e (0, 0)) → w.grownBy w' (some g) → wpList P ops Q rest (a.put o.dst (.slice (some ⟨g, 0, none⟩) n cap)) w') : wpList P ops Q (o :: rest) a w := by
  refine wpList_plain hgd fun K' hK' => ?_
  subst hK
  have hown : w.ownsRow 0 e i.size (.slice (some ⟨g, 0, none⟩) 0 cap) 0 [] := ⟨by simp, .inr ⟨g, cap, cur, rfl, Nat.zero_le _, hg, Nat.zero_le _, hcm, hcur, by simp⟩⟩
  have hfl : (flat i.size es).length = n * i.size := by rw [flat_len, hr.1]
  have key : ∃ w', (Builtin.append_ #[t, t] o.type #[.slice (some ⟨g, 0, none⟩) 0 cap, .slice A n c]).run P w = .ok (.slice (some ⟨g, 0, none⟩) n cap) w' ∧ w'.heap[g]? = some (.cells (flat i.size es ++ cur.toList.drop (n * i.size)).toArray e (0, 0)) ∧ w.grownBy w' (some g) := by
    have fit : ∀ ad : Addr, (∀ j u, (flat i.size es)[j]? = some u → w.cell? (ad.add j) = some u) → ∃ w', (Builtin.append_ #[t, t] o.type #[.slice (some ⟨g, 0, none⟩) 0 cap, .slice (some ad) n c]).run P w = .ok (.slice (some ⟨g, 0, none⟩) n cap) w' ∧ w'.heap[g]? = some (.cells (flat i.size es ++ cur.toList.drop (n * i.size)).toArray e (0, 0)) ∧ w.grownBy w' (some g) := fun ad hc => by
      have hr1 := run_append_room (P := P) w t o.type e i ht hi g 0 cap cur hg ad n c (flat i.size es) hfl hc (flat_one _ _) (by omega) (by rw [hfl, hcur, Nat.zero_mul, Nat.zero_add]; exact Nat.mul_le_mul_right _ hroom)
      rw [hfl, Nat.zero_mul, Nat.zero_add, Nat.zero_add, List.take_zero, List.nil_append] at hr1
      exact ⟨_, hr1, setRow_heap w g cur _ e _ hg, ⟨rfl, rfl, rfl, by simp, fun k _ hk => setRow_other w g k _ (fun e => hk (by simp [e]))⟩⟩
    rcases Nat.eq_zero_or_pos n with h0 | h0
    · subst h0
      have hes : es = [] := List.eq_nil_of_length_eq_zero hr.1
      subst hes
      rcases A with _ | ad
      · exact ⟨w, run_append_nil_src w 0 t o.type e i i.size ht hi _ 0 [] hown c, by rw [hg]; simp [flat], World.grownBy.refl w _⟩
      · exact fit ad (fun j u hu => by simp [flat] at hu)
    · obtain ⟨b, off, rfl, _, hc⟩ := hr.2.resolve_left (by omega)
      exact fit _ (src_cells hr.1 hc)
  obtain ⟨w', hrun, h2, h3⟩ := key
  unfold Oper.wp execOp
  simp only [ho, resolve, invoke, builtin, Sem.run_bind, Sem.run_pure, Result.andThen_ok, List.map_toArray, List.map_cons, List.map_nil, hs, hx, hrun]
  exact hK' _ _ (h w' h2 h3)
end
/-- The row, and zeros behind it. -/
def padZ (es : List (Nat → Int)) (m : Nat) : List (Nat → Int) := es ++ List.replicate m (fun _ => 0)
theorem flat_zeros (K : Nat) : ∀ m, flat K (List.replicate m (fun _ => 0)) = List.replicate (m * K) (Value.int .i64 0)
  | 0 => by simp [flat]
  | m + 1 => by
    rw [List.replicate_succ, flat_cons, flat_zeros K m, Nat.succ_mul, Nat.add_comm, ← List.replicate_append_replicate]
    congr 1
    unfold ecells
    rw [List.map_const', List.length_range]
theorem own_pad {B g N n K : Nat} {w : World} {e : TypeId} {es : List (Nat → Int)} {cur : Array Value} (hcur : cur.toList = List.replicate (N * K) (Value.int .i64 0)) (hl : es.length = n) (hn : n ≤ N) (hN : N ≤ maxLen) (hB : B ≤ g) (h : w.heap[g]? = some (.cells (flat K es ++ cur.toList.drop (n * K)).toArray e (0, 0))) : Own B w K (some ⟨g, 0, none⟩) N (padZ es (N - n)) := by
  have hf : flat K es ++ cur.toList.drop (n * K) = flat K (padZ es (N - n)) := by
    unfold padZ
    rw [flat_append, flat_zeros, hcur, List.drop_replicate, ← Nat.sub_mul]
  rw [hf] at h
  have hp : (padZ es (N - n)).length = N := by unfold padZ; simp [hl]; omega
  have hr : w.ownsRow B e K (.slice (some ⟨g, 0, none⟩) N N) N (flat K (padZ es (N - n))) := ⟨by rw [flat_len, hp], .inr ⟨g, N, _, rfl, hB, h, Nat.le_refl _, hN, by simp [flat_len, hp], List.take_of_length_le (by simp [flat_len, hp])⟩⟩
  obtain ⟨A, c, he, ho⟩ := own_of_row hp hr
  injection he with he _
  exact he ▸ ho
end Go.Proofs.Ytfilagmboeeclaa
