/-
  Contract of slices.Delete of one element of a slice of structs (Entry). Conditions: the element is there, the row may be written.
-/
import Derived.Test.YtfilagmboeeclaaCu
import Derived.Test.YtfilagmboeeclaaBase
namespace Go.Proofs.Ytfilagmboeeclaa
open Go.RowKit

theorem delEntry_info : (Try.prog.info? 26).map (fun i => (i.zero, i.size, i.bytes)) = some (some (.agg #[.int .i64 0, .int .i64 0, .int .i64 0, .int .i64 0]), 4, 32) := by kernel_rfl
theorem delEntry_zero : ∀ w, (zeroValue 26).run Try.prog w = .ok (.agg #[.int .i64 0, .int .i64 0, .int .i64 0, .int .i64 0]) w := fun _ => by kernel_rfl

set_option maxRecDepth 100000 in
set_option maxHeartbeats 2000000 in
theorem delEntry_any (B g off cap n k : Nat) (es : List (Nat → Int)) (w : World) (hk : k < n) (hnc : n ≤ cap) (hm : cap ≤ 9223372036854775807) (hn : n ≤ 4194304) (h : Own B w 4 (some ⟨g, off, none⟩) n es) :
    Calls Try.prog 20 #[.slice (some ⟨g, off, none⟩) n cap, .int .i64 k, .int .i64 ((k : Int) + 1)] w fun y w' => y = .returned (.slice (some ⟨g, off, none⟩) (n - 1) cap) ∧ Own B w' 4 (some ⟨g, off, none⟩) (n - 1) (cutL es k) ∧ Below B w w' := by
  obtain ⟨i0, hi0, hz0, hz1, hz2⟩ := info_parts delEntry_info
  obtain ⟨zs, hzs⟩ : ∃ zs, zs = (.agg #[.int .i64 0, .int .i64 0, .int .i64 0, .int .i64 0] : Value).cells.toList := ⟨_, rfl⟩
  have hzl : zs.length = 4 := by rw [hzs]; rfl
  have hfin := set2_own (zs := zs) (by omega) hk h hzl
  obtain ⟨hl, h2⟩ := h
  obtain ⟨b, o', he, hlt, hB, hfz, hc⟩ := h2.resolve_left (by omega)
  injection he with he
  injection he with he1 he2
  subst he1 he2
  obtain ⟨news, hnews⟩ : ∃ news, flat 4 (es.drop (k + 1)) = news := ⟨_, rfl⟩
  rw [hnews] at hfin
  have hnl : news.length = (n - (k + 1)) * 4 := by rw [← hnews, flat_len, List.length_drop, hl]
  have s1 : Hid (news.length = (n - (k + 1)) * 4) := hnl
  have s2 : Hid (∀ u ∈ news, u.oneCell' = true) := by rw [← hnews]; exact flat_one 4 _
  have hroom : ∀ o, o < n * 4 → (w.drew.cell? ⟨g, off + o, none⟩).isSome = true := fun o ho => by
    have h1 : o / 4 < n := by omega
    have h3 := hc (o / 4) h1 (o % 4) (Nat.mod_lt _ (by omega))
    have h4 : off + o / 4 * 4 + o % 4 = off + o := by omega
    rw [h4] at h3
    show (w.cell? _).isSome = true
    rw [h3]
    rfl
  have s3 : Hid (∀ t, t < news.length → (w.drew.cell? ⟨g, off + k * 4 + t, none⟩).isSome = true ∧ w.drew.frozen? ⟨g, off + k * 4 + t, none⟩ = false) := by
    intro t ht
    rw [hnl] at ht
    exact ⟨by rw [Nat.add_assoc]; exact hroom _ (by omega), hfz _⟩
  obtain ⟨A, hA, hsrc⟩ : ∃ A : Addr, (if cap = k + 1 then some (⟨g, off, none⟩ : Addr) else some ⟨g, off + (k + 1) * 4, none⟩) = some A ∧ Hid (∀ t u, news[t]? = some u → w.drew.cell? (A.add t) = some u) := by
    by_cases hck : cap = k + 1
    · refine ⟨⟨g, off, none⟩, if_pos hck, fun t u hu => ?_⟩
      have h0 : news.length = 0 := by rw [hnl, show n - (k + 1) = 0 by omega, Nat.zero_mul]
      rw [List.length_eq_zero_iff.1 h0] at hu
      simp at hu
    · refine ⟨⟨g, off + (k + 1) * 4, none⟩, if_neg hck, fun t u hu => ?_⟩
      rw [← hnews] at hu
      refine src_cells (w := w.drew) (n := n - (k + 1)) (by rw [List.length_drop, hl]) (fun i hi j hj => ?_) t u hu
      rw [fld_drop]
      have h3 := hc (k + 1 + i) (by omega) j hj
      have h4 : off + (k + 1 + i) * 4 + j = off + (k + 1) * 4 + i * 4 + j := by omega
      rw [h4] at h3
      exact h3
  obtain ⟨W1, hW1⟩ : ∃ W1, w.drew.setCells g (off + k * 4) news = W1 := ⟨_, rfl⟩
  rw [hW1] at hfin
  have hroom1 : ∀ o, o < n * 4 → (W1.cell? ⟨g, off + o, none⟩).isSome = true := fun o ho => by
    rw [← hW1]
    exact World.isSome_setCells g news _ _ ⟨g, off + o, none⟩ (hroom o ho)
  have hfz1 : ∀ o, W1.frozen? ⟨g, o, none⟩ = false := fun o => by
    rw [← hW1, World.frozen?_setCells]
    exact hfz o
  have e5 : k + (n - (k + 1)) = n - 1 := by omega
  have e6 : n - (k + (n - (k + 1))) = 1 := by omega
  have hcl : ∀ ty c, (Builtin.clear_ #[24] ty #[.slice (some ⟨g, off + (k + (n - (k + 1))) * 4, none⟩) (n - (k + (n - (k + 1)))) c]).run Try.prog W1 = .ok (.tuple #[]) (W1.setCells g (off + (n - 1) * 4) zs) := fun ty c => by
    rw [e5, show n - (n - 1) = 1 by omega, hzs]
    exact run_clear1 W1 _ _ ty _ Try.underlying24 delEntry_zero (by rw [← hzs]; intro u hu; rw [hzs] at hu; simp [Value.cells] at hu; (try rcases hu with rfl | rfl); (try subst hu); rfl) g _ c
      (fun j hj => by rw [← hzs, hzl] at hj; rw [Nat.add_assoc]; exact hroom1 _ (by omega)) (fun j hj => hfz1 _)
  have E5 := Lib.hid e5
  have hcap5 : ¬ (cap = k + (n - (k + 1))) := by omega
  clear e5 e6
  have HFIN := Lib.hid hfin
  have HW1 := Lib.hid hW1
  clear hfin hW1 hnews hnl hroom hroom1 hfz1 hc hfz hzs hzl h2 hlt
  have e1 : IntKind.i64.wrap ((k : Int) + 1) = (k : Int) + 1 := IntWalk.i64_in _ (by omega)
  have e2 : (0 : Int) ≤ (k : Int) + 1 := by omega
  have e3 : ((k : Int) + 1).toNat = k + 1 := by omega
  have hkc : k ≤ cap := by omega
  have hkn : k + 1 ≤ n := by omega
  have hkn' : k + 1 ≤ cap := by omega
  have hne : ¬ ((k : Int) = (k : Int) + 1) := by omega
  have hki : (k : Int) + 1 ≤ (n : Int) := by omega
  go_enter Try.func20, Try.ntmps20
  go_wp2_with fail
  go_region_law (refine step_append_room rfl _ _ 24 rfl 26 i0 4 Try.underlying24 hi0 hz1 g off k cap (by simp [Act.eval, Act.put]) A (n - (k + 1)) (cap - (k + 1)) news (by simp [Act.eval, Act.put]) s1.out hsrc.out s2.out (by omega) s3.out ?_; rw [HW1.out])
  go_wp2
  go_ret
  exact ⟨by rw [E5.out]; rfl, HFIN.out⟩
end Go.Proofs.Ytfilagmboeeclaa
