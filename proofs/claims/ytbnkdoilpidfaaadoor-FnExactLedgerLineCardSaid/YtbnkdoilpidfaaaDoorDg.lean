/-
  Digits of numbers up to 60, of the program and of the reference. Conditions: 0 ≤ n ≤ 60.
-/
import Derived.Test.YtbnkdoilpidfaaaDoorLed
import Derived.Laws.BytesArg
import Derived.Test.YtbnkdoilpidfaaaDoorBw
namespace Go.Proofs.YtbnkdoilpidfaaaDoor
open Go.RowKit

/-- The text of a number up to 60. -/
def digS (n : Nat) : ByteArray := if n < 10 then ⟨#[UInt8.ofNat (48 + n)]⟩ else ⟨#[UInt8.ofNat (48 + n / 10), UInt8.ofNat (48 + n % 10)]⟩
theorem dig_lo : ∀ n, n < 10 → ({ data := #[48, 49, 50, 51, 52, 53, 54, 55, 56, 57, 97, 98, 99, 100, 101, 102, 103, 104, 105, 106, 107, 108, 109, 110, 111, 112, 113, 114, 115, 116, 117, 118, 119, 120, 121, 122] } : ByteArray).extract n (n + 1) = digS n := by decide +kernel

theorem dig_hi : ∀ n, n < 61 → 10 ≤ n → (⟨#[48, 48, 48, 49, 48, 50, 48, 51, 48, 52, 48, 53, 48, 54, 48, 55, 48, 56, 48, 57, 49, 48, 49, 49, 49, 50, 49, 51, 49, 52, 49, 53, 49, 54, 49, 55, 49, 56, 49, 57, 50, 48, 50, 49, 50, 50, 50, 51, 50, 52, 50, 53, 50, 54, 50, 55, 50, 56, 50, 57, 51, 48, 51, 49, 51, 50, 51, 51, 51, 52, 51, 53, 51, 54, 51, 55, 51, 56, 51, 57, 52, 48, 52, 49, 52, 50, 52, 51, 52, 52, 52, 53, 52, 54, 52, 55, 52, 56, 52, 57, 53, 48, 53, 49, 53, 50, 53, 51, 53, 52, 53, 53, 53, 54, 53, 55, 53, 56, 53, 57, 54, 48, 54, 49, 54, 50, 54, 51, 54, 52, 54, 53, 54, 54, 54, 55, 54, 56, 54, 57, 55, 48, 55, 49, 55, 50, 55, 51, 55, 52, 55, 53, 55, 54, 55, 55, 55, 56, 55, 57, 56, 48, 56, 49, 56, 50, 56, 51, 56, 52, 56, 53, 56, 54, 56, 55, 56, 56, 56, 57, 57, 48, 57, 49, 57, 50, 57, 51, 57, 52, 57, 53, 57, 54, 57, 55, 57, 56, 57, 57]⟩ : ByteArray).extract (n * 2) (n * 2 + 2) = digS n := by decide +kernel
theorem dig_st1 : ∀ n : Nat, n < 10 → strOfNums [48 + (n : Int)] ++ (⟨#[]⟩ : ByteArray) = digS n := by decide +kernel
theorem dig_st2 : ∀ n : Nat, n < 61 → 10 ≤ n → strOfNums [48 + ((n / 10 : Nat) : Int)] ++ (strOfNums [48 + ((n % 10 : Nat) : Int)] ++ (⟨#[]⟩ : ByteArray)) = digS n := by decide +kernel

set_option maxHeartbeats 1000000 in
theorem small_lo (n : Nat) (w : World) (hn : n < 10) :
    Calls Tryd.prog 16 #[.int .i64 n] w fun x w' => x = .returned (.string (digS n)) ∧ w = w' := by
  have h1 : (n : Int) < 10 := by omega
  go_enter Tryd.func16, Tryd.ntmps16
  go_wp2
  go_ret
  exact ⟨congrArg (fun b => Ending.returned (Value.string b)) (dig_lo n hn), rfl⟩

set_option maxRecDepth 100000 in
set_option maxHeartbeats 4000000 in
theorem small_hi (n : Nat) (w : World) (hn : ¬ n < 10) (h6 : n ≤ 60) :
    Calls Tryd.prog 16 #[.int .i64 n] w fun x w' => x = .returned (.string (digS n)) ∧ w = w' := by
  have h1 : ¬ (n : Int) < 10 := by omega
  have h2 : (n : Int) ≤ 60 := by omega
  go_enter Tryd.func16, Tryd.ntmps16
  dsimp only [List.append]
  go_wp2
  go_ret
  exact ⟨congrArg (fun b => Ending.returned (Value.string b)) (dig_hi n (by omega) (by omega)), rfl⟩

set_option maxHeartbeats 1000000 in
theorem fmt_any (n : Nat) (w : World) (h6 : n ≤ 60) :
    Calls Tryd.prog 15 #[.int .i64 n, .int .i64 10] w fun x w' => x = .returned (.string (digS n)) ∧ w = w' := by
  have h1 : (n : Int) < 100 := by omega
  have h2 : (0 : Int) ≤ (n : Int) := by omega
  by_cases hn : n < 10
  · go_enter Tryd.func15, Tryd.ntmps15
    go_wp2_with fail
    refine (small_lo n _ hn).mono ?_
    rintro y _ ⟨rfl, rfl⟩
    go_wp2
    go_ret
    exact ⟨rfl, rfl⟩
  · go_enter Tryd.func15, Tryd.ntmps15
    go_wp2_with fail
    refine (small_hi n _ hn h6).mono ?_
    rintro y _ ⟨rfl, rfl⟩
    go_wp2
    go_ret
    exact ⟨rfl, rfl⟩

set_option maxHeartbeats 1000000 in
theorem itoa_any (n : Nat) (w : World) (h6 : n ≤ 60) :
    Calls Tryd.prog 14 #[.int .i64 n] w fun x w' => x = .returned (.string (digS n)) ∧ w = w' := by
  go_enter Tryd.func14, Tryd.ntmps14
  go_wp2_with fail
  refine (fmt_any n _ h6).mono ?_
  rintro y _ ⟨rfl, rfl⟩
  go_wp2
  go_ret
  exact ⟨rfl, rfl⟩

set_option maxHeartbeats 1000000 in
theorem itoa2_any (n : Nat) (w : World) (h6 : n ≤ 60) :
    Calls Tryd.prog 13 #[.int .i64 n] w fun x w' => x = .returned (.string (digS n)) ∧ w = w' := by
  go_enter Tryd.func13, Tryd.ntmps13
  go_wp2_with fail
  refine (itoa_any n _ h6).mono ?_
  rintro y _ ⟨rfl, rfl⟩
  go_wp2
  go_ret
  exact ⟨rfl, rfl⟩

set_option maxHeartbeats 1000000 in
theorem iDigits_any (n : Nat) (w : World) (h6 : n ≤ 60) :
    Calls Tryd.prog 10 #[.int .i64 n] w fun x w' => x = .returned (.string (digS n)) ∧ w = w' := by
  go_enter Tryd.func10, Tryd.ntmps10
  go_wp2_with fail
  refine (itoa2_any n _ h6).mono ?_
  rintro y _ ⟨rfl, rfl⟩
  go_wp2
  go_ret
  exact ⟨rfl, rfl⟩

set_option maxHeartbeats 2000000 in
theorem dig_s1 (n : Nat) (w : World) (h0 : 0 < n) (hn : n < 10) :
    Calls Tryd.prog 8 #[.int .i64 n] w fun x w' => x = .returned (.string (digS n)) ∧ Below w.heap.size w w' := by
  have h1 : ¬ (n : Int) < 0 := by omega
  have h2 : ¬ (n : Int) = 0 := by omega
  have h3 : (n : Int).tmod 10 = n := by rw [Int.tmod_eq_emod_of_nonneg (by omega)]; omega
  have h4 : (n : Int).tdiv 10 = 0 := by rw [Int.tdiv_eq_ediv_of_nonneg (by omega)]; omega
  have h5 := Lib.hid (dig_st1 n hn)
  go_enter Tryd.func8, Tryd.ntmps8
  go_wp2
  go_loopw [0, 4, 5] (fun s0 s4 s5 wr => (s0 = .int .i64 n ∧ s4 = .string ⟨#[]⟩ ∨ s0 = .int .i64 0 ∧ s4 = .string (digS n)) ∧ Below w.heap.size w wr) (fun s0 _ _ _ => (intOf s0).toNat)
  case atStart => exact ⟨.inl ⟨rfl, rfl⟩, Below.refl _ _⟩
  case round =>
    obtain ⟨⟨rfl, rfl⟩ | ⟨rfl, rfl⟩, hb⟩ := hrel
    · skip
      have hs := hb.size
      go_wp2
      rw [run_convert_bytes_arg (P := Tryd.prog) _ 31 5 Tryd.underlying31 Tryd.underlying5 wr.heap.size 0 1 1 [48 + (n : Int)] rfl (fun i hi => by (obtain rfl : i = 0 := (by omega)); first | (go_keep; done) | (go_simp; done) | simp) 9 Tryd.underlying9]
      go_wp2
      go_roundw
      case rel => exact ⟨.inr ⟨rfl, congrArg Value.string h5.out⟩, by (repeat (first | with_reducible exact Below.refl _ _ | with_reducible refine Below.drew ?_ | with_reducible refine below_drewN ?_ _ | (with_reducible refine bel_alloc ?_ ?_ _; (first | omega | (simp; omega) | simp)) | (with_reducible refine bel_set ?_ ?_ _; (first | omega | (simp; omega) | simp)) | (with_reducible refine bel_tr (by assumption) ?_ ?_; (first | omega | (simp; omega) | simp))))⟩
      case measure => simp [intOf] <;> omega
    · go_wp2
      go_ret
      exact ⟨rfl, hb⟩

set_option maxHeartbeats 2000000 in
theorem dig_s2 (n : Nat) (w : World) (hn : 10 ≤ n) (h6 : n ≤ 60) :
    Calls Tryd.prog 8 #[.int .i64 n] w fun x w' => x = .returned (.string (digS n)) ∧ Below w.heap.size w w' := by
  have h1 : ¬ (n : Int) < 0 := by omega
  have h2 : ¬ (n : Int) = 0 := by omega
  have h5 := Lib.hid (dig_st2 n (by omega) hn)
  obtain ⟨q, hq⟩ : ∃ q : Nat, n / 10 = q := ⟨_, rfl⟩
  obtain ⟨u, hu⟩ : ∃ u : Nat, n % 10 = u := ⟨_, rfl⟩
  have hq1 : 1 ≤ q := by omega
  have hq6 : q ≤ 6 := by omega
  have hu9 : u ≤ 9 := by omega
  have h3 : (n : Int).tmod 10 = u := by rw [Int.tmod_eq_emod_of_nonneg (by omega)]; omega
  have h4 : (n : Int).tdiv 10 = q := by rw [Int.tdiv_eq_ediv_of_nonneg (by omega)]; omega
  have h6 : (q : Int).tmod 10 = q := by rw [Int.tmod_eq_emod_of_nonneg (by omega)]; omega
  have h7 : (q : Int).tdiv 10 = 0 := by rw [Int.tdiv_eq_ediv_of_nonneg (by omega)]; omega
  have h8 : ¬ (q : Int) = 0 := by omega
  rw [hq, hu] at h5
  have hnq : n = 10 * q + u := by omega
  have hqn : q < n := by omega
  clear hq hu hnq
  go_enter Tryd.func8, Tryd.ntmps8
  go_wp2
  go_loopw [0, 4, 5] (fun s0 s4 s5 wr => (s0 = .int .i64 n ∧ s4 = .string ⟨#[]⟩ ∨ s0 = .int .i64 (q : Nat) ∧ s4 = .string (strOfNums [48 + (u : Int)] ++ ⟨#[]⟩) ∨ s0 = .int .i64 0 ∧ s4 = .string (digS n)) ∧ Below w.heap.size w wr) (fun s0 _ _ _ => (intOf s0).toNat)
  case atStart => exact ⟨.inl ⟨rfl, rfl⟩, Below.refl _ _⟩
  case round =>
    obtain ⟨⟨rfl, rfl⟩ | ⟨rfl, rfl⟩ | ⟨rfl, rfl⟩, hb⟩ := hrel
    · skip
      have hs := hb.size
      go_wp2
      rw [run_convert_bytes_arg (P := Tryd.prog) _ 31 5 Tryd.underlying31 Tryd.underlying5 wr.heap.size 0 1 1 [48 + (u : Int)] rfl (fun i hi => by (obtain rfl : i = 0 := (by omega)); first | (go_keep; done) | (go_simp; done) | simp) 9 Tryd.underlying9]
      go_wp2
      go_roundw
      case rel => exact ⟨.inr (.inl ⟨rfl, rfl⟩), by (repeat (first | with_reducible exact Below.refl _ _ | with_reducible refine Below.drew ?_ | with_reducible refine below_drewN ?_ _ | (with_reducible refine bel_alloc ?_ ?_ _; (first | omega | (simp; omega) | simp)) | (with_reducible refine bel_set ?_ ?_ _; (first | omega | (simp; omega) | simp)) | (with_reducible refine bel_tr (by assumption) ?_ ?_; (first | omega | (simp; omega) | simp))))⟩
      case measure => (simp [intOf] <;> omega)
    · skip
      have hs := hb.size
      go_wp2
      rw [run_convert_bytes_arg (P := Tryd.prog) _ 31 5 Tryd.underlying31 Tryd.underlying5 wr.heap.size 0 1 1 [48 + (q : Int)] rfl (fun i hi => by (obtain rfl : i = 0 := (by omega)); first | (go_keep; done) | (go_simp; done) | simp) 9 Tryd.underlying9]
      go_wp2
      go_roundw
      case rel => exact ⟨.inr (.inr ⟨rfl, congrArg Value.string h5.out⟩), by (repeat (first | with_reducible exact Below.refl _ _ | with_reducible refine Below.drew ?_ | with_reducible refine below_drewN ?_ _ | (with_reducible refine bel_alloc ?_ ?_ _; (first | omega | (simp; omega) | simp)) | (with_reducible refine bel_set ?_ ?_ _; (first | omega | (simp; omega) | simp)) | (with_reducible refine bel_tr (by assumption) ?_ ?_; (first | omega | (simp; omega) | simp))))⟩
      case measure => simp [intOf] <;> omega
    · go_wp2
      go_ret
      exact ⟨rfl, hb⟩

set_option maxHeartbeats 1000000 in
theorem sDigits_any (n : Nat) (w : World) (h6 : n ≤ 60) :
    Calls Tryd.prog 8 #[.int .i64 n] w fun x w' => x = .returned (.string (digS n)) ∧ Below w.heap.size w w' := by
  by_cases h0 : n = 0
  · subst h0
    go_enter Tryd.func8, Tryd.ntmps8
    go_wp2
    go_ret
    exact ⟨rfl, by (repeat (first | with_reducible exact Below.refl _ _ | with_reducible refine Below.drew ?_ | with_reducible refine below_drewN ?_ _ | (with_reducible refine bel_alloc ?_ ?_ _; (first | omega | (simp; omega) | simp)) | (with_reducible refine bel_set ?_ ?_ _; (first | omega | (simp; omega) | simp)) | (with_reducible refine bel_tr (by assumption) ?_ ?_; (first | omega | (simp; omega) | simp))))⟩
  by_cases hn : n < 10
  · exact dig_s1 n w (by omega) hn
  · exact dig_s2 n w (by omega) h6

theorem digS_size (n : Nat) : (digS n).size ≤ 2 := by
  unfold digS
  split <;> simp [ByteArray.size]
def lineS (f h s d : Nat) : ByteArray := digS f ++ ⟨#[47]⟩ ++ digS h ++ ⟨#[47]⟩ ++ digS s ++ ⟨#[47]⟩ ++ digS d

set_option maxRecDepth 100000 in
set_option maxHeartbeats 4000000 in
theorem iLine_n (t f h s d : Int) (w : World) (hL : ¬ LOk t f h s d) :
    Calls Tryd.prog 6 #[.agg #[.int .i64 t, .int .i64 f, .int .i64 h, .int .i64 s, .int .i64 d]] w fun x w' => x = .returned (.string ⟨#[]⟩) ∧ Below w.heap.size w w' := by
  go_enter Tryd.func6, Tryd.ntmps6
  go_wp2_with fail
  refine (tn (okI_any t f h s d _) hL).mono ?_
  rintro y w1 ⟨rfl, hb1⟩
  have bc1 := bcell hb1; obtain ⟨hc1, hf1⟩ := bc1; have ks1 := hb1.size; (try simp at ks1); have kc10 : ∀ o, w1.cell? ⟨w.heap.size, o, none⟩ = _ := (fun o => hb1.cell (p := ⟨w.heap.size, o, none⟩) (by (first | omega | (simp; omega) | simp))); have kf10 : ∀ o, w1.frozen? ⟨w.heap.size, o, none⟩ = _ := (fun o => hb1.frozen (p := ⟨w.heap.size, o, none⟩) (by (first | omega | (simp; omega) | simp))); have kz10 : w.heap.size < w1.heap.size := (by have hh := hb1.size; (try simp at hh); omega)
  go_wp2
  go_ret
  exact ⟨rfl, by (repeat (first | with_reducible exact Below.refl _ _ | with_reducible refine Below.drew ?_ | with_reducible refine below_drewN ?_ _ | (with_reducible refine bel_alloc ?_ ?_ _; (first | omega | (simp; omega) | simp)) | (with_reducible refine bel_set ?_ ?_ _; (first | omega | (simp; omega) | simp)) | (with_reducible refine bel_tr (by assumption) ?_ ?_; (first | omega | (simp; omega) | simp))))⟩

set_option maxRecDepth 100000 in
set_option maxHeartbeats 4000000 in
theorem iLine_y (t : Int) (f h s d : Nat) (w : World) (hL : LOk t f h s d) (hf : f ≤ 60) (hh : h ≤ 60) (hs : s ≤ 60) (hd : d ≤ 60) :
    Calls Tryd.prog 6 #[.agg #[.int .i64 t, .int .i64 f, .int .i64 h, .int .i64 s, .int .i64 d]] w fun x w' => x = .returned (.string (lineS f h s d)) ∧ Below w.heap.size w w' := by
  have HL := Lib.hid hL
  clear hL
  have zf := digS_size f
  have zh := digS_size h
  have zs := digS_size s
  have zd := digS_size d
  go_enter Tryd.func6, Tryd.ntmps6
  go_wp2_with fail
  refine (ty (okI_any t f h s d _) HL.out).mono ?_
  rintro y w1 ⟨rfl, hb1⟩
  have bc1 := bcell hb1; obtain ⟨hc1, hf1⟩ := bc1; have ks1 := hb1.size; (try simp at ks1); have kc10 : ∀ o, w1.cell? ⟨w.heap.size, o, none⟩ = _ := (fun o => hb1.cell (p := ⟨w.heap.size, o, none⟩) (by (first | omega | (simp; omega) | simp))); have kf10 : ∀ o, w1.frozen? ⟨w.heap.size, o, none⟩ = _ := (fun o => hb1.frozen (p := ⟨w.heap.size, o, none⟩) (by (first | omega | (simp; omega) | simp))); have kz10 : w.heap.size < w1.heap.size := (by have hh := hb1.size; (try simp at hh); omega)
  go_wp2
  refine wp_region_bw (by kernel_rfl) (by kernel_rfl) (fun W hW0 => ?_)
  have q1 : ∀ pq : BW W, pq.w.cell? ⟨w.heap.size, 1, none⟩ = some (.int .i64 f) := fun pq => pq.cell (by rw [hW0]; (first | omega | (simp; omega) | simp)) (by rw [hW0]; (first | (go_keep; done) | (go_simp; done)))
  have q2 : ∀ pq : BW W, pq.w.cell? ⟨w.heap.size, 2, none⟩ = some (.int .i64 h) := fun pq => pq.cell (by rw [hW0]; (first | omega | (simp; omega) | simp)) (by rw [hW0]; (first | (go_keep; done) | (go_simp; done)))
  have q3 : ∀ pq : BW W, pq.w.cell? ⟨w.heap.size, 3, none⟩ = some (.int .i64 s) := fun pq => pq.cell (by rw [hW0]; (first | omega | (simp; omega) | simp)) (by rw [hW0]; (first | (go_keep; done) | (go_simp; done)))
  have q4 : ∀ pq : BW W, pq.w.cell? ⟨w.heap.size, 4, none⟩ = some (.int .i64 d) := fun pq => pq.cell (by rw [hW0]; (first | omega | (simp; omega) | simp)) (by rw [hW0]; (first | (go_keep; done) | (go_simp; done)))
  have hbW : Below w.heap.size w W := by rw [hW0]; (repeat (first | with_reducible exact Below.refl _ _ | with_reducible refine Below.drew ?_ | with_reducible refine below_drewN ?_ _ | (with_reducible refine bel_alloc ?_ ?_ _; (first | omega | (simp; omega) | simp)) | (with_reducible refine bel_set ?_ ?_ _; (first | omega | (simp; omega) | simp)) | (with_reducible refine bel_tr (by assumption) ?_ ?_; (first | omega | (simp; omega) | simp))))
  clear hW0
  repeat (go_big_quiet_step (first | (go_at_call_of 10 (Value.int .i64 (f : Nat)); exact (bw_same (iDigits_any _ _ hf))) | (go_at_call_of 10 (Value.int .i64 (h : Nat)); exact (bw_same (iDigits_any _ _ hh))) | (go_at_call_of 10 (Value.int .i64 (s : Nat)); exact (bw_same (iDigits_any _ _ hs))) | (go_at_call_of 10 (Value.int .i64 (d : Nat)); exact (bw_same (iDigits_any _ _ hd)))))
  refine wpQuiet_nil ?_
  intro wq hq
  have hbq : Below w.heap.size w wq := by (obtain ⟨p, hp⟩ := hq; rw [hp]; exact hbW.trans (p.below.mono hbW.size))
  clear hq q1 q2 q3 q4 hbW
  go_wp2
  go_ret
  exact ⟨rfl, hbq⟩

set_option maxRecDepth 100000 in
set_option maxHeartbeats 4000000 in
theorem sLine_n (t f h s d : Int) (w : World) (hL : ¬ LOk t f h s d) :
    Calls Tryd.prog 4 #[.agg #[.int .i64 t, .int .i64 f, .int .i64 h, .int .i64 s, .int .i64 d]] w fun x w' => x = .returned (.string ⟨#[]⟩) ∧ Below w.heap.size w w' := by
  go_enter Tryd.func4, Tryd.ntmps4
  go_wp2_with fail
  refine (tn (okS_any t f h s d _) hL).mono ?_
  rintro y w1 ⟨rfl, hb1⟩
  have bc1 := bcell hb1; obtain ⟨hc1, hf1⟩ := bc1; have ks1 := hb1.size; (try simp at ks1); have kc10 : ∀ o, w1.cell? ⟨w.heap.size, o, none⟩ = _ := (fun o => hb1.cell (p := ⟨w.heap.size, o, none⟩) (by (first | omega | (simp; omega) | simp))); have kf10 : ∀ o, w1.frozen? ⟨w.heap.size, o, none⟩ = _ := (fun o => hb1.frozen (p := ⟨w.heap.size, o, none⟩) (by (first | omega | (simp; omega) | simp))); have kz10 : w.heap.size < w1.heap.size := (by have hh := hb1.size; (try simp at hh); omega)
  go_wp2
  go_ret
  exact ⟨rfl, by (repeat (first | with_reducible exact Below.refl _ _ | with_reducible refine Below.drew ?_ | with_reducible refine below_drewN ?_ _ | (with_reducible refine bel_alloc ?_ ?_ _; (first | omega | (simp; omega) | simp)) | (with_reducible refine bel_set ?_ ?_ _; (first | omega | (simp; omega) | simp)) | (with_reducible refine bel_tr (by assumption) ?_ ?_; (first | omega | (simp; omega) | simp))))⟩

set_option maxRecDepth 100000 in
set_option maxHeartbeats 4000000 in
theorem sLine_y (t : Int) (f h s d : Nat) (w : World) (hL : LOk t f h s d) (hf : f ≤ 60) (hh : h ≤ 60) (hs : s ≤ 60) (hd : d ≤ 60) :
    Calls Tryd.prog 4 #[.agg #[.int .i64 t, .int .i64 f, .int .i64 h, .int .i64 s, .int .i64 d]] w fun x w' => x = .returned (.string (lineS f h s d)) ∧ Below w.heap.size w w' := by
  have HL := Lib.hid hL
  clear hL
  have zf := digS_size f
  have zh := digS_size h
  have zs := digS_size s
  have zd := digS_size d
  go_enter Tryd.func4, Tryd.ntmps4
  go_wp2_with fail
  refine (ty (okS_any t f h s d _) HL.out).mono ?_
  rintro y w1 ⟨rfl, hb1⟩
  have bc1 := bcell hb1; obtain ⟨hc1, hf1⟩ := bc1; have ks1 := hb1.size; (try simp at ks1); have kc10 : ∀ o, w1.cell? ⟨w.heap.size, o, none⟩ = _ := (fun o => hb1.cell (p := ⟨w.heap.size, o, none⟩) (by (first | omega | (simp; omega) | simp))); have kf10 : ∀ o, w1.frozen? ⟨w.heap.size, o, none⟩ = _ := (fun o => hb1.frozen (p := ⟨w.heap.size, o, none⟩) (by (first | omega | (simp; omega) | simp))); have kz10 : w.heap.size < w1.heap.size := (by have hh := hb1.size; (try simp at hh); omega)
  go_wp2
  refine wp_region_bw (by kernel_rfl) (by kernel_rfl) (fun W hW0 => ?_)
  have q1 : ∀ pq : BW W, pq.w.cell? ⟨w.heap.size, 1, none⟩ = some (.int .i64 f) := fun pq => pq.cell (by rw [hW0]; (first | omega | (simp; omega) | simp)) (by rw [hW0]; (first | (go_keep; done) | (go_simp; done)))
  have q2 : ∀ pq : BW W, pq.w.cell? ⟨w.heap.size, 2, none⟩ = some (.int .i64 h) := fun pq => pq.cell (by rw [hW0]; (first | omega | (simp; omega) | simp)) (by rw [hW0]; (first | (go_keep; done) | (go_simp; done)))
  have q3 : ∀ pq : BW W, pq.w.cell? ⟨w.heap.size, 3, none⟩ = some (.int .i64 s) := fun pq => pq.cell (by rw [hW0]; (first | omega | (simp; omega) | simp)) (by rw [hW0]; (first | (go_keep; done) | (go_simp; done)))
  have q4 : ∀ pq : BW W, pq.w.cell? ⟨w.heap.size, 4, none⟩ = some (.int .i64 d) := fun pq => pq.cell (by rw [hW0]; (first | omega | (simp; omega) | simp)) (by rw [hW0]; (first | (go_keep; done) | (go_simp; done)))
  have hbW : Below w.heap.size w W := by rw [hW0]; (repeat (first | with_reducible exact Below.refl _ _ | with_reducible refine Below.drew ?_ | with_reducible refine below_drewN ?_ _ | (with_reducible refine bel_alloc ?_ ?_ _; (first | omega | (simp; omega) | simp)) | (with_reducible refine bel_set ?_ ?_ _; (first | omega | (simp; omega) | simp)) | (with_reducible refine bel_tr (by assumption) ?_ ?_; (first | omega | (simp; omega) | simp))))
  clear hW0
  repeat (go_big_quiet_step (first | (go_at_call_of 8 (Value.int .i64 (f : Nat)); exact (bw_of (sDigits_any _ _ hf))) | (go_at_call_of 8 (Value.int .i64 (h : Nat)); exact (bw_of (sDigits_any _ _ hh))) | (go_at_call_of 8 (Value.int .i64 (s : Nat)); exact (bw_of (sDigits_any _ _ hs))) | (go_at_call_of 8 (Value.int .i64 (d : Nat)); exact (bw_of (sDigits_any _ _ hd)))))
  refine wpQuiet_nil ?_
  intro wq hq
  have hbq : Below w.heap.size w wq := by (obtain ⟨p, hp⟩ := hq; rw [hp]; exact hbW.trans (p.below.mono hbW.size))
  clear hq q1 q2 q3 q4 hbW
  go_wp2
  go_ret
  exact ⟨rfl, hbq⟩

end Go.Proofs.YtbnkdoilpidfaaaDoor
