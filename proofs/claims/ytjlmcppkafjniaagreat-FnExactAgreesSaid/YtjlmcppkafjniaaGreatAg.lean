/-
  The contracts of Agrees, of the program and of the reference. No conditions beyond those stated.
-/
import Derived.Test.YtjlmcppkafjniaaGreatRg
import Derived.Test.YtjlmcppkafjniaaGreatSe
import Derived.Test.YtjlmcppkafjniaaGreatSt
import Derived.Test.YtjlmcppkafjniaaGreatQfS
import Derived.Test.YtjlmcppkafjniaaGreatPoi
import Derived.Test.YtjlmcppkafjniaaGreatSsp
import Derived.Test.YtjlmcppkafjniaaGreatPnS
import Derived.Test.YtjlmcppkafjniaaGreatSum
import Derived.Deep.RegionHeld3
namespace Go.Proofs.YtjlmcppkafjniaaGreat
open Go.RowKit

/-- What it means that a cabin agrees with a list of parties. -/
def AGR (x0 x1 x2 x3 x4 : Int) (k : Nat) (qs : List (Nat → Int)) (N : Nat) (S : Nat → Sp) (L ps : List (Nat → Int)) (cab : Int) (m : Nat) : Prop :=
  COK x0 x1 x2 x3 x4 k qs N S ∧ SamE qs (sortR L) ∧ SamL (pinsL N S) (sortL (pinF ps cab m) (pinF ps cab m).length) ∧ x2 = sumTo (heldF ps cab) m ∧ x4 = sumTo (tiedF ps cab) m
theorem AGR.sam {x0 x1 x2 x3 x4 : Int} {k : Nat} {qs : List (Nat → Int)} {N : Nat} {S S' : Nat → Sp} {L ps : List (Nat → Int)} {cab : Int} {m : Nat} (hs : Sam N S S') (h : AGR x0 x1 x2 x3 x4 k qs N S L ps cab m) : AGR x0 x1 x2 x3 x4 k qs N S' L ps cab m :=
  ⟨h.1.sam hs, h.2.1, pinsL_sam hs ▸ h.2.2.1, h.2.2.2.1, h.2.2.2.2⟩
theorem sPinsIn_n (A : Option Addr) (n c : Nat) (cab : Int) (es : List (Nat → Int)) (w : World) (hn : n ≤ 4194303) (h : Rd w 10 A n es) :
    Calls Tryz.prog 53 #[.slice A n c, .int .i64 cab] w (PnI w es cab n) :=
  (sPinsIn_any A n c cab es w hn h).mono fun y w' ⟨v, e, o, b⟩ => by
    obtain ⟨A', c', rfl, h1, h2, h3⟩ := own_of_row_cap (sortL_len _ _) o
    exact ⟨A', _, c', e, h3, ⟨h1, h2⟩, b⟩
theorem iPinsIn_n (A : Option Addr) (n c : Nat) (cab : Int) (es : List (Nat → Int)) (w : World) (hn : n ≤ 4194303) (h : Rd w 10 A n es) :
    Calls Tryz.prog 41 #[.slice A n c, .int .i64 cab] w (PnI w es cab n) := iPinsIn_any A n c cab es w hn h
theorem sHeldIn_t (A : Option Addr) (n c : Nat) (cab : Int) (es : List (Nat → Int)) (hd : Int) (w : World) (hn : n ≤ 4194304) (h : Rd w 10 A n es) (e : sumTo (heldF es cab) n = hd) :
    Calls Tryz.prog 54 #[.slice A n c, .int .i64 cab] w fun x w' => x = .returned (.int .i64 hd) ∧ Below w.heap.size w w' := e ▸ spec_HeldIn A n c cab es w hn h
theorem sTiedIn_t (A : Option Addr) (n c : Nat) (cab : Int) (es : List (Nat → Int)) (hd : Int) (w : World) (hn : n ≤ 4194304) (h : Rd w 10 A n es) (e : sumTo (tiedF es cab) n = hd) :
    Calls Tryz.prog 12 #[.slice A n c, .int .i64 cab] w fun x w' => x = .returned (.int .i64 hd) ∧ Below w.heap.size w w' := e ▸ spec_TiedIn A n c cab es w hn h
theorem iHeldIn_t (A : Option Addr) (n c : Nat) (cab : Int) (es : List (Nat → Int)) (hd : Int) (w : World) (hn : n ≤ 4194304) (h : Rd w 10 A n es) (e : sumTo (heldF es cab) n = hd) :
    Calls Tryz.prog 42 #[.slice A n c, .int .i64 cab] w fun x w' => x = .returned (.int .i64 hd) ∧ Below w.heap.size w w' := e ▸ impl_HeldIn A n c cab es w hn h
theorem iTiedIn_t (A : Option Addr) (n c : Nat) (cab : Int) (es : List (Nat → Int)) (hd : Int) (w : World) (hn : n ≤ 4194304) (h : Rd w 10 A n es) (e : sumTo (tiedF es cab) n = hd) :
    Calls Tryz.prog 43 #[.slice A n c, .int .i64 cab] w fun x w' => x = .returned (.int .i64 hd) ∧ Below w.heap.size w w' := e ▸ impl_TiedIn A n c cab es w hn h
end Go.Proofs.YtjlmcppkafjniaaGreat
