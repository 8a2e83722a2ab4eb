/- Known functions, in the form in which the print takes them: strings.IndexByte, parse.Next, parse.Words. -/
import Derived.Test.YtnlmndafmgkcfaaC
import Derived.Test.YtnlmndafmgkcfaaS
import Derived.Test.YtnlmndafmgkcfaaWWords
import Derived.Test.YtnlmndafmgkcfaaWLast
import Derived.Test.YtnlmndafmgkcfaaWMore
namespace Go.Proofs.Ytnlmndafmgkcfaa.Ext
open Go.RowKit Go.Proofs.YtnlmndafmgkcfaaW.PrintWords Go.Proofs.YtnlmndafmgkcfaaW.PrintLast Go.Proofs.YtnlmndafmgkcfaaW.PrintMore

def strings_IndexByte.f (a0 : ByteArray) (a1 : Int) : Option (Int) := some (Lib.indexByte a0.data.toList a1.toNat.toUInt8)
theorem strings_IndexByte.calls (a0 : ByteArray) (a1 : Int) (r : Int) (w : World) (h : strings_IndexByte.f a0 a1 = some r) :
    Calls Try.prog 18 #[.string a0, .int .u8 a1] w fun e w' => e = .returned (.int .i64 r) ∧ Below w.heap.size w w' := by
  obtain rfl := Option.some.inj h
  refine (Try.strings_IndexByte a0 a1 w).mono ?_
  rintro e w' ⟨rfl, rfl⟩
  exact ⟨rfl, Below.refl _ _⟩

def parse_Next.f (a0 : ByteArray) (a1 : Int) : Option (ByteArray × Int) := if a0.size ≤ 140737488355328 then some (nWord a0 a1, (nNext a0 a1 : Nat)) else none
theorem parse_Next.calls (a0 : ByteArray) (a1 : Int) (r1 : ByteArray) (r2 : Int) (w : World) (h : parse_Next.f a0 a1 = some (r1, r2)) :
    Calls Try.prog 8 #[.string a0, .int .i64 a1] w fun e w' => e = .returned (.tuple #[.string r1, .int .i64 r2]) ∧ Below w.heap.size w w' := by
  unfold parse_Next.f at h
  split at h
  · rename_i hs
    have h' := Option.some.inj h
    obtain ⟨rfl, rfl⟩ := Prod.mk.inj h'
    refine (next_any a0 a1 w hs).mono ?_
    rintro e w' ⟨rfl, rfl⟩
    exact ⟨rfl, Below.refl _ _⟩
  · cases h

def parse_Words.f (a0 : ByteArray) : Option (List ByteArray) := if a0.size ≤ 1048576 then some (wordsOf a0 0) else none
theorem parse_Words.calls (a0 : ByteArray) (r : List ByteArray) (w : World) (h : parse_Words.f a0 = some r) :
    Calls Try.prog 14 #[.string a0] w fun e w' => ∃ v0_ : Value, e = .returned (v0_) ∧ Kd.R Kd.string 9 w' w.heap.size (fun _ => True) v0_ r ∧ Below w.heap.size w w' := by
  unfold parse_Words.f at h
  split at h
  · rename_i hs
    obtain rfl := Option.some.inj h
    refine (words_any a0 hs w).mono ?_
    rintro e w' ⟨v, rfl, hrow, hb⟩
    exact ⟨v, rfl, Kd.R_of_own hrow (fun _ _ => trivial), hb⟩
  · cases h
end Go.Proofs.Ytnlmndafmgkcfaa.Ext
