/-
  The walk of WordsBack: the call returns true.
-/
import Derived.Test.YtpebdkchdgaeoaaArgs
import Derived.Test.YtpebdkchdgaeoaaT5
namespace Go.Proofs.Ytpebdkchdgaeoaa
open Go.RowKit Go.Proofs.YtpebdkchdgaeoaaW.PrintWords
theorem walkBack (a : Option Addr) (c : Nat) (l : List Int) {W : World} (R : RunesIn W a l.length c l) (hb : l.length ≤ 1048576) (style : Int) (_ : (Lit.int IntKind.i64 style).wf = true) :
    Calls Try.prog 5 #[.slice a l.length c, .int .i64 style] W fun e w' => e = .returned (.bool true) ∧ Below W.heap.size W w' := by
  obtain ⟨k, h⟩ := T.WordsBack_pure l style (by omega)
  refine (PAll.lanyardlaw12_WordsBack.calls k a c l style true W R.reads R.cap_le h).mono ?_
  rintro e w' ⟨rfl, hd⟩
  exact ⟨rfl, hd⟩
end Go.Proofs.Ytpebdkchdgaeoaa
