/-
  The walk of WordsParts: the call returns true.
-/
import Derived.Test.YtpebdkchdgaeoaaArgs
import Derived.Test.YtpebdkchdgaeoaaT3
namespace Go.Proofs.Ytpebdkchdgaeoaa
open Go.RowKit Go.Proofs.YtpebdkchdgaeoaaW.PrintWords
theorem walkParts (a : Option Addr) (c : Nat) (l : List Int) {W : World} (R : RunesIn W a l.length c l) (hb : l.length ≤ 1048576) :
    Calls Try.prog 3 #[.slice a l.length c] W fun e w' => e = .returned (.bool true) ∧ Below W.heap.size W w' := by
  obtain ⟨k, h⟩ := T.WordsParts_pure l (by omega)
  refine (PAll.lanyardlaw12_WordsParts.calls k a c l true W R.reads R.cap_le h).mono ?_
  rintro e w' ⟨rfl, hd⟩
  exact ⟨rfl, hd⟩
end Go.Proofs.Ytpebdkchdgaeoaa
