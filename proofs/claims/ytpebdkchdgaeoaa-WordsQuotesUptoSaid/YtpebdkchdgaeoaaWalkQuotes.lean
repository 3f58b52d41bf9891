/-
  The walk of WordsQuotes: the call returns true.
-/
import Derived.Test.YtpebdkchdgaeoaaArgs2
import Derived.Test.YtpebdkchdgaeoaaU7
namespace Go.Proofs.Ytpebdkchdgaeoaa
open Go.RowKit Go.Proofs.YtpebdkchdgaeoaaW.PrintWords
theorem walkQuotes (a : Option Addr) (c : Nat) (l : List Int) {W : World} (R : RunesIn W a l.length c l) (hb : l.length ≤ 1048576) (at_ : Int) (_ : (Lit.int IntKind.i64 at_).wf = true) (style : Int) (_ : (Lit.int IntKind.i64 style).wf = true)
    (a3 : Option Addr) (c3 : Nat) (l3 : List (List Int)) (R3 : TextsIn W a3 c3 l3) (hb3 : totL l3 ≤ 1048576) :
    Calls Try.prog 6 #[.slice a l.length c, .int .i64 at_, .int .i64 style, .slice a3 l3.length c3] W fun e w' => e = .returned (.bool true) ∧ Below W.heap.size W w' := by
  obtain ⟨k, h⟩ := T.WordsQuotes_pure l at_ style l3 (by omega) (Nat.le_trans (show T.tot l3 ≤ 1048576 from hb3) (by omega))
  refine (PAll.lanyardlaw12_WordsQuotes.calls k a c l at_ style a3 c3 l3 true W R.reads R.cap_le R3.reads R3.cap_le h).mono ?_
  rintro e w' ⟨rfl, hd⟩
  exact ⟨rfl, hd⟩
end Go.Proofs.Ytpebdkchdgaeoaa
