/-
  The walk of HistComesBack, as the row wants it.
-/
import Derived.Test.YtbjdjbhmafmnbaaMW
import Derived.Test.YtbjdjbhmafmnbaaWalkWalks
namespace Go.Proofs.Ytbjdjbhmafmnbaa
open Go.RowKit Go.Proofs.YtbjdjbhmafmnbaaW.PrintWords Go.Proofs.Ytbjdjbhmafmnbaa.PAll
set_option linter.unusedVariables false
theorem walkBackUp {w : World} (A0 : Option Addr) (c0 : Nat) (l0 : List S36) (R0 : SlIn k36 linesP w A0 c0 l0) (hb0 : linesM l0 ≤ 1048576) (A1 : Option Addr) (c1 : Nat) (l1 : List S106) (R1 : SlIn k106 gosP w A1 c1 l1) (hb1 : gosM l1 ≤ 1048576) :
    Calls Try.prog 4 #[.slice A0 l0.length c0, .slice A1 l1.length c1] w fun e w' => e = .returned (.bool true) ∧ Below w.heap.size w w' :=
  walkBack A0 c0 l0 A1 c1 l1 R0.reads R0.cap_le (Nat.le_trans (linesM_len l0) hb0) R1.reads R1.cap_le (Nat.le_trans (gosM_len l1) hb1) R1.wf
end Go.Proofs.Ytbjdjbhmafmnbaa
