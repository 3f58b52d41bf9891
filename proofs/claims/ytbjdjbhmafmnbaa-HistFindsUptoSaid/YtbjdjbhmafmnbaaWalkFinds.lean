/-
  The walk of HistFinds, as the row wants it.
-/
import Derived.Test.YtbjdjbhmafmnbaaFW
import Derived.Test.YtbjdjbhmafmnbaaArgs
namespace Go.Proofs.Ytbjdjbhmafmnbaa
open Go.RowKit Go.Proofs.YtbjdjbhmafmnbaaW.PrintWords Go.Proofs.Ytbjdjbhmafmnbaa.PAll
set_option linter.unusedVariables false
theorem walkFindsUp {w : World} (hsh : w.ShapedOpen Try.prog) (A0 : Option Addr) (c0 : Nat) (l0 : List S36) (R0 : SlIn k36 linesP w A0 c0 l0) (hb0 : linesM l0 ≤ 1048576) (i : Int) (wi : (Lit.int .i64 i).wf = true) (t : ByteArray) (ht : t.size ≤ 1048576) (b c : Bool) :
    Calls Try.prog 6 #[.slice A0 l0.length c0, .int .i64 i, .string t, .bool b, .bool c] w fun e w' => e = .returned (.bool true) ∧ Below w.heap.size w w' :=
  let ⟨m, hm⟩ := Try.laysM143.s1_3 w hsh
  walkFinds A0 c0 l0 i t b c (m := m) hm R0.reads R0.cap_le (Nat.le_trans (linesM_len l0) hb0)
end Go.Proofs.Ytbjdjbhmafmnbaa
