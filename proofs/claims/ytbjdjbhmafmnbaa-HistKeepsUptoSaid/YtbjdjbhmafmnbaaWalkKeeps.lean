/-
  The walk of HistKeeps, as the row wants it.
-/
import Derived.Test.YtbjdjbhmafmnbaaHK
import Derived.Test.YtbjdjbhmafmnbaaArgs
namespace Go.Proofs.Ytbjdjbhmafmnbaa
open Go.RowKit Go.Proofs.YtbjdjbhmafmnbaaW.PrintWords Go.Proofs.Ytbjdjbhmafmnbaa.PAll
theorem parts_tot (l : List (List S36)) : tot36 l ≤ (l.map fun x => linesM x + 1).sum := by
  induction l with
  | nil => simp [tot36]
  | cons x l ih =>
    have e : tot36 (x :: l) = x.length + 1 + tot36 l := by simp [tot36]
    have := linesM_len x
    simp only [List.map_cons, List.sum_cons]
    omega
theorem walkKeepsUp (most : Int) (hmost : (Lit.int IntKind.i64 most).wf = true) (A3 : Option Addr) (c3 : Nat) (l3 : List (List S36)) {w : World} (R3 : SlIn (Kd.slice 36 k36) (fun l => ∀ y ∈ l, linesP y) w A3 c3 l3) (hb3 : (l3.map fun x => linesM x + 1).sum ≤ 1048576) :
    Calls Try.prog 3 #[.int .i64 most, .slice A3 l3.length c3] w fun e w' => e = .returned (.bool true) ∧ Below w.heap.size w w' :=
  walkKeeps most hmost A3 c3 l3 R3.reads R3.cap_le (Nat.le_trans (parts_tot l3) hb3)
end Go.Proofs.Ytbjdjbhmafmnbaa
