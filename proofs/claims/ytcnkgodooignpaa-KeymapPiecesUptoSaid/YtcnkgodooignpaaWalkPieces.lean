/-
  The walk of KeymapPieces, as the row wants it.
-/
import Derived.Test.YtcnkgodooignpaaKP
import Derived.Test.YtcnkgodooignpaaArgs
namespace Go.Proofs.Ytcnkgodooignpaa
open Go.WideShapes Go.ChangeShapes Go.ChangeAt Go.RowKit Go.Proofs.YtcnkgodooignpaaW.PrintWords Go.Proofs.Ytcnkgodooignpaa.PAll
theorem walkPiecesUp (A0 : Option Addr) (c0 : Nat) (l0 : List S84) {w : World} (R0 : SlIn k84 (fun _ => True) w A0 c0 l0) (hb0 : boundsM l0 ≤ 1048576) (mt : Bool) (A2 : Option Addr) (c2 : Nat) (l2 : List Int) (R2 : SlIn (Kd.int .u8) (fun n => (Lit.int .u8 n).wf = true) w A2 c2 l2) (hb2 : (l2.map fun _ => 1).sum ≤ 1048576) (cut : Int) (hcut : (Lit.int IntKind.i64 cut).wf = true) :
    Calls Try.prog 3 #[.slice A0 l0.length c0, .bool mt, .slice A2 l2.length c2, .int .i64 cut] w fun e w' => e = .returned (.bool true) ∧ Below w.heap.size w w' :=
  walkPieces A0 c0 l0 mt A2 c2 l2 cut R0.reads (by have := boundsM_len l0; omega) (fun x hx => by have := boundsM_str l0 x hx; omega) R2.reads R2.cap_le (by rw [ones] at hb2; omega) (bounds_i64 hcut).2
end Go.Proofs.Ytcnkgodooignpaa
