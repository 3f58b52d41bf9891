/-
  The walk of HistWalks, as the row wants it; scripts of a walk, as arguments.
-/
import Derived.Test.YtbjdjbhmafmnbaaWW
import Derived.Test.YtbjdjbhmafmnbaaArgs
namespace Go.Proofs.Ytbjdjbhmafmnbaa
open Go.ChangeShapes Go.WideShapes Go.ChangeAt Go.RowKit
open Go.ChangeMaps (open_string shut_string)
open Go.Proofs.YtbjdjbhmafmnbaaW.PrintWords Go.Proofs.Ytbjdjbhmafmnbaa.PAll
set_option linter.unusedVariables false
set_option maxRecDepth 100000
theorem arg47 : ArgK 47 k106 (fun x => x.f1.size + 2) (fun x => (Lit.int .i64 x.f0).wf = true) := by
  refine ⟨?_⟩
  intro H enc W sp hd fuel cs x h
  obtain ⟨y0, y1, n, rfl, hl, h0, h1⟩ := trod_struct2 Try.underlying47 h
  obtain ⟨k, e0, rfl, hw0⟩ := DataW.trod_int (t := 3) Try.underlying3 h0
  obtain ⟨s, e1, rfl, hw1⟩ := DataW.trod_string (t := 9) Try.underlying9 h1
  have hc : cs = [.int .i64 k, .string s] := by
    have c9 : Try.prog.cellsOf 9 = 1 := by kernel_rfl
    have c3 : Try.prog.cellsOf 3 = 1 := by kernel_rfl
    have c47 : Try.prog.cellsOf 47 = 2 := by kernel_rfl
    rw [c47] at hl
    match cs, hl with
    | [a, b], _ =>
      simp [c9, c3] at e0 e1
      rw [e0, e1]
  subst hc
  refine ⟨⟨k, s⟩, k106_mk _ _, ?_, hw0⟩
  have : s.data.toList.length = s.size := by rw [Array.length_toList]; rfl
  simp only [Rows.uptoBulk, Rows.uptoBulkAll]
  omega
theorem cells47 : Try.prog.cellsOf 47 = 2 := by kernel_rfl
/-- How much there is in a script. -/
def gosM (l : List S106) : Nat := (l.map fun x => x.f1.size + 2).sum
abbrev gosP (x : S106) : Prop := (Lit.int .i64 x.f0).wf = true
theorem gos_arg {H : Type} {enc : TypeId × Value → H} {W : World} {base : Nat} {sp : Nat → Bool} {hd : Bool} {v : Value} {d : DataW H} {p : List MemPlace}
    (hv : Value.okWide Try.prog W .any base 40 v) (h : DataW.Trod enc Try.prog W 0 sp hd 40 v d p) :
    ∃ a cap l, v = .slice a l.length cap ∧ SlIn k106 gosP W a cap l ∧ gosM l + 1 ≤ Rows.uptoBulk d :=
  ArgK.arg z106 Try.underlying40 cells47 arg47 hv h
theorem gosM_len (l : List S106) : l.length ≤ gosM l := by
  induction l with
  | nil => simp
  | cons x l ih =>
    have e : gosM (x :: l) = x.f1.size + 2 + gosM l := by simp [gosM]
    simp only [List.length_cons]
    omega
theorem walkWalksUp {w : World} (A0 : Option Addr) (c0 : Nat) (l0 : List S36) (R0 : SlIn k36 linesP w A0 c0 l0) (hb0 : linesM l0 ≤ 1048576) (A1 : Option Addr) (c1 : Nat) (l1 : List S106) (R1 : SlIn k106 gosP w A1 c1 l1) (hb1 : gosM l1 ≤ 1048576) (A2 : Option Addr) (c2 : Nat) (l2 : List S36) (R2 : SlIn k36 linesP w A2 c2 l2) (hb2 : linesM l2 ≤ 1048576) :
    Calls Try.prog 5 #[.slice A0 l0.length c0, .slice A1 l1.length c1, .slice A2 l2.length c2] w fun e w' => e = .returned (.bool true) ∧ Below w.heap.size w w' :=
  walkWalks A0 c0 l0 A1 c1 l1 A2 c2 l2 R0.reads R0.cap_le (Nat.le_trans (linesM_len l0) hb0) R1.reads R1.cap_le (Nat.le_trans (gosM_len l1) hb1) R1.wf R2.reads R2.cap_le (Nat.le_trans (linesM_len l2) hb2)
end Go.Proofs.Ytbjdjbhmafmnbaa
