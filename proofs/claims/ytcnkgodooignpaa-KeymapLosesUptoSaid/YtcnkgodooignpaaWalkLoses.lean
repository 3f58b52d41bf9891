/-
  The walk of KeymapLoses, as the row wants it; pieces, as an argument.
-/
import Derived.Test.YtcnkgodooignpaaKL
import Derived.Test.YtcnkgodooignpaaArgs
namespace Go.Proofs.Ytcnkgodooignpaa
open Go.ChangeShapes Go.WideShapes Go.ChangeAt Go.RowKit
open Go.Proofs.YtcnkgodooignpaaW.PrintWords Go.Proofs.Ytcnkgodooignpaa.PAll
set_option linter.unusedVariables false
set_option maxRecDepth 100000
theorem cells40 : Try.prog.cellsOf 40 = 3 := by kernel_rfl
theorem arg40 : ArgK 40 k40 (fun x => x.f0.length + 1) (fun _ => True) := by
  refine ⟨?_⟩
  intro H enc W sp hd fuel cs x h
  obtain ⟨xs, n, _, rfl, hl, hlen, hf⟩ := DataW.trod_struct Try.underlying40 h
  rw [cells40] at hl
  have c23 : Try.prog.cellsOf 23 = 1 := by kernel_rfl
  have c4 : Try.prog.cellsOf 4 = 1 := by kernel_rfl
  match cs, hl with
  | [a0, a1, a2], _ =>
    match xs, hlen with
    | [y0, y1, y2], _ =>
      have h0 := hf 0 _ rfl
      have h1 := hf 1 _ rfl
      have h2 := hf 2 _ rfl
      clear hf h
      simp [c23, c4] at h0 h1 h2
      obtain ⟨la, lc, ll, e0, R, hb⟩ := ArgK.slice_cs 0 Try.underlying23 cells5 (ArgK.int Try.underlying5) h0
      obtain ⟨b, e1, _⟩ := DataW.trod_bool (t := 4) Try.underlying4 h1
      obtain ⟨g, e2, _⟩ := DataW.trod_bool (t := 4) Try.underlying4 h2
      simp only [List.cons.injEq, and_true] at e0 e1 e2
      subst e0 e1 e2
      refine ⟨⟨ll, b, g⟩, k40_mk (x := ⟨ll, b, g⟩) R.cap_le R.reads, ?_, trivial⟩
      rw [ones] at hb
      simp only [List.map_cons, List.map_nil, Rows.uptoBulk, Rows.uptoBulkAll]
      omega
theorem pieces_arg {H : Type} {enc : TypeId × Value → H} {W : World} {base : Nat} {sp : Nat → Bool} {hd : Bool} {v : Value} {d : DataW H} {p : List MemPlace}
    (hv : Value.okWide Try.prog W .any base 38 v) (h : DataW.Trod enc Try.prog W 0 sp hd 38 v d p) :
    ∃ a cap l, v = .slice a l.length cap ∧ SlIn k40 (fun _ => True) W a cap l ∧ piecesM l + 1 ≤ Rows.uptoBulk d :=
  ArgK.arg z40 Try.underlying38 cells40 arg40 hv h
theorem walkLosesUp (A0 : Option Addr) (c0 : Nat) (l0 : List S84) {w : World} (R0 : SlIn k84 (fun _ => True) w A0 c0 l0) (hb0 : boundsM l0 ≤ 1048576) (mt : Bool) (A2 : Option Addr) (c2 : Nat) (l2 : List S40) (R2 : SlIn k40 (fun _ => True) w A2 c2 l2) (hb2 : piecesM l2 ≤ 1048576) :
    Calls Try.prog 4 #[.slice A0 l0.length c0, .bool mt, .slice A2 l2.length c2] w fun e w' => e = .returned (.bool true) ∧ Below w.heap.size w w' :=
  walkLoses A0 c0 l0 mt A2 c2 l2 R0.reads (by have := boundsM_len l0; omega) (fun x hx => by have := boundsM_str l0 x hx; omega) R2.reads (by omega)
end Go.Proofs.Ytcnkgodooignpaa
