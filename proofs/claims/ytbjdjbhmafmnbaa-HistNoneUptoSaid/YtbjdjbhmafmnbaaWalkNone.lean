/-
  The walk of HistNone, as the row wants it; an operation, as an argument.
-/
import Derived.Test.YtbjdjbhmafmnbaaNW
import Derived.Test.YtbjdjbhmafmnbaaArgs
namespace Go.Proofs.Ytbjdjbhmafmnbaa
open Go.ChangeShapes Go.WideShapes Go.ChangeAt Go.RowKit
open Go.ChangeMaps (open_string shut_string)
open Go.Proofs.YtbjdjbhmafmnbaaW.PrintWords Go.Proofs.Ytbjdjbhmafmnbaa.PAll
set_option linter.unusedVariables false
set_option maxRecDepth 100000
theorem cells77 : Try.prog.cellsOf 77 = 7 := by kernel_rfl
set_option maxHeartbeats 1000000 in
theorem op_cs {H : Type} {enc : TypeId × Value → H} {W : World} {sp : Nat → Bool} {hd : Bool} {fuel : Nat} {cs : List Value} {x : DataW H × List MemPlace} (h : DataW.trod enc Try.prog W 0 sp hd fuel 77 cs = some x) :
    ∃ o : OpIn, cs = o.cells.toList ∧ SlIn k36 linesP W o.la o.lc o.ll ∧ linesM o.ll + 1 ≤ Rows.uptoBulk x.1 := by
  obtain ⟨xs, n, _, rfl, hl, hlen, hf⟩ := DataW.trod_struct Try.underlying77 h
  rw [cells77] at hl
  have c9 : Try.prog.cellsOf 9 = 1 := by kernel_rfl
  have c3 : Try.prog.cellsOf 3 = 1 := by kernel_rfl
  have c2 : Try.prog.cellsOf 2 = 1 := by kernel_rfl
  have c4 : Try.prog.cellsOf 4 = 1 := by kernel_rfl
  match cs, hl with
  | [a0, a1, a2, a3, a4, a5, a6], _ =>
    match xs, hlen with
    | [y0, y1, y2, y3, y4, y5, y6], _ =>
      have h0 := hf 0 _ rfl
      have h1 := hf 1 _ rfl
      have h2 := hf 2 _ rfl
      have h3 := hf 3 _ rfl
      have h4 := hf 4 _ rfl
      have h5 := hf 5 _ rfl
      have h6 := hf 6 _ rfl
      clear hf h
      simp [c9, c3, c2, c4, cells28] at h0 h1 h2 h3 h4 h5 h6
      obtain ⟨d, e0, _, _⟩ := DataW.trod_int (t := 3) Try.underlying3 h0
      obtain ⟨la, lc, ll, e1, R, hb⟩ := ArgK.slice_cs z36 Try.underlying28 cells36 arg36 h1
      obtain ⟨i, e2, _, _⟩ := DataW.trod_int (t := 3) Try.underlying3 h2
      obtain ⟨m, e3, _, _⟩ := DataW.trod_int (t := 2) Try.underlying2 h3
      obtain ⟨s, e4, _, _⟩ := DataW.trod_string (t := 9) Try.underlying9 h4
      obtain ⟨b, e5, _⟩ := DataW.trod_bool (t := 4) Try.underlying4 h5
      obtain ⟨g, e6, _⟩ := DataW.trod_bool (t := 4) Try.underlying4 h6
      simp only [List.cons.injEq, and_true] at e0 e1 e2 e3 e4 e5 e6
      subst e0 e1 e2 e3 e4 e5 e6
      refine ⟨⟨d, la, ll, lc, i, m, s, b, g⟩, rfl, R, ?_⟩
      simp only [List.map_cons, List.map_nil, Rows.uptoBulk, Rows.uptoBulkAll]
      have : linesM ll = (ll.map fun x => x.f0.size + 2).sum := rfl
      omega
theorem op_arg {H : Type} {enc : TypeId × Value → H} {W : World} {base : Nat} {sp : Nat → Bool} {hd : Bool} {v : Value} {d : DataW H} {p : List MemPlace}
    (hv : Value.okWide Try.prog W .any base 77 v) (h : DataW.Trod enc Try.prog W 0 sp hd 77 v d p) :
    ∃ o : OpIn, v = .agg o.cells ∧ SlIn k36 linesP W o.la o.lc o.ll ∧ linesM o.ll + 1 ≤ Rows.uptoBulk d := by
  obtain ⟨cs, rfl, _⟩ := okWide_struct Try.underlying77 hv
  obtain ⟨fuel, hf⟩ := h
  obtain ⟨o, hcs, R, hb⟩ := op_cs hf
  refine ⟨o, ?_, R, hb⟩
  simp only [Value.cells] at hcs
  congr 1
  exact Array.toList_inj.1 hcs
theorem walkNoneUp {w : World} (o : OpIn) (R : SlIn k36 linesP w o.la o.lc o.ll) (hb : linesM o.ll ≤ 1048576) :
    Calls Try.prog 8 #[.agg o.cells] w fun e w' => e = .returned (.bool true) ∧ Below w.heap.size w w' :=
  walkNone o R.reads R.cap_le (Nat.le_trans (linesM_len o.ll) hb)
end Go.Proofs.Ytbjdjbhmafmnbaa
