/-
  The closure has of HistFinds.
-/
import Derived.Test.YtbjdjbhmafmnbaaPL
namespace Go.Proofs.Ytbjdjbhmafmnbaa
open Go.RowKit Go.Proofs.YtbjdjbhmafmnbaaW.PrintWords Go.Proofs.YtbjdjbhmafmnbaaW.PrintLast Go.Proofs.YtbjdjbhmafmnbaaW.PrintMore Go.Proofs.Ytbjdjbhmafmnbaa.PAll
set_option linter.unusedVariables false
set_option linter.unusedSimpArgs false
set_option maxRecDepth 100000 in
theorem has_calls {w : World} {B g : Nat} {v : Value} {q : Hs} (hl : HL w B g v q) (hq : q.base ≠ 0) {m : Int} (hm : w.cell? ⟨0, 0, none⟩ = some (.int .i64 m)) (k : Nat) (hk : k < q.lines.length) (hsz : q.lines[k].f0.size < 4294967281) (t : ByteArray) (c : Bool) {g11 g9 g7 : Nat}
    (h11 : w.heap[g11]? = some (.cells #[.pointer (some ⟨g, 0, none⟩)] 23 (0, 0))) (h9 : w.heap[g9]? = some (.cells #[.bool c] 4 (0, 0))) (h7 : w.heap[g7]? = some (.cells #[.string t] 9 (0, 0))) :
    Calls Try.prog 29 #[.int .i64 (k : Int), .pointer (some ⟨g11, 0, none⟩), .pointer (some ⟨g9, 0, none⟩), .pointer (some ⟨g7, 0, none⟩)] w fun e w' => e = .returned (.bool (if c then Lib.hasPrefix q.lines[k].f0.data.toList t.data.toList else Lib.contains q.lines[k].f0.data.toList t.data.toList)) ∧ Below w.heap.size w w' := by
  have k11 : w.cell? ⟨g11, 0, none⟩ = some (.pointer (some ⟨g, 0, none⟩)) := (blk_cell h11 0).trans rfl
  have AC := Aside0.mk (at_calls hl hq k hk)
  have H9 := Aside0.mk (fun (W' : World) (hb : Below w.heap.size w W') => ((blk_cell (blk_below h9 hb) 0).trans rfl : W'.cell? ⟨g9, 0, none⟩ = some (.bool c)))
  have H7 := Aside0.mk (fun (W' : World) (hb : Below w.heap.size w W') => ((blk_cell (blk_below h7 hb) 0).trans rfl : W'.cell? ⟨g7, 0, none⟩ = some (.string t)))
  have HM := Aside0.mk hm
  clear h9 h7 hm h11
  generalize q.lines[k] = x at AC hsz
  simp only [S36.v] at AC
  cases c
  all_goals
    go_enter Try.func29, Try.ntmps29
    go_wp2_with (first
      | (go_at_call 21; go_loud (refine AC.out.mono ?_; rintro e w2 ⟨rfl, hb2⟩; have hal := below_alloc hb2 (.cells #[.string x.f0, .int .i64 x.f1] 36); have k9 := H9.out _ hal; have k7 := H7.out _ hal; have km := (hal.cell (World.block_lt_of_cell? w _ HM.out)).trans HM.out))
      | (go_at_call 30; go_loud (refine (Try.strings_HasPrefix x.f0 t _).mono ?_; rintro e w' ⟨rfl, rfl⟩))
      | (go_at_call 31; go_loud (refine (Try.strings_Contains x.f0 t m _ hsz km).mono ?_; rintro e w' ⟨rfl, rfl⟩)))
    all_goals
      go_ret
      first | exact ⟨rfl, below_alloc hb2 _⟩ | exact ⟨by simp_all, below_alloc hb2 _⟩
end Go.Proofs.Ytbjdjbhmafmnbaa
