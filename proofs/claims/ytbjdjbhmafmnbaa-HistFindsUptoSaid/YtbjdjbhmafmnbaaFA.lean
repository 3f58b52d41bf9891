/-
  found: where a text stands in a line.
-/
import Derived.Test.YtbjdjbhmafmnbaaNA
import Derived.Test.YtbjdjbhmafmnbaaShelf
namespace Go.Proofs.Ytbjdjbhmafmnbaa
open Go.RowKit Go.Proofs.YtbjdjbhmafmnbaaW.PrintWords Go.Proofs.YtbjdjbhmafmnbaaW.PrintLast Go.Proofs.YtbjdjbhmafmnbaaW.PrintMore Go.Proofs.Ytbjdjbhmafmnbaa.PAll
set_option linter.unusedVariables false
set_option linter.unusedSimpArgs false
def foundF (s t : ByteArray) (back begins : Bool) : Int :=
  if begins then (if Lib.hasPrefix s.data.toList t.data.toList then 0 else -1) else if back then Lib.lastIndex s.data.toList t.data.toList else Lib.index s.data.toList t.data.toList
theorem found_calls {w : World} {m : Int} (hm : w.cell? ⟨0, 0, none⟩ = some (.int .i64 m)) (s t : ByteArray) (hs : s.size < 4294967281) (back begins : Bool) :
    Calls Try.prog 53 #[.string s, .string t, .bool back, .bool begins] w fun e w' => e = .returned (.int .i64 (foundF s t back begins)) ∧ w = w' := by
  unfold foundF
  cases begins
  · cases back
    · go_enter Try.func53, Try.ntmps53
      go_wp2_with (first
        | (go_at_call 30; go_loud (refine (Try.strings_HasPrefix s t _).mono ?_; rintro e w' ⟨rfl, rfl⟩))
        | (go_at_call 52; go_loud (refine (Try.strings_Index s t m _ hs hm).mono ?_; rintro e w' ⟨rfl, rfl⟩)))
      go_ret
      exact ⟨by simp, rfl⟩
    · go_enter Try.func53, Try.ntmps53
      go_wp2_with (first
        | (go_at_call 30; go_loud (refine (Try.strings_HasPrefix s t _).mono ?_; rintro e w' ⟨rfl, rfl⟩))
        | (go_at_call 65; go_loud (refine (Try.strings_LastIndex s t (by omega) _).mono ?_; rintro e w' ⟨rfl, rfl⟩)))
      go_ret
      exact ⟨by simp, rfl⟩
  · cases hp : Lib.hasPrefix s.data.toList t.data.toList
    all_goals
      go_enter Try.func53, Try.ntmps53
      go_wp2_with (go_at_call 30; go_loud (refine (Try.strings_HasPrefix s t _).mono ?_; rintro e w' ⟨rfl, rfl⟩; rw [hp]))
      go_ret
      exact ⟨by simp, rfl⟩
end Go.Proofs.Ytbjdjbhmafmnbaa
