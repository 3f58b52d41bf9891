/-
  begun: a history of three lines that keeps two.
-/
import Derived.Test.YtbjdjbhmafmnbaaHD
namespace Go.Proofs.Ytbjdjbhmafmnbaa
open Go.RowKit Go.Proofs.YtbjdjbhmafmnbaaW.PrintWords Go.Proofs.YtbjdjbhmafmnbaaW.PrintLast Go.Proofs.YtbjdjbhmafmnbaaW.PrintMore Go.Proofs.Ytbjdjbhmafmnbaa.PAll
set_option linter.unusedVariables false
set_option linter.unusedSimpArgs false
def la : S36 := ⟨⟨#[97]⟩, 0⟩
def lb : S36 := ⟨⟨#[98]⟩, 0⟩
def lc : S36 := ⟨⟨#[99]⟩, 0⟩
theorem begun_hs : Hs.add ⟨[], 1, 2⟩ [la, lb, lc] = ⟨[lb, lc], 2, 2⟩ := rfl
theorem lit3 (w : World) : Kd.C k36 (w.alloc (.cells #[.string ⟨#[97]⟩, .int .i64 0, .string ⟨#[98]⟩, .int .i64 0, .string ⟨#[99]⟩, .int .i64 0] 36)) (some ⟨w.heap.size, 0, none⟩) 3 [la, lb, lc] := by
  have h := OwnRow.lit (R := k36.K w) (size := 2) (e := 36) w w.heap.size (ps := [la, lb, lc]) (inner := [.string ⟨#[97]⟩, .int .i64 0, .string ⟨#[98]⟩, .int .i64 0, .string ⟨#[99]⟩, .int .i64 0]) ?_ (Nat.le_refl _) (by decide)
  · obtain ⟨A, c, e, _, hr⟩ := h.reads
    injection e with e1 e2 e3
    subst e1
    exact hr.imp_ (Below.refl _ _) (fun p cs hp => k36.K_below (below_alloc (Below.refl _ _) _) hp)
  · have h1 := Reps.snoc (Reps.none (k36.K w) 2) (k36_mk w la) rfl
    have h2 := Reps.snoc h1 (k36_mk w lb) rfl
    exact Reps.snoc h2 (k36_mk w lc) rfl
attribute [local go_sem] S36.v la lb lc
set_option maxHeartbeats 1000000 in
theorem begun_calls (w : World) : Calls Try.prog 10 #[] w fun e w' => e = .returned (.bool true) ∧ Below w.heap.size w w' := by
  go_enter Try.func10, Try.ntmps10
  go_wp2_with (first
    | (go_at_call 16; go_loud (refine (from_calls 2 (by decide) (by decide) _ 3 [la, lb, lc] _ (lit3 w) (by decide) (by decide) (by decide)).mono ?_); rintro e w2 ⟨g, v, rfl, hg, hl2, hb2⟩; rw [begun_hs] at hl2)
    | (go_at_call 12; refine (len_calls hl2 (show (2 : Int) ≠ 0 by decide)).mono ?_; rintro e w' ⟨rfl, rfl⟩)
    | (go_at_call 13; refine (base_calls hl2 (show (2 : Int) ≠ 0 by decide)).mono ?_; rintro e w' ⟨rfl, rfl⟩)
    | (go_at_call 21; refine (at_calls hl2 (show (2 : Int) ≠ 0 by decide) 0 (by decide)).mono ?_; rintro e w3 ⟨rfl, hb3⟩))
  go_ret
  exact ⟨rfl, below_alloc (below_step (below_step (below_alloc (Below.refl _ _) _) hb2) hb3) _⟩
end Go.Proofs.Ytbjdjbhmafmnbaa
