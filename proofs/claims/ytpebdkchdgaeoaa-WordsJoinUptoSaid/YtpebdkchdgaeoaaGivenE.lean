/-
  slices.Clone of runes.
-/
import Derived.Test.YtpebdkchdgaeoaaGivenD
import Derived.Test.YtpebdkchdgaeoaaPAllx0
import Derived.Lib.LazyBuf
namespace Go.Proofs.Ytpebdkchdgaeoaa
open Go.RowKit Go.Proofs.YtpebdkchdgaeoaaW.PrintWords Go.Proofs.YtpebdkchdgaeoaaW.PrintLast Go.Proofs.YtpebdkchdgaeoaaW.PrintMore Go.Proofs.Ytpebdkchdgaeoaa.PAll
set_option linter.unusedVariables false
set_option linter.unusedSimpArgs false

theorem clone_calls (A0 : Option Addr) (c0 : Nat) (l0 : List Int) (w : World) (hr0 : Kd.C (Kd.int .i32) w A0 l0.length l0) (hc0 : l0.length ≤ c0) (hl : l0.length ≤ 1000000000000) :
    Calls Try.prog 31 #[.slice A0 l0.length c0] w fun e w' => ∃ v0_ : Value, e = .returned (v0_) ∧ Kd.R (Kd.int .i32) 21 w' w.heap.size (fun _ => True) v0_ l0 ∧ Below w.heap.size w w' := by
  have HB0 := Below.refl w.heap.size w
  have hq := run_eql_slice_nil (P := Try.prog) w 22 21 A0 l0.length c0 Try.underlying22
  cases A0 with
  | none =>
    simp only [Option.isNone] at hq
    have hz : l0 = [] := by
      cases l0 with
      | nil => rfl
      | cons a t => obtain ⟨ad, h, _⟩ := hr0.2.2 (by simp); cases h
    subst hz
    simp only [List.length_nil] at hq ⊢
    go_enter Try.func31, Try.ntmps31
    go_wp2
    go_ret
    exact ⟨_, rfl, Kd.R_nil _ _ _ _ _, Below.refl _ _⟩
  | some ad =>
    go_enter Try.func31, Try.ntmps31
    have HO : Kd.R (Kd.int .i32) 21 (w.alloc (.cells #[] 21)) w.heap.size (fun _ => True) (.slice (some ⟨w.heap.size, 0, none⟩) 0 0) [] :=
      ⟨fun _ _ => trivial, OwnRow.lit w w.heap.size (R := Kd.M (Kd.int .i32) _ _ _) (ps := []) (inner := []) ⟨rfl, fun i p h => by simp at h⟩ (Nat.le_refl _) (by simp)⟩
    have HC := Kd.C_alloc hr0 (.cells #[] 21)
    simp only [Option.isNone] at hq
    go_wp2_with ((with_reducible refine gate_builtin (b := .append) (xs := #[.tmp 5, .tmp 6]) rfl ?_); at_builtin; refine Kd.R_append_rows (Kd.int .i32) (w0 := w) w.heap.size rfl (.tmp 5) (.tmp 6) 22 21 (.int .i32 0) 4 rfl Try.underlying22 info21 rfl (by decide) (by omega) _ [] l0 _ _ _ (fun _ => True) (fun _ => False) rfl rfl HO HC (fun _ _ h => h) (fun _ h => h.elim) (fun _ _ => trivial) (by exact HB0.alloc (Nat.le_refl _) _) (by simp) (by simp; omega) ?_; intro v1 w1 ho hb hg hat)
    go_ret
    exact ⟨_, rfl, ho, hb⟩
end Go.Proofs.Ytpebdkchdgaeoaa
