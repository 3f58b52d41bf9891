/-
  What comes in: slices of runes, as the walks want them, and how long they are where the bulk is small.
-/
import Derived.Test.YtpebdkchdgaeoaaRows
import Derived.Test.YtpebdkchdgaeoaaWWords
import Derived.WalkKit
import Derived.ProofKit
import Derived.OpenShut
import Derived.ShutString
import Derived.ChangeOld
import Derived.Below
import Derived.JoinedCond
namespace Go.Proofs.Ytpebdkchdgaeoaa
open Go.ChangeShapes Go.WideShapes Go.ChangeAt Go.RowKit
open Go.ChangeMaps (open_string shut_string)
open Go.Proofs.YtpebdkchdgaeoaaW.PrintWords
set_option linter.unusedVariables false

namespace Bulk
theorem one_le {H : Type} (d : DataW H) : 1 ≤ Rows.uptoBulk d := by
  cases d with
  | lit l => cases l <;> simp [Rows.uptoBulk]
  | nil => simp [Rows.uptoBulk]
  | ptr d => simp [Rows.uptoBulk]
  | slice elems spare => simp [Rows.uptoBulk]
  | agg parts => simp [Rows.uptoBulk]
  | iface t d => simp [Rows.uptoBulk]
  | map entries => simp [Rows.uptoBulk]
  | held h => simp [Rows.uptoBulk]
theorem part_le {H : Type} {d : DataW H} {l : List (DataW H)} (h : d ∈ l) : Rows.uptoBulk d ≤ Rows.uptoBulkAll l := by
  induction l with
  | nil => cases h
  | cons x r ih =>
    simp only [Rows.uptoBulkAll]
    cases List.mem_cons.1 h with
    | inl e => subst e; omega
    | inr e => have := ih e; omega
theorem length_le {H : Type} (l : List (DataW H)) : l.length ≤ Rows.uptoBulkAll l := by
  induction l with
  | nil => simp [Rows.uptoBulkAll]
  | cons x r ih => have := one_le x; simp only [Rows.uptoBulkAll, List.length_cons]; omega
theorem slice_le {H : Type} (elems spare : List (DataW H)) : elems.length + spare.length + 1 ≤ Rows.uptoBulk (.slice elems spare) := by
  have h1 := length_le elems
  have h2 := length_le spare
  simp only [Rows.uptoBulk]
  omega
theorem slice_elems {H : Type} (elems spare : List (DataW H)) : Rows.uptoBulkAll elems + 1 ≤ Rows.uptoBulk (.slice elems spare) := by
  simp only [Rows.uptoBulk]
  omega
theorem bound {H : Type} {l : List (DataW H)} (hk : Rows.uptoSmall H l = true) : Rows.uptoBulkAll l ≤ 1048576 := of_decide_eq_true hk
end Bulk

/-- A slice of runes that came in. -/
structure RunesIn (w : World) (a : Option Addr) (len cap : Nat) (l : List Int) : Prop where
  reads : Kd.C (Kd.int .i32) w a l.length l
  len_eq : len = l.length
  cap_le : l.length ≤ cap
  wf : ∀ n ∈ l, (Lit.int .i32 n).wf = true

theorem runes_arg {H : Type} {enc : TypeId × Value → H} {W : World} {base : Nat} {sp : Nat → Bool} {hd : Bool} {v : Value} {d : DataW H} {p : List MemPlace}
    (hv : Value.okWide Try.prog W .any base 22 v) (h : DataW.Trod enc Try.prog W 0 sp hd 22 v d p) :
    ∃ a cap l, v = .slice a l.length cap ∧ RunesIn W a l.length cap l ∧ l.length + 1 ≤ Rows.uptoBulk d := by
  obtain ⟨a0, len0, cap0, rfl⟩ := okWide_slice Try.underlying22 hv
  obtain ⟨fuel, hf⟩ := h
  rcases open_ints Try.underlying22 Try.underlying21 (by kernel_rfl) hf with ⟨hcs, hx⟩ | ⟨x, l, c, zs, hcs, _, hl, hm, hz, hx, hcell, hwz⟩
  · simp [Value.cells] at hcs
    obtain ⟨rfl, rfl, rfl⟩ := hcs
    obtain ⟨rfl, rfl⟩ := Prod.mk.inj hx
    exact ⟨none, 0, [], rfl, ⟨Kd.C_nil _ _, rfl, Nat.le_refl _, fun n hn => by cases hn⟩, by simp [Rows.uptoBulk]⟩
  · simp [Value.cells] at hcs
    obtain ⟨rfl, rfl, rfl⟩ := hcs
    obtain ⟨rfl, rfl⟩ := Prod.mk.inj hx
    have hzl : len0 ≤ zs.length := by rw [hz]; split <;> omega
    have ht : (zs.take len0).length = len0 := by rw [List.length_take]; omega
    refine ⟨some x, cap0, zs.take len0, by rw [ht], ⟨?_, rfl, by rw [ht]; exact hl, fun n hn => hwz n (List.mem_of_mem_take hn)⟩, ?_⟩
    · rw [ht]
      refine ⟨ht, by unfold maxLen at hm; omega, fun hn => ⟨x, rfl, fun j q hq => ?_⟩⟩
      have hj : j < len0 := by
        have := (List.getElem?_eq_some_iff.1 hq).1
        omega
      refine ⟨[.int .i32 q], rfl, rfl, fun i u hu => ?_⟩
      have hjz : j < zs.length := by omega
      have hq2 : zs.getD j 0 = q := by
        rw [List.getElem?_take, if_pos hj] at hq
        simp [List.getD, hq]
      match i, hu with
      | 0, hu =>
        simp at hu
        subst hu
        have := hcell j hjz
        rw [hq2] at this
        simpa [Kd.int, Kd.scalar] using this
      | i + 1, hu => simp at hu
    · have := Bulk.slice_le (lits (H := H) .i32 (zs.take len0)) (lits .i32 (zs.drop len0))
      have e : (lits (H := H) .i32 (zs.take len0)).length = (zs.take len0).length := by simp [lits]
      omega
end Go.Proofs.Ytpebdkchdgaeoaa
