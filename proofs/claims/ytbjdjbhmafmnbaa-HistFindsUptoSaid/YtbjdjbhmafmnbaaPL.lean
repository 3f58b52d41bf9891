/-
  Searches in texts: what a place told by index and lastIndex is.
-/
import Derived.Test.YtbjdjbhmafmnbaaFB
import Derived.Lib.LastIndexLaws
namespace Go.Proofs.Ytbjdjbhmafmnbaa
open Go.Lib
set_option linter.unusedVariables false
theorem index_spec (sub : List UInt8) : ∀ s : List UInt8, (index s sub = -1 ∧ ∀ j, j ≤ s.length → occAt s sub j = false) ∨ ∃ i : Nat, index s sub = (i : Int) ∧ i ≤ s.length ∧ occAt s sub i = true
  | [] => by
    cases sub with
    | nil => exact .inr ⟨0, rfl, Nat.le_refl _, rfl⟩
    | cons x l =>
      refine .inl ⟨rfl, fun j hj => ?_⟩
      obtain rfl : j = 0 := by simpa using hj
      rfl
  | b :: l => by
    unfold index
    split
    · rename_i h
      exact .inr ⟨0, rfl, by simp, h⟩
    · rename_i h
      rcases index_spec sub l with ⟨h1, h2⟩ | ⟨i, h1, h2, h3⟩
      · rw [if_pos (by simp [h1])]
        refine .inl ⟨rfl, fun j hj => ?_⟩
        cases j with
        | zero => exact (Bool.eq_false_iff.2 h : sub.isPrefixOf (b :: l) = false)
        | succ j => exact h2 j (by simpa using hj)
      · rw [h1, if_neg (by simp)]
        exact .inr ⟨i + 1, by simp, by simpa using h2, h3⟩
theorem lastIndex_spec (s sub : List UInt8) : (lastIndex s sub = -1 ∧ ∀ j, j ≤ s.length → occAt s sub j = false) ∨ ∃ i : Nat, lastIndex s sub = (i : Int) ∧ i ≤ s.length ∧ occAt s sub i = true := by
  have hlen : ∀ j, occAt s sub j = true → j ≤ s.length → j + sub.length ≤ s.length := fun j h hj => by
    have := (List.isPrefixOf_iff_prefix.1 h).length_le
    simp at this
    omega
  unfold lastIndex
  split
  · rename_i hle
    rcases lastOcc_spec s sub (s.length - sub.length + 1) with ⟨h1, h2⟩ | ⟨i, h1, h2, h3, h4⟩
    · refine .inl ⟨h1, fun j hj => ?_⟩
      cases ho : occAt s sub j
      · rfl
      · have := hlen j ho hj
        have := h2 j (by omega)
        rw [ho] at this
        cases this
    · exact .inr ⟨i, h2, by omega, h3⟩
  · rename_i hle
    refine .inl ⟨rfl, fun j hj => ?_⟩
    cases ho : occAt s sub j
    · rfl
    · have := hlen j ho hj
      omega
/-- Where a text is found it stands. -/
theorem foundF_at (s t : ByteArray) (back begins : Bool) (h : 0 ≤ foundF s t back begins) : foundF s t back begins ≤ (s.data.toList.length : Int) ∧ hasPrefix (s.data.toList.drop (foundF s t back begins).toNat) t.data.toList = true ∧ (begins = true → foundF s t back begins = 0) := by
  unfold foundF at h ⊢
  cases begins
  · simp only [Bool.false_eq_true, if_false] at h ⊢
    cases back
    · simp only [Bool.false_eq_true, if_false] at h ⊢
      rcases index_spec t.data.toList s.data.toList with ⟨h1, _⟩ | ⟨i, h1, h2, h3⟩
      · rw [h1] at h; omega
      · rw [h1]
        exact ⟨by omega, by rw [Int.toNat_natCast]; exact h3, fun h => h.elim⟩
    · simp only [if_true] at h ⊢
      rcases lastIndex_spec s.data.toList t.data.toList with ⟨h1, _⟩ | ⟨i, h1, h2, h3⟩
      · rw [h1] at h; omega
      · rw [h1]
        exact ⟨by omega, by rw [Int.toNat_natCast]; exact h3, fun h => h.elim⟩
  · simp only [if_true] at h ⊢
    cases hp : hasPrefix s.data.toList t.data.toList
    · rw [hp] at h
      simp at h
    · simp [hp]
/-- A text is found where there is one. -/
theorem foundF_has (s t : ByteArray) (back begins : Bool) : (if begins then hasPrefix s.data.toList t.data.toList else contains s.data.toList t.data.toList) = decide (0 ≤ foundF s t back begins) := by
  unfold foundF contains
  cases begins
  · simp only [Bool.false_eq_true, if_false]
    cases back
    · simp
    · simp only [if_true]
      rcases index_spec t.data.toList s.data.toList with ⟨h1, h2⟩ | ⟨i, h1, h2, h3⟩ <;> rcases lastIndex_spec s.data.toList t.data.toList with ⟨g1, g2⟩ | ⟨j, g1, g2, g3⟩
      · rw [h1, g1]
      · rw [h2 j g2] at g3; cases g3
      · rw [g2 i h2] at h3; cases h3
      · rw [h1, g1]; simp
  · simp only [if_true]
    cases hp : hasPrefix s.data.toList t.data.toList <;> simp
end Go.Proofs.Ytbjdjbhmafmnbaa
