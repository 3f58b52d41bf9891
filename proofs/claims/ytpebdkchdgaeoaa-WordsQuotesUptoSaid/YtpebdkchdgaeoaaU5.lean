/-
  WordsBack: a text that is quoted is one plain word; without its quotes it is the text; no quote is open behind it.
-/
import Derived.Test.YtpebdkchdgaeoaaU4
namespace Go.Proofs.Ytpebdkchdgaeoaa.T
open Go.RowKit Go.Proofs.Ytpebdkchdgaeoaa.PAll Go.Proofs.YtpebdkchdgaeoaaW.PrintWords Go.Proofs.YtpebdkchdgaeoaaW.PrintLast
set_option linter.unusedVariables false
set_option linter.unusedSimpArgs false
theorem quote_len (t : List Int) (style : Int) : (quoteL t style).1.length ≤ 1024 ∧ ((quoteL t style).2 = 0 ∨ (quoteL t style).2 = 1 ∧ (style < 1 ∨ style > 3) ∨ (quoteL t style).2 = 3 ∧ t.length > 254) := by
  have hlim : ∀ l : List Int, l.length ≤ 4 * t.length + 2 → (lim l).1.length ≤ 1024 ∧ ((lim l).2 = 0 ∨ (lim l).2 = 1 ∧ (style < 1 ∨ style > 3) ∨ (lim l).2 = 3 ∧ t.length > 254) := by
    intro l hl
    unfold lim
    split
    · exact ⟨by simp, .inr (.inr ⟨rfl, by omega⟩)⟩
    · exact ⟨by simp; omega, .inl rfl⟩
  have l1 := q1_len t
  have l2 := q2_len t
  have l3 := q3_len t
  unfold quoteL
  by_cases h1 : style = 1
  · rw [if_pos h1]; exact hlim _ (by simp at l1 ⊢; omega)
  · rw [if_neg h1]
    by_cases h2 : style = 2
    · rw [if_pos h2]; exact hlim _ (by simp at l2 ⊢; omega)
    · rw [if_neg h2]
      by_cases h3 : style = 3
      · rw [if_pos h3]
        by_cases h0 : t = []
        · rw [if_pos h0]; exact ⟨by simp, .inl rfl⟩
        · rw [if_neg h0]; exact hlim _ (by simp at l3 ⊢; omega)
      · rw [if_neg h3]
        exact ⟨by simp, .inr (.inl ⟨rfl, by omega⟩)⟩

end Go.Proofs.Ytpebdkchdgaeoaa.T
