/-
  WordsParts: words rise, do not overlap, have runes, and between them are blanks that are not quoted.
-/
import Derived.Test.YtpebdkchdgaeoaaU2
namespace Go.Proofs.Ytpebdkchdgaeoaa.T
open Go.RowKit Go.Proofs.Ytpebdkchdgaeoaa.PAll Go.Proofs.YtpebdkchdgaeoaaW.PrintWords Go.Proofs.YtpebdkchdgaeoaaW.PrintLast
set_option linter.unusedVariables false
set_option linter.unusedSimpArgs false

/-- The words, told with a number of rounds: to be reckoned. -/
def wordsF : Nat → Nat → List (Int × Int) → List S27
  | 0, _, _ => []
  | _ + 1, _, [] => []
  | n + 1, i, p :: t =>
    if (decide (p.2 = 0) && blankB p.1) = true then wordsF n (i + 1) t
    else if opAt ((p :: t).drop (digN (p :: t))) = true then
      ⟨1, (i : Int), ((i + (digN (p :: t) + opLen ((p :: t).drop (digN (p :: t)))) : Nat) : Int)⟩ :: wordsF n (i + (digN (p :: t) + opLen ((p :: t).drop (digN (p :: t))))) (t.drop (digN (p :: t) + opLen ((p :: t).drop (digN (p :: t))) - 1))
    else ⟨0, (i : Int), ((i + plainLen (p :: t) : Nat) : Int)⟩ :: wordsF n (i + plainLen (p :: t)) (t.drop (plainLen (p :: t) - 1))
theorem wordsF_eq : ∀ (n i : Nat) (z : List (Int × Int)), z.length ≤ n → wordsZ i z = wordsF n i z
  | 0, i, z, h => by
    have : z = [] := List.eq_nil_of_length_eq_zero (by omega)
    subst this
    rw [wordsZ_nil, wordsF]
  | n + 1, i, [], _ => by rw [wordsZ_nil, wordsF]
  | n + 1, i, p :: t, h => by
    have hl : t.length ≤ n := by simpa using h
    have hd : ∀ m, (t.drop m).length ≤ n := fun m => by rw [List.length_drop]; omega
    rw [wordsZ_cons, wordsF, wordsF_eq n _ t hl, wordsF_eq n _ _ (hd _), wordsF_eq n _ _ (hd _)]

theorem begun_words : wordsL (codes (⟨#[101, 99, 104, 111, 32, 39, 97, 32, 98, 39, 124, 119, 99]⟩ : ByteArray)) = [⟨0, 0, 4⟩, ⟨0, 5, 10⟩, ⟨1, 10, 11⟩, ⟨0, 11, 13⟩] := by
  unfold wordsL
  rw [wordsF_eq 13 _ _ (by decide)]
  kernel_rfl

theorem begun_f (k : Nat) (hk : 200 ≤ k) : lanyardlaw12_begun.f k = some true := by
  unfold lanyardlaw12_begun.f lanyardlaw12_runesOf.f
  rw [if_pos (by decide), Option.bind_some, words_f _ (by decide) k (by rw [codes_length]; have : (⟨#[101, 99, 104, 111, 32, 39, 97, 32, 98, 39, 124, 119, 99]⟩ : ByteArray).size = 13 := rfl; omega), Option.bind_some, begun_words]
  rfl

theorem quoted_f (line : List Int) (hn : line.length ≤ 1000000000000) (k : Nat) (hk : line.length + 4 ≤ k) (i : Nat) (hi : i < line.length) : shwords_Quoted.f k line (i : Int) = some (rd (ql (0, false) line) (i : Int)) := by
  unfold shwords_Quoted.f
  rw [if_neg (by omega), if_neg (by omega), states_f line hn k hk, Option.bind_some, if_pos (by omega), if_pos (by rw [ql_length]; omega)]

theorem words_len (i : Nat) : ∀ (n : Nat) (z : List (Int × Int)) (i : Nat), z.length ≤ n → (wordsZ i z).length ≤ z.length
  | 0, z, i, h => by
    have : z = [] := List.eq_nil_of_length_eq_zero (by omega)
    subst this
    rw [wordsZ_nil]; simp
  | n + 1, [], i, _ => by rw [wordsZ_nil]; simp
  | n + 1, p :: t, i, h => by
    have hl : t.length ≤ n := by simpa using h
    rw [wordsZ_cons]
    split
    · have := words_len 0 n t (i + 1) hl; simp; omega
    · split
      · have := words_len 0 n (t.drop (digN (p :: t) + opLen ((p :: t).drop (digN (p :: t))) - 1)) (i + (digN (p :: t) + opLen ((p :: t).drop (digN (p :: t))))) (by rw [List.length_drop]; omega)
        rw [List.length_drop] at this
        simp only [List.length_cons]; omega
      · have := words_len 0 n (t.drop (plainLen (p :: t) - 1)) (i + plainLen (p :: t)) (by rw [List.length_drop]; omega)
        rw [List.length_drop] at this
        simp only [List.length_cons]; omega
theorem wordsL_len (line : List Int) : (wordsL line).length ≤ line.length := by
  have := words_len 0 _ (zs (0, false) line) 0 (Nat.le_refl _)
  rwa [zs_length] at this

end Go.Proofs.Ytpebdkchdgaeoaa.T
