/-
  What a history is that was given lines: the last ones of all.
-/
import Derived.Test.YtbjdjbhmafmnbaaHE
namespace Go.Proofs.Ytbjdjbhmafmnbaa
open Go.RowKit Go.Proofs.YtbjdjbhmafmnbaaW.PrintWords Go.Proofs.YtbjdjbhmafmnbaaW.PrintLast Go.Proofs.YtbjdjbhmafmnbaaW.PrintMore Go.Proofs.Ytbjdjbhmafmnbaa.PAll
set_option linter.unusedVariables false
set_option linter.unusedSimpArgs false

/-- How many lines have gone. -/
def gone (m : Nat) (all : List S36) : Nat := all.length - m
def Hs.of (m : Nat) (all : List S36) : Hs := ⟨all.drop (gone m all), ((gone m all : Nat) : Int) + 1, (m : Int)⟩
theorem Hs.of_nil (m : Nat) : Hs.of m [] = ⟨[], 1, (m : Int)⟩ := by simp [Hs.of, gone]
theorem Hs.of_len (m : Nat) (all : List S36) : (Hs.of m all).lines.length = min m all.length := by
  simp only [Hs.of, gone, List.length_drop]
  omega
theorem Hs.of_base (m : Nat) (all : List S36) : (Hs.of m all).base = (all.length : Int) - ((Hs.of m all).lines.length : Int) + 1 := by
  rw [Hs.of_len]
  simp only [Hs.of, gone]
  omega
theorem Hs.of_add (m : Nat) (all l : List S36) : (Hs.of m all).add l = Hs.of m (all ++ l) := by
  have hl := Hs.of_len m all
  unfold Hs.add Hs.stifle
  by_cases h : m < (min m all.length) + l.length
  · rw [if_pos (by simp only [List.length_append, hl]; show (m : Int) < _; omega)]
    simp only [List.length_append, hl]
    have e : ((((min m all.length + l.length : Nat) : Int) - (Hs.of m all).most).toNat) = min m all.length + l.length - m := by show (((min m all.length + l.length : Nat) : Int) - (m : Int)).toNat = _; omega
    rw [e]
    simp only [Hs.of, gone, Hs.mk.injEq, List.length_append]
    refine ⟨?_, ?_, trivial⟩
    · rw [show all.drop (all.length - m) ++ l = (all ++ l).drop (all.length - m) from (List.drop_append_of_le_length (by omega)).symm, List.drop_drop]
      congr 1
      omega
    · omega
  · rw [if_neg (by simp only [List.length_append, hl]; show ¬ ((m : Int) < _); omega)]
    by_cases hm : all.length ≤ m
    · simp only [Hs.of, gone, Hs.mk.injEq, List.length_append]
      refine ⟨?_, ?_, trivial⟩
      · rw [show all.length - m = 0 by omega, show all.length + l.length - m = 0 by omega]
        rfl
      · omega
    · have : l = [] := List.length_eq_zero_iff.1 (by omega)
      subst this
      simp [Hs.of]
/-- All lines that may be added. -/
def goods (parts : List (List S36)) : List S36 := (parts.filter fun l => decide (mayF l = 0)).flatten
/-- How much there is in texts. -/
def tot36 (l : List (List S36)) : Nat := (l.map fun x => x.length + 1).sum
theorem goods_snoc (parts : List (List S36)) (l : List S36) : goods (parts ++ [l]) = if mayF l = 0 then goods parts ++ l else goods parts := by
  unfold goods
  rw [List.filter_append, List.flatten_append]
  by_cases h : mayF l = 0 <;> simp [h]
theorem tot36_append (a b : List (List S36)) : tot36 (a ++ b) = tot36 a + tot36 b := by simp [tot36]
theorem tot36_take (l : List (List S36)) (j : Nat) : tot36 (l.take j) ≤ tot36 l := by
  have h := tot36_append (l.take j) (l.drop j)
  rw [List.take_append_drop] at h
  omega
theorem tot36_mem {l : List (List S36)} {t : List S36} (h : t ∈ l) : t.length ≤ tot36 l := by
  induction l with
  | nil => cases h
  | cons x l ih =>
    have e : tot36 (x :: l) = x.length + 1 + tot36 l := by simp [tot36]
    rcases List.mem_cons.1 h with rfl | h
    · omega
    · have := ih h
      omega
theorem goods_len (l : List (List S36)) : (goods l).length ≤ tot36 l := by
  induction l with
  | nil => simp [goods, tot36]
  | cons x l ih =>
    have e : tot36 (x :: l) = x.length + 1 + tot36 l := by simp [tot36]
    by_cases h : mayF x = 0
    · have : goods (x :: l) = x ++ goods l := by simp [goods, h]
      rw [this, List.length_append]
      omega
    · have : goods (x :: l) = goods l := by simp [goods, h]
      rw [this]
      omega
theorem len_tot36 (l : List (List S36)) : l.length ≤ tot36 l := by
  induction l with
  | nil => simp
  | cons x l ih =>
    have e : tot36 (x :: l) = x.length + 1 + tot36 l := by simp [tot36]
    simp only [List.length_cons]
    omega
end Go.Proofs.Ytbjdjbhmafmnbaa
