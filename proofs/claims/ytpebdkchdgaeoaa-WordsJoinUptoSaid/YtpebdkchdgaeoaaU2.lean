/-
  Words, as a plain Lean function: the printed loop is it.
-/
import Derived.Test.YtpebdkchdgaeoaaU1
namespace Go.Proofs.Ytpebdkchdgaeoaa.T
open Go.RowKit Go.Proofs.Ytpebdkchdgaeoaa.PAll Go.Proofs.YtpebdkchdgaeoaaW.PrintWords Go.Proofs.YtpebdkchdgaeoaaW.PrintLast
set_option linter.unusedVariables false
set_option linter.unusedSimpArgs false

theorem wordsZ_nil (i : Nat) : wordsZ i [] = [] := by rw [wordsZ]
theorem wordsZ_cons (i : Nat) (p : Int × Int) (t : List (Int × Int)) : wordsZ i (p :: t) =
    if (decide (p.2 = 0) && blankB p.1) = true then wordsZ (i + 1) t
    else if opAt ((p :: t).drop (digN (p :: t))) = true then
      ⟨1, (i : Int), ((i + (digN (p :: t) + opLen ((p :: t).drop (digN (p :: t)))) : Nat) : Int)⟩ :: wordsZ (i + (digN (p :: t) + opLen ((p :: t).drop (digN (p :: t))))) (t.drop (digN (p :: t) + opLen ((p :: t).drop (digN (p :: t))) - 1))
    else ⟨0, (i : Int), ((i + plainLen (p :: t) : Nat) : Int)⟩ :: wordsZ (i + plainLen (p :: t)) (t.drop (plainLen (p :: t) - 1)) := by
  rw [wordsZ]

set_option maxHeartbeats 400000 in
theorem words_l0 (line q : List Int) (hq : q.length = line.length) (hn : line.length ≤ 1000000000000) : ∀ (d k i : Nat) (acc : List S27), i + d = line.length → 8 * d + line.length + 20 ≤ k → acc.length ≤ i →
    shwords_Words.l0 k line acc q (i : Int) = some (acc ++ wordsZ i ((line.zip q).drop i)) := by
  intro d
  induction d using Nat.strongRecOn with
  | _ d ih =>
  intro k i acc hi hk hacc
  obtain ⟨k, rfl⟩ : ∃ m, k = m + 1 := ⟨k - 1, by omega⟩
  rcases Nat.eq_zero_or_pos d with rfl | hd
  · simp only [shwords_Words.l0]
    rw [if_neg (by omega)]
    have hz : (line.zip q).drop i = [] := List.drop_eq_nil_of_le (by simp [hq]; omega)
    rw [hz, wordsZ_nil]
    simp
  · have hlt : i < line.length := by omega
    have hlen : ((line.zip q).drop i).length = line.length - i := by simp [hq]
    obtain ⟨c, κ, t, hz, hc, hκ, ht⟩ : ∃ c κ t, (line.zip q).drop i = (c, κ) :: t ∧ rd line (i : Int) = c ∧ rd q (i : Int) = κ ∧ t = (line.zip q).drop (i + 1) :=
      ⟨_, _, _, drop_zip hq hlt, rd_nat line i hlt, rd_nat q i (by omega), rfl⟩
    have hdr : ∀ n, ((c, κ) :: t).drop n = (line.zip q).drop (i + n) := fun n => by rw [← hz, List.drop_drop]
    have hdr1 : ∀ e, 1 ≤ e → t.drop (e - 1) = (line.zip q).drop (i + e) := fun e he => by rw [ht, List.drop_drop, show i + 1 + (e - 1) = i + e by omega]
    simp only [shwords_Words.l0]
    rw [hc, hκ, class_f, Option.bind_some, if_pos (by omega), if_pos (by omega), hz, words_cls line q hq k i acc c κ hlt]
    obtain ⟨k, rfl⟩ : ∃ m, k = m + 1 := ⟨k - 1, by omega⟩
    simp only [shwords_Words.j1]
    by_cases hbl : (decide (κ = 0) && blankB c) = true
    · have e1 : i + 1 + (d - 1) = line.length := by omega
      have e2 : 8 * (d - 1) + line.length + 20 ≤ k := by omega
      have e3 : acc.length ≤ i + 1 := by omega
      have h3 := ih (d - 1) (by omega) k (i + 1) acc e1 e2 e3
      rw [if_pos hbl, wordsZ_cons, if_pos hbl, wrapN (show (i : Int) + 1 = ((i + 1 : Nat) : Int) by omega) (by omega) (by omega), h3, ht]
    · rw [if_neg hbl, digits_f line q hq hn i k (by omega) (by omega), Option.bind_some, hz]
      have hnle := digN_le ((c, κ) :: t)
      rw [← hz, hlen] at hnle
      have hnle2 : digN ((c, κ) :: t) ≤ line.length - i := by rw [← hz]; exact hnle
      rw [wrapN (show (i : Int) + (digN ((c, κ) :: t) : Int) = ((i + digN ((c, κ) :: t) : Nat) : Int) by omega) (by omega) (by omega), words_op line q hq]
      obtain ⟨k, rfl⟩ : ∃ m, k = m + 1 := ⟨k - 1, by omega⟩
      simp only [shwords_Words.j2]
      rw [wordsZ_cons, if_neg hbl, ← hdr]
      by_cases ho : opAt (((c, κ) :: t).drop (digN ((c, κ) :: t))) = true
      · have hol := opLen_facts _ (opAt_ne ho)
        have hl2 : (((c, κ) :: t).drop (digN ((c, κ) :: t))).length = line.length - i - digN ((c, κ) :: t) := by rw [List.length_drop, ← hz, hlen]
        have hpos : i + digN ((c, κ) :: t) ≤ line.length := by rw [← hz]; omega
        rw [if_pos ho, if_pos ho, wrapN (show (i : Int) + (digN ((c, κ) :: t) : Int) = ((i + digN ((c, κ) :: t) : Nat) : Int) by omega) (by omega) (by omega), operator_f line q hq hn _ hpos, Option.bind_some, if_pos (by omega), ← hdr]
        rw [hl2] at hol
        generalize opLen (((c, κ) :: t).drop (digN ((c, κ) :: t))) = o at *
        rw [← hz] at hol hpos ⊢
        generalize digN ((line.zip q).drop i) = n at *
        have e1 : i + (n + o) + (d - (n + o)) = line.length := by omega
        have e2 : 8 * (d - (n + o)) + line.length + 20 ≤ k := by omega
        have e3 : (acc ++ [(⟨1, (i : Int), ((i + (n + o) : Nat) : Int)⟩ : S27)]).length ≤ i + (n + o) := by rw [List.length_append, List.length_singleton]; omega
        have h3 := ih (d - (n + o)) (by omega) k (i + (n + o)) _ e1 e2 e3
        rw [wrapN (show (n : Int) + (o : Int) = ((n + o : Nat) : Int) by omega) (by omega) (by omega), wrapN (show (i : Int) + ((n + o : Nat) : Int) = ((i + (n + o) : Nat) : Int) by omega) (by omega) (by omega), h3, hdr1 (n + o) (by omega)]
        simp
      · rw [if_neg ho, if_neg ho]
        have hpl := plain_pos (c, κ) t hbl ho
        have hple := plainLen_le ((c, κ) :: t)
        rw [hdr1 _ hpl]
        rw [← hz] at hpl hple ⊢
        rw [hlen] at hple
        generalize hP : plainLen ((line.zip q).drop i) = P at *
        have e0 : acc.length < 5864062014805 := by omega
        have e1 : i + P + (d - P) = line.length := by omega
        have e2 : 8 * (d - P) + line.length + 20 + P + 1 ≤ k := by omega
        have e3 : (acc ++ [(⟨0, (i : Int), ((i + P : Nat) : Int)⟩ : S27)]).length ≤ i + P := by rw [List.length_append, List.length_singleton]; omega
        have e4 : d - P < d := by omega
        refine words_l1 line q hq hn acc e0 (i : Int) (8 * (d - P) + line.length + 20) _ d k i hi (by rw [hP]; exact e2) (fun k' hk' => ?_)
        rw [hP]
        have h3 := ih (d - P) e4 k' (i + P) _ e1 hk' e3
        rw [h3]
        simp

theorem words_f (line : List Int) (hn : line.length ≤ 1000000000000) (k : Nat) (hk : 9 * line.length + 20 ≤ k) : shwords_Words.f k line = some (wordsL line) := by
  unfold shwords_Words.f
  rw [states_f line hn k (by omega), Option.bind_some]
  have := words_l0 line (ql (0, false) line) (ql_length line _) hn line.length k 0 [] (by omega) (by omega) (by simp)
  simpa [wordsL, zs] using this
end Go.Proofs.Ytpebdkchdgaeoaa.T
