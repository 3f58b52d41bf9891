/-
  WordsParts: words rise, do not overlap, have runes, and between them are blanks that are not quoted.
-/
import Derived.Test.YtpebdkchdgaeoaaT2
namespace Go.Proofs.Ytpebdkchdgaeoaa.T
open Go.RowKit Go.Proofs.Ytpebdkchdgaeoaa.PAll Go.Proofs.YtpebdkchdgaeoaaW.PrintWords Go.Proofs.YtpebdkchdgaeoaaW.PrintLast
set_option linter.unusedVariables false
set_option linter.unusedSimpArgs false

/-- The words, told with a number of rounds: to be reckoned. -/
def wordsF : Nat → Nat → List (Int × Int) → List S27
  | 0, _, _ => []
  | _ + 1, _, [] => []
  | n + 1, i, p :: t =>
    if (decide (p.2 = 0) && blankB p.1) = true then wordsF n (i + 1) t
    else if opAt ((p :: t).drop (digN (p :: t))) = true then
      ⟨1, (i : Int), ((i + (digN (p :: t) + opLen ((p :: t).drop (digN (p :: t)))) : Nat) : Int)⟩ :: wordsF n (i + (digN (p :: t) + opLen ((p :: t).drop (digN (p :: t))))) (t.drop (digN (p :: t) + opLen ((p :: t).drop (digN (p :: t))) - 1))
    else ⟨0, (i : Int), ((i + plainLen (p :: t) : Nat) : Int)⟩ :: wordsF n (i + plainLen (p :: t)) (t.drop (plainLen (p :: t) - 1))
theorem wordsF_eq : ∀ (n i : Nat) (z : List (Int × Int)), z.length ≤ n → wordsZ i z = wordsF n i z
  | 0, i, z, h => by
    have : z = [] := List.eq_nil_of_length_eq_zero (by omega)
    subst this
    rw [wordsZ_nil, wordsF]
  | n + 1, i, [], _ => by rw [wordsZ_nil, wordsF]
  | n + 1, i, p :: t, h => by
    have hl : t.length ≤ n := by simpa using h
    have hd : ∀ m, (t.drop m).length ≤ n := fun m => by rw [List.length_drop]; omega
    rw [wordsZ_cons, wordsF, wordsF_eq n _ t hl, wordsF_eq n _ _ (hd _), wordsF_eq n _ _ (hd _)]

theorem begun_words : wordsL (codes (⟨#[101, 99, 104, 111, 32, 39, 97, 32, 98, 39, 124, 119, 99]⟩ : ByteArray)) = [⟨0, 0, 4⟩, ⟨0, 5, 10⟩, ⟨1, 10, 11⟩, ⟨0, 11, 13⟩] := by
  unfold wordsL
  rw [wordsF_eq 13 _ _ (by decide)]
  kernel_rfl

theorem begun_f (k : Nat) (hk : 200 ≤ k) : lanyardlaw12_begun.f k = some true := by
  unfold lanyardlaw12_begun.f lanyardlaw12_runesOf.f
  rw [if_pos (by decide), Option.bind_some, words_f _ (by decide) k (by rw [codes_length]; have : (⟨#[101, 99, 104, 111, 32, 39, 97, 32, 98, 39, 124, 119, 99]⟩ : ByteArray).size = 13 := rfl; omega), Option.bind_some, begun_words]
  rfl

theorem quoted_f (line : List Int) (hn : line.length ≤ 1000000000000) (k : Nat) (hk : line.length + 4 ≤ k) (i : Nat) (hi : i < line.length) : shwords_Quoted.f k line (i : Int) = some (rd (ql (0, false) line) (i : Int)) := by
  unfold shwords_Quoted.f
  rw [if_neg (by omega), if_neg (by omega), states_f line hn k hk, Option.bind_some, if_pos (by omega), if_pos (by rw [ql_length]; omega)]

/-- Words from a place on, as they must be. -/
inductive Parts (line q : List Int) : Nat → List S27 → Prop
  | nil (p : Nat) : p ≤ line.length → (∀ j, p ≤ j → j < line.length → blankB (rd line (j : Int)) = true ∧ rd q (j : Int) = 0) → Parts line q p []
  | cons (p a b : Nat) (kd : Int) (ws : List S27) : p ≤ a → a < b → b ≤ line.length → (∀ j, p ≤ j → j < a → blankB (rd line (j : Int)) = true ∧ rd q (j : Int) = 0) → Parts line q b ws → Parts line q p (⟨kd, (a : Int), (b : Int)⟩ :: ws)

theorem Parts.back {line q : List Int} {p : Nat} {ws : List S27} (h : Parts line q (p + 1) ws) (hb : blankB (rd line (p : Int)) = true ∧ rd q (p : Int) = 0) : Parts line q p ws := by
  cases h with
  | nil _ h1 h2 =>
    refine .nil p (by omega) (fun j hj hl => ?_)
    rcases Nat.eq_or_lt_of_le hj with rfl | hj
    · exact hb
    · exact h2 j hj hl
  | cons _ a b kd ws h1 h2 h3 h4 h5 =>
    refine .cons p a b kd ws (by omega) h2 h3 (fun j hj hl => ?_) h5
    rcases Nat.eq_or_lt_of_le hj with rfl | hj
    · exact hb
    · exact h4 j hj hl

theorem parts_words (line q : List Int) (hq : q.length = line.length) : ∀ (d i : Nat), i + d = line.length → Parts line q i (wordsZ i ((line.zip q).drop i)) := by
  intro d
  induction d using Nat.strongRecOn with
  | _ d ih =>
  intro i hi
  rcases Nat.eq_zero_or_pos d with rfl | hd
  · have hz : (line.zip q).drop i = [] := List.drop_eq_nil_of_le (by simp [hq]; omega)
    rw [hz, wordsZ_nil]
    exact .nil i (by omega) (fun j h1 h2 => by omega)
  · have hlt : i < line.length := by omega
    have hlen : ((line.zip q).drop i).length = line.length - i := by simp [hq]
    obtain ⟨c, κ, t, hz, hc, hκ, ht⟩ : ∃ c κ t, (line.zip q).drop i = (c, κ) :: t ∧ rd line (i : Int) = c ∧ rd q (i : Int) = κ ∧ t = (line.zip q).drop (i + 1) :=
      ⟨_, _, _, drop_zip hq hlt, rd_nat line i hlt, rd_nat q i (by omega), rfl⟩
    have hdr1 : ∀ e, 1 ≤ e → t.drop (e - 1) = (line.zip q).drop (i + e) := fun e he => by rw [ht, List.drop_drop, show i + 1 + (e - 1) = i + e by omega]
    rw [hz, wordsZ_cons]
    by_cases hbl : (decide (κ = 0) && blankB c) = true
    · rw [if_pos hbl, ht]
      refine (ih (d - 1) (by omega) (i + 1) (by omega)).back ?_
      rw [hc, hκ]
      simp only [Bool.and_eq_true, decide_eq_true_eq] at hbl
      exact ⟨hbl.2, hbl.1⟩
    · rw [if_neg hbl]
      by_cases ho : opAt (((c, κ) :: t).drop (digN ((c, κ) :: t))) = true
      · have hol := opLen_facts _ (opAt_ne ho)
        have hnle := digN_le ((c, κ) :: t)
        rw [if_pos ho]
        rw [List.length_drop] at hol
        generalize opLen (((c, κ) :: t).drop (digN ((c, κ) :: t))) = o at *
        rw [← hz] at hol hnle ⊢
        rw [hlen] at hol hnle
        generalize digN ((line.zip q).drop i) = n at *
        rw [hdr1 (n + o) (by omega)]
        exact .cons i i (i + (n + o)) 1 _ (Nat.le_refl _) (by omega) (by omega) (fun j h1 h2 => by omega) (ih (d - (n + o)) (by omega) (i + (n + o)) (by omega))
      · rw [if_neg ho]
        have hpl := plain_pos (c, κ) t hbl ho
        have hple := plainLen_le ((c, κ) :: t)
        rw [hdr1 _ hpl]
        rw [← hz] at hpl hple ⊢
        rw [hlen] at hple
        generalize plainLen ((line.zip q).drop i) = P at *
        exact .cons i i (i + P) 0 _ (Nat.le_refl _) (by omega) (by omega) (fun j h1 h2 => by omega) (ih (d - P) (by omega) (i + P) (by omega))

theorem wp_l1 (line : List Int) (hn : line.length ≤ 1000000000000) (ws : List S27) (n idx : Int) (f0 f2 : Int) (a K : Nat) (R : Option Bool) (ha : a ≤ line.length) (hK : line.length + 4 ≤ K)
    (hR : ∀ k', K ≤ k' → lanyardlaw12_WordsParts.l0 k' line f2 ws n (wrap64 (idx + 1)) = R) :
    ∀ (d k p : Nat), p + d = a → K + d + 1 ≤ k → (∀ j, p ≤ j → j < a → blankB (rd line (j : Int)) = true ∧ rd (ql (0, false) line) (j : Int) = 0) →
      lanyardlaw12_WordsParts.l1 k line (p : Int) ws n idx f0 (a : Int) f2 = R := by
  intro d
  induction d with
  | zero =>
    intro k p hp hk hb
    obtain ⟨k, rfl⟩ : ∃ m, k = m + 1 := ⟨k - 1, by omega⟩
    simp only [lanyardlaw12_WordsParts.l1]
    rw [if_neg (by omega)]
    exact hR k (by omega)
  | succ d ih =>
    intro k p hp hk hb
    obtain ⟨k, rfl⟩ : ∃ m, k = m + 1 := ⟨k - 1, by omega⟩
    have hbp := hb p (Nat.le_refl _) (by omega)
    have h1 := ih k (p + 1) (by omega) (by omega) (fun j hj hl => hb j (by omega) hl)
    simp only [lanyardlaw12_WordsParts.l1]
    rw [if_pos (by omega), if_pos (by omega), if_pos (by omega), quoted_f line hn k (by omega) p (by omega), Option.bind_some, if_pos hbp.2,
      wrapN (show (p : Int) + 1 = ((p + 1 : Nat) : Int) by omega) (by omega) (by omega), h1]
    have hbb := hbp.1
    unfold blankB at hbb
    simp only [decide_eq_true_eq] at hbb
    split
    · rfl
    · split
      · rfl
      · rw [if_pos (by omega)]

theorem wp_l0 (line : List Int) (hn : line.length ≤ 1000000000000) (all : List S27) (hall : all.length ≤ 1000000000001) : ∀ (rest : List S27) (pre : List S27) (k p : Nat), all = pre ++ (rest ++ [⟨0, (line.length : Int), (line.length : Int)⟩]) →
    Parts line (ql (0, false) line) p rest → 2 * line.length + 20 + 4 * rest.length + (line.length - p) ≤ k →
    lanyardlaw12_WordsParts.l0 k line (p : Int) all (all.length : Int) (pre.length : Int) = some true := by
  intro rest
  induction rest with
  | nil =>
    intro pre k p he hP hk
    obtain ⟨k, rfl⟩ : ∃ m, k = m + 3 := ⟨k - 3, by omega⟩
    have hl : all.length = pre.length + 1 := by rw [he]; simp
    have hg : rd_T27 all (pre.length : Int) = ⟨0, (line.length : Int), (line.length : Int)⟩ := by
      rw [he]; simp [rd_T27]
    cases hP with
    | nil _ hp hb =>
      have hend : ∀ k', 1 ≤ k' → lanyardlaw12_WordsParts.l0 k' line (line.length : Int) all (all.length : Int) (wrap64 ((pre.length : Int) + 1)) = some true := by
        intro k' hk'
        obtain ⟨k', rfl⟩ : ∃ m, k' = m + 1 := ⟨k' - 1, by omega⟩
        simp only [lanyardlaw12_WordsParts.l0]
        rw [wrapN (show (pre.length : Int) + 1 = ((pre.length + 1 : Nat) : Int) by omega) (by omega) (by omega), if_neg (by omega)]
      have h1 := wp_l1 line hn all (all.length : Int) (pre.length : Int) 0 (line.length : Int) line.length (line.length + 4) (some true) (Nat.le_refl _) (Nat.le_refl _) (fun k' hk' => hend k' (by omega)) (line.length - p) (k + 1) p (by omega) (by omega) (fun j h1 h2 => hb j h1 h2)
      rw [lanyardlaw12_WordsParts.l0]
      simp only [hg]
      rw [if_pos (by omega), if_pos (by omega), if_pos (by omega), if_neg (by omega), if_neg (by omega), if_neg (by omega), if_pos trivial]
      rw [lanyardlaw12_WordsParts.j1]
      rw [if_neg (by simp)]
      exact h1
  | cons x rest ih =>
    intro pre k p he hP hk
    obtain ⟨k, rfl⟩ : ∃ m, k = m + 3 := ⟨k - 3, by omega⟩
    have hl : all.length = pre.length + (rest.length + 2) := by rw [he]; simp
    have hg : rd_T27 all (pre.length : Int) = x := by
      rw [he]; simp [rd_T27]
    cases hP with
    | cons _ a b kd ws h1 h2 h3 h4 h5 =>
      have hlen : (⟨kd, (a : Int), (b : Int)⟩ :: rest : List S27).length = rest.length + 1 := rfl
      rw [hlen] at hk
      have hnext : ∀ k', 2 * line.length + 20 + 4 * rest.length + (line.length - b) ≤ k' → lanyardlaw12_WordsParts.l0 k' line (b : Int) all (all.length : Int) (wrap64 ((pre.length : Int) + 1)) = some true := by
        intro k' hk'
        have := ih (pre ++ [⟨kd, (a : Int), (b : Int)⟩]) k' b (by rw [he]; simp) h5 hk'
        rw [List.length_append, List.length_singleton] at this
        rw [wrapN (show (pre.length : Int) + 1 = ((pre.length + 1 : Nat) : Int) by omega) (by omega) (by omega)]
        exact this
      have h6 := wp_l1 line hn all (all.length : Int) (pre.length : Int) kd (b : Int) a (2 * line.length + 20 + 4 * rest.length + (line.length - b)) (some true) (by omega) (by omega) hnext (a - p) (k + 1) p (by omega) (by omega) h4
      rw [lanyardlaw12_WordsParts.l0]
      simp only [hg]
      rw [if_pos (by omega), if_pos (by omega), if_pos (by omega), if_neg (by omega), if_neg (by omega), if_neg (by omega), if_neg (by omega)]
      rw [lanyardlaw12_WordsParts.j1]
      rw [if_neg (by simp)]
      exact h6

theorem words_len (i : Nat) : ∀ (n : Nat) (z : List (Int × Int)) (i : Nat), z.length ≤ n → (wordsZ i z).length ≤ z.length
  | 0, z, i, h => by
    have : z = [] := List.eq_nil_of_length_eq_zero (by omega)
    subst this
    rw [wordsZ_nil]; simp
  | n + 1, [], i, _ => by rw [wordsZ_nil]; simp
  | n + 1, p :: t, i, h => by
    have hl : t.length ≤ n := by simpa using h
    rw [wordsZ_cons]
    split
    · have := words_len 0 n t (i + 1) hl; simp; omega
    · split
      · have := words_len 0 n (t.drop (digN (p :: t) + opLen ((p :: t).drop (digN (p :: t))) - 1)) (i + (digN (p :: t) + opLen ((p :: t).drop (digN (p :: t))))) (by rw [List.length_drop]; omega)
        rw [List.length_drop] at this
        simp only [List.length_cons]; omega
      · have := words_len 0 n (t.drop (plainLen (p :: t) - 1)) (i + plainLen (p :: t)) (by rw [List.length_drop]; omega)
        rw [List.length_drop] at this
        simp only [List.length_cons]; omega
theorem wordsL_len (line : List Int) : (wordsL line).length ≤ line.length := by
  have := words_len 0 _ (zs (0, false) line) 0 (Nat.le_refl _)
  rwa [zs_length] at this

theorem WordsParts_pure (l0 : List Int) (hn : l0.length ≤ 1000000000000) : ∃ k, lanyardlaw12_WordsParts.f k l0 = some true := by
  have hlen := wordsL_len l0
  have hP := parts_words l0 (ql (0, false) l0) (ql_length _ _) l0.length 0 (by omega)
  rw [List.drop_zero] at hP
  refine ⟨100 * l0.length + 300, ?_⟩
  unfold lanyardlaw12_WordsParts.f
  rw [begun_f _ (by omega), Option.bind_some, if_pos rfl, words_f l0 hn _ (by omega), Option.bind_some, if_pos (by omega), Option.bind_some]
  exact wp_l0 l0 hn _ (by rw [List.length_append, List.length_singleton]; omega) (wordsL l0) [] _ 0 rfl hP (by omega)
end Go.Proofs.Ytpebdkchdgaeoaa.T
