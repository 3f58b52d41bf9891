/-
  Open, SameRunes, Join, alone, same as plain Lean functions.
-/
import Derived.Test.YtpebdkchdgaeoaaQE
import Derived.Test.YtpebdkchdgaeoaaU8
namespace Go.Proofs.Ytpebdkchdgaeoaa.T9
open Go.RowKit Go.Proofs.Ytpebdkchdgaeoaa.PAll Go.Proofs.Ytpebdkchdgaeoaa.T Go.Proofs.YtpebdkchdgaeoaaW.PrintWords Go.Proofs.YtpebdkchdgaeoaaW.PrintLast
set_option linter.unusedVariables false
set_option linter.unusedSimpArgs false

theorem wrapS {i : Nat} (h : i ≤ 100000000000000) : wrap64 ((i : Int) + 1) = ((i + 1 : Nat) : Int) := wrapN (show (i : Int) + 1 = ((i + 1 : Nat) : Int) by omega) (by omega) (by omega)

/-! ### Open -/
theorem open_l0 (line : List Int) (hn : line.length ≤ 1000000000000) : ∀ (d k i : Nat) (s : St), i + d = line.length → d + 4 ≤ k →
    shwords_Open.l0 k line (line.length : Int) (i : Int) s.1 s.2 = some (kindS (endS s (line.drop i))) := by
  intro d
  induction d with
  | zero =>
    intro k i s hi hk
    obtain ⟨k, rfl⟩ : ∃ m, k = m + 1 := ⟨k - 1, by omega⟩
    simp only [shwords_Open.l0]
    rw [if_neg (by omega), List.drop_eq_nil_of_le (by omega), kind_f]
    rfl
  | succ d ih =>
    intro k i s hi hk
    obtain ⟨k, rfl⟩ : ∃ m, k = m + 1 := ⟨k - 1, by omega⟩
    have hlt : i < line.length := by omega
    have e1 : i + 1 + d = line.length := by omega
    simp only [shwords_Open.l0]
    obtain ⟨k', rfl⟩ : ∃ m, k = m + 2 := ⟨k - 2, by omega⟩
    have h1 := ih (k' + 2) (i + 1) (nextS (s.1, s.2) line[i]) e1 (by omega)
    rw [if_pos (by omega), if_pos (by omega), if_pos (by omega), next_f, Option.bind_some, rd_nat line i hlt, wrapS (by omega), h1, List.drop_eq_getElem_cons hlt, endS]
theorem open_f (line : List Int) (hn : line.length ≤ 1000000000000) (k : Nat) (hk : line.length + 4 ≤ k) : shwords_Open.f k line = some (kindS (endS (0, false) line)) := by
  unfold shwords_Open.f
  have := open_l0 line hn line.length k 0 (0, false) (by omega) hk
  simpa using this

/-! ### SameRunes -/
theorem same_l0 (a b : List Int) (hn : a.length ≤ 1000000000000) (hl : a.length = b.length) : ∀ (d k i : Nat), i + d = a.length → d + 1 ≤ k →
    lanyardref12_SameRunes.l0 k a b (i : Int) = some (a.drop i == b.drop i) := by
  intro d
  induction d with
  | zero =>
    intro k i hi hk
    obtain ⟨k, rfl⟩ : ∃ m, k = m + 1 := ⟨k - 1, by omega⟩
    simp only [lanyardref12_SameRunes.l0]
    rw [if_neg (by omega), List.drop_eq_nil_of_le (by omega), List.drop_eq_nil_of_le (by omega)]
    rfl
  | succ d ih =>
    intro k i hi hk
    obtain ⟨k, rfl⟩ : ∃ m, k = m + 1 := ⟨k - 1, by omega⟩
    have hlt : i < a.length := by omega
    have hlt2 : i < b.length := by omega
    have h1 := ih k (i + 1) (by omega) (by omega)
    simp only [lanyardref12_SameRunes.l0]
    rw [if_pos (by omega), if_pos (by omega), if_pos (by omega), rd_nat a i hlt, rd_nat b i hlt2, wrapS (by omega), h1, List.drop_eq_getElem_cons hlt, List.drop_eq_getElem_cons hlt2]
    generalize a[i] = x
    generalize b[i] = y
    generalize a.drop (i + 1) = X
    generalize b.drop (i + 1) = Y
    by_cases h : x = y
    · rw [if_pos h, h]
      simp
    · rw [if_neg h]
      simp [h]
theorem same_f (a b : List Int) (hn : a.length ≤ 1000000000000) (k : Nat) (hk : a.length + 1 ≤ k) : lanyardref12_SameRunes.f k a b = some (a == b) := by
  unfold lanyardref12_SameRunes.f
  by_cases hl : a.length = b.length
  · rw [if_pos (by omega)]
    have := same_l0 a b hn hl a.length k 0 (by omega) hk
    simpa using this
  · rw [if_neg (by omega)]
    congr 1
    symm
    rw [beq_eq_false_iff_ne]
    rintro rfl
    exact hl rfl

/-! ### Join -/
def joinL : List Int → List (List Int) → List Int
  | acc, [] => acc
  | acc, w :: ws => joinL (acc ++ 32 :: w) ws
def joined : List (List Int) → List Int
  | [] => []
  | w :: ws => joinL w ws
def tot (l : List (List Int)) : Nat := (l.map fun w => w.length + 1).sum
theorem tot_drop {l : List (List Int)} {i : Nat} (h : i < l.length) : tot (l.drop i) = l[i].length + 1 + tot (l.drop (i + 1)) := by
  unfold tot
  rw [List.drop_eq_getElem_cons h, List.map_cons, List.sum_cons]
theorem rdL4_nat (xs : List (List Int)) (i : Nat) (h : i < xs.length) : rd_L4 xs (i : Int) = xs[i] := by
  simp [rd_L4, List.getD, List.getElem?_eq_getElem h]
theorem len_tot (l : List (List Int)) : l.length ≤ tot l := by
  induction l with
  | nil => simp
  | cons a l ih => simp [tot] at ih ⊢; omega

theorem join_l0 (l : List (List Int)) (hn : l.length ≤ 1000000000000) : ∀ (d k i : Nat) (acc : List Int), i + 1 + d = l.length → d + 1 ≤ k → acc.length + tot (l.drop (i + 1)) ≤ 1000000000000 →
    shwords_Join.l0 k acc l (l.length : Int) ((i + 1 : Nat) : Int) = some (joinL acc (l.drop (i + 1))) := by
  intro d
  induction d with
  | zero =>
    intro k i acc hi hk ha
    obtain ⟨k, rfl⟩ : ∃ m, k = m + 1 := ⟨k - 1, by omega⟩
    simp only [shwords_Join.l0]
    rw [if_neg (by omega), List.drop_eq_nil_of_le (by omega)]
    rfl
  | succ d ih =>
    intro k i acc hi hk ha
    obtain ⟨k, rfl⟩ : ∃ m, k = m + 1 := ⟨k - 1, by omega⟩
    have hlt : i + 1 < l.length := by omega
    have e1 : i + 1 + 1 + d = l.length := by omega
    rw [tot_drop hlt] at ha
    have h1 := fun acc2 h => ih k (i + 1) acc2 e1 (by omega) h
    simp only [shwords_Join.l0]
    rw [if_pos (by omega), if_pos (by omega), if_pos (by omega), if_pos (by omega), if_pos (by omega), Option.bind_some, rdL4_nat l (i + 1) hlt, if_pos (by simp; omega), wrapS (by omega), h1 _ (by simp; omega), List.drop_eq_getElem_cons hlt, joinL]
    simp
theorem join_f (l : List (List Int)) (ht : tot l ≤ 1000000000000) (k : Nat) (hk : l.length + 1 ≤ k) : shwords_Join.f k l = some (joined l) := by
  unfold shwords_Join.f
  have hn := len_tot l
  obtain ⟨k, rfl⟩ : ∃ m, k = m + 1 := ⟨k - 1, by omega⟩
  cases l with
  | nil => simp only [shwords_Join.l0]; rfl
  | cons a l =>
    have h0 : 0 < (a :: l).length := by simp
    have hw : wrap64 ((0 : Int) + 1) = ((0 + 1 : Nat) : Int) := wrapS (i := 0) (by omega)
    have hta : tot (a :: l) = a.length + 1 + tot l := by simp [tot]
    have hll : (a :: l).length = l.length + 1 := by simp
    simp only [shwords_Join.l0]
    rw [if_pos (by omega), if_pos (by omega), if_pos (by omega), if_neg (by omega), show rd_L4 (a :: l) 0 = a from rfl, if_pos (by simp; omega), hw]
    rw [join_l0 (a :: l) (by omega) l.length k 0 ([] ++ a) (by omega) (by omega) (by simp; omega)]
    rfl
theorem joinL_len : ∀ (ws : List (List Int)) (acc : List Int), (joinL acc ws).length = acc.length + tot ws
  | [], acc => by simp [joinL, tot]
  | w :: ws, acc => by rw [joinL, joinL_len ws]; simp [tot]; omega
theorem joined_len (l : List (List Int)) : (joined l).length ≤ tot l := by
  cases l with
  | nil => simp [joined]
  | cons w ws => rw [joined, joinL_len]; simp [tot]


theorem joinL_eq : ∀ (ws : List (List Int)) (acc : List Int), joinL acc ws = acc ++ tail32 ws
  | [], acc => by simp [joinL, tail32]
  | w :: ws, acc => by rw [joinL, joinL_eq ws]; simp [tail32]

theorem tot_filter (f : List Int → Bool) : ∀ l : List (List Int), tot (l.filter f) ≤ tot l
  | [] => Nat.le_refl _
  | w :: l => by
    have := tot_filter f l
    rw [List.filter_cons]
    split
    · simp only [tot, List.map_cons, List.sum_cons] at this ⊢; omega
    · simp only [tot, List.map_cons, List.sum_cons] at this ⊢; omega
theorem texts_joined (l : List (List Int)) (h : ∀ x ∈ l, aloneB x = true) : (wordsL (joined l)).map (fun s => ((joined l).take s.f2.toNat).drop s.f1.toNat) = l := by
  cases l with
  | nil => simp [joined, wordsL, zs, ql, wordsZ_nil]
  | cons w ws =>
    have hj : joined (w :: ws) = w ++ tail32 ws := joinL_eq ws w
    have := joined_text ws [] w (joined (w :: ws)) h (by rw [hj]; rfl)
    rw [← hj] at this
    exact this

/-! ### alone -/
theorem tot_drop_le (l : List (List Int)) (i : Nat) : tot (l.drop i) ≤ tot l := by
  have h : tot (l.take i) + tot (l.drop i) = tot l := by
    unfold tot
    rw [← List.sum_append, ← List.map_append, List.take_append_drop]
  omega
theorem alone_f (w : List Int) (hn : w.length ≤ 1000000000000) (k : Nat) (hk : 9 * w.length + 20 ≤ k) : lanyardlaw12_alone.f k w = some (aloneB w) := by
  unfold lanyardlaw12_alone.f aloneB
  rw [words_f w hn k hk, Option.bind_some, open_f w hn k (by omega), Option.bind_some]
  generalize wordsL w = l
  match l with
  | [] => simp [oneB]
  | [s] =>
    rw [if_pos (by simp), if_pos (by simp), show rd_T27 [s] 0 = s from rfl]
    unfold oneB
    by_cases h0 : s.f0 = 0
    · by_cases h1 : s.f1 = 0
      · by_cases h2 : s.f2 = (w.length : Int)
        · rw [if_pos (by simp [h0, h1, h2])]
          congr 1
          rw [Bool.eq_iff_iff]
          simp [h0, h1, h2]
        · rw [if_neg (by simp [h0, h1, h2])]
          simp [h0, h1, h2]
      · rw [if_neg (by simp [h0, h1])]
        simp [h0, h1]
    · rw [if_neg (by simp [h0])]
      simp [h0]
  | a :: b :: t =>
    rw [if_neg (by simp; omega)]
    simp [oneB]

/-! ### same -/
theorem rdT_nat (xs : List S27) (i : Nat) (h : i < xs.length) : rd_T27 xs (i : Int) = xs[i] := by
  simp [rd_T27, List.getD, List.getElem?_eq_getElem h]
theorem samew_l0 (a : List S27) (hn : a.length ≤ 1000000000000) : ∀ (d k i : Nat), i + d = a.length → d + 1 ≤ k → lanyardlaw12_same.l0 k a a (a.length : Int) (i : Int) = some true := by
  intro d
  induction d with
  | zero =>
    intro k i hi hk
    obtain ⟨k, rfl⟩ : ∃ m, k = m + 1 := ⟨k - 1, by omega⟩
    simp only [lanyardlaw12_same.l0]
    rw [if_neg (by omega)]
  | succ d ih =>
    intro k i hi hk
    obtain ⟨k, rfl⟩ : ∃ m, k = m + 1 := ⟨k - 1, by omega⟩
    have hlt : i < a.length := by omega
    have h1 := ih k (i + 1) (by omega) (by omega)
    simp only [lanyardlaw12_same.l0]
    rw [if_pos (by omega), if_pos (by omega), if_pos (by omega), if_pos (by omega), wrapS (by omega), h1, if_neg (by simp)]
theorem samew_f (a : List S27) (hn : a.length ≤ 1000000000000) (k : Nat) (hk : a.length + 1 ≤ k) : lanyardlaw12_same.f k a a = some true := by
  unfold lanyardlaw12_same.f
  rw [if_pos rfl]
  exact samew_l0 a hn a.length k 0 (by omega) hk
end Go.Proofs.Ytpebdkchdgaeoaa.T9
