/-
  Quote, Strip, Open, SameRunes as plain Lean functions.
-/
import Derived.Test.YtpebdkchdgaeoaaQB
import Derived.Test.YtpebdkchdgaeoaaU3
namespace Go.Proofs.Ytpebdkchdgaeoaa.T
open Go.RowKit Go.Proofs.Ytpebdkchdgaeoaa.PAll Go.Proofs.YtpebdkchdgaeoaaW.PrintWords Go.Proofs.YtpebdkchdgaeoaaW.PrintLast
set_option linter.unusedVariables false
set_option linter.unusedSimpArgs false

theorem wrapS {i : Nat} (h : i ≤ 100000000000000) : wrap64 ((i : Int) + 1) = ((i + 1 : Nat) : Int) := wrapN (show (i : Int) + 1 = ((i + 1 : Nat) : Int) by omega) (by omega) (by omega)

/-! ### Open -/
theorem open_l0 (line : List Int) (hn : line.length ≤ 1000000000000) : ∀ (d k i : Nat) (s : St), i + d = line.length → d + 4 ≤ k →
    shwords_Open.l0 k line (line.length : Int) (i : Int) s.1 s.2 = some (kindS (endS s (line.drop i))) := by
  intro d
  induction d with
  | zero =>
    intro k i s hi hk
    obtain ⟨k, rfl⟩ : ∃ m, k = m + 1 := ⟨k - 1, by omega⟩
    simp only [shwords_Open.l0]
    rw [if_neg (by omega), List.drop_eq_nil_of_le (by omega), kind_f]
    rfl
  | succ d ih =>
    intro k i s hi hk
    obtain ⟨k, rfl⟩ : ∃ m, k = m + 1 := ⟨k - 1, by omega⟩
    have hlt : i < line.length := by omega
    have e1 : i + 1 + d = line.length := by omega
    simp only [shwords_Open.l0]
    obtain ⟨k', rfl⟩ : ∃ m, k = m + 2 := ⟨k - 2, by omega⟩
    have h1 := ih (k' + 2) (i + 1) (nextS (s.1, s.2) line[i]) e1 (by omega)
    rw [if_pos (by omega), if_pos (by omega), if_pos (by omega), next_f, Option.bind_some, rd_nat line i hlt, wrapS (by omega), h1, List.drop_eq_getElem_cons hlt, endS]
theorem open_f (line : List Int) (hn : line.length ≤ 1000000000000) (k : Nat) (hk : line.length + 4 ≤ k) : shwords_Open.f k line = some (kindS (endS (0, false) line)) := by
  unfold shwords_Open.f
  have := open_l0 line hn line.length k 0 (0, false) (by omega) hk
  simpa using this

/-! ### SameRunes -/
theorem same_l0 (a b : List Int) (hn : a.length ≤ 1000000000000) (hl : a.length = b.length) : ∀ (d k i : Nat), i + d = a.length → d + 1 ≤ k →
    lanyardref12_SameRunes.l0 k a b (i : Int) = some (a.drop i == b.drop i) := by
  intro d
  induction d with
  | zero =>
    intro k i hi hk
    obtain ⟨k, rfl⟩ : ∃ m, k = m + 1 := ⟨k - 1, by omega⟩
    simp only [lanyardref12_SameRunes.l0]
    rw [if_neg (by omega), List.drop_eq_nil_of_le (by omega), List.drop_eq_nil_of_le (by omega)]
    rfl
  | succ d ih =>
    intro k i hi hk
    obtain ⟨k, rfl⟩ : ∃ m, k = m + 1 := ⟨k - 1, by omega⟩
    have hlt : i < a.length := by omega
    have hlt2 : i < b.length := by omega
    have h1 := ih k (i + 1) (by omega) (by omega)
    simp only [lanyardref12_SameRunes.l0]
    rw [if_pos (by omega), if_pos (by omega), if_pos (by omega), rd_nat a i hlt, rd_nat b i hlt2, wrapS (by omega), h1, List.drop_eq_getElem_cons hlt, List.drop_eq_getElem_cons hlt2]
    generalize a[i] = x
    generalize b[i] = y
    generalize a.drop (i + 1) = X
    generalize b.drop (i + 1) = Y
    by_cases h : x = y
    · rw [if_pos h, h]
      simp
    · rw [if_neg h]
      simp [h]
theorem same_f (a b : List Int) (hn : a.length ≤ 1000000000000) (k : Nat) (hk : a.length + 1 ≤ k) : lanyardref12_SameRunes.f k a b = some (a == b) := by
  unfold lanyardref12_SameRunes.f
  by_cases hl : a.length = b.length
  · rw [if_pos (by omega)]
    have := same_l0 a b hn hl a.length k 0 (by omega) hk
    simpa using this
  · rw [if_neg (by omega)]
    congr 1
    symm
    rw [beq_eq_false_iff_ne]
    rintro rfl
    exact hl rfl

/-! ### Quote -/
def q1 (r : Int) : List Int := if r = 39 then [39, 92, 39, r] else [r]
def sp2 (r : Int) : Bool := decide (r = 92 ∨ r = 34 ∨ r = 36 ∨ r = 96)
def q2 (r : Int) : List Int := if sp2 r = true then [92, r] else [r]
def sp3L : List Int := [32, 9, 10, 39, 34, 96, 40, 41, 60, 62, 59, 38, 124, 92, 36, 42, 63, 91, 93, 35, 126, 61, 37, 33, 123, 125, 64]
def sp3 (r : Int) : Bool := sp3L.any fun c => c == r
def q3 (r : Int) : List Int := if sp3 r = true then [92, r] else [r]
def lim (l : List Int) : List Int × Int := if (l.length : Int) > 1024 then ([], 3) else (l, 0)
def quoteL (t : List Int) (style : Int) : List Int × Int :=
  if style = 1 then lim (39 :: t.flatMap q1 ++ [39]) else if style = 2 then lim (34 :: t.flatMap q2 ++ [34]) else if style = 3 then (if t = [] then ([39, 39], 0) else lim (t.flatMap q3)) else ([], 1)

theorem q1_len (t : List Int) : (t.flatMap q1).length ≤ 4 * t.length := by
  induction t with
  | nil => simp
  | cons r t ih =>
    rw [List.flatMap_cons, List.length_append, List.length_cons]
    have : (q1 r).length ≤ 4 := by unfold q1; split <;> simp
    omega
theorem q2_len (t : List Int) : (t.flatMap q2).length ≤ 2 * t.length := by
  induction t with
  | nil => simp
  | cons r t ih =>
    rw [List.flatMap_cons, List.length_append, List.length_cons]
    have : (q2 r).length ≤ 2 := by unfold q2; split <;> simp
    omega
theorem q3_len (t : List Int) : (t.flatMap q3).length ≤ 2 * t.length := by
  induction t with
  | nil => simp
  | cons r t ih =>
    rw [List.flatMap_cons, List.length_append, List.length_cons]
    have : (q3 r).length ≤ 2 := by unfold q3; split <;> simp
    omega

theorem lim_if (l : List Int) : (if (l.length : Int) > 1024 then some (([] : List Int), (3 : Int)) else some (l, 0)) = some (lim l) := by unfold lim; split <;> rfl

theorem quote_l0 (t : List Int) (hn : t.length ≤ 1000000000000) : ∀ (d k i : Nat) (acc : List Int), i + d = t.length → d + 1 ≤ k → acc.length ≤ 4 * i + 1 →
    shwords_Quote.l0 k acc t (t.length : Int) (i : Int) = some (lim (acc ++ (t.drop i).flatMap q1 ++ [39])) := by
  intro d
  induction d with
  | zero =>
    intro k i acc hi hk ha
    obtain ⟨k, rfl⟩ : ∃ m, k = m + 1 := ⟨k - 1, by omega⟩
    simp only [shwords_Quote.l0]
    rw [if_neg (by omega), if_pos (by omega), Option.bind_some, lim_if, List.drop_eq_nil_of_le (by omega)]
    simp
  | succ d ih =>
    intro k i acc hi hk ha
    obtain ⟨k, rfl⟩ : ∃ m, k = m + 1 := ⟨k - 1, by omega⟩
    have hlt : i < t.length := by omega
    have e1 : i + 1 + d = t.length := by omega
    have h1 := fun acc2 h => ih k (i + 1) acc2 e1 (by omega) h
    simp only [shwords_Quote.l0]
    rw [if_pos (by omega), if_pos (by omega), if_pos (by omega), rd_nat t i hlt, wrapS (by omega), List.drop_eq_getElem_cons hlt, List.flatMap_cons]
    by_cases h : t[i] = 39
    · rw [if_pos h, Option.bind_some, if_pos (by simp; omega), Option.bind_some, if_pos (by simp; omega), h1 _ (by simp; omega)]
      simp [q1, h]
    · rw [if_neg h, if_pos (by omega), h1 _ (by simp; omega)]
      simp [q1, h]
theorem quote_l1 (t : List Int) (hn : t.length ≤ 1000000000000) : ∀ (d k i : Nat) (acc : List Int), i + d = t.length → d + 1 ≤ k → acc.length ≤ 4 * i + 1 →
    shwords_Quote.l1 k acc t (t.length : Int) (i : Int) = some (lim (acc ++ (t.drop i).flatMap q2 ++ [34])) := by
  intro d
  induction d with
  | zero =>
    intro k i acc hi hk ha
    obtain ⟨k, rfl⟩ : ∃ m, k = m + 1 := ⟨k - 1, by omega⟩
    simp only [shwords_Quote.l1]
    rw [if_neg (by omega), if_pos (by omega), Option.bind_some, lim_if, List.drop_eq_nil_of_le (by omega)]
    simp
  | succ d ih =>
    intro k i acc hi hk ha
    obtain ⟨k, rfl⟩ : ∃ m, k = m + 1 := ⟨k - 1, by omega⟩
    have hlt : i < t.length := by omega
    have e1 : i + 1 + d = t.length := by omega
    have h1 := fun acc2 h => ih k (i + 1) acc2 e1 (by omega) h
    simp only [shwords_Quote.l1]
    rw [if_pos (by omega), if_pos (by omega), if_pos (by omega), rd_nat t i hlt, wrapS (by omega), List.drop_eq_getElem_cons hlt, List.flatMap_cons]
    have hsp : sp2 t[i] = true → (if acc.length < 35184372088832 then (some (acc ++ [92])).bind fun y222 => if y222.length < 35184372088832 then shwords_Quote.l1 k (y222 ++ [t[i]]) t (t.length : Int) ((i + 1 : Nat) : Int) else none else none) = some (lim (acc ++ (q2 t[i] ++ (t.drop (i + 1)).flatMap q2) ++ [34])) := by
      intro hs
      rw [if_pos (by omega), Option.bind_some, if_pos (by simp; omega), h1 _ (by simp; omega)]
      simp [q2, hs]
    by_cases h : t[i] = 92
    · rw [if_pos h]; exact hsp (by unfold sp2; simp [h])
    · rw [if_neg h]
      by_cases h2 : t[i] = 34
      · rw [if_pos h2]; exact hsp (by unfold sp2; simp [h2])
      · rw [if_neg h2]
        by_cases h3 : t[i] = 36
        · rw [if_pos h3]; exact hsp (by unfold sp2; simp [h3])
        · rw [if_neg h3]
          by_cases h4 : t[i] = 96
          · rw [if_pos h4]; exact hsp (by unfold sp2; simp [h4])
          · rw [if_neg h4, if_pos (by omega), h1 _ (by simp; omega)]
            simp [q2, sp2, h, h2, h3, h4]

theorem sp3_f (r : Int) : (strings_ContainsRune.f (⟨#[32, 9, 10, 39, 34, 96, 40, 41, 60, 62, 59, 38, 124, 92, 36, 42, 63, 91, 93, 35, 126, 61, 37, 33, 123, 125, 64]⟩ : ByteArray) r) = some (sp3 r) := by
  unfold strings_ContainsRune.f
  rw [if_pos (by decide)]
  rfl
theorem sp3_pos (r : Int) (h : sp3 r = true) : r > 0 := by
  unfold sp3 at h
  rw [List.any_eq_true] at h
  obtain ⟨c, hc, he⟩ := h
  have hall : ∀ c ∈ sp3L, c > 0 := by decide
  rw [beq_iff_eq] at he
  rw [← he]
  exact hall c hc

theorem quote_l2 (t : List Int) (hn : t.length ≤ 1000000000000) (h0 : t ≠ []) : ∀ (d k i : Nat) (acc : List Int), i + d = t.length → d + 1 ≤ k → acc.length ≤ 4 * i + 1 →
    shwords_Quote.l2 k t acc t (t.length : Int) (i : Int) = some (lim (acc ++ (t.drop i).flatMap q3)) := by
  intro d
  induction d with
  | zero =>
    intro k i acc hi hk ha
    obtain ⟨k, rfl⟩ : ∃ m, k = m + 1 := ⟨k - 1, by omega⟩
    have hp : t.length ≠ 0 := fun h => h0 (List.eq_nil_of_length_eq_zero h)
    simp only [shwords_Quote.l2]
    rw [if_neg (by omega), if_neg (by omega), lim_if, List.drop_eq_nil_of_le (by omega)]
    simp
  | succ d ih =>
    intro k i acc hi hk ha
    obtain ⟨k, rfl⟩ : ∃ m, k = m + 1 := ⟨k - 1, by omega⟩
    have hlt : i < t.length := by omega
    have e1 : i + 1 + d = t.length := by omega
    have h1 := fun acc2 h => ih k (i + 1) acc2 e1 (by omega) h
    simp only [shwords_Quote.l2]
    rw [if_pos (by omega), if_pos (by omega), if_pos (by omega), rd_nat t i hlt, wrapS (by omega), List.drop_eq_getElem_cons hlt, List.flatMap_cons, sp3_f, Option.bind_some]
    by_cases h : sp3 t[i] = true
    · rw [if_pos (sp3_pos _ h), if_pos h, if_pos (by omega), Option.bind_some, if_pos (by simp; omega), h1 _ (by simp; omega)]
      simp [q3, h]
    · rw [if_neg h, ite_self, if_pos (by omega), h1 _ (by simp; omega)]
      simp [q3, h]

theorem quote_f (t : List Int) (hn : t.length ≤ 1000000000000) (style : Int) (k : Nat) (hk : t.length + 1 ≤ k) : shwords_Quote.f k t style = some (quoteL t style) := by
  unfold shwords_Quote.f quoteL
  by_cases h1 : style = 1
  · rw [if_pos h1, if_pos h1, if_pos (by simp)]
    have := quote_l0 t hn t.length k 0 ([] ++ [39]) (by omega) hk (by simp)
    simpa using this
  · rw [if_neg h1, if_neg h1]
    by_cases h2 : style = 2
    · rw [if_pos h2, if_pos h2, if_pos (by simp)]
      have := quote_l1 t hn t.length k 0 ([] ++ [34]) (by omega) hk (by simp)
      simpa using this
    · rw [if_neg h2, if_neg h2]
      by_cases h3 : style = 3
      · rw [if_pos h3, if_pos h3]
        by_cases h0 : t = []
        · rw [if_pos h0]
          subst h0
          obtain ⟨k, rfl⟩ : ∃ m, k = m + 1 := ⟨k - 1, by omega⟩
          simp only [shwords_Quote.l2]
          unfold shwords_runesOf.f
          rw [if_neg (by simp), if_pos (by simp), if_pos (by decide), Option.bind_some]
          rfl
        · rw [if_neg h0]
          have := quote_l2 t hn h0 t.length k 0 [] (by omega) hk (by simp)
          simpa using this
      · rw [if_neg h3, if_neg h3]

/-! ### Strip -/
def goesB (q : Int) : List Int → Bool
  | [] => true
  | r :: _ => if q = 96 then decide (r = 92 ∨ r = 96) else decide (r = 92 ∨ r = 34 ∨ r = 36 ∨ r = 96)
def stripS (s : St) (r : Int) (t : List Int) : List Int :=
  if s.2 = true then [r] else if (nextS s r).2 = true then (if s.1 = 0 then [] else if goesB s.1 t = true then [] else [r]) else if (nextS s r).1 = s.1 then [r] else []
def stripZ : St → List Int → List Int
  | _, [] => []
  | s, r :: t => stripS s r t ++ stripZ (nextS s r) t

theorem goes_f (q : Int) (line : List Int) (hn : line.length ≤ 1000000000000) (i : Nat) : shwords_goes.f q line (i : Int) = some (goesB q (line.drop i)) := by
  unfold shwords_goes.f
  by_cases h : i < line.length
  · rw [if_neg (by omega), if_pos (by omega), if_pos (by omega), rd_nat line i h, List.drop_eq_getElem_cons h]
    generalize line[i] = r
    rw [show goesB q (r :: line.drop (i + 1)) = if q = 96 then decide (r = 92 ∨ r = 96) else decide (r = 92 ∨ r = 34 ∨ r = 36 ∨ r = 96) from rfl]
    by_cases h1 : q = 96
    · rw [if_pos h1, if_pos h1]
      by_cases h2 : r = 92
      · simp [h2]
      · rw [if_neg h2]; congr 1; rw [Bool.eq_iff_iff]; simp [h2]
    · rw [if_neg h1, if_neg h1]
      by_cases h2 : r = 92
      · simp [h2]
      · by_cases h3 : r = 34
        · simp [h3]
        · by_cases h4 : r = 36
          · simp [h4]
          · rw [if_neg h2, if_neg h3, if_neg h4]; congr 1; rw [Bool.eq_iff_iff]; simp [h2, h3, h4]
  · rw [if_pos (by omega), List.drop_eq_nil_of_le (by omega)]
    rfl

theorem strip_l0 (line : List Int) (hn : line.length ≤ 1000000000000) : ∀ (d k i : Nat) (acc : List Int) (s : St), i + d = line.length → d + 4 ≤ k → acc.length ≤ i →
    shwords_Strip.l0 k line acc line (line.length : Int) (i : Int) s.1 s.2 = some (acc ++ stripZ s (line.drop i)) := by
  intro d
  induction d with
  | zero =>
    intro k i acc s hi hk ha
    obtain ⟨k, rfl⟩ : ∃ m, k = m + 1 := ⟨k - 1, by omega⟩
    simp only [shwords_Strip.l0]
    rw [if_neg (by omega), List.drop_eq_nil_of_le (by omega)]
    simp [stripZ]
  | succ d ih =>
    intro k i acc s hi hk ha
    obtain ⟨k, rfl⟩ : ∃ m, k = m + 1 := ⟨k - 1, by omega⟩
    have hlt : i < line.length := by omega
    have e1 : i + 1 + d = line.length := by omega
    simp only [shwords_Strip.l0]
    obtain ⟨k', rfl⟩ : ∃ m, k = m + 2 := ⟨k - 2, by omega⟩
    have h1 := fun acc2 h => ih (k' + 2) (i + 1) acc2 (nextS (s.1, s.2) line[i]) e1 (by omega) h
    have ha1 : (acc ++ [line[i]]).length ≤ i + 1 := by simp; omega
    have ha2 : acc.length ≤ i + 1 := by omega
    rw [if_pos (by omega), if_pos (by omega), if_pos (by omega), next_f, Option.bind_some, rd_nat line i hlt, wrapS (by omega), goes_f _ line hn, Option.bind_some, h1 _ ha1, h1 _ ha2, List.drop_eq_getElem_cons hlt, stripZ, stripS]
    have hA : acc.length < 35184372088832 := by omega
    simp only [if_pos hA]
    obtain ⟨q, b⟩ := s
    simp only
    cases b with
    | true => simp
    | false =>
      simp only [Bool.false_eq_true, if_false]
      by_cases h2 : (nextS (q, false) line[i]).2 = true
      · rw [if_pos h2, if_pos h2]
        by_cases h3 : q = 0
        · rw [if_pos h3, if_pos h3]; simp
        · rw [if_neg h3, if_neg h3]
          by_cases h4 : goesB q (line.drop (i + 1)) = true
          · rw [if_pos h4, if_pos h4]; simp
          · rw [if_neg h4, if_neg h4]; simp
      · rw [if_neg h2, if_neg h2]
        by_cases h3 : (nextS (q, false) line[i]).1 = q
        · rw [if_pos h3, if_pos h3]; simp
        · rw [if_neg h3, if_neg h3]; simp
theorem strip_f (line : List Int) (hn : line.length ≤ 1000000000000) (k : Nat) (hk : line.length + 4 ≤ k) : shwords_Strip.f k line = some (stripZ (0, false) line) := by
  unfold shwords_Strip.f
  have := strip_l0 line hn line.length k 0 [] (0, false) (by omega) hk (by simp)
  simpa using this
theorem strip_len : ∀ (l : List Int) (s : St), (stripZ s l).length ≤ l.length
  | [], _ => by simp [stripZ]
  | r :: t, s => by
    rw [stripZ, List.length_append, List.length_cons]
    have := strip_len t (nextS s r)
    have h2 : (stripS s r t).length ≤ 1 := by
      unfold stripS
      repeat' split
      all_goals simp
    omega
end Go.Proofs.Ytpebdkchdgaeoaa.T
