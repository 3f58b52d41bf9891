/-
  The document's Strip, Quote and Join; WordsQuotes.
-/
import Derived.Test.YtpebdkchdgaeoaaQD
import Derived.Test.YtpebdkchdgaeoaaU6
namespace Go.Proofs.Ytpebdkchdgaeoaa.T
open Go.RowKit Go.Proofs.Ytpebdkchdgaeoaa.PAll Go.Proofs.YtpebdkchdgaeoaaW.PrintWords Go.Proofs.YtpebdkchdgaeoaaW.PrintLast
set_option linter.unusedVariables false
set_option linter.unusedSimpArgs false

/-! ### Strip -/
theorem goesB_eq (q : Int) (r : Int) (t : List Int) : goesB q (r :: t) = if q = 96 then decide (r = 92 ∨ r = 96) else sp2 r := rfl

theorem rstrip_l0 (line : List Int) (hn : line.length ≤ 1000000000000) : ∀ (d k i : Nat) (acc : List Int) (q : Int), i + d = line.length → 4 * d + 30 ≤ k → acc.length ≤ i → Q4 q →
    lanyardref12_Strip.l0 k line acc q (i : Int) = some (acc ++ stripZ (q, false) (line.drop i)) := by
  intro d
  induction d using Nat.strongRecOn with
  | _ d ih =>
  intro k i acc q hi hk ha hq
  cases d with
  | zero =>
    obtain ⟨k, rfl⟩ : ∃ m, k = m + 1 := ⟨k - 1, by omega⟩
    simp only [lanyardref12_Strip.l0]
    rw [if_neg (by omega), List.drop_eq_nil_of_le (by omega)]
    simp [stripZ]
  | succ d =>
    have hlt : i < line.length := by omega
    obtain ⟨c, hc⟩ : ∃ c, c = line[i] := ⟨_, rfl⟩
    have hdrop : line.drop i = c :: line.drop (i + 1) := by rw [List.drop_eq_getElem_cons hlt, hc]
    have e1 : i + 1 + d = line.length := by omega
    have w1 : wrap64 ((i : Int) + 1) = ((i + 1 : Nat) : Int) := wrapS (by omega)
    have w2 : wrap64 (((i + 1 : Nat) : Int) + 1) = ((i + 1 + 1 : Nat) : Int) := wrapS (by omega)
    have hrd : rd line (i : Int) = c := by rw [rd_nat line i hlt, hc]
    have stay : ∀ k' : Nat, 4 * d + 30 ≤ k' → nextS (q, false) c = (q, false) →
        (if acc.length < 35184372088832 then (lanyardref12_Strip.l0 k' line (acc ++ [c]) q ((i + 1 : Nat) : Int)) else (none)) = some (acc ++ stripZ (q, false) (line.drop i)) := by
      intro k' h1 h2
      rw [if_pos (by omega), ih d (by omega) k' (i + 1) _ q e1 h1 (by simp; omega) hq, hdrop, stripZ, h2, stripS, h2]
      simp
    have move : ∀ (k' : Nat) (q' : Int), 4 * d + 30 ≤ k' → Q4 q' → q' ≠ q → nextS (q, false) c = (q', false) →
        lanyardref12_Strip.l0 k' line acc q' ((i + 1 : Nat) : Int) = some (acc ++ stripZ (q, false) (line.drop i)) := by
      intro k' q' h1 h2 h3 h4
      rw [ih d (by omega) k' (i + 1) _ q' e1 h1 (by omega) h2, hdrop, stripZ, h4, stripS, h4]
      simp [h3]
    have back : ∀ (k' : Nat) (b : Bool), 4 * d + 31 ≤ k' → q ≠ 39 → c = 92 → b = (if q = 0 then false else !goesB q (line.drop (i + 1))) →
        lanyardref12_Strip.j3 k' line acc q (i : Int) c b = some (acc ++ stripZ (q, false) (line.drop i)) := by
      intro k' b h1 h2 h3 h4
      obtain ⟨k', rfl⟩ : ∃ m, k' = m + 1 := ⟨k' - 1, by omega⟩
      rw [lanyardref12_Strip.j3, w1, w2, hdrop, stripZ, h3, next_back h2]
      have hss : stripS (q, false) 92 (line.drop (i + 1)) = if b = true then [92] else [] := by
        rw [stripS, next_back h2, h4]
        simp only [Bool.false_eq_true, if_false, if_true]
        by_cases hq0 : q = 0
        · rw [if_pos hq0, if_pos hq0]; rfl
        · rw [if_neg hq0, if_neg hq0]
          cases goesB q (line.drop (i + 1)) <;> rfl
      rw [hss]
      by_cases h : i + 1 < line.length
      · obtain ⟨d, rfl⟩ : ∃ m, d = m + 1 := ⟨d - 1, by omega⟩
        have hrd2 : rd line ((i + 1 : Nat) : Int) = line[i + 1] := rd_nat line (i + 1) h
        have hd2 : line.drop (i + 1) = line[i + 1] :: line.drop (i + 1 + 1) := List.drop_eq_getElem_cons h
        rw [hrd2, hd2, stripZ, next_after, show stripS (q, true) line[i + 1] (line.drop (i + 1 + 1)) = [line[i + 1]] from by simp [stripS]]
        have e2 : i + 1 + 1 + d = line.length := by omega
        cases b with
        | true =>
          rw [if_pos rfl, if_pos (by omega), Option.bind_some, if_pos (by omega), if_pos (by omega), if_pos (by simp; omega), ih d (by omega) k' (i + 1 + 1) _ q e2 (by omega) (by simp; omega) hq]
          simp
        | false =>
          rw [if_neg (by simp), if_pos (by omega), if_pos (by omega), if_pos (by omega), ih d (by omega) k' (i + 1 + 1) _ q e2 (by omega) (by simp; omega) hq]
          simp
      · have hz : line.drop (i + 1) = [] := List.drop_eq_nil_of_le (by omega)
        have hb : b = false := by
          rw [h4, hz]
          split <;> rfl
        subst hb
        rw [if_neg (by simp), if_neg (by omega), ih d (by omega) k' (i + 1) _ q e1 (by omega) (by omega) hq, hz]
        simp [stripZ]
    obtain ⟨k, rfl⟩ : ∃ m, k = m + 4 := ⟨k - 4, by omega⟩
    rw [lanyardref12_Strip.l0, if_pos (by omega), if_pos (by omega), hrd]
    rcases hq with rfl | rfl | rfl | rfl
    · rw [if_pos rfl, lanyardref12_Strip.j1, if_neg (by simp), if_neg (by decide), lanyardref12_Strip.j2]
      by_cases hb : c = 92
      · rw [if_pos (by simpa using hb), if_neg (show ¬ (0 : Int) = 34 by decide), if_neg (show ¬ (0 : Int) = 96 by decide), ite_self]
        exact back _ _ (by omega) (by decide) hb rfl
      · rw [if_neg (by simpa using hb), if_pos rfl]
        by_cases h1 : c = 39
        · rw [if_pos h1, w1]
          exact move _ c (by omega) (by unfold Q4; omega) (by omega) (next_open (by omega))
        · rw [if_neg h1]
          by_cases h2 : c = 34
          · rw [if_pos h2, w1]
            exact move _ c (by omega) (by unfold Q4; omega) (by omega) (next_open (by omega))
          · rw [if_neg h2]
            by_cases h3 : c = 96
            · rw [if_pos h3, w1]
              exact move _ c (by omega) (by unfold Q4; omega) (by omega) (next_open (by omega))
            · rw [if_neg h3, w1]
              exact stay _ (by omega) (next_stay (by omega) (fun _ => hb) (fun _ => ⟨h1, h2, h3⟩))
    · rw [if_neg (by decide), lanyardref12_Strip.j1]
      by_cases h1 : c = 39
      · rw [if_pos (by simpa using h1), w1]
        exact move _ 0 (by omega) (.inl rfl) (by omega) (by rw [h1]; rfl)
      · rw [if_neg (by simpa using h1), if_pos rfl, lanyardref12_Strip.j2, if_neg (by simp), if_neg (by decide), w1]
        exact stay _ (by omega) (next_stay (fun _ => h1) (by omega) (by omega))
    · rw [if_neg (by decide), lanyardref12_Strip.j1]
      by_cases h1 : c = 34
      · rw [if_pos (by simpa using h1), w1]
        exact move _ 0 (by omega) (.inl rfl) (by omega) (by rw [h1]; rfl)
      · rw [if_neg (by simpa using h1), if_neg (by decide), lanyardref12_Strip.j2]
        by_cases hb : c = 92
        · rw [if_pos (by simpa using hb), w1]
          by_cases h : i + 1 < line.length
          · rw [if_pos (by omega), if_pos rfl, if_pos (by omega), in4_f _ _ (by omega), Option.bind_some, rd_nat line (i + 1) h]
            have hg : goesB 34 (line.drop (i + 1)) = sp2 line[i + 1] := by rw [List.drop_eq_getElem_cons h]; rfl
            by_cases hs : sp2 line[i + 1] = true
            · rw [if_pos hs, if_neg (by decide)]
              exact back _ _ (by omega) (by decide) hb (by rw [hg, hs]; rfl)
            · rw [if_neg hs]
              exact back _ _ (by omega) (by decide) hb (by rw [hg, Bool.eq_false_iff.mpr hs]; rfl)
          · rw [if_neg (by omega)]
            exact back _ _ (by omega) (by decide) hb (by rw [List.drop_eq_nil_of_le (by omega)]; rfl)
        · rw [if_neg (by simpa using hb), if_neg (by decide), w1]
          exact stay _ (by omega) (next_stay (fun _ => h1) (fun _ => hb) (by omega))
    · rw [if_neg (by decide), lanyardref12_Strip.j1]
      by_cases h1 : c = 96
      · rw [if_pos (by simpa using h1), w1]
        exact move _ 0 (by omega) (.inl rfl) (by omega) (by rw [h1]; rfl)
      · rw [if_neg (by simpa using h1), if_neg (by decide), lanyardref12_Strip.j2]
        by_cases hb : c = 92
        · rw [if_pos (by simpa using hb), w1]
          by_cases h : i + 1 < line.length
          · rw [if_pos (by omega), if_neg (by decide), if_pos rfl, if_pos (by omega), in2_f _ _ (by omega), Option.bind_some, rd_nat line (i + 1) h]
            have hg : goesB 96 (line.drop (i + 1)) = decide (line[i + 1] = 92 ∨ line[i + 1] = 96) := by rw [List.drop_eq_getElem_cons h]; rfl
            exact back _ _ (by omega) (by decide) hb (by rw [hg]; rfl)
          · rw [if_neg (by omega)]
            exact back _ _ (by omega) (by decide) hb (by rw [List.drop_eq_nil_of_le (by omega)]; rfl)
        · rw [if_neg (by simpa using hb), if_neg (by decide), w1]
          exact stay _ (by omega) (next_stay (fun _ => h1) (fun _ => hb) (by omega))
theorem rstrip_f (line : List Int) (hn : line.length ≤ 1000000000000) (k : Nat) (hk : 4 * line.length + 30 ≤ k) : lanyardref12_Strip.f k line = some (stripZ (0, false) line) := by
  unfold lanyardref12_Strip.f
  have := rstrip_l0 line hn line.length k 0 [] 0 (by omega) hk (by simp) (.inl rfl)
  simpa using this

/-! ### Quote -/
theorem rblank_f (r : Int) : lanyardref12_blank.f r = some (blankB r) := by
  unfold lanyardref12_blank.f blankB
  by_cases h1 : r = 32
  · simp [h1]
  · by_cases h2 : r = 9
    · simp [h2]
    · rw [if_neg h1, if_neg h2]
      congr 1
      rw [Bool.eq_iff_iff]
      simp [h1, h2]
theorem roper_f (r : Int) : lanyardref12_opRune.f r = some (operB r) := by
  unfold lanyardref12_opRune.f operB
  by_cases h1 : r = 40
  · simp [h1]
  by_cases h2 : r = 41
  · simp [h2]
  by_cases h3 : r = 60
  · simp [h3]
  by_cases h4 : r = 62
  · simp [h4]
  by_cases h5 : r = 59
  · simp [h5]
  by_cases h6 : r = 38
  · simp [h6]
  rw [if_neg h1, if_neg h2, if_neg h3, if_neg h4, if_neg h5, if_neg h6]
  congr 1
  rw [Bool.eq_iff_iff]
  simp [h1, h2, h3, h4, h5, h6]

theorem rquote_l0 (t : List Int) (hn : t.length ≤ 1000000000000) : ∀ (d k i : Nat) (acc : List Int), i + d = t.length → d + 1 ≤ k → acc.length ≤ 4 * i + 1 →
    lanyardref12_Quote.l0 k t acc (i : Int) = some (lim (acc ++ (t.drop i).flatMap q1 ++ [39])) := by
  intro d
  induction d with
  | zero =>
    intro k i acc hi hk ha
    obtain ⟨k, rfl⟩ : ∃ m, k = m + 1 := ⟨k - 1, by omega⟩
    simp only [lanyardref12_Quote.l0]
    rw [if_neg (by omega), if_pos (by omega), Option.bind_some, lim_if, List.drop_eq_nil_of_le (by omega)]
    simp
  | succ d ih =>
    intro k i acc hi hk ha
    obtain ⟨k, rfl⟩ : ∃ m, k = m + 1 := ⟨k - 1, by omega⟩
    have hlt : i < t.length := by omega
    have e1 : i + 1 + d = t.length := by omega
    have h1 := fun acc2 h => ih k (i + 1) acc2 e1 (by omega) h
    simp only [lanyardref12_Quote.l0]
    rw [if_pos (by omega), if_pos (by omega), rd_nat t i hlt, wrapS (by omega), List.drop_eq_getElem_cons hlt, List.flatMap_cons]
    by_cases h : t[i] = 39
    · rw [if_pos h, Option.bind_some, if_pos (by simp; omega), Option.bind_some, if_pos (by simp; omega), h1 _ (by simp; omega)]
      simp [q1, h]
    · rw [if_neg h, if_pos (by omega), h1 _ (by simp; omega)]
      simp [q1, h]
theorem rquote_l1 (t : List Int) (hn : t.length ≤ 1000000000000) : ∀ (d k i : Nat) (acc : List Int), i + d = t.length → d + 21 ≤ k → acc.length ≤ 4 * i + 1 →
    lanyardref12_Quote.l1 k t acc (i : Int) = some (lim (acc ++ (t.drop i).flatMap q2 ++ [34])) := by
  intro d
  induction d with
  | zero =>
    intro k i acc hi hk ha
    obtain ⟨k, rfl⟩ : ∃ m, k = m + 1 := ⟨k - 1, by omega⟩
    simp only [lanyardref12_Quote.l1]
    rw [if_neg (by omega), if_pos (by omega), Option.bind_some, lim_if, List.drop_eq_nil_of_le (by omega)]
    simp
  | succ d ih =>
    intro k i acc hi hk ha
    obtain ⟨k, rfl⟩ : ∃ m, k = m + 1 := ⟨k - 1, by omega⟩
    have hlt : i < t.length := by omega
    have e1 : i + 1 + d = t.length := by omega
    have h1 := fun acc2 h => ih k (i + 1) acc2 e1 (by omega) h
    simp only [lanyardref12_Quote.l1]
    rw [if_pos (by omega), if_pos (by omega), rd_nat t i hlt, wrapS (by omega), List.drop_eq_getElem_cons hlt, List.flatMap_cons, in4_f _ _ (by omega), Option.bind_some]
    by_cases h : sp2 t[i] = true
    · rw [if_pos h, if_pos (by omega), Option.bind_some, if_pos (by simp; omega), h1 _ (by simp; omega)]
      simp [q2, h]
    · rw [if_neg h, if_pos (by omega), h1 _ (by simp; omega)]
      simp [q2, h]
theorem sp3_eq (r : Int) : sp3 r = (blankB r || (operB r || (decide (r = 39) || (decide (r = 34) || (decide (r = 96) || [92, 36, 42, 63, 91, 93, 35, 126, 61, 37, 33, 123, 125, 64].any (· == r)))))) := by
  unfold sp3 sp3L blankB operB
  rw [Bool.eq_iff_iff]
  simp only [List.any_cons, List.any_nil, Bool.or_eq_true, beq_iff_eq, decide_eq_true_eq, Bool.false_eq_true, or_false]
  omega
theorem rquote_l2 (t : List Int) (hn : t.length ≤ 1000000000000) : ∀ (d k i : Nat) (acc : List Int), i + d = t.length → d + 21 ≤ k → acc.length ≤ 4 * i + 1 →
    lanyardref12_Quote.l2 k t acc (i : Int) = some (if t = [] then lim (acc ++ [39, 39]) else lim (acc ++ (t.drop i).flatMap q3)) := by
  intro d
  induction d with
  | zero =>
    intro k i acc hi hk ha
    obtain ⟨k, rfl⟩ : ∃ m, k = m + 1 := ⟨k - 1, by omega⟩
    simp only [lanyardref12_Quote.l2]
    by_cases h0 : t = []
    · rw [if_neg (by omega), if_pos (by rw [h0]; rfl), if_pos h0, Option.bind_some, if_pos (by simp; omega), Option.bind_some, lim_if]
    · have hp : t.length ≠ 0 := fun h => h0 (List.eq_nil_of_length_eq_zero h)
      rw [if_neg (by omega), if_neg (by omega), if_neg h0, lim_if, List.drop_eq_nil_of_le (by omega)]
      simp
  | succ d ih =>
    intro k i acc hi hk ha
    obtain ⟨k, rfl⟩ : ∃ m, k = m + 1 := ⟨k - 1, by omega⟩
    have hlt : i < t.length := by omega
    have e1 : i + 1 + d = t.length := by omega
    have h0 : t ≠ [] := by rintro rfl; simp at hlt
    have h1 := fun acc2 h => ih k (i + 1) acc2 e1 (by omega) h
    simp only [if_neg h0] at h1 ⊢
    rw [lanyardref12_Quote.l2]
    rw [if_pos (by omega), if_pos (by omega), rd_nat t i hlt, wrapS (by omega), List.drop_eq_getElem_cons hlt, List.flatMap_cons, rblank_f, Option.bind_some, roper_f, in14_f _ _ (by omega)]
    have hsp : sp3 t[i] = true → (if acc.length < 35184372088832 then ((some (acc ++ [92] : List Int)).bind fun y341 => (if y341.length < 35184372088832 then (lanyardref12_Quote.l2 k t (y341 ++ [t[i]]) ((i + 1 : Nat) : Int)) else (none))) else (none)) = some (lim (acc ++ (q3 t[i] ++ (t.drop (i + 1)).flatMap q3))) := by
      intro hs
      rw [if_pos (by omega), Option.bind_some, if_pos (by simp; omega), h1 _ (by simp; omega)]
      simp [q3, hs]
    by_cases c1 : blankB t[i] = true
    · rw [if_pos c1]; exact hsp (by rw [sp3_eq, c1]; rfl)
    rw [if_neg c1]
    rw [Option.bind_some]
    by_cases c2 : operB t[i] = true
    · rw [if_pos c2]; exact hsp (by rw [sp3_eq, c2]; simp)
    rw [if_neg c2]
    by_cases c3 : t[i] = 39
    · rw [if_pos c3]; exact hsp (by rw [sp3_eq]; simp [c3])
    rw [if_neg c3]
    by_cases c4 : t[i] = 34
    · rw [if_pos c4]; exact hsp (by rw [sp3_eq]; simp [c4])
    rw [if_neg c4]
    by_cases c5 : t[i] = 96
    · rw [if_pos c5]; exact hsp (by rw [sp3_eq]; simp [c5])
    rw [if_neg c5]
    rw [Option.bind_some]
    by_cases c6 : [92, 36, 42, 63, 91, 93, 35, 126, 61, 37, 33, 123, 125, 64].any (· == t[i]) = true
    · rw [if_pos c6]; exact hsp (by rw [sp3_eq, c6]; simp)
    rw [if_neg c6, if_pos (by omega), h1 _ (by simp; omega)]
    have : sp3 t[i] = false := by
      rw [sp3_eq, Bool.eq_false_iff.mpr c1, Bool.eq_false_iff.mpr c2, Bool.eq_false_iff.mpr c6]
      simp [c3, c4, c5]
    simp [q3, this]

theorem rquote_f (t : List Int) (hn : t.length ≤ 1000000000000) (style : Int) (k : Nat) (hk : t.length + 21 ≤ k) : lanyardref12_Quote.f k t style = some (quoteL t style) := by
  unfold lanyardref12_Quote.f quoteL
  by_cases h1 : style = 1
  · rw [if_pos h1, if_pos h1, if_pos (by simp)]
    have := rquote_l0 t hn t.length k 0 ([] ++ [39]) (by omega) (by omega) (by simp)
    simpa using this
  · rw [if_neg h1, if_neg h1]
    by_cases h2 : style = 2
    · rw [if_pos h2, if_pos h2, if_pos (by simp)]
      have := rquote_l1 t hn t.length k 0 ([] ++ [34]) (by omega) hk (by simp)
      simpa using this
    · rw [if_neg h2, if_neg h2]
      by_cases h3 : style = 3
      · rw [if_pos h3, if_pos h3]
        have := rquote_l2 t hn t.length k 0 [] (by omega) hk (by simp)
        rw [show ((0 : Nat) : Int) = 0 from rfl] at this
        rw [this]
        by_cases h0 : t = []
        · rw [if_pos h0, if_pos h0]
          rfl
        · rw [if_neg h0, if_neg h0]
          simp
      · rw [if_neg h3, if_neg h3]

/-! ### Join -/
def joinL : List Int → List (List Int) → List Int
  | acc, [] => acc
  | acc, w :: ws => joinL (acc ++ 32 :: w) ws
def joined : List (List Int) → List Int
  | [] => []
  | w :: ws => joinL w ws
def tot (l : List (List Int)) : Nat := (l.map fun w => w.length + 1).sum
theorem tot_drop {l : List (List Int)} {i : Nat} (h : i < l.length) : tot (l.drop i) = l[i].length + 1 + tot (l.drop (i + 1)) := by
  unfold tot
  rw [List.drop_eq_getElem_cons h, List.map_cons, List.sum_cons]
theorem rdL4_nat (xs : List (List Int)) (i : Nat) (h : i < xs.length) : rd_L4 xs (i : Int) = xs[i] := by
  simp [rd_L4, List.getD, List.getElem?_eq_getElem h]
theorem len_tot (l : List (List Int)) : l.length ≤ tot l := by
  induction l with
  | nil => simp
  | cons a l ih => simp [tot] at ih ⊢; omega

theorem join_l0 (l : List (List Int)) (hn : l.length ≤ 1000000000000) : ∀ (d k i : Nat) (acc : List Int), i + 1 + d = l.length → d + 1 ≤ k → acc.length + tot (l.drop (i + 1)) ≤ 1000000000000 →
    shwords_Join.l0 k acc l (l.length : Int) ((i + 1 : Nat) : Int) = some (joinL acc (l.drop (i + 1))) := by
  intro d
  induction d with
  | zero =>
    intro k i acc hi hk ha
    obtain ⟨k, rfl⟩ : ∃ m, k = m + 1 := ⟨k - 1, by omega⟩
    simp only [shwords_Join.l0]
    rw [if_neg (by omega), List.drop_eq_nil_of_le (by omega)]
    rfl
  | succ d ih =>
    intro k i acc hi hk ha
    obtain ⟨k, rfl⟩ : ∃ m, k = m + 1 := ⟨k - 1, by omega⟩
    have hlt : i + 1 < l.length := by omega
    have e1 : i + 1 + 1 + d = l.length := by omega
    rw [tot_drop hlt] at ha
    have h1 := fun acc2 h => ih k (i + 1) acc2 e1 (by omega) h
    simp only [shwords_Join.l0]
    rw [if_pos (by omega), if_pos (by omega), if_pos (by omega), if_pos (by omega), if_pos (by omega), Option.bind_some, rdL4_nat l (i + 1) hlt, if_pos (by simp; omega), wrapS (by omega), h1 _ (by simp; omega), List.drop_eq_getElem_cons hlt, joinL]
    simp
theorem join_f (l : List (List Int)) (ht : tot l ≤ 1000000000000) (k : Nat) (hk : l.length + 1 ≤ k) : shwords_Join.f k l = some (joined l) := by
  unfold shwords_Join.f
  have hn := len_tot l
  obtain ⟨k, rfl⟩ : ∃ m, k = m + 1 := ⟨k - 1, by omega⟩
  cases l with
  | nil => simp only [shwords_Join.l0]; rfl
  | cons a l =>
    have h0 : 0 < (a :: l).length := by simp
    have hw : wrap64 ((0 : Int) + 1) = ((0 + 1 : Nat) : Int) := wrapS (i := 0) (by omega)
    have hta : tot (a :: l) = a.length + 1 + tot l := by simp [tot]
    have hll : (a :: l).length = l.length + 1 := by simp
    simp only [shwords_Join.l0]
    rw [if_pos (by omega), if_pos (by omega), if_pos (by omega), if_neg (by omega), show rd_L4 (a :: l) 0 = a from rfl, if_pos (by simp; omega), hw]
    rw [join_l0 (a :: l) (by omega) l.length k 0 ([] ++ a) (by omega) (by omega) (by simp; omega)]
    rfl
theorem rjoin_l0 (l : List (List Int)) (hn : l.length ≤ 1000000000000) : ∀ (d k i : Nat) (acc : List Int), i + 1 + d = l.length → d + 1 ≤ k → acc.length + tot (l.drop (i + 1)) ≤ 1000000000000 →
    lanyardref12_Join.l0 k l acc ((i + 1 : Nat) : Int) = some (joinL acc (l.drop (i + 1))) := by
  intro d
  induction d with
  | zero =>
    intro k i acc hi hk ha
    obtain ⟨k, rfl⟩ : ∃ m, k = m + 1 := ⟨k - 1, by omega⟩
    simp only [lanyardref12_Join.l0]
    rw [if_neg (by omega), List.drop_eq_nil_of_le (by omega)]
    rfl
  | succ d ih =>
    intro k i acc hi hk ha
    obtain ⟨k, rfl⟩ : ∃ m, k = m + 1 := ⟨k - 1, by omega⟩
    have hlt : i + 1 < l.length := by omega
    have e1 : i + 1 + 1 + d = l.length := by omega
    rw [tot_drop hlt] at ha
    have h1 := fun acc2 h => ih k (i + 1) acc2 e1 (by omega) h
    simp only [lanyardref12_Join.l0]
    rw [if_pos (by omega), if_pos (by omega), if_pos (by omega), Option.bind_some, if_pos (by omega), rdL4_nat l (i + 1) hlt, if_pos (by simp; omega), wrapS (by omega), h1 _ (by simp; omega), List.drop_eq_getElem_cons hlt, joinL]
    simp
theorem rjoin_f (l : List (List Int)) (ht : tot l ≤ 1000000000000) (k : Nat) (hk : l.length + 1 ≤ k) : lanyardref12_Join.f k l = some (joined l) := by
  unfold lanyardref12_Join.f
  have hn := len_tot l
  obtain ⟨k, rfl⟩ : ∃ m, k = m + 1 := ⟨k - 1, by omega⟩
  cases l with
  | nil => simp only [lanyardref12_Join.l0]; rfl
  | cons a l =>
    have h0 : 0 < (a :: l).length := by simp
    have hw : wrap64 ((0 : Int) + 1) = ((0 + 1 : Nat) : Int) := wrapS (i := 0) (by omega)
    have hta : tot (a :: l) = a.length + 1 + tot l := by simp [tot]
    have hll : (a :: l).length = l.length + 1 := by simp
    simp only [lanyardref12_Join.l0]
    rw [if_pos (by omega), if_neg (by omega), if_pos (by omega), show rd_L4 (a :: l) 0 = a from rfl, if_pos (by simp; omega), hw]
    rw [rjoin_l0 (a :: l) (by omega) l.length k 0 ([] ++ a) (by omega) (by omega) (by simp; omega)]
    rfl
theorem joinL_len : ∀ (ws : List (List Int)) (acc : List Int), (joinL acc ws).length = acc.length + tot ws
  | [], acc => by simp [joinL, tot]
  | w :: ws, acc => by rw [joinL, joinL_len ws]; simp [tot]; omega
theorem joined_len (l : List (List Int)) : (joined l).length ≤ tot l := by
  cases l with
  | nil => simp [joined]
  | cons w ws => rw [joined, joinL_len]; simp [tot]

/-! ### The law -/
theorem WordsQuotes_pure (line : List Int) (at_ style : Int) (words : List (List Int)) (hn : line.length ≤ 1000000000) (ht : tot words ≤ 1000000000) :
    ∃ k, lanyardlaw12_WordsQuotes.f k line at_ style words = some true := by
  have hl := len_tot words
  have hj := joined_len words
  have hs := strip_len line (0, false)
  have hq := quote_len line style
  refine ⟨4 * line.length + 5 * tot words + 5000, ?_⟩
  unfold lanyardlaw12_WordsQuotes.f
  rw [quote_f line (by omega) style _ (by omega), rquote_f line (by omega) style _ (by omega), Option.bind_some, Option.bind_some, begun_f _ (by omega), Option.bind_some, if_pos rfl]
  have hQ : shwords_Quoted.f (4 * line.length + 5 * tot words + 5000) line at_ = lanyardref12_Quoted.f (4 * line.length + 5 * tot words + 5000) line at_ := by
    unfold shwords_Quoted.f lanyardref12_Quoted.f
    rw [states_f line (by omega) _ (by omega), rstates_f line (by omega) _ (by omega)]
    rfl
  have hQ2 : ∃ v, lanyardref12_Quoted.f (4 * line.length + 5 * tot words + 5000) line at_ = some v := by
    unfold lanyardref12_Quoted.f
    rw [rstates_f line (by omega) _ (by omega)]
    by_cases h1 : at_ < 0
    · rw [if_pos h1]; exact ⟨_, rfl⟩
    · rw [if_neg h1]
      by_cases h2 : at_ ≥ (line.length : Int)
      · rw [if_pos h2]; exact ⟨_, rfl⟩
      · rw [if_neg h2, Option.bind_some, if_pos (by omega), if_pos (by show at_ < ((ql (0, false) line).length : Int); rw [ql_length]; omega)]
        exact ⟨_, rfl⟩
  obtain ⟨v, hv⟩ := hQ2
  rw [hQ, hv, Option.bind_some, Option.bind_some, if_pos rfl]
  unfold lanyardref12_Open.f
  rw [open_f line (by omega) _ (by omega), rstates_f line (by omega) _ (by omega), Option.bind_some, Option.bind_some, Option.bind_some, if_pos rfl, strip_f line (by omega) _ (by omega), rstrip_f line (by omega) _ (by omega), Option.bind_some, Option.bind_some,
    same_f _ _ (by omega) _ (by omega), Option.bind_some, if_pos (by simp), same_f _ _ (by omega) _ (by omega), Option.bind_some, if_pos (by simp), if_pos rfl, join_f words (by omega) _ (by omega), rjoin_f words (by omega) _ (by omega), Option.bind_some, Option.bind_some,
    same_f _ _ (by omega) _ (by omega), Option.bind_some]
  simp
end Go.Proofs.Ytpebdkchdgaeoaa.T
