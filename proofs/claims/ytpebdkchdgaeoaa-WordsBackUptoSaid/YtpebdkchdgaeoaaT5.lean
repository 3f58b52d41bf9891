/-
  WordsBack: a text that is quoted is one plain word; without its quotes it is the text; no quote is open behind it.
-/
import Derived.Test.YtpebdkchdgaeoaaT4
namespace Go.Proofs.Ytpebdkchdgaeoaa.T
open Go.RowKit Go.Proofs.Ytpebdkchdgaeoaa.PAll Go.Proofs.YtpebdkchdgaeoaaW.PrintWords Go.Proofs.YtpebdkchdgaeoaaW.PrintLast
set_option linter.unusedVariables false
set_option linter.unusedSimpArgs false

def NoStop (s : St) (l : List Int) : Prop := ∀ p ∈ zs s l, stopP p = false
theorem NoStop.nil (s : St) : NoStop s [] := fun p hp => by simp [zs, ql] at hp
theorem NoStop.cons {s : St} {r : Int} {l : List Int} (h : stopP (r, kindS s) = false) (ht : NoStop (nextS s r) l) : NoStop s (r :: l) := by
  intro p hp
  rw [zs_cons] at hp
  rcases List.mem_cons.1 hp with rfl | hp
  · exact h
  · exact ht p hp

theorem plainLen_all : ∀ z : List (Int × Int), (∀ p ∈ z, stopP p = false) → plainLen z = z.length
  | [], _ => rfl
  | p :: t, h => by
    rw [plainLen, h p (List.mem_cons_self ..), plainLen_all t (fun x hx => h x (List.mem_cons_of_mem _ hx))]
    simp
theorem stop_not {p : Int × Int} (h : stopP p = false) : (decide (p.2 = 0) && blankB p.1) = false ∧ (decide (p.2 = 0) && operB p.1) = false := by
  unfold stopP classZ at h
  by_cases h0 : p.2 = 0
  · simp only [h0, true_and, decide_eq_false_iff_not, Decidable.not_not] at h
    by_cases h1 : blankB p.1 = true
    · rw [if_pos h1] at h; exact absurd h (by decide)
    · rw [if_neg h1] at h
      by_cases h2 : operB p.1 = true
      · rw [if_pos h2] at h; exact absurd h (by decide)
      · simp at h1 h2; simp [h1, h2]
  · simp [h0]
theorem opAt_none {z : List (Int × Int)} (h : ∀ p ∈ z, stopP p = false) : opAt z = false := by
  cases z with
  | nil => rfl
  | cons p t => exact (stop_not (h p (List.mem_cons_self ..))).2
theorem wordsZ_plain (i : Nat) (z : List (Int × Int)) (h0 : z ≠ []) (h : ∀ p ∈ z, stopP p = false) : wordsZ i z = [⟨0, (i : Int), ((i + z.length : Nat) : Int)⟩] := by
  cases z with
  | nil => exact absurd rfl h0
  | cons p t =>
    rw [wordsZ_cons, (stop_not (h p (List.mem_cons_self ..))).1, if_neg (by simp), opAt_none (fun x hx => h x (List.mem_of_mem_drop hx)), if_neg (by simp), plainLen_all _ h]
    rw [List.drop_eq_nil_of_le (by simp), wordsZ_nil]
theorem wordsL_plain (l : List Int) (h0 : l ≠ []) (h : NoStop (0, false) l) : wordsL l = [⟨0, 0, (l.length : Int)⟩] := by
  unfold wordsL
  rw [wordsZ_plain 0 _ (by
    intro e
    have := congrArg List.length e
    rw [zs_length] at this
    exact h0 (List.eq_nil_of_length_eq_zero this)) h, zs_length]
  simp

theorem endS_cons (s : St) (r : Int) (t : List Int) : endS s (r :: t) = endS (nextS s r) t := rfl

theorem classZ_other {c : Int} (h1 : blankB c = false) (h2 : operB c = false) : classZ c = 0 := by simp [classZ, h1, h2]

theorem back1 : ∀ t : List Int, NoStop (39, false) (t.flatMap q1 ++ [39]) ∧ stripZ (39, false) (t.flatMap q1 ++ [39]) = t ∧ endS (39, false) (t.flatMap q1 ++ [39]) = (0, false)
  | [] => by
    refine ⟨NoStop.cons (by decide) (NoStop.nil _), by decide, by decide⟩
  | r :: t => by
    obtain ⟨h1, h2, h3⟩ := back1 t
    rw [List.flatMap_cons, List.append_assoc]
    by_cases h : r = 39
    · subst h
      have e1 : nextS (39, false) 39 = (0, false) := by decide
      have e2 : nextS (0, false) 92 = (0, true) := by decide
      have e3 : nextS (0, true) 39 = (0, false) := by decide
      have e4 : nextS (0, false) 39 = (39, false) := by decide
      simp only [q1, if_true, List.cons_append, List.nil_append]
      refine ⟨NoStop.cons (by decide) ?_, ?_, ?_⟩
      · rw [e1]
        refine NoStop.cons (by decide) ?_
        rw [e2]
        refine NoStop.cons (by decide) ?_
        rw [e3]
        refine NoStop.cons (by decide) ?_
        rw [e4]
        exact h1
      · simp only [stripZ, stripS, e1, e2, e3, e4]
        simp [h2]
      · simp only [endS_cons, e1, e2, e3, e4]
        exact h3
    · have e1 : nextS (39, false) r = (39, false) := by simp [nextS, h]
      simp only [q1, if_neg h, List.cons_append, List.nil_append]
      refine ⟨NoStop.cons (by simp [stopP, kindS]) (by rw [e1]; exact h1), ?_, ?_⟩
      · simp only [stripZ, stripS, e1]
        simp [h2]
      · rw [endS_cons, e1]
        exact h3

theorem back2 : ∀ t : List Int, NoStop (34, false) (t.flatMap q2 ++ [34]) ∧ stripZ (34, false) (t.flatMap q2 ++ [34]) = t ∧ endS (34, false) (t.flatMap q2 ++ [34]) = (0, false)
  | [] => by
    refine ⟨NoStop.cons (by decide) (NoStop.nil _), by decide, by decide⟩
  | r :: t => by
    obtain ⟨h1, h2, h3⟩ := back2 t
    rw [List.flatMap_cons, List.append_assoc]
    by_cases h : sp2 r = true
    · have e1 : nextS (34, false) 92 = (34, true) := by decide
      have e2 : nextS (34, true) r = (34, false) := by simp [nextS]
      simp only [q2, if_pos h, List.cons_append, List.nil_append]
      refine ⟨NoStop.cons (by decide) ?_, ?_, ?_⟩
      · rw [e1]
        refine NoStop.cons (by simp [stopP, kindS]) ?_
        rw [e2]
        exact h1
      · simp only [stripZ, stripS, e1, e2]
        have hg : goesB 34 (r :: (t.flatMap q2 ++ [34])) = true := by
          unfold sp2 at h
          simpa [goesB] using h
        simp [h2, hg]
      · simp only [endS_cons, e1, e2]
        exact h3
    · have hr : ¬ r = 92 ∧ ¬ r = 34 := by
        unfold sp2 at h
        simp only [decide_eq_true_eq, not_or] at h
        exact ⟨h.1, h.2.1⟩
      have e1 : nextS (34, false) r = (34, false) := by simp [nextS, hr.1, hr.2]
      simp only [q2, if_neg h, List.cons_append, List.nil_append]
      refine ⟨NoStop.cons (by simp [stopP, kindS]) (by rw [e1]; exact h1), ?_, ?_⟩
      · simp only [stripZ, stripS, e1]
        simp [h2]
      · rw [endS_cons, e1]
        exact h3

theorem sp3_not {r : Int} (h : ¬ sp3 r = true) : classZ r = 0 ∧ ¬ r = 92 ∧ ¬ r = 39 ∧ ¬ r = 34 ∧ ¬ r = 96 := by
  have hn : ∀ c ∈ sp3L, ¬ r = c := by
    intro c hc e
    apply h
    unfold sp3
    rw [List.any_eq_true]
    exact ⟨c, hc, by simp [e]⟩
  refine ⟨classZ_other ?_ ?_, hn 92 (by decide), hn 39 (by decide), hn 34 (by decide), hn 96 (by decide)⟩
  · unfold blankB
    simp only [decide_eq_false_iff_not, not_or]
    exact ⟨hn 32 (by decide), hn 9 (by decide), hn 10 (by decide)⟩
  · unfold operB
    simp only [decide_eq_false_iff_not, not_or]
    exact ⟨hn 40 (by decide), hn 41 (by decide), hn 60 (by decide), hn 62 (by decide), hn 59 (by decide), hn 38 (by decide), hn 124 (by decide)⟩

theorem back3 : ∀ t : List Int, NoStop (0, false) (t.flatMap q3) ∧ stripZ (0, false) (t.flatMap q3) = t ∧ endS (0, false) (t.flatMap q3) = (0, false)
  | [] => ⟨NoStop.nil _, rfl, rfl⟩
  | r :: t => by
    obtain ⟨h1, h2, h3⟩ := back3 t
    rw [List.flatMap_cons]
    by_cases h : sp3 r = true
    · have e1 : nextS (0, false) 92 = (0, true) := by decide
      have e2 : nextS (0, true) r = (0, false) := by simp [nextS]
      simp only [q3, if_pos h, List.cons_append, List.nil_append]
      refine ⟨NoStop.cons (by decide) ?_, ?_, ?_⟩
      · rw [e1]
        refine NoStop.cons (by simp [stopP, kindS]) ?_
        rw [e2]
        exact h1
      · simp only [stripZ, stripS, e1, e2]
        simp [h2]
      · simp only [endS_cons, e1, e2]
        exact h3
    · obtain ⟨hc, g1, g2, g3, g4⟩ := sp3_not h
      have e1 : nextS (0, false) r = (0, false) := by simp [nextS, g1, g2, g3, g4]
      simp only [q3, if_neg h, List.cons_append, List.nil_append]
      refine ⟨NoStop.cons (by simp [stopP, hc]) (by rw [e1]; exact h1), ?_, ?_⟩
      · simp only [stripZ, stripS, e1]
        simp [h2]
      · rw [endS_cons, e1]
        exact h3

/-- What is quoted comes back. -/
theorem quote_back (t : List Int) (style : Int) (h : (quoteL t style).2 = 0) :
    (quoteL t style).1 ≠ [] ∧ NoStop (0, false) (quoteL t style).1 ∧ stripZ (0, false) (quoteL t style).1 = t ∧ endS (0, false) (quoteL t style).1 = (0, false) := by
  unfold quoteL at h ⊢
  have hlim : ∀ l : List Int, (lim l).2 = 0 → (lim l).1 = l := by
    intro l hl
    unfold lim at hl ⊢
    split
    · rename_i hc; rw [if_pos hc] at hl; exact absurd hl (by decide)
    · rfl
  by_cases h1 : style = 1
  · rw [if_pos h1] at h ⊢
    rw [hlim _ h]
    obtain ⟨g1, g2, g3⟩ := back1 t
    have e1 : nextS (0, false) 39 = (39, false) := by decide
    refine ⟨by simp, NoStop.cons (by decide) (by rw [e1]; exact g1), ?_, ?_⟩
    · simp only [List.cons_append, stripZ, stripS, e1]
      simp [g2]
    · rw [List.cons_append, endS_cons, e1]
      exact g3
  · rw [if_neg h1] at h ⊢
    by_cases h2 : style = 2
    · rw [if_pos h2] at h ⊢
      rw [hlim _ h]
      obtain ⟨g1, g2, g3⟩ := back2 t
      have e1 : nextS (0, false) 34 = (34, false) := by decide
      refine ⟨by simp, NoStop.cons (by decide) (by rw [e1]; exact g1), ?_, ?_⟩
      · simp only [List.cons_append, stripZ, stripS, e1]
        simp [g2]
      · rw [List.cons_append, endS_cons, e1]
        exact g3
    · rw [if_neg h2] at h ⊢
      by_cases h3 : style = 3
      · rw [if_pos h3] at h ⊢
        by_cases h0 : t = []
        · rw [if_pos h0] at h ⊢
          subst h0
          refine ⟨by simp, NoStop.cons (by decide) (NoStop.cons (by decide) (NoStop.nil _)), by decide, by decide⟩
        · rw [if_neg h0] at h ⊢
          rw [hlim _ h]
          obtain ⟨g1, g2, g3⟩ := back3 t
          refine ⟨fun e => ?_, g1, g2, g3⟩
          rw [e] at g2
          exact h0 (by rw [← g2]; rfl)
      · rw [if_neg h3] at h
        exact absurd h (by decide)

theorem quote_len (t : List Int) (style : Int) : (quoteL t style).1.length ≤ 1024 ∧ ((quoteL t style).2 = 0 ∨ (quoteL t style).2 = 1 ∧ (style < 1 ∨ style > 3) ∨ (quoteL t style).2 = 3 ∧ t.length > 254) := by
  have hlim : ∀ l : List Int, l.length ≤ 4 * t.length + 2 → (lim l).1.length ≤ 1024 ∧ ((lim l).2 = 0 ∨ (lim l).2 = 1 ∧ (style < 1 ∨ style > 3) ∨ (lim l).2 = 3 ∧ t.length > 254) := by
    intro l hl
    unfold lim
    split
    · exact ⟨by simp, .inr (.inr ⟨rfl, by omega⟩)⟩
    · exact ⟨by simp; omega, .inl rfl⟩
  have l1 := q1_len t
  have l2 := q2_len t
  have l3 := q3_len t
  unfold quoteL
  by_cases h1 : style = 1
  · rw [if_pos h1]; exact hlim _ (by simp at l1 ⊢; omega)
  · rw [if_neg h1]
    by_cases h2 : style = 2
    · rw [if_pos h2]; exact hlim _ (by simp at l2 ⊢; omega)
    · rw [if_neg h2]
      by_cases h3 : style = 3
      · rw [if_pos h3]
        by_cases h0 : t = []
        · rw [if_pos h0]; exact ⟨by simp, .inl rfl⟩
        · rw [if_neg h0]; exact hlim _ (by simp at l3 ⊢; omega)
      · rw [if_neg h3]
        exact ⟨by simp, .inr (.inl ⟨rfl, by omega⟩)⟩

theorem WordsBack_pure (t : List Int) (style : Int) (hn : t.length ≤ 1000000000000) : ∃ k, lanyardlaw12_WordsBack.f k t style = some true := by
  refine ⟨t.length + 100000, ?_⟩
  obtain ⟨hl, he⟩ := quote_len t style
  unfold lanyardlaw12_WordsBack.f
  rw [begun_f _ (by omega), Option.bind_some, if_pos rfl, quote_f t hn style _ (by omega), Option.bind_some]
  rcases he with he | ⟨he, hs⟩ | ⟨he, hs⟩
  · obtain ⟨b1, b2, b3, b4⟩ := quote_back t style he
    rw [if_pos he, words_f _ (by omega) _ (by omega), Option.bind_some, wordsL_plain _ b1 b2]
    rw [if_pos (by simp), if_pos (by simp)]
    rw [if_pos (by simp [rd_T27])]
    rw [strip_f _ (by omega) _ (by omega), Option.bind_some, b3, same_f t t hn _ (by omega), Option.bind_some, if_pos (by simp), open_f _ (by omega) _ (by omega), Option.bind_some, b4]
    rfl
  · rw [if_neg (by rw [he]; decide), if_pos he]
    rcases hs with hs | hs
    · rw [if_pos hs]
    · rw [if_neg (by omega), if_pos hs]
  · rw [if_neg (by rw [he]; decide), if_neg (by rw [he]; decide), if_pos he]
    rw [decide_eq_true (by omega)]
end Go.Proofs.Ytpebdkchdgaeoaa.T
