/-
  The document's answers as the same plain Lean functions: states, Strip, Quote, Join.
-/
import Derived.Test.YtpebdkchdgaeoaaQC
import Derived.Test.YtpebdkchdgaeoaaU5
namespace Go.Proofs.Ytpebdkchdgaeoaa.T
open Go.RowKit Go.Proofs.Ytpebdkchdgaeoaa.PAll Go.Proofs.YtpebdkchdgaeoaaW.PrintWords Go.Proofs.YtpebdkchdgaeoaaW.PrintLast
set_option linter.unusedVariables false
set_option linter.unusedSimpArgs false

theorem take_set_succ (acc : List Int) (i : Nat) (v : Int) (h : i < acc.length) : (acc.set i v).take (i + 1) = acc.take i ++ [v] := by
  rw [List.take_set, List.take_succ_eq_append_getElem h, List.set_append]
  simp [show min i acc.length = i by omega]

def Q4 (q : Int) : Prop := q = 0 ∨ q = 39 ∨ q = 34 ∨ q = 96

theorem next_close {q : Int} (h : q ≠ 0) (h2 : Q4 q) : nextS (q, false) q = (0, false) := by
  rcases h2 with rfl | rfl | rfl | rfl
  · exact absurd rfl h
  all_goals rfl
theorem next_open {c : Int} (h : c = 39 ∨ c = 34 ∨ c = 96) : nextS (0, false) c = (c, false) := by
  rcases h with rfl | rfl | rfl <;> rfl
theorem next_back {q : Int} (h : q ≠ 39) : nextS (q, false) 92 = (q, true) := by simp [nextS, h]
theorem next_stay {q c : Int} (h1 : q ≠ 0 → c ≠ q) (h2 : q ≠ 39 → c ≠ 92) (h3 : q = 0 → c ≠ 39 ∧ c ≠ 34 ∧ c ≠ 96) : nextS (q, false) c = (q, false) := by
  unfold nextS
  simp only [Bool.false_eq_true, if_false]
  rw [if_neg (fun ⟨a, b⟩ => h2 b a)]
  by_cases h : q = 0
  · have := h3 h
    rw [if_pos h, if_neg (by omega), h]
  · rw [if_neg h, if_neg (h1 h)]
theorem next_after (q c : Int) : nextS (q, true) c = (q, false) := by simp [nextS]

theorem rstates_l0 (line : List Int) (hn : line.length ≤ 1000000000000) : ∀ (d k i : Nat) (acc : List Int) (q e : Int), acc.length = line.length → i + d = line.length → 4 * d + 5 ≤ k → Q4 q → (q ≠ 0 → e = q) →
    lanyardref12_states.l0 k line acc (kindS (q, false)) e (i : Int) = some (acc.take i ++ ql (q, false) (line.drop i), kindS (endS (q, false) (line.drop i))) := by
  intro d
  induction d using Nat.strongRecOn with
  | _ d ih =>
  intro k i acc q e hl hi hk hq he
  cases d with
  | zero =>
    obtain ⟨k, rfl⟩ : ∃ m, k = m + 1 := ⟨k - 1, by omega⟩
    simp only [lanyardref12_states.l0]
    rw [if_neg (by omega), List.drop_eq_nil_of_le (by omega), List.take_of_length_le (by omega)]
    simp [ql, endS]
  | succ d =>
    have hlt : i < line.length := by omega
    obtain ⟨c, hc⟩ : ∃ c, c = line[i] := ⟨_, rfl⟩
    have hdrop : line.drop i = c :: line.drop (i + 1) := by rw [List.drop_eq_getElem_cons hlt, hc]
    have e1 : i + 1 + d = line.length := by omega
    have step : ∀ (k' : Nat) (q' e' : Int), 4 * d + 5 ≤ k' → Q4 q' → (q' ≠ 0 → e' = q') → nextS (q, false) c = (q', false) →
        lanyardref12_states.l0 k' line (acc.set i (kindS (q, false))) (kindS (q', false)) e' ((i + 1 : Nat) : Int) = some (acc.take i ++ ql (q, false) (line.drop i), kindS (endS (q, false) (line.drop i))) := by
      intro k' q' e' h1 h2 h3 h4
      rw [ih d (by omega) k' (i + 1) _ q' e' (by simpa using hl) e1 h1 h2 h3, hdrop, ql, endS, h4, take_set_succ _ _ _ (by omega)]
      simp
    obtain ⟨k, rfl⟩ : ∃ m, k = m + 4 := ⟨k - 4, by omega⟩
    have hrd : rd line (i : Int) = c := by rw [rd_nat line i hlt, hc]
    rw [lanyardref12_states.l0, if_pos (by omega), if_pos (by omega), if_pos (by omega), Option.bind_some, hrd, Int.toNat_natCast]
    have back : ∀ k' : Nat, 4 * d + 5 ≤ k' → q ≠ 39 → c = 92 → (if (wrap64 ((i : Int) + 1)) ≥ (line.length : Int) then (some (acc.set i (kindS (q, false)), (3 : Int))) else (if 0 ≤ (wrap64 ((i : Int) + 1)) then (if (wrap64 ((i : Int) + 1)) < ((acc.set i (kindS (q, false))).length : Int) then (lanyardref12_states.l0 k' line ((acc.set i (kindS (q, false))).set ((wrap64 ((i : Int) + 1)) : Int).toNat 3) (kindS (q, false)) e (wrap64 ((wrap64 ((i : Int) + 1)) + 1))) else (none)) else (none))) = some (acc.take i ++ ql (q, false) (line.drop i), kindS (endS (q, false) (line.drop i))) := by
      intro k' h1 h2 h3
      rw [wrapS (by omega), wrapS (by omega), Int.toNat_natCast, hdrop, ql, endS, h3, next_back h2]
      have hlen : (acc.set i (kindS (q, false))).length = line.length := by simpa using hl
      by_cases h : i + 1 < line.length
      · obtain ⟨d, rfl⟩ : ∃ m, d = m + 1 := ⟨d - 1, by omega⟩
        rw [if_neg (by omega), if_pos (by omega), if_pos (by omega), ih d (by omega) k' (i + 1 + 1) _ q e (by simpa using hl) (by omega) (by omega) hq he, take_set_succ _ _ _ (by omega), take_set_succ _ _ _ (by omega), List.drop_eq_getElem_cons h, ql, endS, next_after]
        simp [kindS]
      · rw [if_pos (by omega), List.drop_eq_nil_of_le (by omega)]
        have := take_set_succ acc i (kindS (q, false)) (by omega)
        rw [List.take_of_length_le (by rw [hlen]; omega)] at this
        rw [this]
        simp [ql, endS, kindS]
    have w1 : wrap64 ((i : Int) + 1) = ((i + 1 : Nat) : Int) := wrapS (by omega)
    rcases hq with rfl | rfl | rfl | rfl
    · rw [if_pos (show kindS (0, false) = 0 from rfl), lanyardref12_states.j1, if_neg (by simp), if_neg (by decide), lanyardref12_states.j2]
      by_cases hb : c = 92
      · rw [if_pos (by simpa using hb)]
        exact back _ (by omega) (by decide) hb
      · rw [if_neg (by simpa using hb), if_pos (show kindS (0, false) = 0 from rfl), lanyardref12_states.j3]
        by_cases h1 : c = 39
        · rw [if_pos (by simpa using h1), w1]
          have := step k c c (by omega) (by unfold Q4; omega) (fun _ => rfl) (next_open (by omega))
          subst h1
          exact this
        · rw [if_neg (by simpa using h1), if_pos (show kindS (0, false) = 0 from rfl)]
          by_cases h2 : c = 34
          · rw [if_pos h2, w1]
            have := step k c c (by omega) (by unfold Q4; omega) (fun _ => rfl) (next_open (by omega))
            subst h2
            exact this
          · rw [if_neg h2]
            by_cases h3 : c = 96
            · rw [if_pos h3, w1]
              have := step k c c (by omega) (by unfold Q4; omega) (fun _ => rfl) (next_open (by omega))
              subst h3
              exact this
            · rw [if_neg h3, w1]
              exact step _ 0 e (by omega) (.inl rfl) he (next_stay (by omega) (fun _ => hb) (fun _ => ⟨h1, h2, h3⟩))
    · obtain rfl := he (by decide)
      rw [if_neg (by decide), lanyardref12_states.j1]
      by_cases h1 : c = 39
      · rw [if_pos (by simpa using h1), w1]
        exact step _ 0 39 (by omega) (.inl rfl) (by omega) (by rw [h1]; rfl)
      · rw [if_neg (by simpa using h1), if_pos (show kindS (39, false) = 1 from rfl), lanyardref12_states.j2, if_neg (by simp), if_neg (by decide), lanyardref12_states.j3, if_neg (by simp), if_neg (by decide), w1]
        exact step _ 39 39 (by omega) (.inr (.inl rfl)) (by omega) (next_stay (fun _ => h1) (by omega) (by omega))
    · obtain rfl := he (by decide)
      rw [if_neg (by decide), lanyardref12_states.j1]
      by_cases h1 : c = 34
      · rw [if_pos (by simpa using h1), w1]
        exact step _ 0 34 (by omega) (.inl rfl) (by omega) (by rw [h1]; rfl)
      · rw [if_neg (by simpa using h1), if_neg (by decide), lanyardref12_states.j2]
        by_cases hb : c = 92
        · rw [if_pos (by simpa using hb)]
          exact back _ (by omega) (by decide) hb
        · rw [if_neg (by simpa using hb), if_neg (by decide), lanyardref12_states.j3, if_neg (by simp), if_neg (by decide), w1]
          exact step _ 34 34 (by omega) (.inr (.inr (.inl rfl))) (by omega) (next_stay (fun _ => h1) (fun _ => hb) (by omega))
    · obtain rfl := he (by decide)
      rw [if_neg (by decide), lanyardref12_states.j1]
      by_cases h1 : c = 96
      · rw [if_pos (by simpa using h1), w1]
        exact step _ 0 96 (by omega) (.inl rfl) (by omega) (by rw [h1]; rfl)
      · rw [if_neg (by simpa using h1), if_neg (by decide), lanyardref12_states.j2]
        by_cases hb : c = 92
        · rw [if_pos (by simpa using hb)]
          exact back _ (by omega) (by decide) hb
        · rw [if_neg (by simpa using hb), if_neg (by decide), lanyardref12_states.j3, if_neg (by simp), if_neg (by decide), w1]
          exact step _ 96 96 (by omega) (.inr (.inr (.inr rfl))) (by omega) (next_stay (fun _ => h1) (fun _ => hb) (by omega))

theorem rstates_f (line : List Int) (hn : line.length ≤ 1000000000000) (k : Nat) (hk : 4 * line.length + 5 ≤ k) : lanyardref12_states.f k line = some (ql (0, false) line, kindS (endS (0, false) line)) := by
  unfold lanyardref12_states.f
  rw [if_pos (by omega), if_pos (by omega)]
  have := rstates_l0 line hn line.length k 0 (List.replicate line.length 0) 0 0 (by simp) (by omega) hk (.inl rfl) (by omega)
  rw [List.take_zero, List.nil_append, List.drop_zero] at this
  exact this

/-! ### in -/
theorem in_l0 (s : ByteArray) (r : Int) (hn : s.size ≤ 1000000) : ∀ (d k i : Nat), i + d = s.size → d + 1 ≤ k →
    lanyardref12_in.l0 k r s (i : Int) = some ((List.range' i d).any fun j => wrap32 (bt s (j : Int)) == r) := by
  intro d
  induction d with
  | zero =>
    intro k i hi hk
    obtain ⟨k, rfl⟩ : ∃ m, k = m + 1 := ⟨k - 1, by omega⟩
    simp only [lanyardref12_in.l0]
    rw [if_neg (by omega)]
    rfl
  | succ d ih =>
    intro k i hi hk
    obtain ⟨k, rfl⟩ : ∃ m, k = m + 1 := ⟨k - 1, by omega⟩
    have h1 := ih k (i + 1) (by omega) (by omega)
    simp only [lanyardref12_in.l0]
    rw [if_pos (by omega), if_pos (by omega), wrapS (by omega), h1, List.range'_succ, List.any_cons]
    by_cases h : wrap32 (bt s (i : Int)) = r
    · rw [if_pos h, h]; simp
    · rw [if_neg h]; simp [h]
theorem in_f (s : ByteArray) (r : Int) (hn : s.size ≤ 1000000) (k : Nat) (hk : s.size + 1 ≤ k) (L : List Int) (hL : (List.range' 0 s.size).map (fun (j : Nat) => wrap32 (bt s (j : Int))) = L) :
    lanyardref12_in.f k r s = some (L.any (· == r)) := by
  unfold lanyardref12_in.f
  have := in_l0 s r hn s.size k 0 (by omega) hk
  rw [← hL, List.any_map]
  exact this

theorem in4_f (r : Int) (k : Nat) (hk : 20 ≤ k) : lanyardref12_in.f k r (⟨#[92, 34, 36, 96]⟩ : ByteArray) = some (sp2 r) := by
  rw [in_f _ r (by decide) k (by show 4 + 1 ≤ k; omega) [92, 34, 36, 96] (by decide +kernel)]
  congr 1
  unfold sp2
  rw [Bool.eq_iff_iff]
  simp
  omega
theorem in2_f (r : Int) (k : Nat) (hk : 20 ≤ k) : lanyardref12_in.f k r (⟨#[92, 96]⟩ : ByteArray) = some (decide (r = 92 ∨ r = 96)) := by
  rw [in_f _ r (by decide) k (by show 2 + 1 ≤ k; omega) [92, 96] (by decide +kernel)]
  congr 1
  rw [Bool.eq_iff_iff]
  simp
  omega
theorem in14_f (r : Int) (k : Nat) (hk : 20 ≤ k) : lanyardref12_in.f k r (⟨#[92, 36, 42, 63, 91, 93, 35, 126, 61, 37, 33, 123, 125, 64]⟩ : ByteArray) = some ([92, 36, 42, 63, 91, 93, 35, 126, 61, 37, 33, 123, 125, 64].any (· == r)) :=
  in_f _ r (by decide) k (by show 14 + 1 ≤ k; omega) _ (by decide +kernel)
end Go.Proofs.Ytpebdkchdgaeoaa.T
