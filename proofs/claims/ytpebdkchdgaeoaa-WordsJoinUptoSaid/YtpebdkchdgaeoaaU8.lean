/-
  Words beside a blank that is not quoted; words of words that are joined.
-/
import Derived.Test.YtpebdkchdgaeoaaU3
namespace Go.Proofs.Ytpebdkchdgaeoaa.T
open Go.RowKit Go.Proofs.Ytpebdkchdgaeoaa.PAll Go.Proofs.YtpebdkchdgaeoaaW.PrintWords Go.Proofs.YtpebdkchdgaeoaaW.PrintLast
set_option linter.unusedVariables false
set_option linter.unusedSimpArgs false

abbrev ZZ := List (Int × Int)
theorem digRun_app : ∀ (z1 z2 : ZZ), digRun (z1 ++ (32, 0) :: z2) = digRun z1
  | [], z2 => by simp [digRun, digP]
  | p :: t, z2 => by
    rw [List.cons_append, digRun, digRun, digRun_app t z2]
theorem redir_app (z1 z2 : ZZ) : redir (z1 ++ (32, 0) :: z2) = redir z1 := by
  cases z1 with
  | nil => simp [redir]
  | cons p t => rfl
theorem opAt_app (z1 z2 : ZZ) : opAt (z1 ++ (32, 0) :: z2) = opAt z1 := by
  cases z1 with
  | nil => simp [opAt, operB]
  | cons p t => rfl
theorem digN_app (z1 z2 : ZZ) : digN (z1 ++ (32, 0) :: z2) = digN z1 := by
  unfold digN
  rw [digRun_app, List.drop_append_of_le_length (digRun_le z1), redir_app]
theorem plainLen_app : ∀ (z1 z2 : ZZ), plainLen (z1 ++ (32, 0) :: z2) = plainLen z1
  | [], z2 => by simp [plainLen, stopP, classZ, blankB]
  | p :: t, z2 => by rw [List.cons_append, plainLen, plainLen, plainLen_app t z2]
theorem opZ_app (z1 z2 : ZZ) (s : ByteArray) (hs : (32 : Int) ∉ codes s) : opZ (z1 ++ (32, 0) :: z2) s = opZ z1 s := by
  unfold opZ
  by_cases h : s.size ≤ z1.length
  · rw [List.take_append_of_le_length h]
    congr 2
    simp [h]
    omega
  · have h1 : decide (s.size ≤ z1.length) = false := by simpa using h
    rw [h1, Bool.false_and, Bool.false_and]
    have h2 : (((z1 ++ (32, 0) :: z2).take s.size).map (·.1) == codes s) = false := by
      rw [beq_eq_false_iff_ne]
      intro he
      apply hs
      rw [← he, List.mem_map]
      refine ⟨(32, 0), ?_, rfl⟩
      rw [List.take_append, List.mem_append]
      right
      obtain ⟨m, hm⟩ : ∃ m, s.size - z1.length = m + 1 := ⟨s.size - z1.length - 1, by omega⟩
      rw [hm, List.take_succ_cons]
      exact List.mem_cons_self ..
    rw [h2, Bool.and_false, Bool.false_and]
theorem opLenL_app (z1 z2 : ZZ) : ∀ l : List ByteArray, (∀ s ∈ l, (32 : Int) ∉ codes s) → opLenL (z1 ++ (32, 0) :: z2) l = opLenL z1 l
  | [], _ => rfl
  | s :: l, h => by
    rw [opLenL, opLenL, opZ_app z1 z2 s (h s (List.mem_cons_self ..)), opLenL_app z1 z2 l (fun x hx => h x (List.mem_cons_of_mem _ hx))]
theorem opLen_app (z1 z2 : ZZ) : opLen (z1 ++ (32, 0) :: z2) = opLen z1 := opLenL_app z1 z2 opsL (by decide)

/-- A rule for what is so of all words. -/
theorem words_step (p : Int × Int) (t : ZZ) (h : opAt ((p :: t).drop (digN (p :: t))) = true) :
    1 ≤ digN (p :: t) + opLen ((p :: t).drop (digN (p :: t))) ∧ digN (p :: t) + opLen ((p :: t).drop (digN (p :: t))) ≤ t.length + 1 := by
  have hne := opAt_ne h
  have hf := opLen_facts _ hne
  have hd := digN_le (p :: t)
  rw [List.length_drop, List.length_cons] at hf
  rw [List.length_cons] at hd
  constructor
  · omega
  · have : digN (p :: t) < t.length + 1 := by
      rcases Nat.lt_or_ge (digN (p :: t)) (t.length + 1) with hl | hl
      · exact hl
      · exact absurd (List.drop_eq_nil_of_le (by rw [List.length_cons]; exact hl)) hne
    omega

theorem wordsZ_blank : ∀ (n : Nat) (z1 z2 : ZZ) (i : Nat), z1.length ≤ n → wordsZ i (z1 ++ (32, 0) :: z2) = wordsZ i z1 ++ wordsZ (i + z1.length + 1) z2 := by
  intro n
  induction n with
  | zero =>
    intro z1 z2 i h
    obtain rfl : z1 = [] := List.eq_nil_of_length_eq_zero (by omega)
    rw [List.nil_append, wordsZ_cons, if_pos (by simp [blankB]), wordsZ_nil]
    simp
  | succ n ih =>
    intro z1 z2 i h
    cases z1 with
    | nil =>
      rw [List.nil_append, wordsZ_cons, if_pos (by simp [blankB]), wordsZ_nil]
      simp
    | cons p t =>
      have hl : t.length ≤ n := by simpa using h
      have hdn : digN (p :: (t ++ (32, 0) :: z2)) = digN (p :: t) := digN_app (p :: t) z2
      have hdr : (p :: (t ++ (32, 0) :: z2)).drop (digN (p :: t)) = (p :: t).drop (digN (p :: t)) ++ (32, 0) :: z2 := by
        rw [← List.cons_append, List.drop_append_of_le_length (digN_le _)]
      rw [List.cons_append, wordsZ_cons, wordsZ_cons, hdn, hdr, opAt_app, opLen_app]
      have hpl : plainLen (p :: (t ++ (32, 0) :: z2)) = plainLen (p :: t) := plainLen_app (p :: t) z2
      rw [hpl]
      by_cases hb : (decide (p.2 = 0) && blankB p.1) = true
      · rw [if_pos hb, if_pos hb, ih t z2 (i + 1) hl, List.length_cons, show i + 1 + t.length + 1 = i + (t.length + 1) + 1 by omega]
      · rw [if_neg hb, if_neg hb]
        by_cases ho : opAt ((p :: t).drop (digN (p :: t))) = true
        · rw [if_pos ho, if_pos ho]
          obtain ⟨h1, h2⟩ := words_step p t ho
          generalize digN (p :: t) + opLen ((p :: t).drop (digN (p :: t))) = m at h1 h2
          rw [List.drop_append_of_le_length (by omega), ih (t.drop (m - 1)) z2 (i + m) (by rw [List.length_drop]; omega), List.length_drop, List.length_cons, List.cons_append,
            show i + m + (t.length - (m - 1)) + 1 = i + (t.length + 1) + 1 by omega]
        · rw [if_neg ho, if_neg ho]
          have h1 := plain_pos p t hb ho
          have h2 := plainLen_le (p :: t)
          rw [List.length_cons] at h2
          generalize plainLen (p :: t) = m at h1 h2
          rw [List.drop_append_of_le_length (by omega), ih (t.drop (m - 1)) z2 (i + m) (by rw [List.length_drop]; omega), List.length_drop, List.length_cons, List.cons_append,
            show i + m + (t.length - (m - 1)) + 1 = i + (t.length + 1) + 1 by omega]

def shiftW (j : Nat) (s : S27) : S27 := ⟨s.f0, s.f1 + j, s.f2 + j⟩
theorem wordsZ_shift (j : Nat) : ∀ (n : Nat) (z : ZZ) (i : Nat), z.length ≤ n → wordsZ (i + j) z = (wordsZ i z).map (shiftW j) := by
  intro n
  induction n with
  | zero =>
    intro z i h
    obtain rfl : z = [] := List.eq_nil_of_length_eq_zero (by omega)
    rw [wordsZ_nil, wordsZ_nil]; rfl
  | succ n ih =>
    intro z i h
    cases z with
    | nil => rw [wordsZ_nil, wordsZ_nil]; rfl
    | cons p t =>
      have hl : t.length ≤ n := by simpa using h
      have hd : ∀ m, (t.drop m).length ≤ n := fun m => by rw [List.length_drop]; omega
      rw [wordsZ_cons, wordsZ_cons]
      by_cases hb : (decide (p.2 = 0) && blankB p.1) = true
      · rw [if_pos hb, if_pos hb, ← ih t (i + 1) hl, show i + j + 1 = i + 1 + j by omega]
      · rw [if_neg hb, if_neg hb]
        by_cases ho : opAt ((p :: t).drop (digN (p :: t))) = true
        · rw [if_pos ho, if_pos ho]
          generalize digN (p :: t) + opLen ((p :: t).drop (digN (p :: t))) = m
          rw [List.map_cons, ← ih _ (i + m) (hd _), show i + j + m = i + m + j by omega]
          simp [shiftW]
        · rw [if_neg ho, if_neg ho]
          generalize plainLen (p :: t) = m
          rw [List.map_cons, ← ih _ (i + m) (hd _), show i + j + m = i + m + j by omega]
          simp [shiftW]

theorem wordsZ_bounds : ∀ (n : Nat) (z : ZZ) (i : Nat), z.length ≤ n → ∀ s ∈ wordsZ i z, (i : Int) ≤ s.f1 ∧ s.f1 < s.f2 ∧ s.f2 ≤ ((i + z.length : Nat) : Int) := by
  intro n
  induction n with
  | zero =>
    intro z i h s hs
    obtain rfl : z = [] := List.eq_nil_of_length_eq_zero (by omega)
    rw [wordsZ_nil] at hs; cases hs
  | succ n ih =>
    intro z i h s hs
    cases z with
    | nil => rw [wordsZ_nil] at hs; cases hs
    | cons p t =>
      have hl : t.length ≤ n := by simpa using h
      have hd : ∀ m, (t.drop m).length ≤ n := fun m => by rw [List.length_drop]; omega
      rw [wordsZ_cons] at hs
      rw [List.length_cons]
      by_cases hb : (decide (p.2 = 0) && blankB p.1) = true
      · rw [if_pos hb] at hs
        have := ih t (i + 1) hl s hs
        omega
      · rw [if_neg hb] at hs
        by_cases ho : opAt ((p :: t).drop (digN (p :: t))) = true
        · rw [if_pos ho] at hs
          obtain ⟨h1, h2⟩ := words_step p t ho
          generalize digN (p :: t) + opLen ((p :: t).drop (digN (p :: t))) = m at h1 h2 hs
          rcases List.mem_cons.1 hs with rfl | hs
          · simp only; omega
          · have := ih _ (i + m) (hd _) s hs
            rw [List.length_drop] at this
            omega
        · rw [if_neg ho] at hs
          have h1 := plain_pos p t hb ho
          have h2 := plainLen_le (p :: t)
          rw [List.length_cons] at h2
          generalize plainLen (p :: t) = m at h1 h2 hs
          rcases List.mem_cons.1 hs with rfl | hs
          · simp only; omega
          · have := ih _ (i + m) (hd _) s hs
            rw [List.length_drop] at this
            omega

theorem endS_app : ∀ (l1 l2 : List Int) (s : St), endS s (l1 ++ l2) = endS (endS s l1) l2
  | [], _, _ => rfl
  | r :: t, l2, s => by rw [List.cons_append]; exact endS_app t l2 (nextS s r)
theorem zs_app : ∀ (l1 l2 : List Int) (s : St), zs s (l1 ++ l2) = zs s l1 ++ zs (endS s l1) l2
  | [], _, _ => rfl
  | r :: t, l2, s => by
    rw [List.cons_append, zs_cons, zs_cons, List.cons_append, zs_app t l2 (nextS s r)]
    rfl
theorem endS_two : ∀ (l : List Int) (s : St), kindS (endS s l) = 0 → endS s l = (0, false) := by
  intro l s h
  generalize endS s l = e at h
  obtain ⟨q, b⟩ := e
  unfold kindS at h
  cases b with
  | true => simp at h
  | false =>
    simp only [Bool.false_eq_true, if_false] at h
    split at h
    · omega
    · split at h
      · rename_i h0; rw [h0]
      · omega

/-- One plain word, no quote open. -/
def oneB (n : Int) : List S27 → Bool
  | [s] => decide (s.f0 = 0) && (decide (s.f1 = 0) && decide (s.f2 = n))
  | _ => false
theorem oneB_eq {n : Int} {l : List S27} (h : oneB n l = true) : l = [⟨0, 0, n⟩] := by
  match l, h with
  | [⟨a, b, c⟩], h =>
    simp only [oneB, Bool.and_eq_true, decide_eq_true_eq] at h
    obtain ⟨rfl, rfl, rfl⟩ := h
    rfl
def aloneB (w : List Int) : Bool := oneB (w.length : Int) (wordsL w) && decide (kindS (endS (0, false) w) = 0)
theorem aloneB_eq {w : List Int} (h : aloneB w = true) : wordsL w = [⟨0, 0, (w.length : Int)⟩] ∧ kindS (endS (0, false) w) = 0 := by
  unfold aloneB at h
  rw [Bool.and_eq_true, decide_eq_true_eq] at h
  exact ⟨oneB_eq h.1, h.2⟩
def tail32 (ws : List (List Int)) : List Int := ws.flatMap (fun w => 32 :: w)
theorem joined_text : ∀ (ws : List (List Int)) (P w line : List Int), (∀ x ∈ w :: ws, aloneB x = true) → line = P ++ (w ++ tail32 ws) →
    (wordsZ P.length (zs (0, false) (w ++ tail32 ws))).map (fun s => (line.take s.f2.toNat).drop s.f1.toNat) = w :: ws := by
  intro ws
  induction ws with
  | nil =>
    intro P w line ha hl
    have h1 := aloneB_eq (ha w (List.mem_cons_self ..))
    have h2 := wordsZ_shift P.length (zs (0, false) w).length (zs (0, false) w) 0 (Nat.le_refl _)
    rw [Nat.zero_add, show wordsZ 0 (zs (0, false) w) = _ from h1.1] at h2
    rw [show tail32 [] = [] from rfl, List.append_nil, h2]
    rw [show tail32 [] = [] from rfl, List.append_nil] at hl
    subst hl
    simp only [List.map_cons, List.map_nil, shiftW]
    rw [show ((0 : Int) + (P.length : Int)).toNat = P.length by omega, show ((w.length : Int) + (P.length : Int)).toNat = (P ++ w).length by simp; omega]
    rw [List.take_of_length_le (Nat.le_refl _), List.drop_left]
  | cons w2 ws ih =>
    intro P w line ha hl
    have h1 := aloneB_eq (ha w (List.mem_cons_self ..))
    have he := endS_two w (0, false) h1.2
    have h2 := wordsZ_shift P.length (zs (0, false) w).length (zs (0, false) w) 0 (Nat.le_refl _)
    rw [Nat.zero_add, show wordsZ 0 (zs (0, false) w) = _ from h1.1] at h2
    have ht : tail32 (w2 :: ws) = 32 :: (w2 ++ tail32 ws) := by simp [tail32]
    rw [ht] at hl ⊢
    have hz : zs (0, false) (w ++ 32 :: (w2 ++ tail32 ws)) = zs (0, false) w ++ (32, 0) :: zs (0, false) (w2 ++ tail32 ws) := by
      rw [zs_app, he, zs_cons]
      rfl
    rw [hz, wordsZ_blank _ _ _ _ (Nat.le_refl _), h2, zs_length, List.map_append]
    have hi := ih (P ++ w ++ [32]) w2 line (fun x hx => ha x (List.mem_cons_of_mem _ hx)) (by rw [hl]; simp)
    have hlp : (P ++ w ++ [32]).length = P.length + w.length + 1 := by simp; omega
    rw [hlp] at hi
    rw [hi]
    simp only [List.map_cons, List.map_nil, shiftW, List.singleton_append]
    congr 1
    rw [show ((0 : Int) + (P.length : Int)).toNat = P.length by omega, show ((w.length : Int) + (P.length : Int)).toNat = (P ++ w).length by simp; omega, hl,
      ← List.append_assoc, List.take_left, List.drop_left]

/-- The words ahead of a blank that is not quoted are the words of the line that is cut there. -/
theorem words_cut (line : List Int) (c : Nat) (hc : c < line.length) (h32 : line[c] = 32) (hq : (ql (0, false) line)[c]'(by rw [ql_length]; exact hc) = 0) :
    ∃ rest, wordsL line = wordsL (line.take c) ++ rest ∧ ∀ s ∈ rest, (c : Int) < s.f1 := by
  have hsp : line = line.take c ++ (32 :: line.drop (c + 1)) := by rw [← h32, ← List.drop_eq_getElem_cons hc, List.take_append_drop]
  have hk : kindS (endS (0, false) (line.take c)) = 0 := by
    have hg : ∀ (l1 l2 : List Int) (s : St) (h : l1.length < (ql s (l1 ++ 32 :: l2)).length), (ql s (l1 ++ 32 :: l2))[l1.length]'h = kindS (endS s l1) := by
      intro l1
      induction l1 with
      | nil => intro l2 s h; rfl
      | cons r t ih => intro l2 s h; exact ih l2 (nextS s r) (by simpa [ql] using h)
    have hlen : (line.take c).length = c := by rw [List.length_take]; omega
    have := hg (line.take c) (line.drop (c + 1)) (0, false) (by rw [← hsp, ql_length, hlen]; exact hc)
    rw [← this]
    simp only [hlen, ← hsp]
    exact hq
  have he := endS_two _ _ hk
  have hz : zs (0, false) line = zs (0, false) (line.take c) ++ (32, 0) :: zs (0, false) (line.drop (c + 1)) := by
    rw [congrArg (zs (0, false)) hsp, zs_app, he, zs_cons]
    rfl
  refine ⟨wordsZ (0 + (zs (0, false) (line.take c)).length + 1) (zs (0, false) (line.drop (c + 1))), ?_, fun s hs => ?_⟩
  · unfold wordsL
    rw [hz, wordsZ_blank _ _ _ _ (Nat.le_refl _)]
  · have := wordsZ_bounds _ _ _ (Nat.le_refl _) s hs
    rw [zs_length, List.length_take] at this
    omega
end Go.Proofs.Ytpebdkchdgaeoaa.T
