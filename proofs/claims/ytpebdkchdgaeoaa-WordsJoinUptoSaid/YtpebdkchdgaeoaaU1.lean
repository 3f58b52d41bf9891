/-
  Words, as plain Lean functions: how runes are quoted, digits ahead of an operator, operators, words; and that the printed functions are these.
-/
import Derived.Test.YtpebdkchdgaeoaaQA
import Derived.Test.YtpebdkchdgaeoaaPAllx3
import Derived.Test.YtpebdkchdgaeoaaPAllx2
namespace Go.Proofs.Ytpebdkchdgaeoaa.T
open Go.RowKit Go.Proofs.Ytpebdkchdgaeoaa.PAll Go.Proofs.YtpebdkchdgaeoaaW.PrintWords Go.Proofs.YtpebdkchdgaeoaaW.PrintLast
set_option linter.unusedVariables false
set_option linter.unusedSimpArgs false

abbrev St := Int × Bool
/-- The state behind a rune. -/
def nextS (s : St) (r : Int) : St :=
  if s.2 = true then (s.1, false)
  else if r = 92 ∧ s.1 ≠ 39 then (s.1, true)
  else if s.1 = 0 then (if r = 39 ∨ r = 34 ∨ r = 96 then (r, false) else (0, false))
  else if r = s.1 then (0, false) else (s.1, false)
/-- The state's number. -/
def kindS (s : St) : Int := if s.2 = true then 3 else if s.1 = 39 then 1 else if s.1 = 0 then 0 else 2
/-- How each rune is quoted. -/
def ql : St → List Int → List Int
  | _, [] => []
  | s, r :: t => kindS s :: ql (nextS s r) t
/-- The state at the end. -/
def endS : St → List Int → St
  | s, [] => s
  | s, r :: t => endS (nextS s r) t
/-- Runes, each with how it is quoted. -/
def zs (s : St) (l : List Int) : List (Int × Int) := l.zip (ql s l)

theorem ql_length : ∀ (l : List Int) (s : St), (ql s l).length = l.length
  | [], _ => rfl
  | r :: t, s => by simp [ql, ql_length t]
theorem zs_length (s : St) (l : List Int) : (zs s l).length = l.length := by simp [zs, ql_length]
theorem zs_cons (s : St) (r : Int) (t : List Int) : zs s (r :: t) = (r, kindS s) :: zs (nextS s r) t := rfl

theorem wrapN {a b : Int} (h : a = b) (h0 : -1000000000000000 ≤ b) (h1 : b ≤ 1000000000000000) : wrap64 a = b := by
  subst h; unfold wrap64; omega

theorem next_f (k : Nat) (q : Int) (b : Bool) (r : Int) : shwords_state_next.f (k + 2) q b r = some (nextS (q, b) r) := by
  unfold shwords_state_next.f nextS
  cases b with
  | true => simp
  | false =>
    simp only [shwords_state_next.j0, shwords_state_next.j1]
    by_cases h1 : r = 92
    · by_cases h2 : q = 39
      · subst h1 h2; simp
      · have : (q != 39) = true := by simpa using h2
        simp [h1, h2, this]
    · by_cases h2 : q = 0
      · by_cases h3 : r = 39
        · simp [h1, h2, h3]
        · by_cases h4 : r = 34
          · simp [h1, h2, h3, h4]
          · by_cases h5 : r = 96
            · simp [h1, h2, h3, h4, h5]
            · have : (r == 96) = false := by simpa using h5
              simp [h1, h2, h3, h4, h5, this]
      · by_cases h3 : r = q
        · subst h3
          simp [h1, h2]
        · simp [h1, h2, h3]

theorem kind_f (q : Int) (b : Bool) : shwords_state_kind.f q b = some (kindS (q, b)) := by
  unfold shwords_state_kind.f kindS
  cases b with
  | true => simp
  | false => by_cases h1 : q = 39 <;> by_cases h2 : q = 0 <;> simp [h1, h2]

theorem rd_nat (xs : List Int) (i : Nat) (h : i < xs.length) : rd xs (i : Int) = xs[i] := by
  simp [rd, List.getD, List.getElem?_eq_getElem h]

theorem states_l0 (line : List Int) (hn : line.length ≤ 1000000000000) : ∀ (d k i : Nat) (acc : List Int) (s : St), acc.length = line.length → i + d = line.length → d + 4 ≤ k →
    shwords_states.l0 k acc line (line.length : Int) (i : Int) s.1 s.2 = some (acc.take i ++ ql s (line.drop i)) := by
  intro d
  induction d with
  | zero =>
    intro k i acc s hl hi hk
    obtain ⟨k, rfl⟩ : ∃ m, k = m + 1 := ⟨k - 1, by omega⟩
    simp only [shwords_states.l0]
    rw [if_neg (by omega), List.drop_eq_nil_of_le (by omega), List.take_of_length_le (by omega)]
    simp [ql]
  | succ d ih =>
    intro k i acc s hl hi hk
    obtain ⟨k, rfl⟩ : ∃ m, k = m + 1 := ⟨k - 1, by omega⟩
    have hlt : i < line.length := by omega
    simp only [shwords_states.l0]
    obtain ⟨k', rfl⟩ : ∃ m, k = m + 2 := ⟨k - 2, by omega⟩
    rw [if_pos (by omega), if_pos (by omega), if_pos (by omega), kind_f, Option.bind_some, if_pos (by omega), next_f, Option.bind_some, wrapN (b := ((i + 1 : Nat) : Int)) (by omega) (by omega) (by omega), rd_nat line i hlt, Int.toNat_natCast]
    rw [ih (k' + 2) (i + 1) _ (nextS (s.1, s.2) line[i]) (by simpa using hl) (by omega) (by omega)]
    rw [List.drop_eq_getElem_cons hlt, ql]
    congr 1
    rw [List.take_set, List.take_succ_eq_append_getElem (by omega), List.set_append]
    simp [show min i acc.length = i by omega]

theorem states_f (line : List Int) (hn : line.length ≤ 1000000000000) (k : Nat) (hk : line.length + 4 ≤ k) : shwords_states.f k line = some (ql (0, false) line) := by
  unfold shwords_states.f
  rw [if_pos (by omega), if_pos (by omega)]
  have := states_l0 line hn line.length k 0 (List.replicate line.length 0) (0, false) (by simp) (by omega) (by omega)
  simpa using this

/-! ### Classes -/
def blankB (c : Int) : Bool := decide (c = 32 ∨ c = 9 ∨ c = 10)
def operB (c : Int) : Bool := decide (c = 40 ∨ c = 41 ∨ c = 60 ∨ c = 62 ∨ c = 59 ∨ c = 38 ∨ c = 124)

theorem oper_f (r : Int) : shwords_oper.f r = some (operB r) := by
  unfold shwords_oper.f strings_ContainsRune.f
  rw [if_pos (by decide), Option.bind_some]
  have h : hasRune (⟨#[40, 41, 60, 62, 59, 38, 124]⟩ : ByteArray) r = operB r := by
    unfold hasRune operB
    simp only [List.any_cons, List.any_nil]
    rw [Bool.eq_iff_iff]
    simp
    omega
  rw [h]
  by_cases ho : operB r = true
  · rw [if_pos ho, ho]
    unfold operB at ho
    simp only [decide_eq_true_eq] at ho
    simp; omega
  · rw [if_neg ho]
    simp at ho
    rw [ho]

theorem blank_f (r : Int) : shwords_blank.f r = some (blankB r) := by
  unfold shwords_blank.f blankB
  by_cases h1 : r = 32
  · simp [h1]
  · by_cases h2 : r = 9
    · simp [h2]
    · rw [if_neg h1, if_neg h2]
      congr 1
      rw [Bool.eq_iff_iff]
      simp [h1, h2]

def classZ (c : Int) : Int := if blankB c = true then 1 else if operB c = true then 2 else 0
theorem class_f (r : Int) : shwords_class.f r = some (classZ r) := by
  unfold shwords_class.f classZ
  rw [blank_f, Option.bind_some, oper_f, Option.bind_some]
  split
  · rfl
  · split <;> rfl

/-! ### Digits ahead of an operator -/
def digP (p : Int × Int) : Bool := decide (48 ≤ p.1 ∧ p.1 ≤ 57 ∧ p.2 = 0)
def digRun : List (Int × Int) → Nat
  | [] => 0
  | p :: t => if digP p = true then digRun t + 1 else 0
def redir : List (Int × Int) → Bool
  | [] => false
  | p :: _ => decide (p.2 = 0 ∧ (p.1 = 60 ∨ p.1 = 62))
def digN (z : List (Int × Int)) : Nat := if redir (z.drop (digRun z)) = true then digRun z else 0

theorem digRun_le : ∀ z : List (Int × Int), digRun z ≤ z.length
  | [] => Nat.le_refl _
  | p :: t => by
    unfold digRun
    split
    · have := digRun_le t; simp; omega
    · simp

/-- Runes, and how they are quoted, from a place on. -/
theorem drop_zip {line q : List Int} (hq : q.length = line.length) {i : Nat} (h : i < line.length) : (line.zip q).drop i = (line[i], q[i]'(by omega)) :: (line.zip q).drop (i + 1) := by
  have : i < (line.zip q).length := by simp [hq]; omega
  rw [List.drop_eq_getElem_cons this, List.getElem_zip]

def digRes (z : List (Int × Int)) (m : Nat) : Int := if (redir z && (m != 0)) = true then (m : Int) else 0

theorem digits_l0 (line q : List Int) (hq : q.length = line.length) (hn : line.length ≤ 1000000000000) (a : Nat) : ∀ (d k n : Nat), a + n + d = line.length → d + 1 ≤ k →
    shwords_digits.l0 k line q (a : Int) (n : Int) = some (digRes ((line.zip q).drop (a + n + digRun ((line.zip q).drop (a + n)))) (n + digRun ((line.zip q).drop (a + n)))) := by
  intro d
  induction d with
  | zero =>
    intro k n hd hk
    obtain ⟨k, rfl⟩ : ∃ m, k = m + 1 := ⟨k - 1, by omega⟩
    have hw : wrap64 ((a : Int) + (n : Int)) = ((a + n : Nat) : Int) := wrapN (by omega) (by omega) (by omega)
    have hz : (line.zip q).drop (a + n) = [] := List.drop_eq_nil_of_le (by simp [hq]; omega)
    simp only [shwords_digits.l0]
    rw [hw, hz]
    simp only [digRun, Nat.add_zero]
    rw [hz]
    have hr : digRes [] n = 0 := by simp [digRes, redir]
    rw [if_neg (by omega), hr]
    by_cases h0 : (n : Int) = 0
    · rw [if_pos h0]
    · rw [if_neg h0, if_pos (by omega)]
  | succ d ih =>
    intro k n hd hk
    obtain ⟨k, rfl⟩ : ∃ m, k = m + 1 := ⟨k - 1, by omega⟩
    have hw : wrap64 ((a : Int) + (n : Int)) = ((a + n : Nat) : Int) := wrapN (by omega) (by omega) (by omega)
    have hw2 : wrap64 ((n : Int) + 1) = ((n + 1 : Nat) : Int) := wrapN (by omega) (by omega) (by omega)
    have hlt : a + n < line.length := by omega
    have hlt2 : a + n < q.length := by omega
    have hz := drop_zip hq hlt
    simp only [shwords_digits.l0]
    rw [hw, hw2, rd_nat line _ hlt, rd_nat q _ hlt2]
    have hih := ih k (n + 1) (by omega) (by omega)
    generalize line[a + n] = c at *
    generalize q[a + n] = κ at *
    by_cases hdig : 48 ≤ c ∧ c ≤ 57 ∧ κ = 0
    · rw [if_pos (by omega), if_pos (by omega), if_pos (by omega), if_pos (by omega), if_pos (by omega), if_pos hdig.2.2, hih]
      have hr : digRun ((line.zip q).drop (a + n)) = digRun ((line.zip q).drop (a + (n + 1))) + 1 := by
        rw [hz, digRun, if_pos (by unfold digP; simpa using hdig)]
        rfl
      rw [hr, show a + n + (digRun ((line.zip q).drop (a + (n + 1))) + 1) = a + (n + 1) + digRun ((line.zip q).drop (a + (n + 1))) by omega, show n + (digRun ((line.zip q).drop (a + (n + 1))) + 1) = n + 1 + digRun ((line.zip q).drop (a + (n + 1))) by omega]
    · have hr : digRun ((line.zip q).drop (a + n)) = 0 := by
        rw [hz, digRun, if_neg (by unfold digP; simpa using hdig)]
      rw [hr]
      simp only [Nat.add_zero]
      rw [hz]
      unfold digRes redir
      rw [if_pos (by omega), if_pos (by omega)]
      have c1 : ((a + n : Nat) : Int) < (q.length : Int) := by omega
      have c2 : ¬ ((a + n : Nat) : Int) ≥ (line.length : Int) := by omega
      simp only [if_pos c1, if_neg c2]
      by_cases h0 : n = 0
      · subst h0
        simp
        intro h48 h57 hκ
        omega
      · have h0' : ¬ (n : Int) = 0 := by omega
        simp only [if_neg h0']
        by_cases h1 : κ = 0
        · by_cases h2 : c = 60
          · simp [h1, h2, h0]
          · by_cases h3 : c = 62
            · simp [h1, h3, h0]
            · simp [h1, h2, h3]
              intro h48 h57
              omega
        · simp [h1]

theorem digits_f (line q : List Int) (hq : q.length = line.length) (hn : line.length ≤ 1000000000000) (a k : Nat) (ha : a ≤ line.length) (hk : line.length + 1 ≤ k + a) :
    shwords_digits.f k line q (a : Int) = some (digN ((line.zip q).drop a) : Int) := by
  unfold shwords_digits.f
  have := digits_l0 line q hq hn a (line.length - a) k 0 (by omega) (by omega)
  rw [show ((0 : Nat) : Int) = 0 from rfl] at this
  rw [this]
  unfold digRes digN
  rw [List.drop_drop]
  simp only [Nat.add_zero, Nat.zero_add]
  by_cases h : redir (List.drop (a + digRun (List.drop a (line.zip q))) (line.zip q)) = true
  · by_cases h0 : digRun (List.drop a (line.zip q)) = 0
    · simp [h, h0]
    · simp [h, h0]
  · simp [h]

/-! ### Operators -/
/-- Does the text of an operator stand ahead, all its runes unquoted? -/
def opZ (z : List (Int × Int)) (s : ByteArray) : Bool := decide (s.size ≤ z.length) && ((z.take s.size).map (·.1) == codes s) && (z.take s.size).all (fun p => p.2 == 0)
def opLenL (z : List (Int × Int)) : List ByteArray → Nat
  | [] => 1
  | s :: l => if opZ z s = true then s.size else opLenL z l
def opLen (z : List (Int × Int)) : Nat := opLenL z opsL

theorem opHit_opZ (line q : List Int) (hq : q.length = line.length) (p : Nat) (hp : p ≤ line.length) (s : ByteArray) : opHit line q p s = opZ ((line.zip q).drop p) s := by
  unfold opHit opZ
  have e1 : (((line.zip q).drop p).take s.size).map (·.1) = (line.drop p).take s.size := by
    rw [List.map_take, List.map_drop, List.map_fst_zip (by omega)]
  have e2 : (((line.zip q).drop p).take s.size).all (fun x => x.2 == 0) = allNought ((q.drop p).take s.size) := by
    unfold allNought
    rw [show ((q.drop p).take s.size) = (((line.zip q).drop p).take s.size).map (·.2) by rw [List.map_take, List.map_drop, List.map_snd_zip (by omega)]]
    rw [List.all_map]
    rfl
  rw [e1, e2, List.length_drop, List.length_zip, hq, Nat.min_self, Bool.and_assoc]
  congr 1
  rw [decide_eq_decide]
  omega

theorem opGo_opLen (line q : List Int) (hq : q.length = line.length) (p : Nat) (hp : p ≤ line.length) : ∀ l : List ByteArray, opGo line q p l = (opLenL ((line.zip q).drop p) l : Int)
  | [] => rfl
  | s :: l => by
    unfold opGo opLenL
    rw [opHit_opZ line q hq p hp, opGo_opLen line q hq p hp l]
    split <;> rfl

theorem operator_f (line q : List Int) (hq : q.length = line.length) (hn : line.length ≤ 1000000000000) (p : Nat) (hp : p ≤ line.length) : shwords_operator.f line q (p : Int) = some (opLen ((line.zip q).drop p) : Int) := by
  unfold shwords_operator.f
  rw [if_pos ⟨by omega, by omega, hq, hn⟩, Int.toNat_natCast, opGo_opLen line q hq p hp]
  rfl

theorem opLenL_facts (z : List (Int × Int)) (hz : z ≠ []) : ∀ l : List ByteArray, (∀ s ∈ l, 1 ≤ s.size) → 1 ≤ opLenL z l ∧ opLenL z l ≤ z.length
  | [], _ => ⟨Nat.le_refl _, by cases z with | nil => exact absurd rfl hz | cons => simp [opLenL]⟩
  | s :: l, h => by
    unfold opLenL
    split
    · rename_i ho
      unfold opZ at ho
      simp only [Bool.and_eq_true, decide_eq_true_eq] at ho
      exact ⟨h s (List.mem_cons_self ..), ho.1.1⟩
    · exact opLenL_facts z hz l (fun x hx => h x (List.mem_cons_of_mem _ hx))
theorem opLen_facts (z : List (Int × Int)) (hz : z ≠ []) : 1 ≤ opLen z ∧ opLen z ≤ z.length := opLenL_facts z hz opsL (by decide)

/-! ### Words -/
/-- Does a plain word end ahead of this rune? -/
def stopP (p : Int × Int) : Bool := decide (p.2 = 0 ∧ classZ p.1 ≠ 0)
def plainLen : List (Int × Int) → Nat
  | [] => 0
  | p :: t => if stopP p = true then 0 else plainLen t + 1
/-- Does an operator's rune stand ahead? -/
def opAt : List (Int × Int) → Bool
  | [] => false
  | p :: _ => decide (p.2 = 0) && operB p.1

theorem plainLen_le : ∀ z, plainLen z ≤ z.length
  | [] => Nat.le_refl _
  | p :: t => by
    unfold plainLen
    split
    · simp
    · have := plainLen_le t; simp; omega

/-- The words of runes from place i on. -/
def wordsZ (i : Nat) : List (Int × Int) → List S27
  | [] => []
  | p :: t =>
    if (decide (p.2 = 0) && blankB p.1) = true then wordsZ (i + 1) t
    else if opAt ((p :: t).drop (digN (p :: t))) = true then
      ⟨1, (i : Int), ((i + (digN (p :: t) + opLen ((p :: t).drop (digN (p :: t)))) : Nat) : Int)⟩ :: wordsZ (i + (digN (p :: t) + opLen ((p :: t).drop (digN (p :: t))))) (t.drop (digN (p :: t) + opLen ((p :: t).drop (digN (p :: t))) - 1))
    else ⟨0, (i : Int), ((i + plainLen (p :: t) : Nat) : Int)⟩ :: wordsZ (i + plainLen (p :: t)) (t.drop (plainLen (p :: t) - 1))
termination_by z => z.length
decreasing_by
  all_goals simp only [List.length_cons, List.length_drop]
  all_goals omega

/-- The words of a line. -/
def wordsL (line : List Int) : List S27 := wordsZ 0 (zs (0, false) line)

theorem words_l1 (line q : List Int) (hq : q.length = line.length) (hn : line.length ≤ 1000000000000) (acc : List S27) (hacc : acc.length < 5864062014805) (from_ : Int) (K : Nat) (W : List S27) :
    ∀ (d k i : Nat), i + d = line.length → K + plainLen ((line.zip q).drop i) + 1 ≤ k →
      (∀ k', K ≤ k' → shwords_Words.l0 k' line (acc ++ [⟨0, from_, ((i + plainLen ((line.zip q).drop i) : Nat) : Int)⟩]) q ((i + plainLen ((line.zip q).drop i) : Nat) : Int) = some W) →
      shwords_Words.l1 k line acc q (i : Int) from_ = some W := by
  intro d
  induction d with
  | zero =>
    intro k i hi hk hW
    obtain ⟨k, rfl⟩ : ∃ m, k = m + 1 := ⟨k - 1, by omega⟩
    simp only [shwords_Words.l1]
    rw [if_neg (by omega), if_pos hacc]
    have hz : (line.zip q).drop i = [] := List.drop_eq_nil_of_le (by simp [hq]; omega)
    have := hW k (by omega)
    rw [hz] at this
    simpa [plainLen] using this
  | succ d ih =>
    intro k i hi hk hW
    obtain ⟨k, rfl⟩ : ∃ m, k = m + 1 := ⟨k - 1, by omega⟩
    have hlt : i < line.length := by omega
    have hz := drop_zip hq hlt
    simp only [shwords_Words.l1]
    rw [wrapN (show (i : Int) + 1 = ((i + 1 : Nat) : Int) by omega) (by omega) (by omega), rd_nat line i hlt, rd_nat q i (by omega), class_f, Option.bind_some, if_pos (by omega), if_pos (by omega), if_pos (by omega)]
    have hi1 : i + 1 + d = line.length := by omega
    have hgo : stopP (line[i], q[i]) = false → shwords_Words.l1 k line acc q ((i + 1 : Nat) : Int) from_ = some W := by
      intro hs
      have hp : i + plainLen ((line.zip q).drop i) = i + 1 + plainLen ((line.zip q).drop (i + 1)) := by
        rw [hz, plainLen, hs]
        simp; omega
      have hkk : K + plainLen ((line.zip q).drop (i + 1)) + 1 ≤ k := by omega
      exact ih k (i + 1) hi1 hkk (fun k' hk' => by rw [← hp]; exact hW k' hk')
    by_cases h1 : q[i] = 0
    · rw [if_pos h1]
      by_cases h2 : classZ line[i] = 0
      · rw [if_pos h2]
        exact hgo (by unfold stopP; simp [h2])
      · rw [if_neg h2, if_pos hacc]
        have hp : plainLen ((line.zip q).drop i) = 0 := by
          rw [hz, plainLen, if_pos (by unfold stopP; simp [h1, h2])]
        have := hW k (by omega)
        rw [hp] at this
        simpa using this
    · rw [if_neg h1]
      exact hgo (by unfold stopP; simp [h1])

theorem words_cls (line q : List Int) (hq : q.length = line.length) (k i : Nat) (acc : List S27) (c κ : Int) (hi : i < line.length) :
    (if classZ c = 1 then (if (i : Int) < (q.length : Int) then shwords_Words.j1 k line acc q (i : Int) (κ == 0) else none) else shwords_Words.j1 k line acc q (i : Int) false) = shwords_Words.j1 k line acc q (i : Int) (decide (κ = 0) && blankB c) := by
  by_cases h1 : blankB c = true
  · rw [if_pos (by unfold classZ; rw [if_pos h1]), if_pos (by omega), h1, Bool.and_true]
    rfl
  · rw [if_neg (by unfold classZ; rw [if_neg h1]; split <;> decide)]
    simp at h1
    rw [h1, Bool.and_false]

theorem words_op (line q : List Int) (hq : q.length = line.length) (k i n m : Nat) (acc : List S27) :
    (if (m : Int) < (line.length : Int) then if 0 ≤ (m : Int) then if (m : Int) < (q.length : Int) then if rd q (m : Int) = 0 then (shwords_oper.f (rd line (m : Int))).bind fun t136 => shwords_Words.j2 k line acc q (i : Int) (i : Int) (n : Int) t136 else shwords_Words.j2 k line acc q (i : Int) (i : Int) (n : Int) false else none else none else shwords_Words.j2 k line acc q (i : Int) (i : Int) (n : Int) false) =
      shwords_Words.j2 k line acc q (i : Int) (i : Int) (n : Int) (opAt ((line.zip q).drop m)) := by
  by_cases hl : m < line.length
  · rw [if_pos (by omega), if_pos (by omega), if_pos (by omega), rd_nat line _ hl, rd_nat q _ (by omega), oper_f, Option.bind_some, drop_zip hq hl]
    rw [show opAt ((line[m], q[m]) :: List.drop (m + 1) (line.zip q)) = (decide (q[m] = 0) && operB line[m]) from rfl]
    by_cases h0 : q[m] = 0
    · rw [if_pos h0, decide_eq_true h0, Bool.true_and]
    · rw [if_neg h0, decide_eq_false h0, Bool.false_and]
  · rw [if_neg (by omega), List.drop_eq_nil_of_le (by simp [hq]; omega)]
    rfl

theorem digN_le (z : List (Int × Int)) : digN z ≤ z.length := by
  unfold digN
  split
  · exact digRun_le z
  · omega

theorem plain_pos (p : Int × Int) (t : List (Int × Int)) (hbl : ¬ (decide (p.2 = 0) && blankB p.1) = true) (ho : ¬ opAt ((p :: t).drop (digN (p :: t))) = true) : 1 ≤ plainLen (p :: t) := by
  rw [plainLen]
  have hs : stopP p = false := by
    unfold stopP
    by_cases h0 : p.2 = 0
    · have hb2 : blankB p.1 = false := by simpa [h0] using hbl
      have hc : operB p.1 = false := by
        by_cases hc : operB p.1 = true
        · exfalso
          have hdg : digP p = false := by
            unfold digP
            unfold operB at hc
            simp only [decide_eq_true_eq] at hc
            simp; omega
          have hr0 : digRun (p :: t) = 0 := by rw [digRun, hdg]; simp
          have hn0 : digN (p :: t) = 0 := by unfold digN; rw [hr0]; split <;> rfl
          apply ho
          rw [hn0, List.drop_zero]
          unfold opAt
          simp [h0, hc]
        · simpa using hc
      simp [classZ, hb2, hc]
    · simp [h0]
  rw [hs]
  simp

theorem opAt_ne {z : List (Int × Int)} (h : opAt z = true) : z ≠ [] := by rintro rfl; cases h

end Go.Proofs.Ytpebdkchdgaeoaa.T
