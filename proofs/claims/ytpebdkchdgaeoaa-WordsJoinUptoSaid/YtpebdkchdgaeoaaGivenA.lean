/-
  strings.ContainsRune at an ASCII text and any rune: whether a byte of the text is the rune.
-/
import Derived.Test.YtpebdkchdgaeoaaShelf
import Derived.Test.YtpebdkchdgaeoaaWWords
import Derived.Lib.OthersKept
import Derived.Laws.Runes
import Derived.Lib.Hide
import Derived.Laws.RangeString
import Derived.Deep.LoopGhost
import Derived.WalkSpells
import Derived.Deep.QuietTactic
import Derived.BigQuiet
import Derived.WalkKit
import Derived.Laws.Strings2
namespace Go.Proofs.Ytpebdkchdgaeoaa
open Go.RowKit Go.Proofs.YtpebdkchdgaeoaaW.PrintWords
set_option linter.unusedVariables false
set_option linter.unusedSimpArgs false

def asciiB (s : ByteArray) : Bool := s.data.toList.all fun c => decide (c.toNat < 128)
def hasRune (s : ByteArray) (r : Int) : Bool := s.data.toList.any fun c => (c.toNat : Int) == r
def strings_ContainsRune.f (s : ByteArray) (r : Int) : Option Bool := if asciiB s = true ∧ s.size ≤ 1000000 then some (hasRune s r) else none

theorem quiet_add_same {P : Program} {f : FuncId} {args : Array Value} {w : World} {a n : Nat} {v : Value}
    (h : Calls P f args (w.drewN (a + n)) fun e w' => e = .returned v ∧ w' = w.drewN (a + n)) :
    Calls P f args (w.drewN (a + n)) fun e w'' => e = .returned v ∧ ∃ m, w'' = w.drewN (a + m) :=
  h.mono fun _ _ ⟨he, hm⟩ => ⟨he, n, hm⟩
theorem indexByte_none : ∀ (l : List UInt8) (c : UInt8), (∀ b ∈ l, b ≠ c) → Lib.indexByte l c = -1
  | [], _, _ => rfl
  | b :: l, c, h => by
    unfold Lib.indexByte
    rw [if_neg (by simp [h b (List.mem_cons_self ..)]), indexByte_none l c (fun x hx => h x (List.mem_cons_of_mem _ hx))]
    rfl
theorem indexByte_some : ∀ (l : List UInt8) (c : UInt8), (∃ b ∈ l, b = c) → 0 ≤ Lib.indexByte l c
  | [], _, h => by obtain ⟨b, hb, _⟩ := h; cases hb
  | b :: l, c, h => by
    unfold Lib.indexByte
    by_cases hbc : (b == c) = true
    · rw [if_pos hbc]; exact Int.le_refl _
    · rw [if_neg hbc]
      have h2 : ∃ x ∈ l, x = c := by
        obtain ⟨x, hx, rfl⟩ := h
        rcases List.mem_cons.1 hx with rfl | hx
        · simp at hbc
        · exact ⟨x, hx, rfl⟩
      have ih := indexByte_some l c h2
      rw [if_neg (by simp; omega)]
      omega

theorem indexByte_has (l : List UInt8) (r : Int) (h0 : 0 ≤ r) (h1 : r < 128) : decide (0 ≤ Lib.indexByte l r.toNat.toUInt8) = l.any fun c => (c.toNat : Int) == r := by
  have hr : (r.toNat.toUInt8).toNat = r.toNat := by
    simp [Nat.toUInt8]; omega
  by_cases h : ∃ b ∈ l, b = r.toNat.toUInt8
  · have := indexByte_some l _ h
    rw [decide_eq_true this]
    obtain ⟨b, hb, rfl⟩ := h
    symm
    rw [List.any_eq_true]
    exact ⟨_, hb, by simp only [hr, beq_iff_eq]; omega⟩
  · have hn : ∀ b ∈ l, b ≠ r.toNat.toUInt8 := fun b hb e => h ⟨b, hb, e⟩
    rw [indexByte_none l _ hn]
    symm
    rw [show decide ((0 : Int) ≤ -1) = false from rfl, List.any_eq_false]
    intro b hb hbr
    apply hn b hb
    apply UInt8.toNat_inj.1
    rw [hr]
    simp only [beq_iff_eq] at hbr
    omega

theorem ascii_get {s : ByteArray} (h : asciiB s = true) (i : Nat) (hi : i < s.size) : (s[i]'hi).toNat < 128 := by
  unfold asciiB at h
  rw [List.all_eq_true] at h
  have := h (s[i]'hi) (by
    have : s[i]'hi = s.data.toList[i]'(by simpa using hi) := rfl
    rw [this]
    exact List.getElem_mem _)
  simpa using this

set_option maxHeartbeats 4000000 in
set_option maxRecDepth 100000 in
/-- strings.IndexRune at U+FFFD in an ASCII text. -/
theorem indexRune_bad (s : ByteArray) (w : World) (ha : asciiB s = true) (hs : s.size ≤ 1000000) :
    Calls Try.prog 47 #[.string s, .int .i32 65533] w fun e w' => e = .returned (.int .i64 (-1)) ∧ Below w.heap.size w w' := by
  go_enter Try.func47, Try.ntmps47
  go_wp2
  go_loopw [5, 6] (fun v5 v6 wr => ∃ pos : Nat, pos ≤ s.size ∧ wr = w.iter s pos) (fun _ _ wr => s.size - wr.iterPos w.heap.size)
  case atStart => exact ⟨0, Nat.zero_le _, rfl⟩
  case round =>
    obtain ⟨pos, hpos, rfl⟩ := hrel
    have hw := World.iterPos_iter w s pos
    by_cases hp : pos < s.size
    · have hA := ascii_get ha pos hp
      have hnx : ∀ ty, (Instr.next (.pointer (some ⟨w.heap.size, 0, none⟩)) true ty).run Try.prog (w.iter s pos) = _ := fun ty => run_next_ascii w s pos ty hp hA
      have hne : (((s[pos]'hp).toNat : Int) == 65533) = false := by simp; omega
      go_wp2
      rw [World.iterPos_iter, World.iterPos_iter]
      exact ⟨⟨pos + 1, by omega, rfl⟩, by omega⟩
    · have hnx : ∀ ty, (Instr.next (.pointer (some ⟨w.heap.size, 0, none⟩)) true ty).run Try.prog (w.iter s pos) = _ := fun ty => run_next_end w s pos ty hp
      go_wp2
      go_ret
      exact ⟨rfl, (Below.refl _ _).alloc (Nat.le_refl _) _⟩

set_option maxHeartbeats 4000000 in
set_option maxRecDepth 100000 in
/-- strings.IndexRune at what is no rune. -/
theorem indexRune_none (s : ByteArray) (r : Int) (w : World) (h0 : r < 0 ∨ 128 ≤ r) (hb : (r == 65533) = false) (hv : Lib.validRune r = false) :
    Calls Try.prog 47 #[.string s, .int .i32 r] w fun e w' => e = .returned (.int .i64 (-1)) ∧ w' = w := by
  rcases h0 with h0 | h0
  all_goals
    go_enter Try.func47, Try.ntmps47
    go_wp2_with (go_at_call 53; refine (Try.utf8_ValidRune _ _).mono ?_; rintro e w' ⟨rfl, rfl⟩)
    go_ret
    exact ⟨rfl, rfl⟩

theorem ascii_mem {s : ByteArray} (h : asciiB s = true) : ∀ b ∈ s.data.toList, b.toNat < 128 := by
  unfold asciiB at h
  rw [List.all_eq_true] at h
  intro b hb
  simpa using h b hb

theorem indexByte_high (s : ByteArray) (a e : Nat) (c : UInt8) (w : World) (hs : ∀ b ∈ s.data.toList, b.toNat < 128) (hc : 128 ≤ c.toNat) :
    Calls Try.prog 52 #[.string (s.extract a e), .int .u8 (c.toNat : Int)] w fun e w' => e = .returned (.int .i64 (-1)) ∧ w' = w := by
  refine (Try.strings_IndexByte _ _ _).mono ?_
  rintro e w' ⟨rfl, rfl⟩
  rw [indexByte_none]
  · exact ⟨rfl, rfl⟩
  · intro b hb hbc
    have := hs b (mem_extract hb)
    rw [hbc] at this
    simp [Nat.toUInt8] at this
    omega

set_option maxHeartbeats 4000000 in
set_option maxRecDepth 100000 in
/-- strings.IndexRune at a rune beyond ASCII, in an ASCII text. -/
theorem indexRune_high (s : ByteArray) (r : Int) (w : World) (ha : asciiB s = true) (hs : s.size ≤ 1000000) (h0 : 128 ≤ r) (hb : (r == 65533) = false) (hv : Lib.validRune r = true) (hu : Utf8.valid r = true) :
    Calls Try.prog 47 #[.string s, .int .i32 r] w fun e w' => e = .returned (.int .i64 (-1)) ∧ Below w.heap.size w w' := by
  obtain ⟨g1, g2, g3⟩ := encode_facts r hu h0
  have hm := ascii_mem ha
  generalize hE : Utf8.encode r = E at g1 g2 g3
  have b0 : (0 : Int) ≤ (E.size : Int) - 1 := by omega
  have b1 : (E.size : Int) - 1 < (E.size : Int) := by omega
  have b3 : (1 : Int) ≤ (E.size : Int) := by omega
  have hge := g3 (by omega)
  by_cases hl : E.size - 1 < s.size
  · have b2 : (E.size : Int) - 1 < (s.size : Int) := by omega
    have hlt := ascii_get ha (E.size - 1) hl
    have hne : ((((s[E.size - 1]'hl).toNat : Nat) : Int) != ((E[E.size - 1]'(by omega)).toNat : Int)) = true := by simp; omega
    go_enter Try.func47, Try.ntmps47
    go_wp2_with (go_at_call 53; refine (Try.utf8_ValidRune _ _).mono ?_; rintro e w' ⟨rfl, rfl⟩)
    go_step3
    go_wp2_with fail
    refine wp_loop_rounds 1 ?_; rw [rounds_succ]
    go_wp2_with fail
    go_step3
    go_wp2_with fail
    go_quiet (fail)
    go_wp2_with fail
    go_quiet ((go_at_call 52; exact quiet_add_same (indexByte_high s _ _ _ _ hm hge)))
    go_wp2
    rw [Exit.noGoto_ret]
    go_wp2
    rw [Exit.noGoto_ret]
    go_wp2
    go_ret
    exact ⟨rfl, pw_below_drewN (Below.refl _ _) _⟩
  · have b2 : ¬ (E.size : Int) - 1 < (s.size : Int) := by omega
    go_enter Try.func47, Try.ntmps47
    go_wp2_with (go_at_call 53; refine (Try.utf8_ValidRune _ _).mono ?_; rintro e w' ⟨rfl, rfl⟩)
    go_step3
    go_wp2_with fail
    refine wp_loop_rounds 1 ?_; rw [rounds_succ]
    go_wp2
    rw [Exit.noGoto_ret]
    go_wp2
    go_ret
    exact ⟨rfl, Below.refl _ _⟩

/-- strings.ContainsRune at an ASCII text. -/
theorem strings_ContainsRune.calls (a0 : ByteArray) (a1 : Int) (r : Bool) (w : World) (h : strings_ContainsRune.f a0 a1 = some r) :
    Calls Try.prog 33 #[.string a0, .int .i32 a1] w fun e w' => e = .returned (.bool r) ∧ Below w.heap.size w w' := by
  unfold strings_ContainsRune.f at h
  by_cases hc : asciiB a0 = true ∧ a0.size ≤ 1000000
  · rw [if_pos hc] at h
    obtain ⟨ha, hs⟩ := hc
    obtain rfl := Option.some.inj h
    clear h
    by_cases h0 : 0 ≤ a1 ∧ a1 < 128
    · refine (Try.strings_ContainsRune_ascii a0 a1 w h0.1 h0.2).mono ?_
      rintro e w' ⟨rfl, rfl⟩
      exact ⟨by rw [indexByte_has _ _ h0.1 h0.2]; rfl, Below.refl _ _⟩
    · have hh : hasRune a0 a1 = false := by
        unfold hasRune
        rw [List.any_eq_false]
        intro c hc
        have := ascii_mem ha c hc
        simp only [beq_iff_eq]
        omega
      have H0 : a1 < 0 ∨ 128 ≤ a1 := by omega
      rw [hh]
      have fin : Calls Try.prog 47 #[.string a0, .int .i32 a1] w fun e w' => e = .returned (.int .i64 (-1)) ∧ Below w.heap.size w w' := by
        by_cases h1 : a1 = 65533
        · subst h1
          exact indexRune_bad a0 w ha hs
        · have hb : (a1 == 65533) = false := by simpa using h1
          by_cases hv : Lib.validRune a1 = true
          · have h2 : 128 ≤ a1 := by
              unfold Lib.validRune at hv
              simp only [decide_eq_true_eq] at hv
              omega
            have hu : Utf8.valid a1 = true := by
              unfold Lib.validRune at hv
              simp only [decide_eq_true_eq] at hv
              unfold Utf8.valid
              simp only [Bool.or_eq_true, Bool.and_eq_true, decide_eq_true_eq]
              omega
            exact indexRune_high a0 a1 w ha hs h2 hb hv hu
          · refine (indexRune_none a0 a1 w H0 hb (by simpa using hv)).mono ?_
            rintro e w' ⟨rfl, rfl⟩
            exact ⟨rfl, Below.refl _ _⟩
      clear hh H0 h0 hs ha
      go_enter Try.func33, Try.ntmps33
      go_wp2_with (go_at_call 47; refine fin.mono ?_; rintro e w' ⟨rfl, hb⟩)
      go_ret
      exact ⟨rfl, by assumption⟩
  · rw [if_neg hc] at h
    cases h
end Go.Proofs.Ytpebdkchdgaeoaa
