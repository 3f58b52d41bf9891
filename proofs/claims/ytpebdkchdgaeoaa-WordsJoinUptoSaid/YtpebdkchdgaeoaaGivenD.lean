/-
  runesOf: an ASCII text's runes.
-/
import Derived.Test.YtpebdkchdgaeoaaGivenC
import Derived.Laws.IdiomStrings
namespace Go.Proofs.Ytpebdkchdgaeoaa
open Go.RowKit Go.Proofs.YtpebdkchdgaeoaaW.PrintWords
set_option linter.unusedVariables false
set_option linter.unusedSimpArgs false

def lanyardlaw12_runesOf.f (s : ByteArray) : Option (List Int) := if asciiB s = true ∧ s.size ≤ 1000000 then some (codes s) else none
def shwords_runesOf.f (s : ByteArray) : Option (List Int) := if asciiB s = true ∧ s.size ≤ 1000000 then some (codes s) else none

theorem runesFrom_ascii (s : ByteArray) (ha : asciiB s = true) : ∀ (b i : Nat) (acc : Array Value), i + b = s.size → Conv.runesFrom s b i acc = acc ++ (((codes s).drop i).map (Value.int .i32)).toArray
  | 0, i, acc, h => by
    rw [List.drop_eq_nil_of_le (by rw [codes_length]; omega)]
    simp [Conv.runesFrom]
  | b + 1, i, acc, h => by
    have hi : i < s.size := by omega
    have hA := ascii_get ha i hi
    unfold Conv.runesFrom
    rw [if_pos hi, decode_ascii s i hi hA]
    simp only
    rw [runesFrom_ascii s ha b (i + 1) _ (by omega)]
    have hl : i < (codes s).length := by rw [codes_length]; exact hi
    rw [List.drop_eq_getElem_cons hl]
    have hg : (codes s)[i] = ((s[i]'hi).toNat : Int) := by
      simp only [codes, List.getElem_map]
      rfl
    rw [hg]
    simp

theorem runesOf_all (s : ByteArray) (w : World) (ha : asciiB s = true) (hs : s.size ≤ 1000000) :
    (convert 9 22 (.string s)).run Try.prog w = .ok (.slice (some ⟨w.heap.size, 0, none⟩) (codes s).length (grownCap w (codes s).length 0 21))
      ((w.alloc (.cells (((codes s).map (Value.int .i32)).toArray ++ Array.replicate (grownCap w (codes s).length 0 21 - (codes s).length) (.int .i32 0)) 21)).drew) := by
  have h := runesFrom_ascii s ha s.size 0 #[] (by omega)
  rw [List.drop_zero, Array.empty_append] at h
  have hr := run_runes_of_string (P := Try.prog) w 9 22 21 s Try.underlying9 Try.underlying22 Try.underlying21 (by rw [h]; simp [codes_length]; omega)
  rw [h] at hr
  simp only [List.size_toArray, List.length_map] at hr
  exact hr

theorem runes_R (s : ByteArray) (w : World) (hs : s.size ≤ 1000000) :
    Kd.R (Kd.int .i32) 21 ((w.alloc (.cells (((codes s).map (Value.int .i32)).toArray ++ Array.replicate (grownCap w (codes s).length 0 21 - (codes s).length) (.int .i32 0)) 21)).drew) w.heap.size (fun _ => True)
      (.slice (some ⟨w.heap.size, 0, none⟩) (codes s).length (grownCap w (codes s).length 0 21)) (codes s) := by
  have hl := codes_length s
  have h1 := grownCap_ge w (codes s).length 0 21
  have h2 := grownCap_le_maxLen w (codes s).length 0 21 (by unfold maxLen; omega)
  refine Kd.R_of_own ?_ (fun _ _ => trivial)
  refine ⟨by simp [encs], .inr ⟨_, _, _, rfl, Nat.le_refl _, heap_alloc_new w _, h1, h2, ?_, ?_⟩⟩
  · simp; omega
  · simp [encs]

theorem lanyardlaw12_runesOf.calls (a0 : ByteArray) (r : List Int) (w : World) (h : lanyardlaw12_runesOf.f a0 = some r) :
    Calls Try.prog 25 #[.string a0] w fun e w' => ∃ v0_ : Value, e = .returned (v0_) ∧ Kd.R (Kd.int .i32) 21 w' w.heap.size (fun _ => True) v0_ r ∧ Below w.heap.size w w' := by
  unfold lanyardlaw12_runesOf.f at h
  by_cases hc : asciiB a0 = true ∧ a0.size ≤ 1000000
  · rw [if_pos hc] at h
    obtain rfl := Option.some.inj h
    have hcv := runesOf_all a0 w hc.1 hc.2
    have hR := runes_R a0 w hc.2
    generalize grownCap w (codes a0).length 0 21 = cap at hcv hR
    clear h
    go_enter Try.func25, Try.ntmps25
    go_wp2
    go_ret
    exact ⟨_, rfl, hR, ((Below.refl _ _).alloc (Nat.le_refl _) _).drew⟩
  · rw [if_neg hc] at h
    cases h

theorem shwords_runesOf.calls (a0 : ByteArray) (r : List Int) (w : World) (h : shwords_runesOf.f a0 = some r) :
    Calls Try.prog 34 #[.string a0] w fun e w' => ∃ v0_ : Value, e = .returned (v0_) ∧ Kd.R (Kd.int .i32) 21 w' w.heap.size (fun _ => True) v0_ r ∧ Below w.heap.size w w' := by
  unfold shwords_runesOf.f at h
  by_cases hc : asciiB a0 = true ∧ a0.size ≤ 1000000
  · rw [if_pos hc] at h
    obtain rfl := Option.some.inj h
    have hcv := runesOf_all a0 w hc.1 hc.2
    have hR := runes_R a0 w hc.2
    generalize grownCap w (codes a0).length 0 21 = cap at hcv hR
    clear h
    go_enter Try.func34, Try.ntmps34
    go_wp2
    go_ret
    exact ⟨_, rfl, hR, ((Below.refl _ _).alloc (Nat.le_refl _) _).drew⟩
  · rw [if_neg hc] at h
    cases h
end Go.Proofs.Ytpebdkchdgaeoaa
