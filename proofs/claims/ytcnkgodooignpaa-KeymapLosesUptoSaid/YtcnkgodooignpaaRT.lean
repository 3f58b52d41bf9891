/-
  Nothing is lost: the plain law.
-/
import Derived.Test.YtcnkgodooignpaaRS
namespace Go.Proofs.Ytcnkgodooignpaa
open Go.RowKit Go.WideShapes Go.Proofs.YtcnkgodooignpaaW.PrintWords Go.Proofs.YtcnkgodooignpaaW.PrintLast Go.Proofs.YtcnkgodooignpaaW.PrintMore Go.Proofs.Ytcnkgodooignpaa.PAll
set_option linter.unusedVariables false
set_option linter.unusedSimpArgs false
/-- The keys of hits, one behind the other. -/
def catK : List S46 → ByteArray
  | [] => ⟨#[]⟩
  | h :: hs => h.f0 ++ catK hs
theorem nil_add (s : ByteArray) : (⟨#[]⟩ : ByteArray) ++ s = s := bytes_inj (by simp [ByteArray.data_append])
theorem add_nil (s : ByteArray) : s ++ (⟨#[]⟩ : ByteArray) = s := bytes_inj (by simp [ByteArray.data_append])
theorem add_assoc' (a b c : ByteArray) : a ++ b ++ c = a ++ (b ++ c) := bytes_inj (by simp [ByteArray.data_append])
theorem catK_append (a b : List S46) : catK (a ++ b) = catK a ++ catK b := by
  induction a with
  | nil => exact (nil_add _).symm
  | cons h a ih =>
    show h.f0 ++ catK (a ++ b) = h.f0 ++ catK a ++ catK b
    rw [ih, add_assoc']
theorem str_append (a b : List Int) : strOfNums (a ++ b) = strOfNums a ++ strOfNums b := bytes_inj (by simp [strOfNums, ByteArray.data_append])
theorem parts_eq (s : ByteArray) {n : Nat} (h : n ≤ s.size) : s.extract 0 n ++ s.extract n s.size = s := bytes_inj (by
  have h1 := head_toList s n
  have h2 := Lib.extract_to_end s n
  rw [ByteArray.data_append, Array.toList_append, h1, h2, List.take_append_drop])
theorem Reads.cat {F : Key} {s : ByteArray} {hs : List S46} {s' : ByteArray} (h : Reads F s hs s') : s = catK hs ++ s' := by
  induction h with
  | stop _ => exact (nil_add _).symm
  | step h0 h1 h3 _ ih =>
    rename_i s hs s' _
    show s = s.extract 0 (cutN F s) ++ catK hs ++ s'
    rw [add_assoc', ← ih, parts_eq s (cutN_le h0 h1)]
theorem Times.cat {F : Key} {s : ByteArray} {hs : List S46} {s' : ByteArray} (h : Times F s hs s') : s = catK hs ++ s' := by
  induction h with
  | stop _ => exact (nil_add _).symm
  | step h0 hr _ ih =>
    rename_i s h1 ht s1 s' _
    show s = s.extract 0 (tN F s) ++ catK (h1 ++ ht) ++ s'
    rw [catK_append, add_assoc', add_assoc', ← ih, ← hr.cat, parts_eq s (tN_le F s)]
theorem Puts.cat {F : Key} {s : ByteArray} {l : List Int} {hs : List S46} {s' : ByteArray} (h : Puts F s l hs s') : s ++ strOfNums l = catK hs ++ s' := by
  induction h with
  | nil =>
    rw [show strOfNums [] = ⟨#[]⟩ from rfl, add_nil]
    exact (nil_add _).symm
  | cons hr hp ih =>
    rename_i s b bs h1 h2 s1 s2
    rw [show b :: bs = [b] ++ bs from rfl, str_append, ← add_assoc', hr.cat, add_assoc', ih, catK_append, add_assoc']
theorem longN_zero {F : Key} {s : Path} : ∀ {m : Nat}, longN F s m = 0 → ∀ k, 0 < k → k ≤ m → F (s.take k) = none
  | 0, _, k, h0, h1 => by omega
  | m + 1, h, k, h0, h1 => by
    cases hF : F (s.take (m + 1)) with
    | some x =>
      rw [longN_some hF] at h
      omega
    | none =>
      rw [longN_none hF] at h
      rcases Nat.lt_or_ge m k with h2 | h2
      · have : k = m + 1 := by omega
        subst this
        exact hF
      · exact longN_zero h k h0 h2
theorem longN_bound {F : Key} {s : Path} : ∀ {m : Nat}, longN F s m ≠ 0 → ∃ x, F (s.take (longN F s m)) = some x
  | 0, h => absurd rfl h
  | m + 1, h => by
    cases hF : F (s.take (m + 1)) with
    | some x =>
      rw [longN_some hF]
      exact ⟨x, hF⟩
    | none =>
      rw [longN_none hF] at h ⊢
      exact longN_bound h
/-- A hit is bound as it says. -/
def HitOk (F : Key) (h : S46) : Prop := 0 < h.f0.size ∧ ((∃ x, F h.f0.data.toList = some x ∧ h.f1 = ⟨x.kind, x.name, x.keys⟩) ∨ (F h.f0.data.toList = none ∧ h.f1 = ⟨0, ⟨#[]⟩, ⟨#[]⟩⟩))
theorem hit_bound {F : Key} {s : ByteArray} {n : Nat} {x : Bd} (h0 : 0 < n) (hn : n ≤ s.size) (hx : F (s.data.toList.take n) = some x) : HitOk F (mkHit s n x) :=
  ⟨by show 0 < (s.extract 0 n).size; rw [head_size s n hn]; exact h0, .inl ⟨x, by show F (s.extract 0 n).data.toList = some x; rw [head_toList]; exact hx, rfl⟩⟩
theorem hit_free {F : Key} {s : ByteArray} {n : Nat} (h0 : 0 < n) (hn : n ≤ s.size) (hx : F (s.data.toList.take n) = none) : HitOk F (mkHit s n Bd.no) :=
  ⟨by show 0 < (s.extract 0 n).size; rw [head_size s n hn]; exact h0, .inr ⟨by show F (s.extract 0 n).data.toList = none; rw [head_toList]; exact hx, rfl⟩⟩
theorem no_empty {F : Key} (hG : Good F) : (F []).getD Bd.no = Bd.no := by
  cases hF : F [] with
  | none => rfl
  | some z => exact absurd rfl (hG.ne [] z hF)
theorem Reads.ok {F : Key} (hG : Good F) {s : ByteArray} {hs : List S46} {s' : ByteArray} (h : Reads F s hs s') : ∀ h ∈ hs, HitOk F h := by
  induction h with
  | stop _ => intro h hh; cases hh
  | step h0 h1 h3 _ ih =>
    rename_i s hs s' _
    intro h hh
    rcases List.mem_cons.1 hh with rfl | hh
    · have hle := cutN_le h0 h1
      have hp := cutN_pos F s
      by_cases hz : longN F s.data.toList s.size = 0
      · have e : bdAt F s = Bd.no := by
          unfold bdAt
          rw [hz, List.take_zero, no_empty hG]
        rw [e]
        exact hit_free hp hle (longN_zero hz _ hp hle)
      · obtain ⟨x, hx⟩ := longN_bound hz
        have e : cutN F s = longN F s.data.toList s.size := if_neg hz
        have e2 : bdAt F s = x := by
          unfold bdAt
          rw [hx]
          rfl
        rw [e2, e]
        exact hit_bound (Nat.pos_of_ne_zero hz) (longN_le _ _ _) hx
    · exact ih h hh
theorem Times.ok {F : Key} (hG : Good F) {s : ByteArray} {hs : List S46} {s' : ByteArray} (h : Times F s hs s') : ∀ h ∈ hs, HitOk F h := by
  induction h with
  | stop _ => intro h hh; cases hh
  | step h0 hr _ ih =>
    rename_i s h1 ht s1 s' _
    intro h hh
    rcases List.mem_cons.1 hh with rfl | hh
    · by_cases hk : kindOf F s.data.toList = 2 ∨ kindOf F s.data.toList = 3
      · have e1 : tN F s = s.size := if_pos hk
        have e2 : tB F s = (F s.data.toList).getD Bd.no := if_pos hk
        have hs : (F s.data.toList).isSome = true := hk.elim (fun h => (kind_two h).1) (fun h => (kind_three h).1)
        cases hF : F s.data.toList with
        | none => rw [hF] at hs; cases hs
        | some x =>
          rw [e1, e2, hF]
          exact hit_bound h0 (Nat.le_refl _) (by rw [take_all]; exact hF)
      · by_cases hz : longN F s.data.toList s.size = 0
        · have e1 : tN F s = s.size := (if_neg hk).trans (if_pos hz)
          have e2 : tB F s = Bd.no := (if_neg hk).trans (if_pos hz)
          rw [e1, e2]
          exact hit_free h0 (Nat.le_refl _) (longN_zero hz _ h0 (Nat.le_refl _))
        · obtain ⟨x, hx⟩ := longN_bound hz
          have e1 : tN F s = longN F s.data.toList s.size := (if_neg hk).trans (if_neg hz)
          have e2 : tB F s = bdAt F s := (if_neg hk).trans (if_neg hz)
          have e3 : bdAt F s = x := by
            unfold bdAt
            rw [hx]
            rfl
          rw [e1, e2, e3]
          exact hit_bound (Nat.pos_of_ne_zero hz) (longN_le _ _ _) hx
    · rcases List.mem_append.1 hh with hh | hh
      · exact hr.ok hG h hh
      · exact ih h hh
theorem Puts.ok {F : Key} (hG : Good F) {s : ByteArray} {l : List Int} {hs : List S46} {s' : ByteArray} (h : Puts F s l hs s') : ∀ h ∈ hs, HitOk F h := by
  induction h with
  | nil => intro h hh; cases hh
  | cons hr _ ih =>
    intro h hh
    rcases List.mem_append.1 hh with hh | hh
    · exact hr.ok hG h hh
    · exact ih h hh
theorem Reads.short {F : Key} (hG : Good F) {s : ByteArray} {hs : List S46} {s' : ByteArray} (h : Reads F s hs s') : s'.size < 64 := by
  induction h with
  | stop h =>
    rename_i s
    rcases h with h | h | h
    · omega
    · have := ext_lt hG (kind_one h).2
      rwa [data_len] at this
    · have := ext_lt hG (kind_three h).2
      rwa [data_len] at this
  | step _ _ _ _ ih => exact ih
theorem Puts.short {F : Key} (hG : Good F) {s : ByteArray} {l : List Int} {hs : List S46} {s' : ByteArray} (h : Puts F s l hs s') (h0 : s.size < 64) : s'.size < 64 := by
  induction h with
  | nil => exact h0
  | cons hr _ ih => exact ih (hr.short hG)
end Go.Proofs.Ytcnkgodooignpaa
