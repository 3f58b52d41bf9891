/-
  What a reader reads, plainly; rows of hits.
-/
import Derived.Test.YtcnkgodooignpaaRI
namespace Go.Proofs.Ytcnkgodooignpaa
open Go.RowKit Go.WideShapes Go.Proofs.YtcnkgodooignpaaW.PrintWords Go.Proofs.YtcnkgodooignpaaW.PrintLast Go.Proofs.YtcnkgodooignpaaW.PrintMore Go.Proofs.Ytcnkgodooignpaa.PAll
set_option linter.unusedVariables false
set_option linter.unusedSimpArgs false
/-- How many bytes the next hit has, where what waits is no beginning. -/
noncomputable def cutN (F : Key) (s : ByteArray) : Nat := if longN F s.data.toList s.size = 0 then lpN F s.data.toList s.size + 1 else longN F s.data.toList s.size
def bdAt (F : Key) (s : ByteArray) : Bd := (F (s.data.toList.take (longN F s.data.toList s.size))).getD Bd.no
def mkHit (s : ByteArray) (n : Nat) (x : Bd) : S46 := ⟨s.extract 0 n, ⟨x.kind, x.name, x.keys⟩⟩
/-- What is certain, of what waits. -/
inductive Reads (F : Key) : ByteArray → List S46 → ByteArray → Prop
  | stop {s : ByteArray} (h : s.size = 0 ∨ kindOf F s.data.toList = 1 ∨ kindOf F s.data.toList = 3) : Reads F s [] s
  | step {s : ByteArray} {hs : List S46} {s' : ByteArray} (h0 : 0 < s.size) (h1 : kindOf F s.data.toList ≠ 1) (h3 : kindOf F s.data.toList ≠ 3) (h : Reads F (s.extract (cutN F s) s.size) hs s') : Reads F s (mkHit s (cutN F s) (bdAt F s) :: hs) s'
theorem Reads.det {F : Key} {s : ByteArray} {a b : List S46} {s1 s2 : ByteArray} (h : Reads F s a s1) (k : Reads F s b s2) : a = b ∧ s1 = s2 := by
  induction h generalizing b s2 with
  | stop h =>
    cases k with
    | stop _ => exact ⟨rfl, rfl⟩
    | step h0 h1 h3 _ => rcases h with h | h | h <;> omega
  | step h0 h1 h3 _ ih =>
    cases k with
    | stop h => rcases h with h | h | h <;> omega
    | step _ _ _ k =>
      obtain ⟨e1, e2⟩ := ih k
      exact ⟨by rw [e1], e2⟩
theorem kind_two {F : Key} {s : Path} (h : kindOf F s = 2) : (F s).isSome = true ∧ ¬ Ext F s := by
  unfold kindOf at h
  split at h <;> split at h <;> simp_all
theorem kind_zero {F : Key} {s : Path} (h : kindOf F s = 0) : F s = none ∧ ¬ Ext F s := by
  unfold kindOf at h
  split at h <;> split at h <;> simp_all
theorem kind_one {F : Key} {s : Path} (h : kindOf F s = 1) : F s = none ∧ Ext F s := by
  unfold kindOf at h
  split at h <;> split at h <;> simp_all
theorem kind_three {F : Key} {s : Path} (h : kindOf F s = 3) : (F s).isSome = true ∧ Ext F s := by
  unfold kindOf at h
  split at h <;> split at h <;> simp_all
/-- A beginning of others is shorter than 64 bytes. -/
theorem ext_lt {F : Key} (hG : Good F) {s : Path} (h : Ext F s) : s.length < 64 := by
  obtain ⟨u, r, hr⟩ := h
  cases hx : F (s ++ u :: r) with
  | none => rw [hx] at hr; cases hr
  | some x =>
    have := hG.len _ x hx
    simp at this
    omega
theorem longN_all {F : Key} {s : ByteArray} {x : Bd} (h0 : 0 < s.size) (h : F s.data.toList = some x) : longN F s.data.toList s.size = s.size := by
  obtain ⟨k, hk⟩ : ∃ k, s.size = k + 1 := ⟨s.size - 1, by omega⟩
  have e : s.data.toList.take (k + 1) = s.data.toList := by rw [← hk]; exact take_all s
  rw [hk]
  exact longN_some (x := x) (by rw [e]; exact h)
theorem cutN_pos (F : Key) (s : ByteArray) : 0 < cutN F s := by
  unfold cutN
  split <;> omega
theorem cutN_le {F : Key} {s : ByteArray} (h0 : 0 < s.size) (h1 : kindOf F s.data.toList ≠ 1) : cutN F s ≤ s.size := by
  unfold cutN
  split
  · obtain ⟨k, hk⟩ : ∃ k, s.size = k + 1 := ⟨s.size - 1, by omega⟩
    have e : s.data.toList.take (k + 1) = s.data.toList := by rw [← hk]; exact take_all s
    have := lpN_le F s.data.toList k
    rw [hk]
    have : lpN F s.data.toList (k + 1) = lpN F s.data.toList k := if_neg (by rw [e]; exact h1)
    omega
  · exact longN_le _ _ _
theorem Reads.len {F : Key} {s : ByteArray} {a : List S46} {s' : ByteArray} (h : Reads F s a s') : a.length + s'.size ≤ s.size := by
  induction h with
  | stop _ => simp
  | step h0 h1 h3 _ ih =>
    rename_i s _ _ _
    have := cutN_pos F s
    have := cutN_le h0 h1
    rw [tail_size] at ih
    simp only [List.length_cons]
    omega
/-! ### rows of hits -/
theorem M_of_K46 {w : World} (base : Nat) (ok : Nat → Prop) (x : S46) (cs : List Value) (h : k46.K w x cs) : k46.M w base ok x cs := by
  rw [k46_open h]
  exact k46_mkM _ _ _ _
theorem R46_one {w : World} {base : Nat} {ok : Nat → Prop} {v : Value} {xs : List S46} (h : Kd.R k46 46 w base ok v xs) : Kd.R k46 46 w base (fun k => some k = v.ownBlock) v xs := by
  obtain ⟨_, inner, ho, hr⟩ := h
  refine ⟨fun k hk => hk.symm, inner, ho, hr.imp_ (fun p cs hp => ?_)⟩
  rw [k46_openM hp]
  exact k46_mkM _ _ _ _
theorem R46_fr {w w' : World} {base : Nat} {ok : Nat → Prop} {v : Value} {xs : List S46} {N : Nat → Prop} (h : Kd.R k46 46 w base ok v xs) (hf : Fr N w w') (hN : ∀ k, some k = v.ownBlock → ¬ N k) : Kd.R k46 46 w' base (fun _ => True) v xs :=
  Kd.R_mono (R_fr (R46_one h) hf hN) (fun _ _ => trivial)
theorem info46 : (Try.prog.info? 46).map (fun i => (i.zero, i.size, i.bytes)) = some (some (.agg #[.string ⟨#[]⟩, .int .i64 0, .string ⟨#[]⟩, .string ⟨#[]⟩]), 4, 56) := by kernel_rfl
theorem lit46 (w : World) (x : S46) : Kd.C k46 (w.alloc (.cells #[.string x.f0, .int .i64 x.f1.f0, .string x.f1.f1, .string x.f1.f2] 46)) (some ⟨w.heap.size, 0, none⟩) 1 [x] := by
  have h := OwnRow.lit (R := k46.K w) (size := 4) (e := 46) w w.heap.size (ps := [x]) (inner := [.string x.f0, .int .i64 x.f1.f0, .string x.f1.f1, .string x.f1.f2]) ?_ (Nat.le_refl _) (by simp [Value.oneCell'])
  · obtain ⟨A, c, e, _, hr⟩ := h.reads
    injection e with e1 e2 e3
    subst e1
    exact hr.imp_ (Below.refl _ _) (fun p cs hp => k46.K_below (below_alloc (Below.refl _ _) _) hp)
  · exact Reps.snoc (Reps.none (k46.K w) 4) (k46_mk w x) rfl
end Go.Proofs.Ytcnkgodooignpaa
