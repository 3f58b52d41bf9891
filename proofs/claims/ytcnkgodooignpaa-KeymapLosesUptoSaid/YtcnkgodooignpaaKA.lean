/-
  A keymap in memory: what its methods do (none, New, put).
-/
import Derived.Test.YtcnkgodooignpaaTR
import Derived.WalkSpells
namespace Go.Proofs.Ytcnkgodooignpaa
open Go.RowKit Go.Proofs.YtcnkgodooignpaaW.PrintWords Go.Proofs.YtcnkgodooignpaaW.PrintLast Go.Proofs.YtcnkgodooignpaaW.PrintMore Go.Proofs.Ytcnkgodooignpaa.PAll
set_option linter.unusedVariables false
set_option linter.unusedSimpArgs false
attribute [local go_sem] max2_int min2_int max_two min_two max_three min_three max_four min_four
theorem key5 : Go.Maps.Keyed Try.prog 5 := Go.Maps.int_keyed Try.underlying5
theorem key9 : Go.Maps.Keyed Try.prog 9 := Go.Maps.string_keyed Try.underlying9
theorem zero61 (w : World) : (zeroValue 61).run Try.prog w = .ok (.pointer none) w := by kernel_rfl
theorem zero44 (w : World) : (zeroValue 44).run Try.prog w = .ok Bd.no.v w := by kernel_rfl
theorem keyOf5 (u : UInt8) : keyOf Try.prog 5 (.int .u8 (u.toNat : Int)) = some (.int .u8 (u.toNat : Int)) :=
  Go.Maps.keyOf_int_mk Try.underlying5 (by
    have := u.toNat_lt
    have e0 : IntKind.u8.min = 0 := by decide
    have e1 : IntKind.u8.max = 255 := by decide
    simp [Lit.wf, e0, e1]
    omega)
theorem keyOf9 (s : ByteArray) (hs : s.size ≤ maxLen) : keyOf Try.prog 9 (.string s) = some (.string s.data.toList) := by
  simp [keyOf, Try.underlying9, mapKey, hs]
abbrev Key := Path → Option Bd
/-- What is bound, as the map has it. -/
def bnd (F : Key) : Lit → Option Value
  | .string k => (F k).map Bd.v
  | _ => none
theorem bnd_put (F : Key) (s : Path) (x : Bd) : putL (bnd F) (.string s) x.v = bnd (upd F s (some x)) := by
  funext l
  by_cases e : l = .string s
  · subst e
    rw [putL_same _ (by trivial)]
    show _ = (upd F s (some x) s).map Bd.v
    rw [upd_same]
    rfl
  · rw [putL_other _ e]
    cases l with
    | string k =>
      show (F k).map Bd.v = (upd F s (some x) k).map Bd.v
      rw [upd_other _ _ (fun e' => e (by rw [e']))]
    | _ => rfl
theorem bnd_del (F : Key) (s : Path) : delL (bnd F) (.string s) = bnd (upd F s none) := by
  funext l
  by_cases e : l = .string s
  · subst e
    rw [delL_same _ (by trivial)]
    show _ = (upd F s none s).map Bd.v
    rw [upd_same]
    rfl
  · rw [delL_other _ e]
    cases l with
    | string k =>
      show (F k).map Bd.v = (upd F s none k).map Bd.v
      rw [upd_other _ _ (fun e' => e (by rw [e']))]
    | _ => rfl
theorem bnd_isSome (F : Key) (s : Path) : (bnd F (.string s)).isSome = (F s).isSome := by
  show ((F s).map Bd.v).isSome = _
  cases F s <;> rfl
/-- Is a path a beginning of what is bound, or bound? -/
def Lives (F : Key) (s : Path) : Prop := s = [] ∨ ∃ r, (F (s ++ r)).isSome = true
/-- Which bindings may be. -/
structure Good (F : Key) : Prop where
  ne : ∀ s x, F s = some x → s ≠ []
  len : ∀ s x, F s = some x → s.length ≤ 64
  kind : ∀ s x, F s = some x → x.kind ≠ 0
/-- A keymap: at block g, with the sequences F, c of them; in blocks of which own holds. -/
structure KMx (w : World) (own : Nat → Prop) (g : Nat) (F : Key) (c : Nat) (town : Nat → Prop) (L : Path → Bool) (ν : Path → Nat) (μ : Path → Option Nat) (f : Path → Bd) (b : Nat) : Prop where
  box : w.heap[g]? = some (.cells #[.pointer (some ⟨ν [], 0, none⟩), .map (some b)] 64 (0, 0))
  tr : Tr w town L ν μ f
  mp : Mh Try.prog 9 w b (bnd F) c
  owng : own g
  ownb : own b
  ownt : ∀ k, town k → own k
  nb : ¬ town b
  ng : ¬ town g
  olt : ∀ k, own k → k < w.heap.size
  live : ∀ s, L s = true ↔ Lives F s
  val : ∀ s, L s = true → f s = (F s).getD Bd.no
  good : Good F
structure KM (w : World) (own : Nat → Prop) (g : Nat) (F : Key) (c : Nat) : Prop where
  ex : ∃ town L ν μ f b, KMx w own g F c town L ν μ f b
section
variable {w w' : World} {own : Nat → Prop} {g : Nat} {F : Key} {c : Nat} {town : Nat → Prop} {L : Path → Bool} {ν : Path → Nat} {μ : Path → Option Nat} {f : Path → Bd} {b : Nat}
theorem KMx.same (h : KMx w own g F c town L ν μ f b) (hb : ∀ k, own k → k < w.heap.size → w'.heap[k]? = w.heap[k]?) : KMx w' own g F c town L ν μ f b :=
by
  have ho : ∀ k, own k → k < w'.heap.size := by
    intro k hk
    have h1 := h.olt k hk
    have h2 := hb k hk h1
    rw [Array.getElem?_eq_getElem h1] at h2
    exact (Array.getElem?_eq_some_iff.1 h2).1
  exact { h with box := (hb g h.owng (blk_lt h.box)).trans h.box, tr := h.tr.same (fun k hk hl => hb k (h.ownt k hk) hl), mp := h.mp.same (hb b h.ownb h.mp.lt), olt := ho }
theorem KM.same (h : KM w own g F c) (hb : ∀ k, own k → k < w.heap.size → w'.heap[k]? = w.heap[k]?) : KM w' own g F c := by
  obtain ⟨t, L, ν, μ, f, b, hx⟩ := h.ex
  exact ⟨t, L, ν, μ, f, b, hx.same hb⟩
theorem KM.below (h : KM w own g F c) (hb : Below w.heap.size w w') : KM w' own g F c := h.same (fun k _ hk => hb.block k hk)
theorem KM.fr {N : Nat → Prop} (h : KM w own g F c) (hf : Fr N w w') (hN : ∀ k, own k → ¬ N k) : KM w' own g F c := h.same (fun k ho hk => hf.block k hk (hN k ho))
theorem KM.drewN (h : KM w own g F c) (n : Nat) : KM (w.drewN n) own g F c := h.same (fun _ _ _ => rfl)
theorem KM.good (h : KM w own g F c) : Good F := by
  obtain ⟨t, L, ν, μ, f, b, hx⟩ := h.ex
  exact hx.good
theorem KM.cells (h : KM w own g F c) : ∃ ν0 b, w.heap[g]? = some (.cells #[.pointer (some ⟨ν0, 0, none⟩), .map (some b)] 64 (0, 0)) ∧ Mh Try.prog 9 w b (bnd F) c := by
  obtain ⟨t, L, ν, μ, f, b, hx⟩ := h.ex
  exact ⟨_, _, hx.box, hx.mp⟩

end
theorem KM.own {w : World} {own : Nat → Prop} {g : Nat} {F : Key} {c : Nat} (h : KM w own g F c) : own g := by
  obtain ⟨t, L, ν, μ, f, b, hx⟩ := h.ex
  exact hx.owng
theorem KM.olt {w : World} {own : Nat → Prop} {g : Nat} {F : Key} {c : Nat} (h : KM w own g F c) : ∀ k, own k → k < w.heap.size := by
  obtain ⟨t, L, ν, μ, f, b, hx⟩ := h.ex
  exact hx.olt
/-! ### none -/
theorem nil62 : ∀ (w : World) (r : Option Nat), (binOp .eql 62 (.map r) (.map none)).run Try.prog w = .ok (.bool r.isNone) w := fun w r => run_eql_map_nil w _ _ _ r Try.underlying62
theorem nil86 : ∀ (w : World) (r : Option Nat), (binOp .eql 86 (.map r) (.map none)).run Try.prog w = .ok (.bool r.isNone) w := fun w r => run_eql_map_nil w _ _ _ r Try.underlying86
theorem none_nil (w : World) : Calls Try.prog 38 #[.pointer none] w fun e w' => e = .returned (.bool true) ∧ w = w' := by
  go_enter Try.func38, Try.ntmps38
  go_wp2
  go_ret
  exact ⟨rfl, rfl⟩
theorem none_calls {w : World} {own : Nat → Prop} {g : Nat} {F : Key} {c : Nat} (h : KM w own g F c) : Calls Try.prog 38 #[.pointer (some ⟨g, 0, none⟩)] w fun e w' => e = .returned (.bool false) ∧ w = w' := by
  obtain ⟨ν0, b, hx, _⟩ := h.cells
  have h1 : w.cell? ⟨g, 1, none⟩ = some (.map (some b)) := (blk_cell hx 1).trans rfl
  have hq := nil62 w (some b)
  clear hx h
  go_enter Try.func38, Try.ntmps38
  go_wp2
  go_ret
  exact ⟨rfl, rfl⟩
theorem none_zero {w : World} {g : Nat} {r : Value} (hl : w.heap[g]? = some (.cells #[r, .map none] 64 (0, 0))) : Calls Try.prog 38 #[.pointer (some ⟨g, 0, none⟩)] w fun e w' => e = .returned (.bool true) ∧ w = w' := by
  have h1 : w.cell? ⟨g, 1, none⟩ = some (.map none) := (blk_cell hl 1).trans rfl
  have hq := nil62 w none
  clear hl
  go_enter Try.func38, Try.ntmps38
  go_wp2
  go_ret
  exact ⟨rfl, rfl⟩
end Go.Proofs.Ytcnkgodooignpaa
