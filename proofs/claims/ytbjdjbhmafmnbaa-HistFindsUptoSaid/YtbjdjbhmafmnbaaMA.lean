/-
  A map from numbers to texts, made by the call itself.
-/
import Derived.Test.YtbjdjbhmafmnbaaWA
import Derived.Maps.OwnSet
import Derived.Maps.StringElems
namespace Go.Proofs.Ytbjdjbhmafmnbaa
open Go.RowKit Go.Proofs.YtbjdjbhmafmnbaaW.PrintWords Go.Proofs.YtbjdjbhmafmnbaaW.PrintLast Go.Proofs.YtbjdjbhmafmnbaaW.PrintMore Go.Proofs.Ytbjdjbhmafmnbaa.PAll
set_option linter.unusedVariables false
set_option linter.unusedSimpArgs false
theorem key3 : Go.Maps.Keyed Try.prog 3 := Go.Maps.int_keyed Try.underlying3
theorem zero9 (w : World) : (zeroValue 9).run Try.prog w = .ok (.string ⟨#[]⟩) w := by kernel_rfl
abbrev MapD := DataW Unit
/-- Block b holds a map of c entries that has f's texts at the numbers. -/
structure Mp (w : World) (b : Nat) (f : Int → Option ByteArray) (c : Nat) : Prop where
  ex : ∃ D : MapD, w.ownsMap Try.prog 3 (plainElem Try.prog 9) b c D ∧ (∀ i, D.atKey (.int .i64 i) (.lit (.string [])) = .lit (.string ((f i).getD ⟨#[]⟩).data.toList)) ∧ (∀ i, Go.Maps.has D (.int .i64 i) = (f i).isSome) ∧ Go.Maps.size D = c
theorem owns_tight {w : World} {b n : Nat} {D : MapD} (h : w.ownsMap Try.prog 3 (plainElem Try.prog 9) b n D) : w.ownsMap Try.prog 3 (plainElem Try.prog 9) b (Go.Maps.size D) D := by
  obtain ⟨es, clock, hb, F, hs, rfl⟩ := h
  exact ⟨es, clock, hb, F, by simp [Go.Maps.size, length_sorted], rfl⟩
theorem Mp.made (w : World) : Mp (w.alloc (.map #[] 0)) w.heap.size (fun _ => none) 0 :=
  ⟨⟨.map [], World.ownsMap_made _ _ _ _, fun i => rfl, fun i => rfl, rfl⟩⟩
theorem Mp.kept {w w' : World} {b : Nat} {f : Int → Option ByteArray} {c : Nat} {row : Option Nat} (h : Mp w b f c) (hg : w.grownBy w' row) (hne : some b ≠ row) : Mp w' b f c := by
  obtain ⟨D, h1, h2⟩ := h.ex
  exact ⟨⟨D, h1.kept hg hne, h2⟩⟩
theorem Mp.lt {w : World} {b : Nat} {f : Int → Option ByteArray} {c : Nat} (h : Mp w b f c) : b < w.heap.size := by
  obtain ⟨D, h1, h2⟩ := h.ex
  exact h1.lt
theorem Mp.same {w w' : World} {b : Nat} {f : Int → Option ByteArray} {c : Nat} (h : Mp w b f c) (hb : w'.heap[b]? = w.heap[b]?) : Mp w' b f c := by
  obtain ⟨D, ⟨es, clock, h0, h1⟩, h2⟩ := h.ex
  exact ⟨⟨D, ⟨es, clock, hb.trans h0, h1⟩, h2⟩⟩
theorem Mp.below {w w' : World} {b : Nat} {f : Int → Option ByteArray} {c : Nat} (h : Mp w b f c) (hb : Below w.heap.size w w') : Mp w' b f c := h.same (hb.block _ h.lt)
theorem Mp.set {w : World} {b : Nat} {f : Int → Option ByteArray} {c : Nat} (h : Mp w b f c) {p : Addr} (hp : p.block ≠ b) (u : Value) : Mp (w.setCell p u) b f c := h.same (Below.heap_setCell w p u b (Ne.symm hp))
theorem Mp.drewN {w : World} {b : Nat} {f : Int → Option ByteArray} {c : Nat} (h : Mp w b f c) (n : Nat) : Mp (w.drewN n) b f c := h.same rfl
/-- It is no block of cells. -/
theorem Mp.ne {w : World} {b : Nat} {f : Int → Option ByteArray} {c : Nat} (h : Mp w b f c) {g t : Nat} {cs : Array Value} (hb : w.heap[g]? = some (.cells cs t (0, 0))) : g ≠ b := by
  obtain ⟨D, ⟨es, clock, h0, h1⟩, h2⟩ := h.ex
  rintro rfl
  rw [h0] at hb
  cases hb
theorem texts_inj {a b : ByteArray} (h : a.data.toList = b.data.toList) : a = b := by
  cases a; cases b
  simp only at h
  rw [Array.toList_inj] at h
  rw [h]
theorem Mp.look {w : World} {b : Nat} {f : Int → Option ByteArray} {c : Nat} (h : Mp w b f c) {i : Int} (hi : (Lit.int .i64 i).wf = true) :
    (Instr.lookup 45 (.map (some b)) (.int .i64 i) false).run Try.prog w = .ok (.string ((f i).getD ⟨#[]⟩)) w := by
  obtain ⟨D, h1, h2, _⟩ := h.ex
  obtain ⟨v, ps, hrun, hv⟩ := h1.lookup key3 Try.underlying45 (zero9 w) (plainElem_string Try.underlying9 (by decide)) (Go.Maps.keyOf_int_mk Try.underlying3 hi)
  obtain ⟨s, rfl, hz, hs⟩ := plainElem_string_inv Try.underlying9 hv
  have h3 := h2 i
  simp only [Prod.mk.injEq] at hz
  have h4 := hz.1.symm.trans h3
  have h5 : s.data.toList = ((f i).getD ⟨#[]⟩).data.toList := by
    simp only [DataW.lit.injEq, Lit.string.injEq] at h4
    exact h4
  rw [hrun, texts_inj h5]
theorem Mp.len {w : World} {b : Nat} {f : Int → Option ByteArray} {c : Nat} (h : Mp w b f c) (ty : TypeId) : (Builtin.len_ #[45] ty #[.map (some b)]).run Try.prog w = .ok (.int .i64 (c : Int)) w := by
  obtain ⟨D, h1, _, _, h4⟩ := h.ex
  rw [h1.len Try.underlying45, h4]
theorem Mp.store {w : World} {b : Nat} {f : Int → Option ByteArray} {c : Nat} (h : Mp w b f c) {i : Int} (hi : (Lit.int .i64 i).wf = true) {s : ByteArray} (hs : s.size ≤ 1000000000) (hc : c ≤ 1000000000) :
    ∃ w', (Instr.mapUpdate 45 (.map (some b)) (.int .i64 i) (.string s)).run Try.prog w = .ok () w' ∧ Mp w' b (fun k => if k = i then some s else f k) (if (f i).isSome then c else c + 1) ∧ w.grownBy w' (some b) := by
  obtain ⟨D, h1, h2, h3, h4⟩ := h.ex
  obtain ⟨w', hrun, ho, hg⟩ := h1.update key3 Try.underlying45 (by unfold maxLen; omega) (Go.Maps.keyOf_int_mk Try.underlying3 hi) (plainElem_string Try.underlying9 (s := s) (by unfold maxLen; omega))
  refine ⟨w', hrun, ⟨⟨DataW.put D (Lit.int IntKind.i64 i) (DataW.lit (Lit.string s.data.toList)), ?_, ?_, ?_, ?_⟩⟩, hg⟩
  · have := owns_tight ho
    rw [Go.Maps.size_put (h1.tidy key3), h3 i, h4] at this
    exact this
  · intro k
    by_cases hk : k = i
    · subst hk
      rw [Go.Maps.atKey_put_same h1.isMap (by simp [WideAt.IsKeyLit]), if_pos rfl]
      rfl
    · rw [Go.Maps.atKey_put_other (by simpa using hk), h2 k, if_neg hk]
  · intro k
    by_cases hk : k = i
    · subst hk
      rw [Go.Maps.has_put_same h1.isMap (by simp [WideAt.IsKeyLit]), if_pos rfl]
      rfl
    · rw [Go.Maps.has_put_other (by simpa using hk), h3 k, if_neg hk]
  · rw [Go.Maps.size_put (h1.tidy key3), h3 i, h4]
/-- The texts at their places. -/
def mapOf (now : List ByteArray) (i : Int) : Option ByteArray := if 0 ≤ i then now[i.toNat]? else none
/-- .. the first j of T, and nothing behind them. -/
def partOf (T : List ByteArray) (j : Nat) (i : Int) : Option ByteArray := if i = (T.length : Int) then some ⟨#[]⟩ else if 0 ≤ i ∧ i < (j : Int) then T[i.toNat]? else none
theorem partOf_none (T : List ByteArray) : (fun k => if k = (T.length : Int) then some (⟨#[]⟩ : ByteArray) else (fun _ => none) k) = partOf T 0 := by
  funext k
  unfold partOf
  split
  · rfl
  · rw [if_neg (by omega)]
theorem partOf_step (T : List ByteArray) (j : Nat) (hj : j < T.length) : (fun k => if k = (j : Int) then some T[j] else partOf T j k) = partOf T (j + 1) := by
  funext k
  by_cases hk : k = (j : Int)
  · subst hk
    rw [if_pos rfl]
    unfold partOf
    rw [if_neg (by omega), if_pos (by omega), Int.toNat_natCast, List.getElem?_eq_getElem hj]
  · rw [if_neg hk]
    unfold partOf
    split
    · rfl
    · by_cases h : 0 ≤ k ∧ k < (j : Int)
      · rw [if_pos h, if_pos (by omega)]
      · rw [if_neg h, if_neg (by omega)]
theorem partOf_none_at (T : List ByteArray) (j : Nat) (hj : j < T.length) : (partOf T j (j : Int)).isSome = false := by
  unfold partOf
  rw [if_neg (by omega), if_neg (by omega)]
  rfl
theorem partOf_all (T : List ByteArray) : partOf T T.length = mapOf (T ++ [⟨#[]⟩]) := by
  funext k
  unfold partOf mapOf
  by_cases h0 : 0 ≤ k
  · rw [if_pos h0]
    obtain ⟨n, rfl⟩ := Int.eq_ofNat_of_zero_le h0
    rw [Int.toNat_natCast]
    by_cases hn : n = T.length
    · subst hn
      rw [if_pos rfl, List.getElem?_append_right (Nat.le_refl _)]
      simp
    · rw [if_neg (by omega)]
      by_cases hl : n < T.length
      · rw [if_pos (by omega), List.getElem?_append_left hl]
      · rw [if_neg (by omega), List.getElem?_eq_none (by simp; omega)]
  · rw [if_neg h0, if_neg (by omega), if_neg (by omega)]
theorem mapOf_set (now : List ByteArray) (p : Nat) (hp : p < now.length) (s : ByteArray) : (fun k => if k = (p : Int) then some s else mapOf now k) = mapOf (now.set p s) := by
  funext k
  by_cases hk : k = (p : Int)
  · subst hk
    rw [if_pos rfl]
    unfold mapOf
    rw [if_pos (by omega), Int.toNat_natCast, List.getElem?_set_self (by simpa using hp)]
  · rw [if_neg hk]
    unfold mapOf
    split
    · rw [List.getElem?_set_ne (by omega)]
    · rfl
theorem mapOf_some (now : List ByteArray) (p : Nat) (hp : p < now.length) : (mapOf now (p : Int)).isSome = true := by
  unfold mapOf
  rw [if_pos (by omega), Int.toNat_natCast, List.getElem?_eq_getElem hp]
  rfl
theorem mapOf_getD (now : List ByteArray) (p : Nat) (hp : p < now.length) : (mapOf now (p : Int)).getD ⟨#[]⟩ = now[p] := by
  unfold mapOf
  rw [if_pos (by omega), Int.toNat_natCast, List.getElem?_eq_getElem hp]
  rfl
end Go.Proofs.Ytbjdjbhmafmnbaa
