/-
  Maps of the call's own with whatever elements: block b holds a map of c entries that has f's values at its keys.
-/
import Derived.Maps.OwnSet
import Derived.Maps.Ext
import Derived.Maps.RangeWalk
import Derived.Test.YtcnkgodooignpaaFr
namespace Go.Proofs.Ytcnkgodooignpaa
open Go.Maps (Keyed)
open Go.RowKit Go.WideElems
set_option linter.unusedVariables false
abbrev HD := DataW Value
def heldR (v : Value) : Option (HD × List MemPlace) := some (.held v, [])
/-- Block b holds a map of c entries that has f's values. -/
structure Mh (P : Program) (K : TypeId) (w : World) (b : Nat) (f : Lit → Option Value) (c : Nat) : Prop where
  ex : ∃ D : HD, w.ownsMap P K heldR b c D ∧ Go.Maps.size D = c ∧ (∀ l, Go.Maps.has D l = (f l).isSome) ∧ (∀ l v z, f l = some v → D.atKey l z = .held v)
section
variable {P : Program} {K : TypeId} {w w' : World} {b c : Nat} {f : Lit → Option Value}
theorem heldR_inv {v : Value} {z : HD × List MemPlace} (h : heldR v = some z) : z = (.held v, []) := by
  unfold heldR at h
  exact (Option.some.inj h).symm
theorem owns_tightH {n : Nat} {D : HD} (h : w.ownsMap P K heldR b n D) : w.ownsMap P K heldR b (Go.Maps.size D) D := by
  obtain ⟨es, clock, hb, F, hs, rfl⟩ := h
  exact ⟨es, clock, hb, F, by simp [Go.Maps.size, length_sorted], rfl⟩
theorem Mh.made (P : Program) (K : TypeId) (w : World) : Mh P K (w.alloc (.map #[] 0)) w.heap.size (fun _ => none) 0 :=
  ⟨⟨.map [], World.ownsMap_made _ _ _ _, rfl, fun _ => rfl, fun _ _ _ h => by cases h⟩⟩
theorem Mh.lt (h : Mh P K w b f c) : b < w.heap.size := by
  obtain ⟨D, h1, _⟩ := h.ex
  exact h1.lt
theorem Mh.same (h : Mh P K w b f c) (hb : w'.heap[b]? = w.heap[b]?) : Mh P K w' b f c := by
  obtain ⟨D, ⟨es, clock, h0, h1⟩, h2⟩ := h.ex
  exact ⟨⟨D, ⟨es, clock, hb.trans h0, h1⟩, h2⟩⟩
theorem Mh.below (h : Mh P K w b f c) (hb : Below w.heap.size w w') : Mh P K w' b f c := h.same (hb.block _ h.lt)
theorem Mh.set (h : Mh P K w b f c) {p : Addr} (hp : p.block ≠ b) (u : Value) : Mh P K (w.setCell p u) b f c := h.same (Below.heap_setCell w p u b (Ne.symm hp))
theorem Mh.alloc (h : Mh P K w b f c) (o : Obj) : Mh P K (w.alloc o) b f c := h.same (Below.heap_alloc _ _ _ h.lt)
theorem Mh.drewN (h : Mh P K w b f c) (n : Nat) : Mh P K (w.drewN n) b f c := h.same rfl
theorem Mh.kept {row : Option Nat} (h : Mh P K w b f c) (hg : w.grownBy w' row) (hne : some b ≠ row) : Mh P K w' b f c := h.same (hg.block b h.lt hne)
theorem Mh.blk (h : Mh P K w b f c) : ∃ es clock, w.heap[b]? = some (.map es clock) := by
  obtain ⟨D, ⟨es, clock, h0, h1⟩, h2⟩ := h.ex
  exact ⟨es, clock, h0⟩
/-- It is no block of cells. -/
theorem Mh.ne (h : Mh P K w b f c) {g t : Nat} {cs : Array Value} {q : Nat × Nat} (hb : w.heap[g]? = some (.cells cs t q)) : g ≠ b := by
  obtain ⟨es, clock, h0⟩ := h.blk
  rintro rfl
  rw [h0] at hb
  cases hb
/-- Two that read one block: one map. -/
theorem Mh.get (h : Mh P K w b f c) (hK : Keyed P K) {T E : TypeId} (ht : P.underlying T = some (.map K E)) {z : Value} (hz : (zeroValue E).run P w = .ok z w) {key : Value} {kl : Lit} (hkey : keyOf P K key = some kl) :
    (Instr.lookup T (.map (some b)) key false).run P w = .ok ((f kl).getD z) w := by
  obtain ⟨D, h1, _, h2, h3⟩ := h.ex
  obtain ⟨v, ps, hrun, hv⟩ := h1.lookup hK ht hz (zd := .held z) (zp := []) rfl hkey
  have := heldR_inv hv
  simp only [Prod.mk.injEq] at this
  rw [hrun]
  cases hf : f kl with
  | none =>
    have h4 := h2 kl
    rw [hf] at h4
    rw [Go.Maps.atKey_of_not_has h4] at this
    injection this.1 with e
    rw [e]
    rfl
  | some x =>
    rw [h3 kl x _ hf] at this
    injection this.1 with e
    rw [e]
    rfl
theorem Mh.getOk (h : Mh P K w b f c) (hK : Keyed P K) {T E : TypeId} (ht : P.underlying T = some (.map K E)) {z : Value} (hz : (zeroValue E).run P w = .ok z w) {key : Value} {kl : Lit} (hkey : keyOf P K key = some kl) :
    (Instr.lookup T (.map (some b)) key true).run P w = .ok (.tuple #[(f kl).getD z, .bool (f kl).isSome]) w := by
  obtain ⟨D, h1, _, h2, h3⟩ := h.ex
  obtain ⟨v, ps, hrun, hv⟩ := h1.look_ok hK ht hz (zd := .held z) (zp := []) rfl hkey
  have := heldR_inv hv
  simp only [Prod.mk.injEq] at this
  rw [hrun, h2 kl]
  cases hf : f kl with
  | none =>
    have h4 := h2 kl
    rw [hf] at h4
    rw [Go.Maps.atKey_of_not_has h4] at this
    injection this.1 with e
    rw [e]
    rfl
  | some x =>
    rw [h3 kl x _ hf] at this
    injection this.1 with e
    rw [e]
    rfl
theorem nil_get (hK : Keyed P K) {T E : TypeId} (ht : P.underlying T = some (.map K E)) {z : Value} (hz : (zeroValue E).run P w = .ok z w) {key : Value} {kl : Lit} (hkey : keyOf P K key = some kl) :
    (Instr.lookup T (.map none) key false).run P w = .ok z w := Go.Maps.look_nil (w := w) false hK ht hz hkey
theorem Mh.len (h : Mh P K w b f c) {T E : TypeId} (ht : P.underlying T = some (.map K E)) (ty : TypeId) : (Builtin.len_ #[T] ty #[.map (some b)]).run P w = .ok (.int .i64 (c : Int)) w := by
  obtain ⟨D, h1, h4, _⟩ := h.ex
  rw [h1.len ht, h4]
/-- The fields of f, with v at l. -/
def putL (f : Lit → Option Value) (l : Lit) (v : Value) : Lit → Option Value := fun k => if k.sameKey l = true then some v else f k
def delL (f : Lit → Option Value) (l : Lit) : Lit → Option Value := fun k => if k.sameKey l = true then none else f k
theorem putL_same (f : Lit → Option Value) {l : Lit} (hl : WideAt.IsKeyLit l) (v : Value) : putL f l v l = some v := if_pos (WideAt.sameKey_self hl)
theorem putL_other (f : Lit → Option Value) {l k : Lit} (h : k ≠ l) (v : Value) : putL f l v k = f k := if_neg (by rw [Go.Maps.sameKey_ne h]; decide)
theorem delL_same (f : Lit → Option Value) {l : Lit} (hl : WideAt.IsKeyLit l) : delL f l l = none := if_pos (WideAt.sameKey_self hl)
theorem delL_other (f : Lit → Option Value) {l k : Lit} (h : k ≠ l) : delL f l k = f k := if_neg (by rw [Go.Maps.sameKey_ne h]; decide)
theorem Mh.store (h : Mh P K w b f c) (hK : Keyed P K) {T E : TypeId} (ht : P.underlying T = some (.map K E)) (hc : c < maxLen) {key : Value} {kl : Lit} (hkey : keyOf P K key = some kl) (v : Value) :
    ∃ w', (Instr.mapUpdate T (.map (some b)) key v).run P w = .ok () w' ∧ Mh P K w' b (putL f kl v) (if (f kl).isSome then c else c + 1) ∧ w.grownBy w' (some b) ∧ w'.heap.size = w.heap.size := by
  obtain ⟨D, h1, h4, h2, h3⟩ := h.ex
  obtain ⟨w', hrun, ho, hg⟩ := h1.store hK ht hc hkey (d := .held v) (ps := []) rfl
  have hkl := hK.key hkey
  refine ⟨w', hrun, ⟨⟨DataW.put D kl (.held v), ?_, ?_, ?_, ?_⟩⟩, hg.grown, ?_⟩
  · have := owns_tightH ho
    rw [Go.Maps.size_put (h1.tidy hK), h2 kl, h4] at this
    exact this
  · rw [Go.Maps.size_put (h1.tidy hK), h2 kl, h4]
  · intro l
    by_cases e : l = kl
    · subst e
      rw [Go.Maps.has_put_same h1.isMap hkl, putL_same _ hkl]
      rfl
    · rw [Go.Maps.has_put_other e, h2 l, putL_other _ e]
  · intro l x z
    by_cases e : l = kl
    · subst e
      rw [Go.Maps.atKey_put_same h1.isMap hkl, putL_same _ hkl]
      intro hx
      injection hx with hx
      rw [hx]
    · rw [Go.Maps.atKey_put_other e, putL_other _ e]
      exact h3 l x z
  · obtain ⟨es, clock, es', clock', hb, rfl⟩ := hg
    simp [Go.ChangeMaps.setBlock]
theorem Mh.drop (h : Mh P K w b f c) (hK : Keyed P K) {T E : TypeId} (ht : P.underlying T = some (.map K E)) {key : Value} {kl : Lit} (hkey : keyOf P K key = some kl) (ty : TypeId) :
    ∃ w', (Builtin.delete_ #[T, K] ty #[.map (some b), key]).run P w = .ok (.tuple #[]) w' ∧ Mh P K w' b (delL f kl) (c - if (f kl).isSome then 1 else 0) ∧ w.grownBy w' (some b) ∧ w'.heap.size = w.heap.size := by
  obtain ⟨D, h1, h4, h2, h3⟩ := h.ex
  obtain ⟨w', hrun, ho, hg⟩ := h1.drop hK ht hkey ty
  have hsz := Go.Maps.size_del (k := kl) (h1.tidy hK)
  rw [h2 kl, h4] at hsz
  refine ⟨w', hrun, ⟨⟨DataW.del D kl, ?_, ?_, ?_, ?_⟩⟩, hg.grown, ?_⟩
  · have := owns_tightH ho
    rw [show Go.Maps.size (DataW.del D kl) = c - (if (f kl).isSome = true then 1 else 0) by omega] at this
    exact this
  · omega
  · intro l
    by_cases e : l = kl
    · subst e
      rw [Go.Maps.has_del_same, delL_same _ (hK.key hkey)]
      rfl
    · rw [Go.Maps.has_del_other e, h2 l, delL_other _ e]
  · intro l x z
    by_cases e : l = kl
    · subst e
      rw [delL_same _ (hK.key hkey)]
      intro hx
      cases hx
    · rw [Go.Maps.atKey_del_other e, delL_other _ e]
      exact h3 l x z
  · obtain ⟨es, clock, es', clock', hb, rfl⟩ := hg
    simp [Go.ChangeMaps.setBlock]
/-- No entries: nothing at any key. -/
theorem Mh.none_of_zero (h : Mh P K w b f 0) (l : Lit) : f l = none := by
  obtain ⟨D, h1, h4, h2, h3⟩ := h.ex
  obtain ⟨es, rfl⟩ := h1.isMap
  have : es = [] := List.eq_nil_of_length_eq_zero h4
  subst this
  have := h2 l
  cases hf : f l with
  | none => rfl
  | some v => rw [hf] at this; cases this
theorem Mh.pos_of_some (h : Mh P K w b f c) {l : Lit} (hl : (f l).isSome = true) : 0 < c := by
  rcases Nat.eq_zero_or_pos c with e | e
  · subst e
    rw [h.none_of_zero l] at hl
    cases hl
  · exact e
theorem Mh.some_of_pos (h : Mh P K w b f c) (hK : Keyed P K) (hc : 0 < c) : ∃ l v, (f l).isSome = true ∧ keyOf P K v = some l := by
  obtain ⟨D, ⟨es, clock, hb, F, hs, rfl⟩, h4, h2, h3⟩ := h.ex
  have h5 : es.size = c := by rw [← h4]; simp [Go.Maps.size, length_sorted]
  have hx : es[0]'(by omega) ∈ es.toList := by simp
  obtain ⟨y, hy⟩ := F.reads _ hx
  have hk := rd_key hy
  have hrg := rg_of hy
  refine ⟨_, _, ?_, hk⟩
  rw [← h2]
  refine List.any_eq_true.2 ⟨rg P K heldR (es[0]'(by omega)), mem_sorted.2 (List.mem_map.2 ⟨_, hx, rfl⟩), ?_⟩
  rw [hrg]
  exact WideAt.sameKey_self (hK.key hk)
/-- Rising numbers from lo on below hi: not more than hi - lo. -/
theorem rising_len (hi : Int) : ∀ (es : List (Lit × HD)) (lo : Int), es.Pairwise (fun p q => p.1.before q.1 = true) → (∀ p ∈ es, ∃ x, p.1 = .int .u8 x ∧ lo ≤ x ∧ x < hi) → (es.length : Int) ≤ max 0 (hi - lo)
  | [], lo, _, _ => by simp; omega
  | e :: r, lo, hp, hm => by
    obtain ⟨x, ex, h1, h2⟩ := hm e (List.mem_cons_self)
    have ih := rising_len hi r (x + 1) (List.Pairwise.of_cons hp) (fun p hpr => by
      obtain ⟨y, ey, g1, g2⟩ := hm p (List.mem_cons_of_mem _ hpr)
      have := (List.pairwise_cons.1 hp).1 p hpr
      rw [ex, ey] at this
      have : x < y := by simpa [Lit.before] using this
      exact ⟨y, ey, by omega, g2⟩)
    simp only [List.length_cons]
    omega
/-- A map from bytes has at most 256 entries. -/
theorem Mh.bytes_le (h : Mh P K w b f c) (hK : Keyed P K) (hk : P.underlying K = some (.int .u8)) : c ≤ 256 := by
  obtain ⟨D, h1, h4, h2, h3⟩ := h.ex
  have hkeys : ∀ (es : List (Lit × HD)), D = .map es → ∀ p ∈ es, ∃ x, p.1 = .int .u8 x ∧ 0 ≤ x ∧ x < 256 := by
    intro es he p hp
    obtain ⟨es0, clock, hb, F, hs, hD⟩ := h1
    rw [hD] at he
    injection he with he
    rw [← he] at hp
    obtain ⟨v, hv⟩ := Go.Maps.fit_keys F p (mem_sorted.1 hp)
    obtain ⟨x, _, e, hw⟩ := Go.Maps.keyOf_int_inv hk hv
    refine ⟨x, e, ?_⟩
    have e0 : IntKind.u8.min = 0 := by decide
    have e1 : IntKind.u8.max = 255 := by decide
    simp [Lit.wf, e0, e1] at hw
    omega
  obtain ⟨es, he, hp, _⟩ := h1.canon hK
  have := rising_len 256 es 0 hp (hkeys es he)
  rw [he] at h4
  have h5 : es.length = c := h4
  omega
end
end Go.Proofs.Ytcnkgodooignpaa
