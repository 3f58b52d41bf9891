/-
  A trie of nodes in memory, and what its operations make of it.
-/
import Derived.Test.YtcnkgodooignpaaMH
import Derived.Test.YtcnkgodooignpaaFr
import Derived.Test.YtcnkgodooignpaaProg
namespace Go.Proofs.Ytcnkgodooignpaa
open Go.Maps (Keyed)
open Go.RowKit Go.Proofs.YtcnkgodooignpaaW.PrintWords Go.Proofs.YtcnkgodooignpaaW.PrintLast Go.Proofs.YtcnkgodooignpaaW.PrintMore
set_option linter.unusedVariables false
abbrev Path := List UInt8
/-- What keys are bound to. -/
structure Bd where
  kind : Int
  name : ByteArray
  keys : ByteArray
def Bd.no : Bd := ⟨0, ⟨#[]⟩, ⟨#[]⟩⟩
def Bd.row (b : Bd) (m : Option Nat) : Array Value := #[.int .i64 b.kind, .string b.name, .string b.keys, .map m]
def Bd.v (b : Bd) : Value := .agg #[.int .i64 b.kind, .string b.name, .string b.keys]
/-- The children of a node, as its map has them. -/
def chdOf (L : Path → Bool) (ν : Path → Nat) (s : Path) : Lit → Option Value
  | .int .u8 x => if 0 ≤ x ∧ x < 256 then (if L (s ++ [UInt8.ofNat x.toNat]) then some (.pointer (some ⟨ν (s ++ [UInt8.ofNat x.toNat]), 0, none⟩)) else none) else none
  | _ => none
theorem chdOf_at (L : Path → Bool) (ν : Path → Nat) (s : Path) (u : UInt8) : chdOf L ν s (.int .u8 (u.toNat : Int)) = if L (s ++ [u]) then some (.pointer (some ⟨ν (s ++ [u]), 0, none⟩)) else none := by
  have := u.toNat_lt
  show (if 0 ≤ (u.toNat : Int) ∧ (u.toNat : Int) < 256 then (if L (s ++ [UInt8.ofNat (u.toNat : Int).toNat]) then some (Value.pointer (some ⟨ν (s ++ [UInt8.ofNat (u.toNat : Int).toNat]), 0, none⟩)) else none) else none) = _
  rw [if_pos (by omega), Int.toNat_natCast, UInt8.ofNat_toNat]
theorem lit_u8 {l : Lit} {L : Path → Bool} {ν : Path → Nat} {s : Path} (h : (chdOf L ν s l).isSome = true) : ∃ u : UInt8, l = .int .u8 (u.toNat : Int) ∧ L (s ++ [u]) = true := by
  unfold chdOf at h
  split at h
  · rename_i x
    split at h
    · rename_i hx
      split at h
      · rename_i hL
        refine ⟨UInt8.ofNat x.toNat, ?_, hL⟩
        congr 1
        rw [UInt8.toNat_ofNat']
        omega
      · cases h
    · cases h
  · cases h
/-- Two that agree on bytes are one. -/
theorem chd_ext {f g : Lit → Option Value} (hf : ∀ l, (f l).isSome = true → ∃ u : UInt8, l = .int .u8 (u.toNat : Int)) (hg : ∀ l, (g l).isSome = true → ∃ u : UInt8, l = .int .u8 (u.toNat : Int)) (h : ∀ u : UInt8, f (.int .u8 (u.toNat : Int)) = g (.int .u8 (u.toNat : Int))) : f = g := by
  funext l
  by_cases e : ∃ u : UInt8, l = .int .u8 (u.toNat : Int)
  · obtain ⟨u, rfl⟩ := e
    exact h u
  · have h1 : f l = none := by
      cases hc : f l with
      | none => rfl
      | some v => exact absurd (hf l (by rw [hc]; rfl)) e
    have h2 : g l = none := by
      cases hc : g l with
      | none => rfl
      | some v => exact absurd (hg l (by rw [hc]; rfl)) e
    rw [h1, h2]
theorem u8_inj {u v : UInt8} (h : (Lit.int .u8 (u.toNat : Int)) = .int .u8 (v.toNat : Int)) : u = v := by
  injection h with _ h
  exact UInt8.toNat_inj.1 (by omega)
theorem snoc_inj {s t : Path} {u v : UInt8} (h : s ++ [u] = t ++ [v]) : s = t ∧ u = v := by
  have := List.append_inj' h rfl
  exact ⟨this.1, by simpa using this.2⟩
/-- A trie: the paths that are there (L), their nodes' blocks (ν), the blocks of their maps (μ), what they are bound to (f); all of it in blocks of which own holds. -/
structure Tr (w : World) (own : Nat → Prop) (L : Path → Bool) (ν : Path → Nat) (μ : Path → Option Nat) (f : Path → Bd) : Prop where
  root : L [] = true
  box : ∀ s, L s = true → w.heap[ν s]? = some (.cells ((f s).row (μ s)) 88 (0, 0))
  chd : ∀ s b, L s = true → μ s = some b → ∃ c, Mh Try.prog 5 w b (chdOf L ν s) c
  leaf : ∀ s, L s = true → μ s = none → ∀ u, L (s ++ [u]) = false
  down : ∀ s u, L (s ++ [u]) = true → L s = true
  inj : ∀ s t, L s = true → L t = true → ν s = ν t → s = t
  injm : ∀ s t b, L s = true → L t = true → μ s = some b → μ t = some b → s = t
  own1 : ∀ s, L s = true → own (ν s)
  own2 : ∀ s b, L s = true → μ s = some b → own b
section
variable {w w' : World} {own : Nat → Prop} {L : Path → Bool} {ν : Path → Nat} {μ : Path → Option Nat} {f : Path → Bd}
theorem Tr.lt (h : Tr w own L ν μ f) {s : Path} (hs : L s = true) : ν s < w.heap.size := blk_lt (h.box s hs)
theorem Tr.ltm (h : Tr w own L ν μ f) {s : Path} (hs : L s = true) {b : Nat} (hb : μ s = some b) : b < w.heap.size := by
  obtain ⟨c, hc⟩ := h.chd s b hs hb
  exact hc.lt
/-- What it lies in lies as it lay. -/
theorem Tr.same (h : Tr w own L ν μ f) (hb : ∀ k, own k → k < w.heap.size → w'.heap[k]? = w.heap[k]?) : Tr w' own L ν μ f where
  root := h.root
  box s hs := (hb _ (h.own1 s hs) (h.lt hs)).trans (h.box s hs)
  chd s b hs hm := by
    obtain ⟨c, hc⟩ := h.chd s b hs hm
    exact ⟨c, hc.same (hb _ (h.own2 s b hs hm) hc.lt)⟩
  leaf := h.leaf
  down := h.down
  inj := h.inj
  injm := h.injm
  own1 := h.own1
  own2 := h.own2
theorem Tr.mono {own' : Nat → Prop} (h : Tr w own L ν μ f) (hb : ∀ k, own k → own' k) : Tr w own' L ν μ f := { h with own1 := fun s hs => hb _ (h.own1 s hs), own2 := fun s b hs hm => hb _ (h.own2 s b hs hm) }
theorem Tr.below (h : Tr w own L ν μ f) (hb : Below w.heap.size w w') : Tr w' own L ν μ f := h.same (fun k _ hk => hb.block k hk)
theorem Tr.fr {N : Nat → Prop} (h : Tr w own L ν μ f) (hf : Fr N w w') (hN : ∀ k, own k → ¬ N k) : Tr w' own L ν μ f := h.same (fun k ho hk => hf.block k hk (hN k ho))
/-- The cells of a node. -/
theorem Tr.c0 (h : Tr w own L ν μ f) {s : Path} (hs : L s = true) : w.cell? ⟨ν s, 0, none⟩ = some (.int .i64 (f s).kind) := (blk_cell (h.box s hs) 0).trans rfl
theorem Tr.c1 (h : Tr w own L ν μ f) {s : Path} (hs : L s = true) : w.cell? ⟨ν s, 1, none⟩ = some (.string (f s).name) := (blk_cell (h.box s hs) 1).trans rfl
theorem Tr.c2 (h : Tr w own L ν μ f) {s : Path} (hs : L s = true) : w.cell? ⟨ν s, 2, none⟩ = some (.string (f s).keys) := (blk_cell (h.box s hs) 2).trans rfl
theorem Tr.c3 (h : Tr w own L ν μ f) {s : Path} (hs : L s = true) : w.cell? ⟨ν s, 3, none⟩ = some (.map (μ s)) := (blk_cell (h.box s hs) 3).trans rfl
theorem Tr.fz (h : Tr w own L ν μ f) {s : Path} (hs : L s = true) (j : Nat) : w.frozen? ⟨ν s, j, none⟩ = false := blk_frozen (h.box s hs) j
/-- A node's block is no map's. -/
theorem Tr.ne (h : Tr w own L ν μ f) {s t : Path} (hs : L s = true) (ht : L t = true) {b : Nat} (hb : μ t = some b) : ν s ≠ b := by
  obtain ⟨c, hc⟩ := h.chd t b ht hb
  exact hc.ne (h.box s hs)

/-! ### what happens to it -/
def upd {α : Type} (g : Path → α) (s : Path) (a : α) : Path → α := fun t => if t = s then a else g t
theorem upd_same {α : Type} (g : Path → α) (s : Path) (a : α) : upd g s a s = a := if_pos rfl
theorem upd_other {α : Type} (g : Path → α) {s t : Path} (a : α) (h : t ≠ s) : upd g s a t = g t := if_neg h
/-- A node is given a map. -/
theorem Tr.newMap (h : Tr w own L ν μ f) {s : Path} (hs : L s = true) (hm : μ s = none) :
    Tr ((w.alloc (.map #[] 0)).setCell ⟨ν s, 3, none⟩ (.map (some w.heap.size))) (fun k => own k ∨ k = w.heap.size) L ν (upd μ s (some w.heap.size)) f where
  root := h.root
  box t ht := by
    by_cases e : t = s
    · subst e
      rw [upd_same]
      exact blk_put (cs := (f t).row (μ t)) (blk_alloc (h.box t ht) _) 3 _ rfl
    · rw [upd_other _ _ e]
      exact blk_far (blk_alloc (h.box t ht) _) (p := ⟨ν s, 3, none⟩) (fun e' => e (h.inj _ _ ht hs e')) _
  chd t b ht hb := by
    by_cases e : t = s
    · subst e
      rw [upd_same] at hb
      injection hb with hb
      subst hb
      have hl := h.leaf t hs hm
      have e : chdOf L ν t = fun _ => none := chd_ext (fun l hl' => (lit_u8 hl').imp fun _ x => x.1) (fun l hl' => by cases hl') (fun u => by rw [chdOf_at, hl u]; rfl)
      rw [e]
      exact ⟨0, (Mh.made Try.prog 5 w).set (p := ⟨ν t, 3, none⟩) (Nat.ne_of_lt (h.lt hs)) _⟩
    · rw [upd_other _ _ e] at hb
      obtain ⟨c, hc⟩ := h.chd t b ht hb
      exact ⟨c, (hc.alloc _).set (p := ⟨ν s, 3, none⟩) (h.ne hs ht hb) _⟩
  leaf t ht hb := by
    by_cases e : t = s
    · subst e
      rw [upd_same] at hb
      cases hb
    · rw [upd_other _ _ e] at hb
      exact h.leaf t ht hb
  down := h.down
  inj := h.inj
  injm t t' b ht ht' hb hb' := by
    by_cases e : t = s <;> by_cases e' : t' = s
    · rw [e, e']
    · subst e
      rw [upd_same] at hb
      rw [upd_other _ _ e'] at hb'
      injection hb with hb
      subst hb
      exact absurd (h.ltm ht' hb') (Nat.lt_irrefl _)
    · subst e'
      rw [upd_same] at hb'
      rw [upd_other _ _ e] at hb
      injection hb' with hb'
      subst hb'
      exact absurd (h.ltm ht hb) (Nat.lt_irrefl _)
    · rw [upd_other _ _ e] at hb
      rw [upd_other _ _ e'] at hb'
      exact h.injm _ _ _ ht ht' hb hb'
  own1 t ht := .inl (h.own1 t ht)
  own2 t b ht hb := by
    by_cases e : t = s
    · subst e
      rw [upd_same] at hb
      injection hb with hb
      exact .inr hb.symm
    · rw [upd_other _ _ e] at hb
      exact .inl (h.own2 t b ht hb)
/-- A node's binding is written anew. -/
theorem Tr.bind (h : Tr w own L ν μ f) {s : Path} (hs : L s = true) (x : Bd) (hbox : w'.heap[ν s]? = some (.cells (x.row (μ s)) 88 (0, 0))) (hk : ∀ k, k ≠ ν s → w'.heap[k]? = w.heap[k]?) : Tr w' own L ν μ (upd f s x) where
  root := h.root
  box t ht := by
    by_cases e : t = s
    · subst e
      rw [upd_same]
      exact hbox
    · rw [upd_other _ _ e]
      exact (hk _ (fun e' => e (h.inj _ _ ht hs e'))).trans (h.box t ht)
  chd t b ht hb := by
    obtain ⟨c, hc⟩ := h.chd t b ht hb
    exact ⟨c, hc.same (hk _ (fun e => h.ne hs ht hb e.symm))⟩
  leaf := h.leaf
  down := h.down
  inj := h.inj
  injm := h.injm
  own1 := h.own1
  own2 := h.own2
theorem ne_snoc (s : Path) (u : UInt8) : s ≠ s ++ [u] := fun e => by
  have := congrArg List.length e
  simp at this
/-- A node is given a child. -/
theorem Tr.addChild (h : Tr w own L ν μ f) {s : Path} (hs : L s = true) {b : Nat} (hm : μ s = some b) {u : UInt8} (hu : L (s ++ [u]) = false) {c : Nat} {w2 : World}
    (hM : Mh Try.prog 5 w2 b (putL (chdOf L ν s) (.int .u8 (u.toNat : Int)) (.pointer (some ⟨w.heap.size, 0, none⟩))) c) (hg : (w.alloc (.cells (Bd.no.row none) 88)).grownBy w2 (some b)) :
    Tr w2 (fun k => own k ∨ k = w.heap.size) (upd L (s ++ [u]) true) (upd ν (s ++ [u]) w.heap.size) (upd μ (s ++ [u]) none) (upd f (s ++ [u]) Bd.no) := by
  have hbl : b < w.heap.size := h.ltm hs hm
  have hold : ∀ k, k < w.heap.size → k ≠ b → w2.heap[k]? = w.heap[k]? := fun k hk hne =>
    (hg.block k (by simp; omega) (fun e => hne (Option.some.inj e))).trans (Below.heap_alloc _ _ _ hk)
  have hnew : w2.heap[w.heap.size]? = some (.cells (Bd.no.row none) 88 (0, 0)) :=
    (hg.block w.heap.size (by simp) (fun e => by have := Option.some.inj e; omega)).trans (blk_new _ _)
  have hLs : ∀ t, L t = true → t ≠ s ++ [u] := fun t ht e => by rw [e, hu] at ht; cases ht
  have hLL : ∀ t, upd L (s ++ [u]) true t = true → t ≠ s ++ [u] → L t = true := fun t ht e => by rwa [upd_other _ _ e] at ht
  refine ⟨?_, ?_, ?_, ?_, ?_, ?_, ?_, ?_, ?_⟩
  · rw [upd_other _ _ (by simp)]
    exact h.root
  · intro t ht
    by_cases e : t = s ++ [u]
    · subst e
      rw [upd_same, upd_same, upd_same]
      exact hnew
    · have hLt := hLL t ht e
      rw [upd_other _ _ e, upd_other _ _ e, upd_other _ _ e]
      exact (hold _ (h.lt hLt) (h.ne hLt hs hm)).trans (h.box t hLt)
  · intro t b' ht hb
    by_cases e : t = s ++ [u]
    · subst e
      rw [upd_same] at hb
      cases hb
    · have hLt := hLL t ht e
      rw [upd_other _ _ e] at hb
      by_cases e2 : t = s
      · subst e2
        rw [hm] at hb
        injection hb with hb
        subst hb
        refine ⟨c, ?_⟩
        have : chdOf (upd L (t ++ [u]) true) (upd ν (t ++ [u]) w.heap.size) t = putL (chdOf L ν t) (.int .u8 (u.toNat : Int)) (.pointer (some ⟨w.heap.size, 0, none⟩)) := by
          refine chd_ext (fun l hl => (lit_u8 hl).imp fun _ x => x.1) (fun l hl => ?_) (fun v => ?_)
          · by_cases e : l = .int .u8 (u.toNat : Int)
            · exact ⟨u, e⟩
            · rw [putL_other _ e] at hl
              exact (lit_u8 hl).imp fun _ x => x.1
          · rw [chdOf_at]
            by_cases ev : v = u
            · subst ev
              rw [upd_same, upd_same, if_pos rfl, putL_same _ (by trivial)]
            · have hne : t ++ [v] ≠ t ++ [u] := fun e => ev (snoc_inj e).2
              rw [upd_other _ _ hne, upd_other _ _ hne, putL_other _ (fun e => ev (u8_inj e)), chdOf_at]
        rw [this]
        exact hM
      · obtain ⟨c', hc'⟩ := h.chd t b' hLt hb
        refine ⟨c', ?_⟩
        have hbb : b' ≠ b := fun e => e2 (h.injm _ _ _ hLt hs (by rw [hb, e]) hm)
        have : chdOf (upd L (s ++ [u]) true) (upd ν (s ++ [u]) w.heap.size) t = chdOf L ν t := by
          refine chd_ext (fun l hl => (lit_u8 hl).imp fun _ x => x.1) (fun l hl => (lit_u8 hl).imp fun _ x => x.1) (fun v => ?_)
          have hne : t ++ [v] ≠ s ++ [u] := fun e => e2 (snoc_inj e).1
          rw [chdOf_at, chdOf_at, upd_other _ _ hne, upd_other _ _ hne]
        rw [this]
        exact hc'.same (hold _ hc'.lt hbb)
  · intro t ht hb v
    by_cases e : t = s ++ [u]
    · subst e
      rw [upd_other _ _ (Ne.symm (ne_snoc _ _))]
      cases hl : L (s ++ [u] ++ [v]) with
      | false => rfl
      | true => rw [h.down _ _ hl] at hu; cases hu
    · have hLt := hLL t ht e
      rw [upd_other _ _ e] at hb
      rw [upd_other _ _ (fun e' => by rw [(snoc_inj e').1, hm] at hb; cases hb)]
      exact h.leaf t hLt hb v
  · intro t v ht
    by_cases e : t = s ++ [u]
    · subst e; exact upd_same _ _ _
    · rw [upd_other _ _ e]
      by_cases e2 : t ++ [v] = s ++ [u]
      · rw [(snoc_inj e2).1]; exact hs
      · exact h.down t v (hLL _ ht e2)
  · intro t t' ht ht' hb
    by_cases e : t = s ++ [u] <;> by_cases e' : t' = s ++ [u]
    · rw [e, e']
    · rw [e, upd_same, upd_other _ _ e'] at hb
      have := h.lt (hLL t' ht' e')
      omega
    · rw [e', upd_same, upd_other _ _ e] at hb
      have := h.lt (hLL t ht e)
      omega
    · rw [upd_other _ _ e, upd_other _ _ e'] at hb
      exact h.inj _ _ (hLL t ht e) (hLL t' ht' e') hb
  · intro t t' b' ht ht' hb hb'
    by_cases e : t = s ++ [u]
    · rw [e, upd_same] at hb; cases hb
    · by_cases e' : t' = s ++ [u]
      · rw [e', upd_same] at hb'; cases hb'
      · rw [upd_other _ _ e] at hb
        rw [upd_other _ _ e'] at hb'
        exact h.injm _ _ _ (hLL t ht e) (hLL t' ht' e') hb hb'
  · intro t ht
    by_cases e : t = s ++ [u]
    · rw [e, upd_same]; exact .inr rfl
    · rw [upd_other _ _ e]; exact .inl (h.own1 t (hLL t ht e))
  · intro t b' ht hb
    by_cases e : t = s ++ [u]
    · rw [e, upd_same] at hb; cases hb
    · rw [upd_other _ _ e] at hb; exact .inl (h.own2 t b' (hLL t ht e) hb)
/-- A child that has none is taken away. -/
theorem Tr.delChild (h : Tr w own L ν μ f) {s : Path} (hs : L s = true) {b : Nat} (hm : μ s = some b) {u : UInt8} (hu : ∀ v, L (s ++ [u] ++ [v]) = false) {c : Nat} {w2 : World}
    (hM : Mh Try.prog 5 w2 b (delL (chdOf L ν s) (.int .u8 (u.toNat : Int))) c) (hg : w.grownBy w2 (some b)) :
    Tr w2 own (upd L (s ++ [u]) false) ν μ f := by
  have hLL : ∀ t, upd L (s ++ [u]) false t = true → L t = true ∧ t ≠ s ++ [u] := fun t ht => by
    by_cases e : t = s ++ [u]
    · rw [e, upd_same] at ht; cases ht
    · rw [upd_other _ _ e] at ht; exact ⟨ht, e⟩
  have hold : ∀ k, k < w.heap.size → k ≠ b → w2.heap[k]? = w.heap[k]? := fun k hk hne => hg.block k hk (fun e => hne (Option.some.inj e))
  refine ⟨?_, ?_, ?_, ?_, ?_, ?_, ?_, ?_, ?_⟩
  · rw [upd_other _ _ (by simp)]
    exact h.root
  · intro t ht
    have hLt := (hLL t ht).1
    exact (hold _ (h.lt hLt) (h.ne hLt hs hm)).trans (h.box t hLt)
  · intro t b' ht hb
    have hLt := (hLL t ht).1
    by_cases e2 : t = s
    · subst e2
      rw [hm] at hb
      injection hb with hb
      subst hb
      refine ⟨c, ?_⟩
      have : chdOf (upd L (t ++ [u]) false) ν t = delL (chdOf L ν t) (.int .u8 (u.toNat : Int)) := by
        refine chd_ext (fun l hl => (lit_u8 hl).imp fun _ x => x.1) (fun l hl => ?_) (fun v => ?_)
        · by_cases e : l = .int .u8 (u.toNat : Int)
          · rw [e, delL_same _ (by trivial)] at hl
            cases hl
          · rw [delL_other _ e] at hl
            exact (lit_u8 hl).imp fun _ x => x.1
        · rw [chdOf_at]
          by_cases ev : v = u
          · subst ev
            rw [upd_same, delL_same _ (by trivial)]
            rfl
          · have hne : t ++ [v] ≠ t ++ [u] := fun e => ev (snoc_inj e).2
            rw [upd_other _ _ hne, delL_other _ (fun e => ev (u8_inj e)), chdOf_at]
      rw [this]
      exact hM
    · obtain ⟨c', hc'⟩ := h.chd t b' hLt hb
      refine ⟨c', ?_⟩
      have hbb : b' ≠ b := fun e => e2 (h.injm _ _ _ hLt hs (by rw [hb, e]) hm)
      have : chdOf (upd L (s ++ [u]) false) ν t = chdOf L ν t := by
        refine chd_ext (fun l hl => (lit_u8 hl).imp fun _ x => x.1) (fun l hl => (lit_u8 hl).imp fun _ x => x.1) (fun v => ?_)
        have hne : t ++ [v] ≠ s ++ [u] := fun e => e2 (snoc_inj e).1
        rw [chdOf_at, chdOf_at, upd_other _ _ hne]
      rw [this]
      exact hc'.same (hold _ hc'.lt hbb)
  · intro t ht hb v
    have hLt := (hLL t ht).1
    by_cases e : t ++ [v] = s ++ [u]
    · rw [e, upd_same]
    · rw [upd_other _ _ e]; exact h.leaf t hLt hb v
  · intro t v ht
    obtain ⟨h1, h2⟩ := hLL _ ht
    rw [upd_other _ _ (fun e => by subst e; rw [hu v] at h1; cases h1)]
    exact h.down t v h1
  · intro t t' ht ht' hb
    exact h.inj _ _ (hLL t ht).1 (hLL t' ht').1 hb
  · intro t t' b' ht ht' hb hb'
    exact h.injm _ _ _ (hLL t ht).1 (hLL t' ht').1 hb hb'
  · intro t ht
    exact h.own1 t (hLL t ht).1
  · intro t b' ht hb
    exact h.own2 t b' (hLL t ht).1 hb
end
end Go.Proofs.Ytcnkgodooignpaa
