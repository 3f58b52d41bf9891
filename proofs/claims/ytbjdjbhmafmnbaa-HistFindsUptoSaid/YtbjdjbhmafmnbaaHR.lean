/-
  A loop over a function: the round is told a fact on what it is handed, after what was handed over before, in the world of the call.
-/
import Derived.RangeFuncNested
import Derived.RangeFuncCalls
namespace Go.Proofs.Ytbjdjbhmafmnbaa
open Go.RowKit
set_option linter.unusedVariables false
variable {F : Fence} {n : Nat} {P : Program}

/-- The function calls yield with encs x where X pre x holds. -/
def SeqX {α : Type} (F : Fence) (n : Nat) (P : Program) (gf : Nat) (lb : Array Value) (encs : α → Array Value) (X : List α → α → World → Prop) (Kp : World → World → Prop) (S Sp : List α → Prop) (w : World) : Prop :=
  ∀ (l : Nat) (J Jx : List α → World → Prop) (W : World), Below w.heap.size w W → AbidesFrom W.heap.size J → AbidesFrom W.heap.size Jx → J [] W →
    (∀ pre x V, J pre V → X pre x V → YieldAt F (n - 1) P l (encs x) V fun e V' => (e = .returned (.bool true) ∧ J (pre ++ [x]) V' ∧ Kp V V') ∨ (e = .returned (.bool false) ∧ Jx (pre ++ [x]) V')) →
    CallsIn F n P gf (#[.func (.yield l) #[] #[]] ++ lb) W fun e W' => (∃ v, e = .returned v) ∧ ((∃ xs, S xs ∧ J xs W') ∨ (∃ pre, Sp pre ∧ Jx pre W'))

/-- The loop's two blocks: its record, and the rounds' deferred calls. -/
def Books (b : Nat) (r : Loop) (W : World) : Prop := W.heap[b + 1]? = some (.loop r) ∧ W.heap[b]? = some (.deferred (some []))
theorem Books.lt {b : Nat} {r : Loop} {W : World} (h : Books b r W) : b + 1 < W.heap.size := (Array.getElem?_eq_some_iff.1 h.1).1
theorem Books.put {b : Nat} {r : Loop} {W : World} (h : Books b r W) (r' : Loop) : Books b r' (W.putObj (b + 1) (.loop r')) :=
  ⟨World.putObj_heap_same h.lt, (World.putObj_heap_other (by omega)).trans h.2⟩
theorem Books.keeps {b B : Nat} {r : Loop} {W W' : World} (h : Books b r W) (hk : KeepsFrom B W W') (hB : B ≤ b) : Books b r W' :=
  ⟨hk.same _ _ (by omega) h.1 rfl, hk.same _ _ hB h.2 rfl⟩
theorem Books.walks {b : Nat} {r : Loop} {W W' : World} {row : Option Nat} (h : Books b r W) (hg : W.grownBy W' row) (hr : ∀ k, row = some k → ∃ o : Obj, W.heap[k]? = some o ∧ o.isWalk = true) : Books b r W' :=
  ⟨(grownBy_keeps hg hr h.1 rfl).trans h.1, (grownBy_keeps hg hr h.2 rfl).trans h.2⟩
theorem OwnFrom.books {β : Type} {b : Nat} {r : Loop} {W : World} {I : β → World → Prop} {s : β} (h : OwnFrom b I) (hs : I s W) (hb : Books b r W) (r' : Loop) : I s (W.putObj (b + 1) (.loop r')) :=
  h.putObj _ hs (by omega) hb.1 rfl

/-- One round. -/
theorem round_law {α : Type} {ps : Array Tmp} {assign body : Code} {fn : FuncId} {tmps : Array Value} (hfn : F.fn fn) {encs : α → Array Value} {X : List α → α → World → Prop} {Kp : World → World → Prop} {b : Nat}
    (hX : ∀ p x, OwnFrom b (fun (_ : Unit) W => X p x W)) (hKt : ∀ {A B C : World}, Kp A B → Kp B C → Kp A C) (hKb : ∀ (W : World) (l : Nat) (o o' : Obj), b ≤ l → W.heap[l]? = some o → o.isCells = false → o.isWalk = false → Kp W (W.putObj l o'))
    {I : List α → World → Prop} {Ix : Code → List α → World → Prop} (hI : OwnFrom b I) (hIx : ∀ c, OwnFrom b (Ix c)) (a₁ : α → Act) (x : α) (pre : List α) (hps : (encs x).size = ps.size)
    (hassign : ∀ (W : World) (K : Act → World → Prop), K (a₁ x) W → assign.wpIn (F.inRound (b + 1)) n P (Exit.then K (fun _ _ _ => False)) { tmps := (ps.zip (encs x)).foldl (fun t (p, v) => t.setIfInBounds p v) tmps, defers := [] } W)
    (hbody : ∀ (W : World), I pre W → X pre x W → body.wpIn (F.inRound (b + 1)) n P (ownPostG b Kp I Ix (pre ++ [x]) W) (a₁ x) W)
    {W : World} (hi : I pre W) (hx : X pre x W) (hb : Books b { state := .ready, pending := none, fn, tmps, params := ps, assign, body, defers := b } W) :
    YieldAt F n P (b + 1) (encs x) W fun e W' => (e = .returned (.bool true) ∧ (I (pre ++ [x]) W' ∧ Books b { state := .ready, pending := none, fn, tmps, params := ps, assign, body, defers := b } W') ∧ Kp W W') ∨
      (e = .returned (.bool false) ∧ ∃ c, Ix c (pre ++ [x]) W' ∧ Books b { state := .done, pending := some c, fn, tmps, params := ps, assign, body, defers := b } W') := by
  refine ⟨fn, _, assign, body, run_yield (P := P) hb.1 hps, roundIn_of_wpIn hfn (hassign W _ ?_)⟩
  refine ⟨_, run_beginRound hb.1 rfl, ?_⟩
  have hb2 := hb.put { state := .busy, pending := none, fn, tmps, params := ps, assign, body, defers := b }
  have hk2 := hKb W (b + 1) _ (.loop { state := .busy, pending := none, fn, tmps, params := ps, assign, body, defers := b }) (by omega) hb.1 rfl rfl
  refine wpIn_mono (hbody _ (OwnFrom.books hI hi hb _) (OwnFrom.books (s := ()) (hX pre x) hx hb _)) ?_
  intro e a3 W3 hp
  cases e with
  | normal =>
    obtain ⟨h3, k3, i3⟩ := hp
    have hb3 := hb2.keeps h3 (Nat.le_refl _)
    exact ⟨_, _, run_endRound none hb3.1, .inl ⟨rfl, ⟨OwnFrom.books hI i3 hb3 _, hb3.put _⟩, hKt (hKt hk2 k3) (hKb _ _ _ _ (by omega) hb3.1 rfl rfl)⟩⟩
  | ret =>
    obtain ⟨h3, i3⟩ := hp
    have hb3 := hb2.keeps h3 (Nat.le_refl _)
    exact ⟨_, _, run_endRound (some .ret) hb3.1, .inr ⟨rfl, .ret, OwnFrom.books (hIx _) i3 hb3 _, hb3.put _⟩⟩
  | exit id =>
    obtain ⟨h3, i3⟩ := hp
    have hb3 := hb2.keeps h3 (Nat.le_refl _)
    exact ⟨_, _, run_endRound (some (.exit id)) hb3.1, .inr ⟨rfl, .exit id, OwnFrom.books (hIx _) i3 hb3 _, hb3.put _⟩⟩
  | goto t =>
    obtain ⟨h3, i3⟩ := hp
    have hb3 := hb2.keeps h3 (Nat.le_refl _)
    exact ⟨_, _, run_endRound (some (.goto t)) hb3.1, .inr ⟨rfl, .goto t, OwnFrom.books (hIx _) i3 hb3 _, hb3.put _⟩⟩
  | panic _ => exact hp.elim
  | outgrown => exact hp.elim

/-- The loop. -/
theorem range_law {α : Type} {g : Operand} {ps : Array Tmp} {assign body : Code} {Q : Exit → Act → World → Prop} {a : Act} {w : World}
    (hro : F.round = none) (h1 : 1 ≤ n) {gf : Nat} {lb : Array Value} (hg : a.eval g = .func (.func gf) #[] lb) (hFg : F.fn gf) (eg : ∀ args w, (callFunc gf args).run P w = .ok (.enter gf args) w)
    {encs : α → Array Value} {X : List α → α → World → Prop} {Kp : World → World → Prop} {S Sp : List α → Prop} (hseq : SeqX F (n - 1) P gf lb encs X Kp S Sp w)
    (hX : ∀ p x, OwnFrom w.heap.size (fun (_ : Unit) W => X p x W)) (hKt : ∀ {A B C : World}, Kp A B → Kp B C → Kp A C) (hKb : ∀ (W : World) (l : Nat) (o o' : Obj), w.heap.size ≤ l → W.heap[l]? = some o → o.isCells = false → o.isWalk = false → Kp W (W.putObj l o'))
    (hps : ∀ x, (encs x).size = ps.size) (I : List α → World → Prop) (Ix : Code → List α → World → Prop) (hI : OwnFrom w.heap.size I) (hIx : ∀ c, OwnFrom w.heap.size (Ix c)) (h0 : I [] w) (a₁ : α → Act)
    (hassign : ∀ (l : Nat) (x : α) (W : World) (K : Act → World → Prop), K (a₁ x) W → assign.wpIn (F.inRound l) (n - 1 - 1) P (Exit.then K (fun _ _ _ => False)) { tmps := (ps.zip (encs x)).foldl (fun t (p, v) => t.setIfInBounds p v) a.tmps, defers := [] } W)
    (hbody : ∀ (l : Nat) (pre : List α) (x : α) (W : World), I pre W → X pre x W → body.wpIn (F.inRound l) (n - 1 - 1) P (ownPostG w.heap.size Kp I Ix (pre ++ [x]) W) (a₁ x) W)
    (hdone : ∀ (D : Nat) (xs : List α) (W : World), w.heap.size ≤ D → S xs → I xs W → W.heap[D]? = some (.deferred (some [])) → Q .normal { a with defers := { target := .collected D, args := #[] } :: a.defers } W)
    (hstop : ∀ (D : Nat) (c : Code) (pre : List α) (W : World), w.heap.size ≤ D → Sp pre → Ix c pre W → W.heap[D]? = some (.deferred (some [])) → c.wpIn F n P Q { a with defers := { target := .collected D, args := #[] } :: a.defers } W) :
    (Code.rangeFunc g ps assign body).wpIn F n P Q a w := by
  refine wpIn_rangeFunc ?_
  intro fn hfn
  rw [hro]
  have hB : Books w.heap.size { state := .ready, pending := none, fn, tmps := a.tmps, params := ps, assign, body, defers := w.heap.size }
      ((w.alloc (.deferred (some []))).alloc (.loop { state := .ready, pending := none, fn, tmps := a.tmps, params := ps, assign, body, defers := w.heap.size })) := by
    refine ⟨?_, (Below.heap_alloc _ _ _ (by simp)).trans (World.alloc_heap_new w _)⟩
    have := World.alloc_heap_new (w.alloc (.deferred (some []))) (.loop { state := .ready, pending := none, fn, tmps := a.tmps, params := ps, assign, body, defers := w.heap.size })
    rwa [World.size_alloc] at this
  have hrun := run_enterLoop_outer (P := P) (w := w) fn a.tmps ps assign body
  have hI1 := hI.alloc (.loop { state := .ready, pending := none, fn, tmps := a.tmps, params := ps, assign, body, defers := w.heap.size }) (hI.alloc (.deferred (some [])) h0)
  have hb1 : Below w.heap.size w ((w.alloc (.deferred (some []))).alloc (.loop { state := .ready, pending := none, fn, tmps := a.tmps, params := ps, assign, body, defers := w.heap.size })) :=
    ((Below.refl _ w).alloc (Nat.le_refl _) _).alloc (by simp) _
  have hle : w.heap.size ≤ ((w.alloc (.deferred (some []))).alloc (.loop { state := .ready, pending := none, fn, tmps := a.tmps, params := ps, assign, body, defers := w.heap.size })).heap.size := hb1.size
  generalize (w.alloc (.deferred (some []))).alloc (.loop { state := .ready, pending := none, fn, tmps := a.tmps, params := ps, assign, body, defers := w.heap.size }) = W1 at hB hrun hI1 hb1 hle
  refine ⟨w.heap.size + 1, [{ target := .collected w.heap.size, args := #[] }], W1, { target := .fn (.func gf) lb, args := #[.func (.yield (w.heap.size + 1)) #[] #[]] }, W1, gf,
    #[.func (.yield (w.heap.size + 1)) #[] #[]] ++ lb, W1, hrun, ?_, ?_, ?_, fun _ => h1, ?_⟩
  · simp only [resolve, hg]
    simp [go_sem]
  · intro f' hf'
    simp [Target.leads] at hf'
    subst hf'
    exact hFg
  · simp [invoke, go_sem, eg]
  · have hnc : ∀ {A : World} {row : Option Nat}, (∀ r, row = some r → W1.heap.size ≤ r ∧ ∃ o : Obj, A.heap[r]? = some o ∧ o.isWalk = true) → (∀ r, row = some r → w.heap.size ≤ r ∧ ∃ o : Obj, A.heap[r]? = some o ∧ o.isCells = false) :=
      fun hr r e => by
        obtain ⟨hB, o, ho, hw⟩ := hr r e
        exact ⟨Nat.le_trans hle hB, o, ho, Obj.not_cells_of_walk hw⟩
    refine (hseq (w.heap.size + 1) (fun pre W => I pre W ∧ Books w.heap.size _ W) (fun pre W => ∃ c, Ix c pre W ∧ Books w.heap.size { state := .done, pending := some c, fn, tmps := a.tmps, params := ps, assign, body, defers := w.heap.size } W)
      W1 hb1 (fun s A B row hs hg' hr => ⟨hI s A B row hs.1 hg' (hnc hr), hs.2.walks hg' (fun k e => (hr k e).2)⟩)
      (fun s A B row hs hg' hr => by
        obtain ⟨c, hc, hk⟩ := hs
        exact ⟨c, hIx c s A B row hc hg' (hnc hr), hk.walks hg' (fun k e => (hr k e).2)⟩)
      ⟨hI1, hB⟩ (fun pre x V hj hx => round_law (Kp := Kp) hfn hX (fun h k => hKt h k) hKb hI hIx a₁ x pre (hps x) (fun W K hK => hassign _ x W K hK) (fun W hi hx => hbody _ pre x W hi hx) hj.1 hx hj.2)).mono ?_
    rintro e W2 ⟨⟨v, rfl⟩, (⟨xs, hS, hi, hk⟩ | ⟨pre, hSp, c, hi, hk⟩)⟩
    · exact ⟨none, _, run_endLoop hk.1 (by simp), hdone _ xs _ (Nat.le_refl _) hS (OwnFrom.books hI hi hk _) (hk.put _).2⟩
    · exact ⟨some c, _, run_endLoop hk.1 (by simp), hstop _ c pre _ (Nat.le_refl _) hSp (OwnFrom.books (hIx c) hi hk _) (hk.put _).2⟩
/-- One round, where what is assigned is put into a new block. -/
theorem round_lawA {α : Type} {ps : Array Tmp} {assign body : Code} {fn : FuncId} {tmps : Array Value} (hfn : F.fn fn) {encs : α → Array Value} {X : List α → α → World → Prop} {Kp : World → World → Prop} {b : Nat}
    (hX : ∀ p x, OwnFrom b (fun (_ : Unit) W => X p x W)) (hKt : ∀ {A B C : World}, Kp A B → Kp B C → Kp A C) (hKb : ∀ (W : World) (l : Nat) (o o' : Obj), b ≤ l → W.heap[l]? = some o → o.isCells = false → o.isWalk = false → Kp W (W.putObj l o'))
    (hKa : ∀ (W : World) (o : Obj), Kp W (W.alloc o)) {I : List α → World → Prop} {Ix : Code → List α → World → Prop} (hI : OwnFrom b I) (hIx : ∀ c, OwnFrom b (Ix c)) (a₁ : α → Nat → Act) (ob : α → Obj) (x : α) (pre : List α) (hps : (encs x).size = ps.size)
    (hassign : ∀ (W : World) (K : Act → World → Prop), K (a₁ x W.heap.size) (W.alloc (ob x)) → assign.wpIn (F.inRound (b + 1)) n P (Exit.then K (fun _ _ _ => False)) { tmps := (ps.zip (encs x)).foldl (fun t (p, v) => t.setIfInBounds p v) tmps, defers := [] } W)
    (hbody : ∀ (g : Nat) (W : World), I pre W → X pre x W → b ≤ g → W.heap[g]? = some (ob x) → body.wpIn (F.inRound (b + 1)) n P (ownPostG b Kp I Ix (pre ++ [x]) W) (a₁ x g) W)
    {W : World} (hi : I pre W) (hx : X pre x W) (hb : Books b { state := .ready, pending := none, fn, tmps, params := ps, assign, body, defers := b } W) :
    YieldAt F n P (b + 1) (encs x) W fun e W' => (e = .returned (.bool true) ∧ (I (pre ++ [x]) W' ∧ Books b { state := .ready, pending := none, fn, tmps, params := ps, assign, body, defers := b } W') ∧ Kp W W') ∨
      (e = .returned (.bool false) ∧ ∃ c, Ix c (pre ++ [x]) W' ∧ Books b { state := .done, pending := some c, fn, tmps, params := ps, assign, body, defers := b } W') := by
  refine ⟨fn, _, assign, body, run_yield (P := P) hb.1 hps, roundIn_of_wpIn hfn (hassign W _ ?_)⟩
  have hgA : W.grownBy (W.alloc (ob x)) none := World.grownBy_alloc W _ none
  have hbA := hb.walks hgA (fun k e => by cases e)
  have hiA := hI.alloc (ob x) hi
  have hxA := (hX pre x).alloc (s := ()) (ob x) hx
  have hnew := World.alloc_heap_new W (ob x)
  have hlt := hb.lt
  refine ⟨_, run_beginRound hbA.1 rfl, ?_⟩
  have hb2 := hbA.put { state := .busy, pending := none, fn, tmps, params := ps, assign, body, defers := b }
  have hk2 := hKt (hKa W (ob x)) (hKb (W.alloc (ob x)) (b + 1) _ (.loop { state := .busy, pending := none, fn, tmps, params := ps, assign, body, defers := b }) (by omega) hbA.1 rfl rfl)
  refine wpIn_mono (hbody W.heap.size _ (OwnFrom.books hI hiA hbA _) (OwnFrom.books (s := ()) (hX pre x) hxA hbA _) (by omega) ((World.putObj_heap_other (by omega)).trans hnew)) ?_
  intro e a3 W3 hp
  cases e with
  | normal =>
    obtain ⟨h3, k3, i3⟩ := hp
    have hb3 := hb2.keeps h3 (Nat.le_refl _)
    exact ⟨_, _, run_endRound none hb3.1, .inl ⟨rfl, ⟨OwnFrom.books hI i3 hb3 _, hb3.put _⟩, hKt (hKt hk2 k3) (hKb _ _ _ _ (by omega) hb3.1 rfl rfl)⟩⟩
  | ret =>
    obtain ⟨h3, i3⟩ := hp
    have hb3 := hb2.keeps h3 (Nat.le_refl _)
    exact ⟨_, _, run_endRound (some .ret) hb3.1, .inr ⟨rfl, .ret, OwnFrom.books (hIx _) i3 hb3 _, hb3.put _⟩⟩
  | exit id =>
    obtain ⟨h3, i3⟩ := hp
    have hb3 := hb2.keeps h3 (Nat.le_refl _)
    exact ⟨_, _, run_endRound (some (.exit id)) hb3.1, .inr ⟨rfl, .exit id, OwnFrom.books (hIx _) i3 hb3 _, hb3.put _⟩⟩
  | goto t =>
    obtain ⟨h3, i3⟩ := hp
    have hb3 := hb2.keeps h3 (Nat.le_refl _)
    exact ⟨_, _, run_endRound (some (.goto t)) hb3.1, .inr ⟨rfl, .goto t, OwnFrom.books (hIx _) i3 hb3 _, hb3.put _⟩⟩
  | panic _ => exact hp.elim
  | outgrown => exact hp.elim

/-- The loop, where what is assigned is put into a new block. -/
theorem range_lawA {α : Type} {g : Operand} {ps : Array Tmp} {assign body : Code} {Q : Exit → Act → World → Prop} {a : Act} {w : World}
    (hro : F.round = none) (h1 : 1 ≤ n) {gf : Nat} {lb : Array Value} (hg : a.eval g = .func (.func gf) #[] lb) (hFg : F.fn gf) (eg : ∀ args w, (callFunc gf args).run P w = .ok (.enter gf args) w)
    {encs : α → Array Value} {X : List α → α → World → Prop} {Kp : World → World → Prop} {S Sp : List α → Prop} (hseq : SeqX F (n - 1) P gf lb encs X Kp S Sp w)
    (hX : ∀ p x, OwnFrom w.heap.size (fun (_ : Unit) W => X p x W)) (hKt : ∀ {A B C : World}, Kp A B → Kp B C → Kp A C) (hKb : ∀ (W : World) (l : Nat) (o o' : Obj), w.heap.size ≤ l → W.heap[l]? = some o → o.isCells = false → o.isWalk = false → Kp W (W.putObj l o'))
    (hKa : ∀ (W : World) (o : Obj), Kp W (W.alloc o)) (hps : ∀ x, (encs x).size = ps.size) (I : List α → World → Prop) (Ix : Code → List α → World → Prop) (hI : OwnFrom w.heap.size I) (hIx : ∀ c, OwnFrom w.heap.size (Ix c)) (h0 : I [] w) (a₁ : α → Nat → Act) (ob : α → Obj)
    (hassign : ∀ (l : Nat) (x : α) (W : World) (K : Act → World → Prop), K (a₁ x W.heap.size) (W.alloc (ob x)) → assign.wpIn (F.inRound l) (n - 1 - 1) P (Exit.then K (fun _ _ _ => False)) { tmps := (ps.zip (encs x)).foldl (fun t (p, v) => t.setIfInBounds p v) a.tmps, defers := [] } W)
    (hbody : ∀ (l : Nat) (pre : List α) (x : α) (g : Nat) (W : World), I pre W → X pre x W → w.heap.size ≤ g → W.heap[g]? = some (ob x) → body.wpIn (F.inRound l) (n - 1 - 1) P (ownPostG w.heap.size Kp I Ix (pre ++ [x]) W) (a₁ x g) W)
    (hdone : ∀ (D : Nat) (xs : List α) (W : World), w.heap.size ≤ D → S xs → I xs W → W.heap[D]? = some (.deferred (some [])) → Q .normal { a with defers := { target := .collected D, args := #[] } :: a.defers } W)
    (hstop : ∀ (D : Nat) (c : Code) (pre : List α) (W : World), w.heap.size ≤ D → Sp pre → Ix c pre W → W.heap[D]? = some (.deferred (some [])) → c.wpIn F n P Q { a with defers := { target := .collected D, args := #[] } :: a.defers } W) :
    (Code.rangeFunc g ps assign body).wpIn F n P Q a w := by
  refine wpIn_rangeFunc ?_
  intro fn hfn
  rw [hro]
  have hB : Books w.heap.size { state := .ready, pending := none, fn, tmps := a.tmps, params := ps, assign, body, defers := w.heap.size }
      ((w.alloc (.deferred (some []))).alloc (.loop { state := .ready, pending := none, fn, tmps := a.tmps, params := ps, assign, body, defers := w.heap.size })) := by
    refine ⟨?_, (Below.heap_alloc _ _ _ (by simp)).trans (World.alloc_heap_new w _)⟩
    have := World.alloc_heap_new (w.alloc (.deferred (some []))) (.loop { state := .ready, pending := none, fn, tmps := a.tmps, params := ps, assign, body, defers := w.heap.size })
    rwa [World.size_alloc] at this
  have hrun := run_enterLoop_outer (P := P) (w := w) fn a.tmps ps assign body
  have hI1 := hI.alloc (.loop { state := .ready, pending := none, fn, tmps := a.tmps, params := ps, assign, body, defers := w.heap.size }) (hI.alloc (.deferred (some [])) h0)
  have hb1 : Below w.heap.size w ((w.alloc (.deferred (some []))).alloc (.loop { state := .ready, pending := none, fn, tmps := a.tmps, params := ps, assign, body, defers := w.heap.size })) :=
    ((Below.refl _ w).alloc (Nat.le_refl _) _).alloc (by simp) _
  have hle : w.heap.size ≤ ((w.alloc (.deferred (some []))).alloc (.loop { state := .ready, pending := none, fn, tmps := a.tmps, params := ps, assign, body, defers := w.heap.size })).heap.size := hb1.size
  generalize (w.alloc (.deferred (some []))).alloc (.loop { state := .ready, pending := none, fn, tmps := a.tmps, params := ps, assign, body, defers := w.heap.size }) = W1 at hB hrun hI1 hb1 hle
  refine ⟨w.heap.size + 1, [{ target := .collected w.heap.size, args := #[] }], W1, { target := .fn (.func gf) lb, args := #[.func (.yield (w.heap.size + 1)) #[] #[]] }, W1, gf,
    #[.func (.yield (w.heap.size + 1)) #[] #[]] ++ lb, W1, hrun, ?_, ?_, ?_, fun _ => h1, ?_⟩
  · simp only [resolve, hg]
    simp [go_sem]
  · intro f' hf'
    simp [Target.leads] at hf'
    subst hf'
    exact hFg
  · simp [invoke, go_sem, eg]
  · have hnc : ∀ {A : World} {row : Option Nat}, (∀ r, row = some r → W1.heap.size ≤ r ∧ ∃ o : Obj, A.heap[r]? = some o ∧ o.isWalk = true) → (∀ r, row = some r → w.heap.size ≤ r ∧ ∃ o : Obj, A.heap[r]? = some o ∧ o.isCells = false) :=
      fun hr r e => by
        obtain ⟨hB, o, ho, hw⟩ := hr r e
        exact ⟨Nat.le_trans hle hB, o, ho, Obj.not_cells_of_walk hw⟩
    refine (hseq (w.heap.size + 1) (fun pre W => I pre W ∧ Books w.heap.size _ W) (fun pre W => ∃ c, Ix c pre W ∧ Books w.heap.size { state := .done, pending := some c, fn, tmps := a.tmps, params := ps, assign, body, defers := w.heap.size } W)
      W1 hb1 (fun s A B row hs hg' hr => ⟨hI s A B row hs.1 hg' (hnc hr), hs.2.walks hg' (fun k e => (hr k e).2)⟩)
      (fun s A B row hs hg' hr => by
        obtain ⟨c, hc, hk⟩ := hs
        exact ⟨c, hIx c s A B row hc hg' (hnc hr), hk.walks hg' (fun k e => (hr k e).2)⟩)
      ⟨hI1, hB⟩ (fun pre x V hj hx => round_lawA (Kp := Kp) hfn hX (fun h k => hKt h k) hKb hKa hI hIx a₁ ob x pre (hps x) (fun W K hK => hassign _ x W K hK) (fun g W hi hx hg ho => hbody _ pre x g W hi hx hg ho) hj.1 hx hj.2)).mono ?_
    rintro e W2 ⟨⟨v, rfl⟩, (⟨xs, hS, hi, hk⟩ | ⟨pre, hSp, c, hi, hk⟩)⟩
    · exact ⟨none, _, run_endLoop hk.1 (by simp), hdone _ xs _ (Nat.le_refl _) hS (OwnFrom.books hI hi hk _) (hk.put _).2⟩
    · exact ⟨some c, _, run_endLoop hk.1 (by simp), hstop _ c pre _ (Nat.le_refl _) hSp (OwnFrom.books (hIx c) hi hk _) (hk.put _).2⟩
end Go.Proofs.Ytbjdjbhmafmnbaa
