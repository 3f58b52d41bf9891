/-
  A range over a function that hands over nothing.
-/
import Derived.Test.YtbjdjbhmafmnbaaHD
import Derived.Test.YtbjdjbhmafmnbaaWD
namespace Go.Proofs.Ytbjdjbhmafmnbaa
open Go.RowKit
set_option linter.unusedVariables false
variable {F : Fence} {n : Nat} {P : Program}
theorem range_none {α : Type} {g : Operand} {ps : Array Tmp} {body : Code} {Q : Exit → Act → World → Prop} {a : Act} {w : World}
    (hro : F.round = none) (h1 : 1 ≤ n) {gf : Nat} {lb : Array Value} (hg : a.eval g = .func (.func gf) #[] lb) (hFg : F.fn gf) (eg : ∀ args w, (callFunc gf args).run P w = .ok (.enter gf args) w)
    {encs : α → Array Value} {X : List α → α → World → Prop} {Kp : World → World → Prop} {S Sp : List α → Prop} (hseq : SeqX F (n - 1) P gf lb encs X Kp S Sp w) (hno : ∀ p x W, ¬ X p x W)
    (hKt : ∀ {A B C : World}, Kp A B → Kp B C → Kp A C) (hKb : ∀ (W : World) (l : Nat) (o o' : Obj), w.heap.size ≤ l → W.heap[l]? = some o → o.isCells = false → o.isWalk = false → Kp W (W.putObj l o'))
    (hps : ∀ x, (encs x).size = ps.size)
    (hdone : ∀ (D : Nat) (W : World), w.heap.size ≤ D → Below w.heap.size w W → W.heap[D]? = some (.deferred (some [])) → Q .normal { a with defers := { target := .collected D, args := #[] } :: a.defers } W) :
    (Code.rangeFunc g ps Code.skip body).wpIn F n P Q a w := by
  refine range_law hro h1 hg hFg eg hseq (fun p x s W W' row hs _ _ => absurd hs (hno _ _ _)) hKt hKb hps (fun _ W => Below w.heap.size w W) (fun _ _ _ => False) ?_ (fun _ _ _ _ _ hs _ _ => hs) (Below.refl _ _)
    (fun x => { tmps := (ps.zip (encs x)).foldl (fun t (p, v) => t.setIfInBounds p v) a.tmps, defers := [] }) ?_ (fun l pre x W _ hX => absurd hX (hno _ _ _)) (fun D xs W hD _ hW hK => hdone D W hD hW hK) (fun _ _ _ _ _ _ h _ => h.elim)
  · intro pre X Y row hs hg hr
    exact hs.grown hg hs.size (fun k e => (hr k e).1)
  · intro l x W K hK
    refine wpIn_skip ?_
    exact hK
end Go.Proofs.Ytbjdjbhmafmnbaa
