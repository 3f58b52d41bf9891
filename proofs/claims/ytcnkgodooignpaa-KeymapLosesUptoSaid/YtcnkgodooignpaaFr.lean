/-
  What a call has changed: nothing but the blocks of which N holds, and new ones.
-/
import Derived.Test.YtcnkgodooignpaaPAllx3
import Derived.Lib.LazyBuf
import Derived.IntWalk
namespace Go.Proofs.Ytcnkgodooignpaa
open Go.RowKit Go.Proofs.YtcnkgodooignpaaW.PrintWords Go.Proofs.YtcnkgodooignpaaW.PrintLast Go.Proofs.YtcnkgodooignpaaW.PrintMore Go.Proofs.Ytcnkgodooignpaa.PAll
set_option linter.unusedVariables false
set_option linter.unusedSimpArgs false
/-- What has changed lies in N, or is new. -/
structure Fr (N : Nat → Prop) (w w' : World) : Prop where
  os : w'.os = w.os
  tape : w'.tape = w.tape
  output : w'.output = w.output
  size : w.heap.size ≤ w'.heap.size
  block : ∀ k, k < w.heap.size → ¬ N k → w'.heap[k]? = w.heap[k]?
theorem Fr.refl (N : Nat → Prop) (w : World) : Fr N w w := ⟨rfl, rfl, rfl, Nat.le_refl _, fun _ _ _ => rfl⟩
theorem Fr.trans {N N' : Nat → Prop} {a b c : World} (h : Fr N a b) (k : Fr N' b c) (hN : ∀ i, i < a.heap.size → N' i → N i) : Fr N a c :=
  ⟨k.os.trans h.os, k.tape.trans h.tape, k.output.trans h.output, Nat.le_trans h.size k.size, fun i hi hn => (k.block i (Nat.lt_of_lt_of_le hi h.size) (fun h' => hn (hN i hi h'))).trans (h.block i hi hn)⟩
theorem Fr.mono {N N' : Nat → Prop} {a b : World} (h : Fr N a b) (hN : ∀ i, i < a.heap.size → N i → N' i) : Fr N' a b := ⟨h.os, h.tape, h.output, h.size, fun i hi hn => h.block i hi (fun h' => hn (hN i hi h'))⟩
theorem Fr.of_below {N : Nat → Prop} {a b : World} (h : Below a.heap.size a b) : Fr N a b := ⟨h.os, h.tape, h.output, h.size, fun i hi _ => h.block i hi⟩
theorem Fr.of_grown {N : Nat → Prop} {a b : World} {row : Option Nat} (h : a.grownBy b row) (hN : ∀ k, row = some k → N k) : Fr N a b := ⟨h.os, h.tape, h.output, h.size, fun i hi hn => h.block i hi (fun e => hn (hN i e.symm))⟩
theorem Fr.set {N : Nat → Prop} {a b : World} (h : Fr N a b) {p : Addr} (hp : N p.block ∨ a.heap.size ≤ p.block) (u : Value) : Fr N a (b.setCell p u) :=
  ⟨by rw [← h.os]; exact (Below.refl 0 b).setCell (Nat.zero_le _) u |>.os, by rw [← h.tape]; exact (Below.refl 0 b).setCell (Nat.zero_le _) u |>.tape, by rw [← h.output]; exact (Below.refl 0 b).setCell (Nat.zero_le _) u |>.output, by
    have := (Below.refl 0 b).setCell (p := p) (Nat.zero_le _) u |>.size
    have := h.size
    omega, fun i hi hn => (Below.heap_setCell b p u i (fun e => by subst e; rcases hp with hp | hp; exact hn hp; omega)).trans (h.block i hi hn)⟩
theorem Fr.drewN {N : Nat → Prop} {a b : World} (h : Fr N a b) (n : Nat) : Fr N a (b.drewN n) := ⟨h.os, h.tape, h.output, h.size, h.block⟩
theorem Fr.below {N : Nat → Prop} {a b : World} {B : Nat} (h : Fr N a b) (hN : ∀ k, N k → B ≤ k) (hB : B ≤ a.heap.size) : Below B a b :=
  ⟨h.os, h.tape, h.output, h.size, fun k hk => h.block k (Nat.lt_of_lt_of_le hk hB) (fun hn => by have := hN k hn; omega)⟩
theorem Fr.blk {N : Nat → Prop} {a b : World} (h : Fr N a b) {g : Nat} {o : Obj} (hb : a.heap[g]? = some o) (hn : ¬ N g) : b.heap[g]? = some o := (h.block g (blk_lt hb) hn).trans hb
theorem R_fr {α : Type} {d : Kd α} {e base : Nat} {ok : Nat → Prop} {v : Value} {xs : List α} {N : Nat → Prop} {a b : World} (h : Kd.R d e a base ok v xs) (hf : Fr N a b) (hN : ∀ k, ok k → ¬ N k) : Kd.R d e b base ok v xs :=
  Kd.R_step h (fun k hk hl => hf.block k hl (hN k hk))
theorem wrapN {a b : Int} (h : a = b) (h0 : -9223372036854775808 ≤ b) (h1 : b ≤ 9223372036854775807) : wrap64 a = b := by
  subst h
  unfold wrap64
  omega
end Go.Proofs.Ytcnkgodooignpaa
