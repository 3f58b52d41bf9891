/-
  A reader in memory: none, Waiting, NewReader, strings.Clone, hit.
-/
import Derived.Test.YtcnkgodooignpaaKG
import Derived.Test.YtcnkgodooignpaaShA
import Derived.Deep.RegionHeld3
namespace Go.Proofs.Ytcnkgodooignpaa
open Go.RowKit Go.WideShapes Go.Proofs.YtcnkgodooignpaaW.PrintWords Go.Proofs.YtcnkgodooignpaaW.PrintLast Go.Proofs.YtcnkgodooignpaaW.PrintMore Go.Proofs.Ytcnkgodooignpaa.PAll
set_option linter.unusedVariables false
set_option linter.unusedSimpArgs false
attribute [local go_sem] max2_int min2_int max_two min_two max_three min_three max_four min_four
/-- A reader at block g, with its keymap at gm, and what waits. -/
structure RD (w : World) (own : Nat → Prop) (g gm : Nat) (F : Key) (c : Nat) (mt : Bool) (s : ByteArray) : Prop where
  box : w.heap[g]? = some (.cells #[.pointer (some ⟨gm, 0, none⟩), .bool mt, .string s] 74 (0, 0))
  km : KM w own gm F c
  ng : ¬ own g
section
variable {w w' : World} {own : Nat → Prop} {g gm : Nat} {F : Key} {c : Nat} {mt : Bool} {s : ByteArray}
theorem RD.below (h : RD w own g gm F c mt s) (hb : Below w.heap.size w w') : RD w' own g gm F c mt s := ⟨blk_below h.box hb, h.km.below hb, h.ng⟩
theorem RD.fr {N : Nat → Prop} (h : RD w own g gm F c mt s) (hf : Fr N w w') (hg : ¬ N g) (hN : ∀ k, own k → ¬ N k) : RD w' own g gm F c mt s := ⟨hf.blk h.box hg, h.km.fr hf hN, h.ng⟩
theorem RD.drewN (h : RD w own g gm F c mt s) (n : Nat) : RD (w.drewN n) own g gm F c mt s := ⟨h.box, h.km.drewN n, h.ng⟩
theorem RD.put (h : RD w own g gm F c mt s) (s' : ByteArray) : RD (w.setCell ⟨g, 2, none⟩ (.string s')) own g gm F c mt s' :=
  ⟨blk_put h.box 2 _ rfl, h.km.same (fun k hk _ => Below.heap_setCell _ _ _ k (fun e => h.ng (show own g from (show k = g from e) ▸ hk))), h.ng⟩
theorem RD.c0 (h : RD w own g gm F c mt s) : w.cell? ⟨g, 0, none⟩ = some (.pointer (some ⟨gm, 0, none⟩)) := (blk_cell h.box 0).trans rfl
theorem RD.c1 (h : RD w own g gm F c mt s) : w.cell? ⟨g, 1, none⟩ = some (.bool mt) := (blk_cell h.box 1).trans rfl
theorem RD.c2 (h : RD w own g gm F c mt s) : w.cell? ⟨g, 2, none⟩ = some (.string s) := (blk_cell h.box 2).trans rfl
theorem RD.fz (h : RD w own g gm F c mt s) (j : Nat) : w.frozen? ⟨g, j, none⟩ = false := blk_frozen h.box j
theorem RD.lt (h : RD w own g gm F c mt s) : g < w.heap.size := blk_lt h.box
end
/-! ### none, Waiting, NewReader -/
theorem rnone_nil (w : World) : Calls Try.prog 39 #[.pointer none] w fun e w' => e = .returned (.bool true) ∧ w = w' := by
  go_enter Try.func39, Try.ntmps39
  go_wp2
  go_ret
  exact ⟨rfl, rfl⟩
theorem rnone_calls {w : World} {own : Nat → Prop} {g gm : Nat} {F : Key} {c : Nat} {mt : Bool} {s : ByteArray} (h : RD w own g gm F c mt s) : Calls Try.prog 39 #[.pointer (some ⟨g, 0, none⟩)] w fun e w' => e = .returned (.bool false) ∧ w = w' := by
  have h0 := h.c0
  clear h
  go_enter Try.func39, Try.ntmps39
  go_wp2
  go_ret
  exact ⟨rfl, rfl⟩
theorem rnone_zero {w : World} {g : Nat} {a b : Value} (hl : w.heap[g]? = some (.cells #[.pointer none, a, b] 74 (0, 0))) : Calls Try.prog 39 #[.pointer (some ⟨g, 0, none⟩)] w fun e w' => e = .returned (.bool true) ∧ w = w' := by
  have h1 : w.cell? ⟨g, 0, none⟩ = some (.pointer none) := (blk_cell hl 0).trans rfl
  clear hl
  go_enter Try.func39, Try.ntmps39
  go_wp2
  go_ret
  exact ⟨rfl, rfl⟩
theorem waiting_calls {w : World} {own : Nat → Prop} {g gm : Nat} {F : Key} {c : Nat} {mt : Bool} {s : ByteArray} (h : RD w own g gm F c mt s) : Calls Try.prog 13 #[.pointer (some ⟨g, 0, none⟩)] w fun e w' => e = .returned (.string s) ∧ w = w' := by
  have h2 := h.c2
  go_enter Try.func13, Try.ntmps13
  go_wp2_with (go_at_call 39; go_loud (refine (rnone_calls h).mono ?_; rintro e w' ⟨rfl, rfl⟩))
  go_ret
  exact ⟨rfl, rfl⟩
theorem newReader_calls {w : World} {own : Nat → Prop} {g : Nat} {F : Key} {c : Nat} (h : KM w own g F c) (hc : c ≤ 1000000000) (mt : Bool) :
    Calls Try.prog 10 #[.pointer (some ⟨g, 0, none⟩), .bool mt] w fun e w' => ∃ gr gm own2, e = .returned (.tuple #[.pointer (some ⟨gr, 0, none⟩), .int .i64 0]) ∧ w.heap.size ≤ gr ∧ RD w' own2 gr gm F c mt ⟨#[]⟩ ∧ (∀ k, own2 k → w.heap.size ≤ k) ∧ Below w.heap.size w w' := by
  go_enter Try.func10, Try.ntmps10
  go_wp2_with (first
    | (go_at_call 38; go_loud (refine (none_calls h).mono ?_; rintro e w' ⟨rfl, rfl⟩))
    | (go_at_call 27; go_loud (refine (clone_calls h hc).mono ?_; rintro e w2 ⟨g2, own2, rfl, hg2, hK2, ho2, hb2⟩)))
  go_ret2
  exact ⟨w2.heap.size, g2, own2, rfl, hb2.size, ⟨blk_new _ _, hK2.below (below_alloc (Below.refl _ _) _), fun e => Nat.lt_irrefl _ (hK2.olt _ e)⟩, ho2, below_alloc hb2 _⟩
theorem strClone_calls (s : ByteArray) (w : World) (hs : s.size ≤ 281474976710656) : Calls Try.prog 66 #[.string s] w fun e w' => e = .returned (.string s) ∧ Below w.heap.size w w' := by
  go_enter Try.func66, Try.ntmps66
  go_wp2_with (go_at_call 72; go_loud (refine (Try.stringslite_Clone s _ hs).mono ?_; rintro e w2 ⟨rfl, hb2⟩))
  go_ret
  exact ⟨rfl, hb2⟩
end Go.Proofs.Ytcnkgodooignpaa
