/-
  A history in memory: All, as a function to range over.
-/
import Derived.Test.YtbjdjbhmafmnbaaHC
import Derived.Test.YtbjdjbhmafmnbaaHR
import Derived.RangeFuncLeaves
import Derived.Shelf.Abstract
import Derived.Shelf.RegionOpen
import Derived.WalkKit
import Derived.OwnWalkIn
import Derived.TacticsInMore
import Derived.LoopNIn
import Derived.LoopIn
namespace Go.Proofs.Ytbjdjbhmafmnbaa
open Go.RowKit Go.Proofs.YtbjdjbhmafmnbaaW.PrintWords Go.Proofs.YtbjdjbhmafmnbaaW.PrintLast Go.Proofs.YtbjdjbhmafmnbaaW.PrintMore Go.Proofs.Ytbjdjbhmafmnbaa.PAll
set_option linter.unusedVariables false
set_option linter.unusedSimpArgs false

theorem all_calls {w : World} {B g : Nat} {v : Value} {q : Hs} (hl : HL w B g v q) (hq : q.base ≠ 0) (hn : q.lines.length ≤ 1000000000000) :
    Calls Try.prog 14 #[.pointer (some ⟨g, 0, none⟩)] w fun e w' => ∃ (Bx : Nat) (u : Value), e = .returned (.func (.func 61) #[] #[.pointer (some ⟨Bx, 0, none⟩)]) ∧ w.heap.size ≤ Bx ∧ w'.heap[Bx]? = some (.cells #[u] 28 (0, 0)) ∧
      Kd.R k36 36 w' w.heap.size (fun _ => True) u q.lines ∧ Below w.heap.size w w' := by
  have h0 := hl.c0
  obtain ⟨A, c, rfl, hc, hC⟩ := hl.slice
  go_enter Try.func14, Try.ntmps14
  go_wp2_with (first
    | (go_at_call 42; refine (none_calls hl hq).mono ?_; rintro e w' ⟨rfl, rfl⟩)
    | (go_at_call 45; refine (clone_calls A c q.lines _ hC hc hn).mono ?_; rintro e w2 ⟨v2, rfl, hR2, hb2⟩; obtain ⟨A2, c2, rfl⟩ := Kd.R_slice hR2)
    | go_in)
  go_ret
  exact ⟨w2.heap.size, _, rfl, hb2.size, blk_new _ _, Kd.R_alloc hR2 _, below_alloc hb2 _⟩
attribute [local go_sem] Oper.semAt_some

/-- What is handed over: its number, the line. -/
structure Item where
  i : Nat
  s : S36
def Item.encs (x : Item) : Array Value := #[.int .i64 (x.i : Int), S36.v x.s]
/-- What the round is told. -/
def Told (lines : List S36) (pre : List Item) (x : Item) (_ : World) : Prop := x.i = pre.length ∧ lines[x.i]? = some x.s
/-- The blocks of K lie as they lay. -/
structure KeepIn (K : Nat → Prop) (W W' : World) : Prop where
  size : W.heap.size ≤ W'.heap.size
  block : ∀ k, K k → k < W.heap.size → W'.heap[k]? = W.heap[k]?
theorem KeepIn.trans {K : Nat → Prop} {A B C : World} (h : KeepIn K A B) (k : KeepIn K B C) : KeepIn K A C :=
  ⟨Nat.le_trans h.size k.size, fun i hi hl => (k.block i hi (Nat.lt_of_lt_of_le hl h.size)).trans (h.block i hi hl)⟩
theorem KeepIn.refl (K : Nat → Prop) (W : World) : KeepIn K W W := ⟨Nat.le_refl _, fun _ _ _ => rfl⟩
theorem KeepIn.of_below {K : Nat → Prop} {n₀ : Nat} {W W' : World} (h : Below n₀ W W') (hK : ∀ k, K k → k < n₀) : KeepIn K W W' := ⟨h.size, fun k hk _ => h.block k (hK k hk)⟩
theorem KeepIn.of_fr {K N : Nat → Prop} {W W' : World} (h : Fr N W W') (hK : ∀ k, K k → ¬ N k) : KeepIn K W W' := ⟨h.size, fun k hk hl => h.block k hl (hK k hk)⟩
theorem grown_of_below {W W' : World} (h : Below W.heap.size W W') : W.grownBy W' none := ⟨h.os, h.tape, h.output, h.size, fun k hk _ => h.block k hk⟩

set_option maxRecDepth 100000 in
set_option maxHeartbeats 2000000 in
theorem all_stops (n : Nat) (hn : 2 ≤ n) (B base : Nat) (v : Value) (lines : List S36) (w : World) (K : Nat → Prop) (hK : ∀ k, K k → k < w.heap.size) (hKB : K B) (hbox : w.heap[B]? = some (.cells #[v] 28 (0, 0)))
    (hR : Kd.R k36 36 w base K v lines) (htl : lines.length ≤ 1000000000000) :
    SeqX Fence.wide n Try.prog 61 #[.pointer (some ⟨B, 0, none⟩)] Item.encs (Told lines) (KeepIn K) (fun xs => xs.length = lines.length) (fun _ => True) w := by
  intro l J Jx W hW hJ hJx h0 hY
  have hBl := blk_lt hbox
  obtain ⟨A, c, rfl⟩ := Kd.R_slice hR
  have hbW := blk_below hbox hW
  have hRW := Kd.R_below hR hW
  have hc0 : W.cell? ⟨B, 0, none⟩ = some (.slice A lines.length c) := (blk_cell hbW 0).trans rfl
  refine callsIn_of_wp Try.func61 rfl trivial ?_ rfl
  simp only [Try.ntmps61, List.size_toArray, List.length_cons, List.length_nil, Nat.reduceAdd, Nat.reduceSub, Array.replicate_succ, Array.replicate_zero, List.push_toArray, List.append_toArray, List.nil_append, List.cons_append]
  gi_wp2
  gi_loopw [7] (fun i wr => ∃ (k : Nat) (pre : List Item), k ≤ lines.length ∧ i = .int .i64 (k : Int) ∧ pre.length = k ∧ J pre wr ∧ Kd.R k36 36 wr base K (.slice A lines.length c) lines ∧ W.heap.size ≤ wr.heap.size)
    (fun i _ => lines.length - (intOf i).toNat)
  case atStart => exact ⟨0, [], Nat.zero_le _, rfl, rfl, h0, hRW, Nat.le_refl _⟩
  case round =>
    obtain ⟨k, pre, hk, rfl, hpre, hJs, hRr, hsz⟩ := hrel
    by_cases hlt : k < lines.length
    · obtain ⟨ad, e7, hx0, hx1⟩ := at_T36 (Kd.R_reads' hRr).2.2 (k : Int) (by omega) (by omega)
      cases e7
      rw [rd36_nat _ _ hlt, Int.toNat_natCast] at hx0 hx1
      have hget : lines[k]? = some lines[k] := List.getElem?_eq_getElem hlt
      generalize lines[k] = s at hx0 hx1 hget
      have h1n : 1 ≤ n := by omega
      have hJ1 := hJ pre wr (wr.alloc (.cells #[.string s.f0, .int .i64 s.f1] 36)) none hJs (grown_of_below (below_alloc (Below.refl _ _) _)) (fun r e => by cases e)
      obtain ⟨fn, tmps, assign, body, hy, hRd⟩ := hY pre ⟨k, s⟩ _ hJ1 ⟨hpre.symm, hget⟩
      simp only [Item.encs, S36.v] at hy
      gi_wp2
      refine hRd.mono ?_
      rintro e W3 (⟨rfl, hJ3, hk3⟩ | ⟨rfl, hJx3⟩)
      · gi_wp2
        go_roundw
        case rel => exact ⟨k + 1, pre ++ [⟨k, s⟩], by omega, by simp, by simp [hpre], hJ3, Kd.R_step (Kd.R_alloc hRr _) (fun j hj hl => hk3.block j hj hl), by have := hk3.size; simp at this; omega⟩
        case measure =>
          simp [intOf]
          omega
      · gi_wp2
        refine bodyPost_ret (results_none rfl _ _ _) rfl ?_
        exact ⟨⟨_, rfl⟩, .inr ⟨_, trivial, hJx3⟩⟩
    · obtain rfl : k = lines.length := by omega
      gi_wp2
      go_end0
      exact ⟨⟨_, rfl⟩, .inl ⟨_, hpre, hJs⟩⟩
end Go.Proofs.Ytbjdjbhmafmnbaa
