/-
  What shwords.Texts hands back, as a function to range over: each text once, in order, in memory that is new.
-/
import Derived.Test.YtpebdkchdgaeoaaTexts
import Derived.Test.YtpebdkchdgaeoaaRange
import Derived.RangeFuncLeaves
import Derived.Shelf.Abstract
import Derived.Shelf.RegionOpen
import Derived.WalkKit
import Derived.OwnWalkIn
import Derived.TacticsInMore
import Derived.LoopNIn
import Derived.LoopIn
namespace Go.Proofs.Ytpebdkchdgaeoaa
open Go.RowKit Go.Proofs.YtpebdkchdgaeoaaW.PrintWords Go.Proofs.YtpebdkchdgaeoaaW.PrintLast Go.Proofs.YtpebdkchdgaeoaaW.PrintMore Go.Proofs.Ytpebdkchdgaeoaa.PAll
set_option linter.unusedVariables false
set_option linter.unusedSimpArgs false
attribute [local go_sem] Oper.semAt_some

/-- What is handed over: its number, its text, where it lies. -/
structure Item where
  i : Nat
  A : Option Addr
  c : Nat
  t : List Int
def Item.encs (x : Item) : Array Value := #[.int .i64 (x.i : Int), .slice x.A x.t.length x.c]
/-- What the round is told. -/
def Told (n₀ : Nat) (texts : List (List Int)) (x : Item) (V : World) : Prop :=
  texts[x.i]? = some x.t ∧ x.t.length ≤ x.c ∧ Kd.R (Kd.int .i32) 21 V n₀ (fun _ => True) (.slice x.A x.t.length x.c) x.t
/-- The blocks of K lie as they lay. -/
structure KeepIn (K : Nat → Prop) (W W' : World) : Prop where
  size : W.heap.size ≤ W'.heap.size
  block : ∀ k, K k → k < W.heap.size → W'.heap[k]? = W.heap[k]?
theorem KeepIn.trans {K : Nat → Prop} {A B C : World} (h : KeepIn K A B) (k : KeepIn K B C) : KeepIn K A C :=
  ⟨Nat.le_trans h.size k.size, fun i hi hl => (k.block i hi (Nat.lt_of_lt_of_le hl h.size)).trans (h.block i hi hl)⟩
theorem KeepIn.refl (K : Nat → Prop) (W : World) : KeepIn K W W := ⟨Nat.le_refl _, fun _ _ _ => rfl⟩
theorem KeepIn.of_below {K : Nat → Prop} {n₀ : Nat} {W W' : World} (h : Below n₀ W W') (hK : ∀ k, K k → k < n₀) : KeepIn K W W' := ⟨h.size, fun k hk _ => h.block k (hK k hk)⟩
theorem grown_of_below {W W' : World} (h : Below W.heap.size W W') : W.grownBy W' none := ⟨h.os, h.tape, h.output, h.size, fun k hk _ => h.block k hk⟩
theorem told_own (n₀ : Nat) (texts : List (List Int)) (x : Item) (B : Nat) : OwnFrom B (fun (_ : Unit) V => Told n₀ texts x V) := by
  intro s W W' row hs hg hr
  refine ⟨hs.1, hs.2.1, Kd.R_mono (Kd.R_grown (Kd.R_bound hs.2.2) hg (fun k hk e => ?_)) (fun _ hk => hk.1)⟩
  obtain ⟨_, o, ho, hc⟩ := hr k e.symm
  obtain ⟨_, _, _, q, hq, cells, hcl⟩ := hk
  rw [hcl] at ho
  cases ho
  cases hc

set_option maxRecDepth 100000 in
set_option maxHeartbeats 2000000 in
theorem texts_stops (n : Nat) (hn : 2 ≤ n) (B base : Nat) (v : Value) (texts : List (List Int)) (w : World) (K : Nat → Prop) (hK : ∀ k, K k → k < w.heap.size) (hKB : K B) (hbox : w.heap[B]? = some (.cells #[v] 30 (0, 0)))
    (hR : Kd.R DT 22 w base K v texts) (hlen : ∀ t ∈ texts, t.length ≤ 1000000000000) (htl : texts.length ≤ 1000000000000) :
    SeqX Fence.wide n Try.prog 32 #[.pointer (some ⟨B, 0, none⟩)] Item.encs (Told w.heap.size texts) (KeepIn K) (fun xs => xs.length = texts.length) (fun _ => True) w := by
  intro l J Jx W hW hJ hJx h0 hY
  have hBl := blk_lt hbox
  obtain ⟨A, c, rfl⟩ := Kd.R_slice hR
  have hbW := blk_below hbox hW
  have hRW := Kd.R_below hR hW
  have hc0 : W.cell? ⟨B, 0, none⟩ = some (.slice A texts.length c) := (blk_cell hbW 0).trans rfl
  refine callsIn_of_wp Try.func32 rfl trivial ?_ rfl
  simp only [Try.ntmps32, List.size_toArray, List.length_cons, List.length_nil, Nat.reduceAdd, Nat.reduceSub, Array.replicate_succ, Array.replicate_zero, List.push_toArray, List.append_toArray, List.nil_append, List.cons_append]
  gi_wp2
  gi_loopw [7] (fun i wr => ∃ (k : Nat) (pre : List Item), k ≤ texts.length ∧ i = .int .i64 (k : Int) ∧ pre.length = k ∧ J pre wr ∧ Kd.R DT 22 wr base K (.slice A texts.length c) texts ∧ W.heap.size ≤ wr.heap.size)
    (fun i _ => texts.length - (intOf i).toNat)
  case atStart => exact ⟨0, [], Nat.zero_le _, rfl, rfl, h0, hRW, Nat.le_refl _⟩
  case round =>
    obtain ⟨k, pre, hk, rfl, hpre, hJs, hRr, hsz⟩ := hrel
    by_cases hlt : k < texts.length
    · obtain ⟨ad, A0, c0, e7, hcell, hle0, hC0⟩ := at_L4 (Kd.R_reads' hRr).2.2 (k : Int) (by omega) (by omega)
      cases e7
      rw [Int.toNat_natCast] at hcell
      have ht : rd_L4 texts (k : Int) = texts[k] := by simp [rd_L4, List.getD, List.getElem?_eq_getElem hlt]
      rw [ht] at hcell hle0 hC0
      have hlk := hlen texts[k] (List.getElem_mem hlt)
      have hget : texts[k]? = some texts[k] := List.getElem?_eq_getElem hlt
      generalize texts[k] = t at hcell hle0 hC0 hlk hget
      have h1n : 1 ≤ n := by omega
      gi_wp2_with (refine ⟨trivial, ?_⟩; gi_at_call 31; refine (callsIn_wide.2 (clone_calls A0 c0 t _ hC0 hle0 hlk)).mono ?_; rintro e w1 ⟨v15, rfl, hT, hb⟩; obtain ⟨A15, c15, rfl⟩ := Kd.R_slice hT; have hJ1 := hJ pre wr w1 none hJs (grown_of_below hb) (fun r e => by cases e); obtain ⟨fn, tmps, assign, body, hy, hRd⟩ := hY pre ⟨k, A15, c15, t⟩ w1 hJ1 ⟨hget, (Kd.R_reads' hT).2.1, Kd.R_lower hT (by have := hW.size; omega)⟩; simp only [Item.encs] at hy)
      refine hRd.mono ?_
      rintro e W3 (⟨rfl, hJ3, hk3⟩ | ⟨rfl, hJx3⟩)
      · gi_wp2
        go_roundw
        case rel => exact ⟨k + 1, pre ++ [⟨k, A15, c15, t⟩], by omega, by simp, by simp [hpre], hJ3, Kd.R_step (Kd.R_below hRr hb) (fun j hj hl => hk3.block j hj hl), by have := hb.size; have := hk3.size; omega⟩
        case measure =>
          simp [intOf]
          omega
      · gi_wp2
        refine bodyPost_ret (results_none rfl _ _ _) rfl ?_
        exact ⟨⟨_, rfl⟩, .inr ⟨_, trivial, hJx3⟩⟩
    · obtain rfl : k = texts.length := by omega
      gi_wp2
      go_end0
      exact ⟨⟨_, rfl⟩, .inl ⟨_, hpre, hJs⟩⟩
end Go.Proofs.Ytpebdkchdgaeoaa
