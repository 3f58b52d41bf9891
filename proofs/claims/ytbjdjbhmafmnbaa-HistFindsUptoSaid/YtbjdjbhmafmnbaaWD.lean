/-
  What Changed hands back, as a function to range over.
-/
import Derived.Test.YtbjdjbhmafmnbaaWC
namespace Go.Proofs.Ytbjdjbhmafmnbaa
open Go.RowKit Go.Proofs.YtbjdjbhmafmnbaaW.PrintWords Go.Proofs.YtbjdjbhmafmnbaaW.PrintLast Go.Proofs.YtbjdjbhmafmnbaaW.PrintMore Go.Proofs.Ytbjdjbhmafmnbaa.PAll
set_option linter.unusedVariables false
set_option linter.unusedSimpArgs false
attribute [local go_sem] Oper.semAt_some
def encC (x : Nat × ByteArray) : Array Value := #[.int .i64 (x.1 : Int), .string x.2]
def ToldC (cs : List (Nat × ByteArray)) (pre : List (Nat × ByteArray)) (x : Nat × ByteArray) (_ : World) : Prop := cs[pre.length]? = some x
set_option maxRecDepth 100000 in
set_option maxHeartbeats 2000000 in
theorem changed_stops (n : Nat) (hn : 2 ≤ n) (B1 B2 base : Nat) (vp vt : Value) (cs : List (Nat × ByteArray)) (w : World) (K : Nat → Prop) (hK : ∀ k, K k → k < w.heap.size) (hK1 : K B1) (hK2 : K B2) (hb1 : w.heap[B1]? = some (.cells #[vp] 102 (0, 0))) (hb2 : w.heap[B2]? = some (.cells #[vt] 62 (0, 0)))
    (hRp : Kd.R (Kd.int .i64) 3 w base K vp (placesOf cs)) (hRt : Kd.R Kd.string 9 w base K vt (txtsOf cs)) (htl : cs.length ≤ 1000000000000) :
    SeqX Fence.wide n Try.prog 49 #[.pointer (some ⟨B1, 0, none⟩), .pointer (some ⟨B2, 0, none⟩)] encC (ToldC cs) (KeepIn K) (fun xs => xs.length = cs.length) (fun _ => True) w := by
  intro l J Jx W hW hJ hJx h0 hY
  obtain ⟨Ap, cp, rfl⟩ := Kd.R_slice hRp
  obtain ⟨At, ct, rfl⟩ := Kd.R_slice hRt
  have hlp : (placesOf cs).length = cs.length := by simp [placesOf]
  have hlt' : (txtsOf cs).length = cs.length := by simp [txtsOf]
  rw [hlp] at hb1 hRp
  rw [hlt'] at hb2 hRt
  have hw1 := blk_below hb1 hW
  have hRp' := Kd.R_below hRp hW
  have hRt' := Kd.R_below hRt hW
  have hw2 := blk_below hb2 hW
  have hc1 : W.cell? ⟨B1, 0, none⟩ = some (.slice Ap cs.length cp) := (blk_cell hw1 0).trans rfl
  have HL1 := Aside0.mk hlp
  have HL2 := Aside0.mk hlt'
  clear hlp hlt'
  refine callsIn_of_wp Try.func49 rfl trivial ?_ rfl
  simp only [Try.ntmps49, List.size_toArray, List.length_cons, List.length_nil, Nat.reduceAdd, Nat.reduceSub, Array.replicate_succ, Array.replicate_zero, List.push_toArray, List.append_toArray, List.nil_append, List.cons_append]
  gi_wp2
  gi_loopw [8] (fun i wr => ∃ (k : Nat) (pre : List (Nat × ByteArray)), k ≤ cs.length ∧ i = .int .i64 (k : Int) ∧ pre.length = k ∧ J pre wr ∧ wr.heap[B2]? = some (.cells #[.slice At cs.length ct] 62 (0, 0)) ∧ Kd.R (Kd.int .i64) 3 wr base K (.slice Ap cs.length cp) (placesOf cs) ∧ Kd.R Kd.string 9 wr base K (.slice At cs.length ct) (txtsOf cs) ∧ W.heap.size ≤ wr.heap.size)
    (fun i _ => cs.length - (intOf i).toNat)
  case atStart => exact ⟨0, [], Nat.zero_le _, rfl, rfl, h0, hw2, hRp', hRt', Nat.le_refl _⟩
  case round =>
    obtain ⟨k, pre, hk, rfl, hpre, hJs, hb2r, hRpr, hRtr, hsz⟩ := hrel
    by_cases hlt : k < cs.length
    · obtain ⟨ap, e7, hx⟩ := Kd.at_int (Kd.R_reads' hRpr).2.2 (k : Int) (by omega) (by rw [HL1.out]; omega)
      cases e7
      obtain ⟨at', e8, hy⟩ := at_str (Kd.R_reads' hRtr).2.2 k (by rw [HL2.out]; omega) rfl
      cases e8
      have e1 : rd (placesOf cs) (k : Int) = (cs[k].1 : Int) := by simp [rd, placesOf, List.getD, List.getElem?_map, List.getElem?_eq_getElem hlt]
      have e2 : (txtsOf cs)[k]'(by rw [HL2.out]; omega) = cs[k].2 := by simp [txtsOf]
      rw [e1, Int.toNat_natCast] at hx
      rw [e2] at hy
      have hget : cs[pre.length]? = some cs[k] := by rw [hpre]; exact List.getElem?_eq_getElem hlt
      generalize cs[k] = s at hx hy hget
      have hk2 : wr.cell? ⟨B2, 0, none⟩ = some (.slice (some at') cs.length ct) := (blk_cell hb2r 0).trans rfl
      have h1n : 1 ≤ n := by omega
      obtain ⟨fn, tmps, assign, body, hy', hRd⟩ := hY pre s wr hJs hget
      simp only [encC] at hy'
      gi_wp2
      refine hRd.mono ?_
      rintro e W3 (⟨rfl, hJ3, hk3⟩ | ⟨rfl, hJx3⟩)
      · gi_wp2
        go_roundw
        case rel => exact ⟨k + 1, pre ++ [s], by omega, by simp, by simp [hpre], hJ3, (hk3.block _ hK2 (blk_lt hb2r)).trans hb2r, Kd.R_step hRpr (fun j hj hl => hk3.block j hj hl), Kd.R_step hRtr (fun j hj hl => hk3.block j hj hl), by have := hk3.size; omega⟩
        case measure =>
          simp [intOf]
          omega
      · gi_wp2
        refine bodyPost_ret (results_none rfl _ _ _) rfl ?_
        exact ⟨⟨_, rfl⟩, .inr ⟨_, trivial, hJx3⟩⟩
    · obtain rfl : k = cs.length := by omega
      gi_wp2
      go_end0
      exact ⟨⟨_, rfl⟩, .inl ⟨_, hpre, hJs⟩⟩
end Go.Proofs.Ytbjdjbhmafmnbaa
