/-
  The document's Changed.
-/
import Derived.Test.YtbjdjbhmafmnbaaRC
namespace Go.Proofs.Ytbjdjbhmafmnbaa
open Go.RowKit Go.Proofs.YtbjdjbhmafmnbaaW.PrintWords Go.Proofs.YtbjdjbhmafmnbaaW.PrintLast Go.Proofs.YtbjdjbhmafmnbaaW.PrintMore Go.Proofs.Ytbjdjbhmafmnbaa.PAll
set_option linter.unusedVariables false
set_option linter.unusedSimpArgs false
theorem info106 : (Try.prog.info? 106).map (fun i => (i.zero, i.size, i.bytes)) = some (some (.agg #[.int .i64 0, .string ⟨#[]⟩]), 2, 24) := by kernel_rfl
def recsOf (cs : List (Nat × ByteArray)) : List S106 := cs.map fun x => ⟨(x.1 : Int), x.2⟩
set_option maxRecDepth 100000 in
set_option maxHeartbeats 2000000 in
theorem rchanged_calls {w : World} {B g : Nat} {u v : Value} {q : Wk} (h : XL w B g u v q) (hn : q.now.length = q.was.length) (hl : q.was.length ≤ 1000001) (h0 : 0 < q.was.length) :
    Calls Try.prog 28 #[.pointer (some ⟨g, 0, none⟩)] w fun e w' => ∃ vr : Value, e = .returned vr ∧ Kd.R k106 106 w' w.heap.size (fun _ => True) vr (recsOf (chgs q.was q.now (q.was.length - 1))) ∧ Below w.heap.size w w' := by
  obtain ⟨Au, cu, rfl⟩ := Kd.R_slice h.was
  obtain ⟨Av, cv, rfl⟩ := Kd.R_slice h.now
  have hnl : q.was.length ≤ q.now.length := by omega
  have hnl2 : q.now.length ≤ q.was.length := by omega
  clear hn
  go_enter Try.func28, Try.ntmps28
  go_wp2
  go_loopw [3, 4] (fun s i wr => ∃ (j : Nat) (A : Option Addr) (c : Nat), i = .int .i64 (j : Int) ∧ j + 1 ≤ q.was.length ∧ s = .slice A (recsOf (chgs q.was q.now j)).length c ∧ Kd.R k106 106 wr w.heap.size (fun _ => True) (.slice A (recsOf (chgs q.was q.now j)).length c) (recsOf (chgs q.was q.now j)) ∧ Below w.heap.size w wr)
    (fun s i wr => q.was.length - (intOf i).toNat)
  case atStart => exact ⟨0, none, 0, rfl, by omega, rfl, Kd.R_nil _ _ _ _ _, Below.refl _ _⟩
  case round =>
    obtain ⟨j, A, c, rfl, hj, rfl, hR, hbel⟩ := hrel
    have hgr := blk_below h.box hbel
    have hk0 : wr.cell? ⟨g, 0, none⟩ = some (.slice Au q.was.length cu) := (blk_cell hgr 0).trans rfl
    have hk1 : wr.cell? ⟨g, 1, none⟩ = some (.slice Av q.now.length cv) := (blk_cell hgr 1).trans rfl
    by_cases hlt : j + 1 < q.was.length
    · have hjw : j < q.was.length := by omega
      have hjn : j < q.now.length := by omega
      obtain ⟨au, e7, hx⟩ := at_str (Kd.C_below (Kd.R_reads' h.was).2.2 hbel) j hjw rfl
      cases e7
      obtain ⟨av, e8, hyw⟩ := at_str (Kd.R_reads' h.now).2.2 j hjn rfl
      cases e8
      have hy := pw_cell_below hbel hyw
      have hc1 : decide ((j : Int) + 1 < (q.now.length : Int)) = true := by simp; omega
      have hc2 : decide (j + 1 < q.now.length) = true := by simp; omega
      have hch : chgs q.was q.now (j + 1) = if q.now[j] = q.was[j] then chgs q.was q.now j else chgs q.was q.now j ++ [(j, q.now[j])] := by
        rw [chgs]
        simp [List.getD, List.getElem?_eq_getElem hjw, List.getElem?_eq_getElem hjn]
      have hlen := chgs_len q.was q.now j
      have hteq := teq q.now[j] q.was[j]
      generalize q.now[j] = x at hy hyw hch hteq
      generalize q.was[j] = y at hx hch hteq
      by_cases hxy : x = y
      · rw [if_pos hxy] at hch
        have HC := Aside0.mk hch
        rw [decide_eq_true hxy] at hteq
        clear hch hxy
        go_wp2
        go_quiet (fail)
        go_wp2
        go_roundw
        case rel => exact ⟨j + 1, A, c, by simp, by omega, by rw [HC.out], by rw [HC.out]; exact Kd.R_drewN hR _, pw_below_drewN hbel _⟩
        case measure => simp [intOf]; omega
      · rw [if_neg hxy] at hch
        rw [decide_eq_false hxy] at hteq
        have HC := Aside0.mk hch
        clear hch hxy
        have hlp : (recsOf (chgs q.was q.now j)).length ≤ 1000001 := by simp [recsOf]; omega
        generalize chgs q.was q.now j = cs at hR hlp HC hlen
        go_wp2
        go_quiet (fail)
        have hRq := Kd.R_drewN hR nq
        have hbq := pw_below_drewN hbel nq
        go_wp2_with ((with_reducible refine gate_builtin (b := .append) (xs := #[.tmp 30, .tmp 40]) rfl ?_); at_builtin; refine Kd.R_append k106 (w0 := w) (W := wr.drewN nq) w.heap.size rfl (.tmp 30) (.tmp 40) 66 106 (.agg #[.int .i64 0, .string ⟨#[]⟩]) 24 rfl Try.underlying66 info106 rfl (by decide) (by omega) (.slice A (recsOf cs).length c) (recsOf cs) ⟨(j : Int), x⟩ [.int .i64 (j : Int), .string x] (fun _ => True) (fun _ => False) rfl rfl (k106_mkM _ _ _ _) (fun _ h => h.elim) (fun _ _ => trivial) hRq hbq hbq.size (by omega) ?_; intro v3 w3 hR3 hb3' hg3 hat3; obtain ⟨A3, c3, rfl⟩ := Kd.R_slice hR3)
        go_roundw
        case rel => exact ⟨j + 1, A3, c3, by simp, by omega, by rw [HC.out]; simp [recsOf], by rw [HC.out]; simpa [recsOf] using hR3, hb3'⟩
        case measure => simp [intOf]; omega
    · have hc1 : decide ((j : Int) + 1 < (q.now.length : Int)) = false := by simp; omega
      have hc2 : decide (j + 1 < q.now.length) = false := by simp; omega
      go_wp2
      go_ret
      have ej : q.was.length - 1 = j := by omega
      rw [ej]
      exact ⟨_, rfl, hR, hbel⟩
end Go.Proofs.Ytbjdjbhmafmnbaa
