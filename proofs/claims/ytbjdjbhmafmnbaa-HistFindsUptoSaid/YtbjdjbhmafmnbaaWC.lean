/-
  Changed: the places that were changed on a walk, as a function to range over.
-/
import Derived.Test.YtbjdjbhmafmnbaaWB
namespace Go.Proofs.Ytbjdjbhmafmnbaa
open Go.RowKit Go.Proofs.YtbjdjbhmafmnbaaW.PrintWords Go.Proofs.YtbjdjbhmafmnbaaW.PrintLast Go.Proofs.YtbjdjbhmafmnbaaW.PrintMore Go.Proofs.Ytbjdjbhmafmnbaa.PAll
set_option linter.unusedVariables false
set_option linter.unusedSimpArgs false
theorem info3 : (Try.prog.info? 3).map (fun i => (i.zero, i.size, i.bytes)) = some (some (.int .i64 0), 1, 8) := by kernel_rfl

theorem teq (a b : ByteArray) : (a.toList == b.toList) = decide (a = b) := by
  rw [Bool.eq_iff_iff]
  simp only [beq_iff_eq, decide_eq_true_eq, ByteArray.toList_eq]
  constructor
  · intro h
    obtain ⟨⟨x⟩⟩ := a
    obtain ⟨⟨y⟩⟩ := b
    simp at h
    subst h
    rfl
  · intro h
    rw [h]
/-- The places below k that are changed, each with what stands there. -/
def chgs (was now : List ByteArray) : Nat → List (Nat × ByteArray)
  | 0 => []
  | k + 1 => if now.getD k ⟨#[]⟩ = was.getD k ⟨#[]⟩ then chgs was now k else chgs was now k ++ [(k, now.getD k ⟨#[]⟩)]
theorem chgs_len (was now : List ByteArray) : ∀ k, (chgs was now k).length ≤ k
  | 0 => Nat.le_refl _
  | k + 1 => by
    have := chgs_len was now k
    unfold chgs
    split
    · omega
    · simp; omega
def placesOf (l : List (Nat × ByteArray)) : List Int := l.map fun x => (x.1 : Int)
def txtsOf (l : List (Nat × ByteArray)) : List ByteArray := l.map (·.2)
set_option maxRecDepth 100000 in
set_option maxHeartbeats 2000000 in
theorem changed_calls {w : World} {B g : Nat} {u v : Value} {q : Wk} (h : WL w B g u v q) (hn : q.now.length = q.was.length + 1) (hl : q.was.length ≤ 1000000) :
    Calls Try.prog 20 #[.pointer (some ⟨g, 0, none⟩)] w fun e w' => ∃ (B1 B2 : Nat) (vp vt : Value), e = .returned (.func (.func 49) #[] #[.pointer (some ⟨B1, 0, none⟩), .pointer (some ⟨B2, 0, none⟩)]) ∧ w.heap.size ≤ B1 ∧ w.heap.size ≤ B2 ∧
      w'.heap[B1]? = some (.cells #[vp] 102 (0, 0)) ∧ w'.heap[B2]? = some (.cells #[vt] 62 (0, 0)) ∧ Kd.R (Kd.int .i64) 3 w' w.heap.size (fun _ => True) vp (placesOf (chgs q.was q.now q.was.length)) ∧ Kd.R Kd.string 9 w' w.heap.size (fun _ => True) vt (txtsOf (chgs q.was q.now q.was.length)) ∧ Below w.heap.size w w' := by
  obtain ⟨Au, cu, rfl⟩ := Kd.R_slice h.was
  obtain ⟨Av, cv, rfl⟩ := Kd.R_slice h.now
  have hnl : q.was.length < q.now.length := by omega
  clear hn
  go_enter Try.func20, Try.ntmps20
  go_wp2_with (first
    | ((with_reducible refine gate_dst (N := 3) rfl ?_); refine box_event ?hg (N := 3) ?hd (cs := #[.slice none 0 0]) (t := 102) ?hr ?_; (case hd => rfl); (case hg => rfl); (case hr => first | (go_simp; done) | (go_simp; rfl)); intro g3 hg w1 hb3 hb1; have hl3 := Aside0.mk (Nat.le_of_eq hg.symm); clear hg)
    | ((with_reducible refine gate_dst (N := 4) rfl ?_); refine box_event ?hg (N := 4) ?hd (cs := #[.slice none 0 0]) (t := 62) ?hr ?_; (case hd => rfl); (case hg => rfl); (case hr => first | (go_simp; done) | (go_simp; rfl)); intro g4 hg w2 hb4 hb2; have hl4 := Aside0.mk (Nat.le_of_eq hg.symm); clear hg; have h2 := (h.below hb1).below hb2; have hk2 := h2.c0)
    | (go_at_call 48; refine (wnone_calls h2 (by omega)).mono ?_; rintro e w' ⟨rfl, rfl⟩))
  have HB2 : Below w.heap.size w w2 := below_step hb1 hb2
  have hg3w := hl3.out
  have hg4w : w.heap.size ≤ g4 := by have := hl4.out; have := hb1.size; omega
  have hb32 := blk_below hb3 hb2
  clear h2 hk2 hb1 hb2
  go_loopw [15] (fun i wr => ∃ (j : Nat) (Ap At : Option Addr) (lp lt cp ct : Nat), i = .int .i64 (j : Int) ∧ j ≤ q.was.length ∧ wr.heap[g3]? = some (.cells #[.slice Ap lp cp] 102 (0, 0)) ∧ wr.heap[g4]? = some (.cells #[.slice At lt ct] 62 (0, 0)) ∧
      Kd.R (Kd.int .i64) 3 wr w.heap.size (fun _ => True) (.slice Ap lp cp) (placesOf (chgs q.was q.now j)) ∧ Kd.R Kd.string 9 wr w.heap.size (fun _ => True) (.slice At lt ct) (txtsOf (chgs q.was q.now j)) ∧ Below w.heap.size w wr)
    (fun i wr => q.was.length - (intOf i).toNat)
  case atStart => exact ⟨0, none, none, 0, 0, 0, 0, rfl, Nat.zero_le _, hb32, hb4, Kd.R_nil _ _ _ _ _, Kd.R_nil _ _ _ _ _, HB2⟩
  case round =>
    obtain ⟨j, Ap, At, lp, lt, cp, ct, rfl, hj, h3, h4, hRp, hRt, hbel⟩ := hrel
    by_cases hlt : j < q.was.length
    · obtain ⟨au, e7, hx⟩ := at_str (Kd.C_below (Kd.R_reads' h.was).2.2 hbel) j hlt rfl
      cases e7
      obtain ⟨av, e8, hyw⟩ := at_str (Kd.R_reads' h.now).2.2 j (by omega) rfl
      cases e8
      have hy := pw_cell_below hbel hyw
      have hgr := blk_below h.box hbel
      have hk0 : wr.cell? ⟨g, 0, none⟩ = some (.slice (some au) q.was.length cu) := (blk_cell hgr 0).trans rfl
      have hk1 : wr.cell? ⟨g, 1, none⟩ = some (.slice (some av) q.now.length cv) := (blk_cell hgr 1).trans rfl
      have hlnw : decide ((j : Int) < (q.now.length : Int)) = true := by simp; omega
      have hjn : j < q.now.length := by omega
      have hch : chgs q.was q.now (j + 1) = if q.now[j] = q.was[j] then chgs q.was q.now j else chgs q.was q.now j ++ [(j, q.now[j])] := by
        rw [chgs]
        simp [List.getD, List.getElem?_eq_getElem hlt, List.getElem?_eq_getElem hjn]
      have hlen := chgs_len q.was q.now j
      have hteq := teq q.now[j] q.was[j]
      generalize q.now[j] = x at hy hyw hch hteq
      generalize q.was[j] = y at hx hch hteq
      by_cases hxy : x = y
      · rw [if_pos hxy] at hch
        have HC := Aside0.mk hch
        rw [decide_eq_true hxy] at hteq
        clear hch hxy
        go_wp2
        go_roundw
        case rel => exact ⟨j + 1, Ap, At, lp, lt, cp, ct, by simp, by omega, h3, h4, by rw [HC.out]; exact hRp, by rw [HC.out]; exact hRt, hbel⟩
        case measure => simp [intOf]; omega
      · rw [if_neg hxy] at hch
        rw [decide_eq_false hxy] at hteq
        have HC := Aside0.mk hch
        clear hch hxy
        have hk3 : wr.cell? ⟨g3, 0, none⟩ = some (.slice Ap lp cp) := (blk_cell h3 0).trans rfl
        have hlp : (placesOf (chgs q.was q.now j)).length ≤ 1000000 := by simp [placesOf]; omega
        have hltx : (txtsOf (chgs q.was q.now j)).length ≤ 1000000 := by simp [txtsOf]; omega
        generalize chgs q.was q.now j = cs at hRp hRt hlp hltx HC hlen
        go_wp2_with ((with_reducible refine gate_builtin (b := .append) (xs := #[.tmp 29, .tmp 31]) rfl ?_); at_builtin; refine Kd.R_append (Kd.int .i64) (w0 := w) (W := wr) w.heap.size rfl (.tmp 29) (.tmp 31) 102 3 (.int .i64 0) 8 rfl Try.underlying102 info3 rfl (by decide) (by omega) (.slice Ap lp cp) (placesOf cs) (j : Int) [.int .i64 (j : Int)] (fun _ => True) (fun _ => False) rfl rfl rfl (fun _ h => h.elim) (fun _ _ => trivial) hRp hbel hbel.size (by omega) ?_; intro v3 w3 hR3 hb3' hg3 hat3; obtain ⟨A3, c3, rfl⟩ := Kd.R_slice hR3; rw [List.length_append, List.length_singleton] at hR3; have h33 := blk_grown h3 hg3 (Kd.R_ne hRp h3 (by decide)); have h43 := blk_grown h4 hg3 (Kd.R_ne hRp h4 (by decide)); have hRt3 := Kd.R_over hRt hRp (by decide) hg3; have hk33 : w3.cell? ⟨g3, 0, none⟩ = some (.slice Ap lp cp) := (blk_cell h33 0).trans rfl; have hf33 := blk_frozen h33 0)
        have n34 : g4 ≠ g3 := fun e => by rw [e, h33] at h43; simp at h43
        have h44 := blk_far h43 (p := ⟨g3, 0, none⟩) n34 (.slice A3 ((placesOf cs).length + 1) c3)
        have h34 := blk_put h33 0 (.slice A3 ((placesOf cs).length + 1) c3) rfl
        have hRt4 := Kd.R_set hRt3 h33 (by decide) 0 (.slice A3 ((placesOf cs).length + 1) c3)
        have hRp4 := Kd.R_set hR3 h33 (by decide) 0 (.slice A3 ((placesOf cs).length + 1) c3)
        have HB4 := hb3'.setCell (p := ⟨g3, 0, none⟩) hg3w (.slice A3 ((placesOf cs).length + 1) c3)
        generalize w3.setCell ⟨g3, 0, none⟩ (.slice A3 ((placesOf cs).length + 1) c3) = W4 at h44 h34 hRt4 hRp4 HB4 ⊢
        have HM := Aside0.mk (fun (w' : World) (hb : Below w.heap.size w w') (h4' : w'.heap[g4]? = some (.cells #[.slice At lt ct] 62 (0, 0))) => (⟨(blk_cell h4' 0).trans rfl, (blk_cell (blk_below h.box hb) 1).trans rfl, pw_cell_below hb hyw⟩ : w'.cell? ⟨g4, 0, none⟩ = some (.slice At lt ct) ∧ w'.cell? ⟨g, 1, none⟩ = some (.slice (some av) q.now.length cv) ∧ w'.cell? (av.add j) = some (.string x)))
        have hS0 := HM.out W4.drew HB4.drew h44
        refine region_S (S := fun w' => w'.cell? ⟨g4, 0, none⟩ = some (.slice At lt ct) ∧ w'.cell? ⟨g, 1, none⟩ = some (.slice (some av) q.now.length cv) ∧ w'.cell? (av.add j) = some (.string x)) (s := 10) (by kernel_rfl) ?_
        refine wpAnyS_take (i := 0) (v := .slice At lt ct) rfl (by kernel_rfl) (by kernel_rfl) (by kernel_rfl) (by kernel_rfl) (fun _ _ _ h => h) (Or.inl ⟨by rfl, fun w' hS => by obtain ⟨k1, k2, k3⟩ := hS; go_simp⟩) hS0 ?_
        simp only [Act.put, List.setIfInBounds_toArray, List.set_cons_zero, List.set_cons_succ]
        refine wpAnyS_take (i := 1) (v := .pointer (some ⟨g, 0, none⟩)) rfl (by kernel_rfl) (by kernel_rfl) (by kernel_rfl) (by kernel_rfl) (fun _ _ _ h => h) (Or.inl ⟨by rfl, fun w' hS => by obtain ⟨k1, k2, k3⟩ := hS; go_simp⟩) hS0 ?_
        simp only [Act.put, List.setIfInBounds_toArray, List.set_cons_zero, List.set_cons_succ]
        refine wpAnyS_take (i := 2) (v := .pointer (some ⟨g, 0, none⟩)) rfl (by kernel_rfl) (by kernel_rfl) (by kernel_rfl) (by kernel_rfl) (fun _ _ _ h => h) (Or.inl ⟨by rfl, fun w' hS => by obtain ⟨k1, k2, k3⟩ := hS; go_simp⟩) hS0 ?_
        simp only [Act.put, List.setIfInBounds_toArray, List.set_cons_zero, List.set_cons_succ]
        refine wpAnyS_take (i := 3) (v := .pointer (some ⟨g, 1, none⟩)) rfl (by kernel_rfl) (by kernel_rfl) (by kernel_rfl) (by kernel_rfl) (fun _ _ _ h => h) (Or.inl ⟨by rfl, fun w' hS => by obtain ⟨k1, k2, k3⟩ := hS; go_simp⟩) hS0 ?_
        simp only [Act.put, List.setIfInBounds_toArray, List.set_cons_zero, List.set_cons_succ]
        refine wpAnyS_take (i := 4) (v := .slice (some av) q.now.length cv) rfl (by kernel_rfl) (by kernel_rfl) (by kernel_rfl) (by kernel_rfl) (fun _ _ _ h => h) (Or.inl ⟨by rfl, fun w' hS => by obtain ⟨k1, k2, k3⟩ := hS; go_simp⟩) hS0 ?_
        simp only [Act.put, List.setIfInBounds_toArray, List.set_cons_zero, List.set_cons_succ]
        refine wpAnyS_take (i := 5) (v := .int .i64 (j : Int)) rfl (by kernel_rfl) (by kernel_rfl) (by kernel_rfl) (by kernel_rfl) (fun _ _ _ h => h) (Or.inl ⟨by rfl, fun w' hS => by obtain ⟨k1, k2, k3⟩ := hS; go_simp⟩) hS0 ?_
        simp only [Act.put, List.setIfInBounds_toArray, List.set_cons_zero, List.set_cons_succ]
        refine wpAnyS_take (i := 6) (v := .pointer (some (av.add j))) rfl (by kernel_rfl) (by kernel_rfl) (by kernel_rfl) (by kernel_rfl) (fun _ _ _ h => h) (Or.inl ⟨by rfl, fun w' hS => by obtain ⟨k1, k2, k3⟩ := hS; go_simp⟩) hS0 ?_
        simp only [Act.put, List.setIfInBounds_toArray, List.set_cons_zero, List.set_cons_succ]
        refine wpAnyS_take (i := 7) (v := .string x) rfl (by kernel_rfl) (by kernel_rfl) (by kernel_rfl) (by kernel_rfl) (fun _ _ _ h => h) (Or.inl ⟨by rfl, fun w' hS => by obtain ⟨k1, k2, k3⟩ := hS; go_simp⟩) hS0 ?_
        simp only [Act.put, List.setIfInBounds_toArray, List.set_cons_zero, List.set_cons_succ]
        refine wpAnyS_one (i := 8) (by kernel_rfl) rfl (fun K2 hK2 => ?_)
        go_simp
        refine hK2.out _ _ (fun _ => HM.out _ (below_alloc HB4.drew _) (blk_alloc (blk_drew h44) _)) ?_
        refine wpAnyS_one (i := 9) (by kernel_rfl) rfl (fun K3 hK3 => ?_)
        refine Kd.R_append_step Kd.string (w0 := w) (W := W4.drew) w.heap.size (by rfl) (.tmp 33) (.tmp 41) 62 9 (.string ⟨#[]⟩) 16 (by rfl) Try.underlying62 info9 rfl (by decide) (by omega) (.slice At lt ct) (txtsOf cs) x [.string x] (fun _ => True) (fun _ => False) (by rfl) (by rfl) rfl (fun _ h => h.elim) (fun _ _ => trivial) (Kd.R_drew hRt4) HB4.drew HB4.drew.size (by omega) ?_
        intro v5 w5 hR5 hb5 hg5 hat5
        obtain ⟨A5, c5, rfl⟩ := Kd.R_slice hR5
        rw [List.length_append, List.length_singleton] at hR5 ⊢
        have h45 := blk_grown (blk_drew h44) hg5 (Kd.R_ne (Kd.R_drew hRt4) (blk_drew h44) (by decide))
        have h35 := blk_grown (blk_drew h34) hg5 (Kd.R_ne (Kd.R_drew hRt4) (blk_drew h34) (by decide))
        have hRp5 := Kd.R_over (Kd.R_drew hRp4) (Kd.R_drew hRt4) (by decide) hg5
        refine hK3.out _ _ (fun _ => HM.out _ hb5 h45) ?_
        simp only [Act.put, List.setIfInBounds_toArray, List.set_cons_zero, List.set_cons_succ]
        refine wpAnyS_one (i := 10) (by kernel_rfl) rfl (fun K4 hK4 => ?_)
        have hk45 : w5.cell? ⟨g4, 0, none⟩ = some (.slice At lt ct) := (blk_cell h45 0).trans rfl
        have hf45 := blk_frozen h45 0
        go_simp
        refine hK4.out _ _ (fun h => absurd rfl h) ?_
        refine wpAnyS_done (by kernel_rfl) ?_ _
        go_wp2
        go_roundw
        case rel => exact ⟨j + 1, A3, A5, _, _, c3, c5, by simp, by omega, blk_far h35 (p := ⟨g4, 0, none⟩) n34.symm _, blk_put h45 0 _ rfl, by rw [HC.out]; simp only [placesOf, List.map_append, List.map_singleton]; exact Kd.R_set hRp5 h45 (by decide) 0 _, by rw [HC.out]; simp only [txtsOf, List.map_append, List.map_singleton]; exact Kd.R_set hR5 h45 (by decide) 0 _, hb5.setCell (p := ⟨g4, 0, none⟩) hg4w _⟩
        case measure => simp [intOf]; omega
    · obtain rfl : j = q.was.length := by omega
      go_wp2
      go_ret
      exact ⟨g3, g4, _, _, rfl, hg3w, hg4w, h3, h4, hRp, hRt, hbel⟩
end Go.Proofs.Ytbjdjbhmafmnbaa
