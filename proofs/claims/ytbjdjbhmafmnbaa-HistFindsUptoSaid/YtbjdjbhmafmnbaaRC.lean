/-
  The document's NewWalk.
-/
import Derived.Test.YtbjdjbhmafmnbaaRB
namespace Go.Proofs.Ytbjdjbhmafmnbaa
open Go.RowKit Go.Proofs.YtbjdjbhmafmnbaaW.PrintWords Go.Proofs.YtbjdjbhmafmnbaaW.PrintLast Go.Proofs.YtbjdjbhmafmnbaaW.PrintMore Go.Proofs.Ytbjdjbhmafmnbaa.PAll
set_option linter.unusedVariables false
set_option linter.unusedSimpArgs false

/-! ### NewWalk -/
theorem textsOf_len (l : List S36) : (textsOf l).length = l.length := by simp [textsOf]
set_option maxRecDepth 100000 in
set_option maxHeartbeats 4000000 in
theorem rnewWalk_calls {w : World} {B g : Nat} {v : Value} {q : Hs} (hl : RL w B g v q) (hn : q.lines.length ≤ 1000000) :
    Calls Try.prog 23 #[.pointer (some ⟨g, 0, none⟩)] w fun e w' => ∃ gw u1 u2, e = .returned (.pointer (some ⟨gw, 0, none⟩)) ∧ w.heap.size ≤ gw ∧
      XL w' w.heap.size gw u1 u2 ⟨textsOf q.lines ++ [⟨#[]⟩], textsOf q.lines ++ [⟨#[]⟩], q.lines.length⟩ ∧ Below w.heap.size w w' := by
  obtain ⟨A, c, rfl, hc, hC⟩ := Kd.Q_reads hl.row
  have h00 := hl.c0
  go_enter Try.func23, Try.ntmps23
  go_wp2_with ((with_reducible refine gate_dst (N := 11) rfl ?_); refine box_event ?hg (N := 11) ?hd (cs := #[.slice none 0 0, .slice none 0 0, .int .i64 (q.lines.length : Int)]) (t := 64) ?hr ?_; (case hd => rfl); (case hg => rfl); (case hr => first | (go_simp; done) | (go_simp; rfl)); intro gw hg w1 hbw hb1; have hlw := Aside0.mk (Nat.le_of_eq hg.symm); clear hg)
  have hgww := hlw.out
  go_loopw [4] (fun i wr => ∃ (j : Nat) (Au : Option Addr) (cu : Nat), i = .int .i64 (j : Int) ∧ j ≤ q.lines.length ∧ wr.heap[gw]? = some (.cells #[.slice Au j cu, .slice none 0 0, .int .i64 (q.lines.length : Int)] 64 (0, 0)) ∧ Kd.R Kd.string 9 wr w.heap.size (fun _ => True) (.slice Au j cu) (textsOf (q.lines.take j)) ∧ Below w.heap.size w wr)
    (fun i wr => q.lines.length - (intOf i).toNat)
  case atStart => exact ⟨0, none, 0, rfl, Nat.zero_le _, hbw, Kd.R_nil _ _ _ _ _, hb1⟩
  case round =>
    obtain ⟨j, Au, cu, rfl, hj, h2, h3, hbel⟩ := hrel
    have hk0 : wr.cell? ⟨g, 0, none⟩ = some (.slice A q.lines.length c) := (blk_cell (blk_below hl.box hbel) 0).trans rfl
    by_cases hlt : j < q.lines.length
    · obtain ⟨ad, e7, hx0, hx1⟩ := at_T36 hC (j : Int) (by omega) (by omega)
      cases e7
      rw [rd36_nat _ _ hlt, Int.toNat_natCast] at hx0 hx1
      have htk : textsOf (q.lines.take (j + 1)) = textsOf (q.lines.take j) ++ [(q.lines[j]).f0] := by unfold textsOf; rw [List.take_succ_eq_append_getElem hlt, List.map_append]; rfl
      have hlx : (textsOf (q.lines.take j)).length = j := by rw [textsOf_len, List.length_take]; omega
      have HTK := Aside0.mk htk
      clear htk
      generalize q.lines[j] = s at hx0 hx1 HTK
      obtain ⟨x, s1⟩ := s
      simp only at hx0 HTK
      generalize textsOf (q.lines.take j) = tl at h3 hlx HTK
      have HLX := Aside0.mk hlx
      clear hlx hx1
      go_wp2
      have HM := Aside0.mk (fun (w' : World) (hb : Below w.heap.size w w') (h2' : w'.heap[gw]? = some (.cells #[.slice Au j cu, .slice none 0 0, .int .i64 (q.lines.length : Int)] 64 (0, 0))) => (⟨(blk_cell h2' 0).trans rfl, (blk_cell (blk_below hl.box hb) 0).trans rfl, pw_cell_below hb hx0⟩ : w'.cell? ⟨gw, 0, none⟩ = some (.slice Au j cu) ∧ w'.cell? ⟨g, 0, none⟩ = some (.slice (some ad) q.lines.length c) ∧ w'.cell? (ad.add (j * 2)) = some (.string x)))
      have hS0 := HM.out wr.drew hbel.drew h2
      refine region_S (S := fun w' => w'.cell? ⟨gw, 0, none⟩ = some (.slice Au j cu) ∧ w'.cell? ⟨g, 0, none⟩ = some (.slice (some ad) q.lines.length c) ∧ w'.cell? (ad.add (j * 2)) = some (.string x)) (s := 17) (by kernel_rfl) ?_
      refine wpAnyS_take (i := 0) (v := .pointer (some ⟨gw, 0, none⟩)) rfl (by kernel_rfl) (by kernel_rfl) (by kernel_rfl) (by kernel_rfl) (fun _ _ _ h => h) (Or.inl ⟨by rfl, fun w' hS => by obtain ⟨k1, k2, k3⟩ := hS; go_simp⟩) hS0 ?_
      simp only [Act.put, List.setIfInBounds_toArray, List.set_cons_zero, List.set_cons_succ]
      refine wpAnyS_take (i := 1) (v := .pointer (some ⟨gw, 0, none⟩)) rfl (by kernel_rfl) (by kernel_rfl) (by kernel_rfl) (by kernel_rfl) (fun _ _ _ h => h) (Or.inl ⟨by rfl, fun w' hS => by obtain ⟨k1, k2, k3⟩ := hS; go_simp⟩) hS0 ?_
      simp only [Act.put, List.setIfInBounds_toArray, List.set_cons_zero, List.set_cons_succ]
      refine wpAnyS_take (i := 2) (v := .pointer (some ⟨gw, 0, none⟩)) rfl (by kernel_rfl) (by kernel_rfl) (by kernel_rfl) (by kernel_rfl) (fun _ _ _ h => h) (Or.inl ⟨by rfl, fun w' hS => by obtain ⟨k1, k2, k3⟩ := hS; go_simp⟩) hS0 ?_
      simp only [Act.put, List.setIfInBounds_toArray, List.set_cons_zero, List.set_cons_succ]
      refine wpAnyS_take (i := 3) (v := .pointer (some ⟨gw, 0, none⟩)) rfl (by kernel_rfl) (by kernel_rfl) (by kernel_rfl) (by kernel_rfl) (fun _ _ _ h => h) (Or.inl ⟨by rfl, fun w' hS => by obtain ⟨k1, k2, k3⟩ := hS; go_simp⟩) hS0 ?_
      simp only [Act.put, List.setIfInBounds_toArray, List.set_cons_zero, List.set_cons_succ]
      refine wpAnyS_take (i := 4) (v := .slice Au j cu) rfl (by kernel_rfl) (by kernel_rfl) (by kernel_rfl) (by kernel_rfl) (fun _ _ _ h => h) (Or.inl ⟨by rfl, fun w' hS => by obtain ⟨k1, k2, k3⟩ := hS; go_simp⟩) hS0 ?_
      simp only [Act.put, List.setIfInBounds_toArray, List.set_cons_zero, List.set_cons_succ]
      refine wpAnyS_take (i := 5) (v := .pointer (some ⟨g, 0, none⟩)) rfl (by kernel_rfl) (by kernel_rfl) (by kernel_rfl) (by kernel_rfl) (fun _ _ _ h => h) (Or.inl ⟨by rfl, fun w' hS => by obtain ⟨k1, k2, k3⟩ := hS; go_simp⟩) hS0 ?_
      simp only [Act.put, List.setIfInBounds_toArray, List.set_cons_zero, List.set_cons_succ]
      refine wpAnyS_take (i := 6) (v := .pointer (some ⟨g, 0, none⟩)) rfl (by kernel_rfl) (by kernel_rfl) (by kernel_rfl) (by kernel_rfl) (fun _ _ _ h => h) (Or.inl ⟨by rfl, fun w' hS => by obtain ⟨k1, k2, k3⟩ := hS; go_simp⟩) hS0 ?_
      simp only [Act.put, List.setIfInBounds_toArray, List.set_cons_zero, List.set_cons_succ]
      refine wpAnyS_take (i := 7) (v := .pointer (some ⟨g, 0, none⟩)) rfl (by kernel_rfl) (by kernel_rfl) (by kernel_rfl) (by kernel_rfl) (fun _ _ _ h => h) (Or.inl ⟨by rfl, fun w' hS => by obtain ⟨k1, k2, k3⟩ := hS; go_simp⟩) hS0 ?_
      simp only [Act.put, List.setIfInBounds_toArray, List.set_cons_zero, List.set_cons_succ]
      refine wpAnyS_take (i := 8) (v := .slice (some ad) q.lines.length c) rfl (by kernel_rfl) (by kernel_rfl) (by kernel_rfl) (by kernel_rfl) (fun _ _ _ h => h) (Or.inl ⟨by rfl, fun w' hS => by obtain ⟨k1, k2, k3⟩ := hS; go_simp⟩) hS0 ?_
      simp only [Act.put, List.setIfInBounds_toArray, List.set_cons_zero, List.set_cons_succ]
      refine wpAnyS_take (i := 9) (v := .int .i64 (j : Int)) rfl (by kernel_rfl) (by kernel_rfl) (by kernel_rfl) (by kernel_rfl) (fun _ _ _ h => h) (Or.inl ⟨by rfl, fun w' hS => by obtain ⟨k1, k2, k3⟩ := hS; go_simp⟩) hS0 ?_
      simp only [Act.put, List.setIfInBounds_toArray, List.set_cons_zero, List.set_cons_succ]
      refine wpAnyS_take (i := 10) (v := .pointer (some (ad.add (j * 2)))) rfl (by kernel_rfl) (by kernel_rfl) (by kernel_rfl) (by kernel_rfl) (fun _ _ _ h => h) (Or.inl ⟨by rfl, fun w' hS => by obtain ⟨k1, k2, k3⟩ := hS; go_simp⟩) hS0 ?_
      simp only [Act.put, List.setIfInBounds_toArray, List.set_cons_zero, List.set_cons_succ]
      refine wpAnyS_take (i := 11) (v := .pointer (some (ad.add (j * 2)))) rfl (by kernel_rfl) (by kernel_rfl) (by kernel_rfl) (by kernel_rfl) (fun _ _ _ h => h) (Or.inl ⟨by rfl, fun w' hS => by obtain ⟨k1, k2, k3⟩ := hS; go_simp⟩) hS0 ?_
      simp only [Act.put, List.setIfInBounds_toArray, List.set_cons_zero, List.set_cons_succ]
      refine wpAnyS_take (i := 12) (v := .string x) rfl (by kernel_rfl) (by kernel_rfl) (by kernel_rfl) (by kernel_rfl) (fun _ _ _ h => h) (Or.inl ⟨by rfl, fun w' hS => by obtain ⟨k1, k2, k3⟩ := hS; go_simp⟩) hS0 ?_
      simp only [Act.put, List.setIfInBounds_toArray, List.set_cons_zero, List.set_cons_succ]
      refine wpAnyS_one (i := 13) (by kernel_rfl) rfl (fun K2 hK2 => ?_)
      go_simp
      refine hK2.out _ _ (fun _ => HM.out _ (below_alloc hbel.drew _) (blk_alloc (blk_drew h2) _)) ?_
      refine wpAnyS_one (i := 14) (by kernel_rfl) rfl (fun K3 hK3 => ?_)
      refine Kd.R_append_step Kd.string (w0 := w) (W := wr.drew) w.heap.size (by rfl) (.tmp 25) (.tmp 34) 62 9 (.string ⟨#[]⟩) 16 (by rfl) Try.underlying62 info9 rfl (by decide) (by omega) (.slice Au j cu) tl x [.string x] (fun _ => True) (fun _ => False) (by rfl) (by rfl) rfl (fun _ h => h.elim) (fun _ _ => trivial) (Kd.R_drew h3) hbel.drew hbel.drew.size (by rw [HLX.out]; omega) ?_
      intro v5 w5 hR5 hb5 hg5 hat5
      obtain ⟨A5, c5, rfl⟩ := Kd.R_slice hR5
      rw [List.length_append, List.length_singleton, HLX.out] at hR5 ⊢
      have h25 := blk_grown (blk_drew h2) hg5 (Kd.R_ne (Kd.R_drew h3) (blk_drew h2) (by decide))
      have hS5 := HM.out _ hb5 h25
      refine hK3.out _ _ (fun _ => hS5) ?_
      simp only [Act.put, List.setIfInBounds_toArray, List.set_cons_zero, List.set_cons_succ]
      refine wpAnyS_one (i := 15) (by kernel_rfl) rfl (fun K4 hK4 => ?_)
      go_simp
      refine hK4.out _ _ (fun _ => hS5) ?_
      refine wpAnyS_one (i := 16) (by kernel_rfl) rfl (fun K5 hK5 => ?_)
      go_simp
      refine hK5.out _ _ (fun _ => hS5) ?_
      refine wpAnyS_one (i := 17) (by kernel_rfl) rfl (fun K6 hK6 => ?_)
      have hk45 := hS5.1
      have hf45 := blk_frozen h25 0
      go_simp
      refine hK6.out _ _ (fun h => absurd rfl h) ?_
      refine wpAnyS_done (by kernel_rfl) ?_ _
      go_wp2
      go_roundw
      case rel => exact ⟨j + 1, A5, c5, by simp, by omega, blk_put h25 0 _ rfl, by rw [HTK.out]; exact Kd.R_set hR5 h25 (by decide) 0 _, hb5.setCell (p := ⟨gw, 0, none⟩) hgww _⟩
      case measure => simp [intOf]; omega
    · obtain rfl : j = q.lines.length := by omega
      rw [List.take_of_length_le (Nat.le_refl _)] at h3
      have hlx := textsOf_len q.lines
      obtain ⟨tl, htl⟩ : ∃ tl, tl = textsOf q.lines := ⟨_, rfl⟩
      rw [← htl] at h3 hlx
      have HTL := Aside0.mk htl
      clear htl
      have HLX := Aside0.mk hlx
      have hll : tl.length ≤ 1000000 := by omega
      clear hlx
      have hkw : wr.cell? ⟨gw, 0, none⟩ = some (.slice Au q.lines.length cu) := (blk_cell h2 0).trans rfl
      go_wp2_with (first
        | ((with_reducible refine gate_builtin (b := .append) (xs := #[.tmp 42, .tmp 43]) rfl ?_); at_builtin; refine Kd.R_append Kd.string (w0 := w) (W := wr) w.heap.size rfl (.tmp 42) (.tmp 43) 62 9 (.string ⟨#[]⟩) 16 rfl Try.underlying62 info9 rfl (by decide) (by omega) (.slice Au q.lines.length cu) tl ⟨#[]⟩ [.string ⟨#[]⟩] (fun _ => True) (fun _ => False) rfl rfl rfl (fun _ h => h.elim) (fun _ _ => trivial) h3 hbel hbel.size (by omega) ?_; intro v3 w3 hR3 hb3 hg3 hat3; obtain ⟨A3, c3, rfl⟩ := Kd.R_slice hR3; have h23 := blk_grown h2 hg3 (Kd.R_ne h3 h2 (by decide)); rw [List.length_append, List.length_singleton] at hR3; have hk3 : w3.cell? ⟨gw, 0, none⟩ = some (.slice Au q.lines.length cu) := (blk_cell h23 0).trans rfl; have hf3 := blk_frozen h23 0; have h24 := blk_put h23 0 (.slice A3 (tl.length + 1) c3) rfl; have hR4 := Kd.R_set hR3 h23 (by decide) 0 (.slice A3 (tl.length + 1) c3); have hb4 := hb3.setCell (p := ⟨gw, 0, none⟩) hgww (.slice A3 (tl.length + 1) c3); have hC4 := (Kd.R_reads' hR4).2.2)
        | ((with_reducible refine gate_builtin (b := .append) (xs := #[.const (.slice none 0 0), .tmp 51]) rfl ?_); at_builtin; go_loud (refine Kd.R_append_rows Kd.string (w0 := w3.setCell ⟨gw, 0, none⟩ (.slice A3 (tl.length + 1) c3)) (w3.setCell ⟨gw, 0, none⟩ (.slice A3 (tl.length + 1) c3)).heap.size rfl (.const (.slice none 0 0)) (.tmp 51) 62 9 (.string ⟨#[]⟩) 16 rfl Try.underlying62 info9 rfl (by decide) (by omega) (.slice none 0 0) [] (tl ++ [⟨#[]⟩]) _ _ _ (fun _ => True) (fun _ => False) rfl rfl (Kd.R_nil _ _ _ _ _) (by simp only [List.length_append, List.length_singleton] at hC4; exact hC4) (fun x cs h => h) (fun _ h => h.elim) (fun _ _ => trivial) (Below.refl _ _) (Nat.le_refl _) (by simp; omega) ?_); intro v6 w6 hR6 hb6 hg6 hat6; rw [List.nil_append] at hR6; obtain ⟨A6, c6, rfl⟩ := Kd.R_slice hR6; rw [List.length_append, List.length_singleton] at hR6; have h26 := blk_below h24 hb6; have hk6 : w6.cell? ⟨gw, 1, none⟩ = some (.slice none 0 0) := (blk_cell h26 1).trans rfl; have hf6 := blk_frozen h26 1))
      go_ret
      rw [← HTL.out]
      refine ⟨gw, _, _, rfl, hgww, ⟨blk_put h26 1 _ rfl, Kd.R_set (Kd.R_below hR4 hb6) h26 (by decide) 1 _, Kd.R_set (Kd.R_lower hR6 hb4.size) h26 (by decide) 1 _, fun k e1 e2 => ?_⟩, (below_step hb4 hb6).setCell (p := ⟨gw, 1, none⟩) hgww _⟩
      have := Kd.R_lt hR4 k e1.symm
      have := Kd.R_base hR6 k e2.symm
      omega
end Go.Proofs.Ytbjdjbhmafmnbaa
