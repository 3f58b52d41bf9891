/-
  shwords.Texts: the texts of the words, as a function to range over.
-/
import Derived.Test.YtpebdkchdgaeoaaGivenE
import Derived.Test.YtpebdkchdgaeoaaU3
import Derived.Deep.RegionLaw
import Derived.Deep.DrawnRows
namespace Go.Proofs.Ytpebdkchdgaeoaa
open Go.RowKit Go.Proofs.YtpebdkchdgaeoaaW.PrintWords Go.Proofs.YtpebdkchdgaeoaaW.PrintLast Go.Proofs.YtpebdkchdgaeoaaW.PrintMore Go.Proofs.Ytpebdkchdgaeoaa.PAll
set_option linter.unusedVariables false
set_option linter.unusedSimpArgs false
attribute [local go_sem ↓] Go.wp_at_zero Go.wp_at_succ

/-- A word's text. -/
def cutW (l : List Int) (s : S27) : List Int := (l.take s.f2.toNat).drop s.f1.toNat
abbrev DT : Kd (List Int) := Kd.slice 21 (Kd.int .i32)

theorem clone_at (A0 : Option Addr) (n c0 : Nat) (l0 : List Int) (w : World) (hn : l0.length = n) (hr0 : Kd.C (Kd.int .i32) w A0 n l0) (hc0 : n ≤ c0) (hl : n ≤ 1000000000000) :
    Calls Try.prog 31 #[.slice A0 n c0] w fun e w' => ∃ v0_ : Value, e = .returned (v0_) ∧ Kd.R (Kd.int .i32) 21 w' w.heap.size (fun _ => True) v0_ l0 ∧ Below w.heap.size w w' := by
  subst hn
  exact clone_calls A0 c0 l0 w hr0 hc0 hl
theorem info22 : (Try.prog.info? 22).map (fun i => (i.zero, i.size, i.bytes)) = some (some (.slice none 0 0), 1, 24) := by kernel_rfl
theorem rd_T27_nat (xs : List S27) (i : Nat) (h : i < xs.length) : rd_T27 xs (i : Int) = xs[i] := by
  simp [rd_T27, List.getD, List.getElem?_eq_getElem h]
theorem texts_calls (A0 : Option Addr) (c0 : Nat) (l0 : List Int) (ws : List S27) (w : World) (hr0 : Kd.C (Kd.int .i32) w A0 l0.length l0) (hc0 : l0.length ≤ c0) (hl : l0.length ≤ 1048576) (k : Nat) (hw : shwords_Words.f k l0 = some ws)
    (hws : ∀ s ∈ ws, 0 ≤ s.f1 ∧ s.f1 < s.f2 ∧ s.f2 ≤ l0.length) (hwl : ws.length ≤ 1048576) :
    Calls Try.prog 12 #[.slice A0 l0.length c0] w fun e w' => ∃ (B : Nat) (v : Value), e = .returned (.func (.func 32) #[] #[.pointer (some ⟨B, 0, none⟩)]) ∧ w.heap.size ≤ B ∧ w'.heap[B]? = some (.cells #[v] 30 (0, 0)) ∧
      Kd.R DT 22 w' w.heap.size (fun _ => True) v (ws.map (cutW l0)) ∧ Below w.heap.size w w' := by
  go_enter Try.func12, Try.ntmps12
  have hB0 : Below w.heap.size w (w.alloc (.cells #[.slice none 0 0] 30)) := (Below.refl _ _).alloc (Nat.le_refl _) _
  go_wp2_with (go_at_call 9; refine (shwords_Words.calls k A0 c0 l0 ws _ (Kd.C_alloc hr0 _) hc0 hw).mono ?_; rintro e w2 ⟨v7, rfl, HW, HB⟩; obtain ⟨A7, c7, rfl⟩ := Kd.R_slice HW)
  have hb2 : Below w.heap.size w w2 := below_step hB0 HB
  go_loopw [9] (fun i wr => ∃ (j : Nat) (v : Value), i = .int .i64 j ∧ j ≤ ws.length ∧ wr.heap[w.heap.size]? = some (.cells #[v] 30 (0, 0)) ∧ Kd.R DT 22 wr w.heap.size (fun _ => True) v ((ws.take j).map (cutW l0)) ∧
      Kd.R k27 27 wr w.heap.size (fun _ => True) (.slice A7 ws.length c7) ws ∧ Below w.heap.size w wr)
    (fun i wr => ws.length - (intOf i).toNat)
  case atStart =>
    exact ⟨0, _, rfl, Nat.zero_le _, blk_below (blk_new w _) HB, Kd.R_nil _ _ _ _ _, Kd.R_lower HW (by simp), hb2⟩
  case round =>
    obtain ⟨j, v, rfl, hj, hbox, hR, hW, hbel⟩ := hrel
    by_cases hlt : j < ws.length
    · obtain ⟨ad, e7, hx0, hx1, hx2⟩ := at_T27 (Kd.R_reads' hW).2.2 (j : Int) (by omega) (by omega)
      cases e7
      rw [Int.toNat_natCast, show rd_T27 ws (j : Int) = ws[j] from rd_T27_nat ws j hlt] at hx0 hx1 hx2
      have hsm := hws ws[j] (List.getElem_mem hlt)
      obtain ⟨s, hs⟩ : ∃ s, s = ws[j] := ⟨_, rfl⟩
      rw [← hs] at hx0 hx1 hx2 hsm
      obtain ⟨s0, s1, s2⟩ := s
      simp only at hx0 hx1 hx2 hsm
      obtain ⟨q1, q2, q3⟩ := hsm
      obtain ⟨p1, rfl⟩ := Int.eq_ofNat_of_zero_le q1
      obtain ⟨p2, rfl⟩ := Int.eq_ofNat_of_zero_le (Int.le_trans q1 (Int.le_of_lt q2))
      have q2' : (p1 : Int) ≤ (p2 : Int) := Int.le_of_lt q2
      have q4 : (p2 : Int) ≤ (c0 : Int) := by omega
      obtain ⟨a0, ha0, _⟩ := hr0.2.2 (by omega)
      subst ha0
      have htx : cutW l0 ⟨s0, (p1 : Int), (p2 : Int)⟩ = (l0.take p2).drop p1 := rfl
      have hlen : ((l0.take p2).drop p1).length = p2 - p1 := by rw [List.length_drop, List.length_take]; omega
      go_wp2_with (first | (refine box_event ?hg (N := 5) ?hd (cs := #[.int .i64 0, .int .i64 0, .int .i64 0]) (t := 27) ?hr ?_; (case hd => rfl); (case hg => rfl); (case hr => first | (go_simp; done) | (go_simp; rfl)); intro g hg w3 hgb hb3; have hle := Aside0.mk (Nat.le_of_eq hg.symm); clear hg; have hc0 : w3.cell? ⟨g, 0, none⟩ = some (.int .i64 0) := (blk_cell hgb 0).trans rfl; have hc1 : w3.cell? ⟨g, 1, none⟩ = some (.int .i64 0) := (blk_cell hgb 1).trans rfl; have hc2 : w3.cell? ⟨g, 2, none⟩ = some (.int .i64 0) := (blk_cell hgb 2).trans rfl; have hf0 := blk_frozen hgb 0; have hf1 := blk_frozen hgb 1; have hf2 := blk_frozen hgb 2))
      have hne1 : w.heap.size ≠ g := by have := hbel.size; have := hle.out; have := blk_lt hbox; omega
      obtain ⟨W4, hW4⟩ : ∃ W4, W4 = ((w3.setCell ⟨g, 0, none⟩ (.int .i64 s0)).setCell ⟨g, 1, none⟩ (.int .i64 (p1 : Int))).setCell ⟨g, 2, none⟩ (.int .i64 (p2 : Int)) := ⟨_, rfl⟩
      rw [← hW4]
      have hg4 : W4.heap[g]? = some (.cells #[.int .i64 s0, .int .i64 (p1 : Int), .int .i64 (p2 : Int)] 27 (0, 0)) := by
        rw [hW4]; exact blk_put (blk_put (blk_put hgb 0 _ rfl) 1 _ rfl) 2 _ rfl
      have hb4 : Below wr.heap.size wr W4 := by rw [hW4]; exact ((hb3.setCell (p := ⟨g, 0, none⟩) hle.out _).setCell (p := ⟨g, 1, none⟩) hle.out _).setCell (p := ⟨g, 2, none⟩) hle.out _
      clear hW4 hc0 hc1 hc2 hf0 hf1 hf2 hgb hb3
      have hbox4 := blk_below hbox hb4
      have hR4 := Kd.R_below hR hb4
      have hWd4 := Kd.R_below hW hb4
      have hbw4 := below_step hbel hb4
      have hC4 := Kd.C_below hr0 hbw4
      have hk0 : W4.cell? ⟨w.heap.size, 0, none⟩ = some v := (blk_cell hbox4 0).trans rfl
      have hk1 : W4.cell? ⟨g, 1, none⟩ = some (.int .i64 (p1 : Int)) := (blk_cell hg4 1).trans rfl
      have hk2 : W4.cell? ⟨g, 2, none⟩ = some (.int .i64 (p2 : Int)) := (blk_cell hg4 2).trans rfl
      have hCm : Kd.C (Kd.int .i32) W4.drew (if c0 = p1 then some a0 else some (a0.add p1)) (p2 - p1) ((l0.take p2).drop p1) := by
        have h := Kd.C_drew (Kd.C_mid (lo := p1) (hi := p2) hC4 (by omega) (by omega) hc0)
        rw [hlen] at h
        by_cases hcp : c0 = p1
        · rw [if_pos hcp] at h ⊢; exact h
        · rw [if_neg hcp] at h ⊢
          rw [Option.map_some, show p1 * (Kd.int IntKind.i32).sz = p1 from Nat.mul_one p1] at h
          exact h
      have e6 : (ws.take (j + 1)).map (cutW l0) = (ws.take j).map (cutW l0) ++ [(l0.take p2).drop p1] := by
        rw [List.take_succ_eq_append_getElem hlt, ← hs, List.map_append, List.map_singleton, htx]
      have l6 : ((ws.take (j + 1)).map (cutW l0)).length = j + 1 := by rw [List.length_map, List.length_take]; omega
      go_region_law
        (first
          | (refine Kd.R_append_step DT (w0 := w) (W := w5) w.heap.size (by rfl) (.tmp 13) (.tmp 21) 30 22 (.slice none 0 0) 24 (by rfl) Try.underlying30 info22 rfl (by decide) (by omega) v ((ws.take j).map (cutW l0)) ((l0.take p2).drop p1) [.slice A20 (p2 - p1) c20] (fun _ => True) (fun k => True ∧ some k ≠ v.ownBlock) (by rfl) (by rfl) ⟨_, rfl, hT5'⟩ (fun _ h => ⟨trivial, h.2⟩) (fun _ _ => trivial) hR5 hbw5 hbw5.size (by simp; omega) ?_; intro v1 w6 hR6 hb6 hg6' hat6; obtain ⟨A6, c6, rfl⟩ := Kd.R_slice hR6; rw [← e6, l6] at hR6; have hbox6 := blk_grown hbox5 hg6' (Kd.R_ne hR5 hbox5 (by decide)); have hg6 := blk_grown hg5 hg6' (Kd.R_ne hR5 hg5 (by decide)); have hWd6 := Kd.R_over hWd5 hR5 (by decide) hg6'; have hk6 : w6.cell? ⟨w.heap.size, 0, none⟩ = some v := (blk_cell hbox6 0).trans rfl; have hf6 := blk_frozen hbox6 0; have hk61 : w6.cell? ⟨g, 1, none⟩ = some (.int .i64 (p1 : Int)) := (blk_cell hg6 1).trans rfl; have hk62 : w6.cell? ⟨g, 2, none⟩ = some (.int .i64 (p2 : Int)) := (blk_cell hg6 2).trans rfl)
          | (go_simp; go_at_call 31; refine (clone_at _ _ _ _ _ hlen hCm (by omega) (by omega)).mono ?_; rintro e w5 ⟨v20, rfl, hT5, hb5⟩; obtain ⟨A20, c20, rfl⟩ := Kd.R_slice hT5; rw [hlen] at hT5;  have hbox5 := blk_below (blk_drew hbox4) hb5; have hg5 := blk_below (blk_drew hg4) hb5; have hR5 := Kd.R_below (Kd.R_drew hR4) hb5; have hWd5 := Kd.R_below (Kd.R_drew hWd4) hb5; have hbw5 := below_step (below_drew hbw4) hb5; have hk50 : w5.cell? ⟨w.heap.size, 0, none⟩ = some v := (blk_cell hbox5 0).trans rfl; have hk5a : (w5.alloc (.cells #[.slice A20 (p2 - p1) c20] 22)).cell? ⟨w.heap.size, 0, none⟩ = some v := (blk_cell (blk_alloc hbox5 _) 0).trans rfl; have hT5' := Kd.R_lower (Kd.R_newR hT5 (Kd.R_drew hR4)) (below_drew hbw4).size))
      all_goals (go_wp2; go_roundw; (case rel => exact ⟨j + 1, .slice A6 (j + 1) c6, by simp, by omega, blk_put hbox6 0 _ rfl, Kd.R_set hR6 hbox6 (by decide) 0 _, Kd.R_set hWd6 hbox6 (by decide) 0 _, hb6.setCell (p := ⟨w.heap.size, 0, none⟩) (Nat.le_refl _) _⟩); (case measure => simp [intOf]; omega))
    · obtain rfl : j = ws.length := by omega
      go_wp2
      rw [List.take_of_length_le (Nat.le_refl _)] at hR
      go_ret
      exact ⟨w.heap.size, v, rfl, Nat.le_refl _, hbox, hR, hbel⟩
end Go.Proofs.Ytpebdkchdgaeoaa
