-- Written by a program of this session: Go functions as plain Lean functions, and their walks.
import Derived.Test.YtpebdkchdgaeoaaPAllx0
import Derived.Test.YtpebdkchdgaeoaaPAllx2
import Derived.Test.YtpebdkchdgaeoaaPAllx4
namespace Go.Proofs.Ytpebdkchdgaeoaa.PAll
open Go.RowKit Go.Proofs.YtpebdkchdgaeoaaW.PrintWords Go.Proofs.YtpebdkchdgaeoaaW.PrintLast Go.Proofs.YtpebdkchdgaeoaaW.PrintMore
attribute [local go_sem] max2_int min2_int max_two min_two max_three min_three max_four min_four   -- for this text's walks alone
set_option linter.unusedVariables false
set_option linter.unusedSimpArgs false

/-! ### lanyardlaw12_WordsParts: function 3 -/
mutual
def lanyardlaw12_WordsParts.l0 : Nat → List Int → Int → List (S27) → Int → Int → Option (Bool)
  | 0, _, _, _, _, _ => none
  | k + 1, x0, x3, x17, x18, x19 => if x19 < x18 then (if 0 ≤ x19 then (if x19 < (x17.length : Int) then (if ((rd_T27 x17 x19).f1) < x3 then (lanyardlaw12_WordsParts.j1 k x0 x3 x17 x18 x19 true ((rd_T27 x17 x19).f0) ((rd_T27 x17 x19).f1) ((rd_T27 x17 x19).f2)) else (if ((rd_T27 x17 x19).f2) > (x0.length : Int) then (lanyardlaw12_WordsParts.j1 k x0 x3 x17 x18 x19 true ((rd_T27 x17 x19).f0) ((rd_T27 x17 x19).f1) ((rd_T27 x17 x19).f2)) else (if ((rd_T27 x17 x19).f2) < ((rd_T27 x17 x19).f1) then (lanyardlaw12_WordsParts.j1 k x0 x3 x17 x18 x19 true ((rd_T27 x17 x19).f0) ((rd_T27 x17 x19).f1) ((rd_T27 x17 x19).f2)) else (if ((rd_T27 x17 x19).f2) = ((rd_T27 x17 x19).f1) then (lanyardlaw12_WordsParts.j1 k x0 x3 x17 x18 x19 (((rd_T27 x17 x19).f1) != (x0.length : Int)) ((rd_T27 x17 x19).f0) ((rd_T27 x17 x19).f1) ((rd_T27 x17 x19).f2)) else (lanyardlaw12_WordsParts.j1 k x0 x3 x17 x18 x19 false ((rd_T27 x17 x19).f0) ((rd_T27 x17 x19).f1) ((rd_T27 x17 x19).f2)))))) else (none)) else (none)) else (some true)
def lanyardlaw12_WordsParts.j1 : Nat → List Int → Int → List (S27) → Int → Int → Bool → Int → Int → Int → Option (Bool)
  | 0, _, _, _, _, _, _, _, _, _ => none
  | k + 1, x0, x3, x17, x18, x19, x54, x171000, x171001, x171002 => if x54 = true then (some false) else (lanyardlaw12_WordsParts.l1 k x0 x3 x17 x18 x19 x171000 x171001 x171002)
def lanyardlaw12_WordsParts.l1 : Nat → List Int → Int → List (S27) → Int → Int → Int → Int → Int → Option (Bool)
  | 0, _, _, _, _, _, _, _, _ => none
  | k + 1, x0, x3, x17, x18, x19, x171000, x171001, x171002 => if x3 < x171001 then (if 0 ≤ x3 then (if x3 < (x0.length : Int) then (if (rd x0 x3) = 32 then ((shwords_Quoted.f k x0 x3).bind fun t172 => (if t172 = 0 then (lanyardlaw12_WordsParts.l1 k x0 (wrap64 (x3 + 1)) x17 x18 x19 x171000 x171001 x171002) else (some false))) else (if (rd x0 x3) = 9 then ((shwords_Quoted.f k x0 x3).bind fun t173 => (if t173 = 0 then (lanyardlaw12_WordsParts.l1 k x0 (wrap64 (x3 + 1)) x17 x18 x19 x171000 x171001 x171002) else (some false))) else (if (rd x0 x3) = 10 then ((shwords_Quoted.f k x0 x3).bind fun t174 => (if t174 = 0 then (lanyardlaw12_WordsParts.l1 k x0 (wrap64 (x3 + 1)) x17 x18 x19 x171000 x171001 x171002) else (some false))) else (some false)))) else (none)) else (none)) else (lanyardlaw12_WordsParts.l0 k x0 x171002 x17 x18 (wrap64 (x19 + 1)))
end
def lanyardlaw12_WordsParts.f (k : Nat) (l0 : List Int) : Option (Bool) := (lanyardlaw12_begun.f k).bind fun t162 => (if t162 = true then ((shwords_Words.f k l0).bind fun t163 => (if t163.length < 5864062014805 then ((some (t163 ++ [(⟨0, (l0.length : Int), (l0.length : Int)⟩ : S27)] : List (S27))).bind fun y166 => (lanyardlaw12_WordsParts.l0 k l0 0 y166 (y166.length : Int) 0)) else (none))) else (some false))
theorem lanyardlaw12_WordsParts.mono_l : ∀ k, (∀ y0 y1 y2 y3 y4, LeO (lanyardlaw12_WordsParts.l0 k y0 y1 y2 y3 y4) (lanyardlaw12_WordsParts.l0 (k + 1) y0 y1 y2 y3 y4)) ∧ (∀ y0 y1 y2 y3 y4 y5 y6 y7 y8, LeO (lanyardlaw12_WordsParts.j1 k y0 y1 y2 y3 y4 y5 y6 y7 y8) (lanyardlaw12_WordsParts.j1 (k + 1) y0 y1 y2 y3 y4 y5 y6 y7 y8)) ∧ (∀ y0 y1 y2 y3 y4 y5 y6 y7, LeO (lanyardlaw12_WordsParts.l1 k y0 y1 y2 y3 y4 y5 y6 y7) (lanyardlaw12_WordsParts.l1 (k + 1) y0 y1 y2 y3 y4 y5 y6 y7))
  | 0 => ⟨fun _ _ _ _ _ r h => by simp [lanyardlaw12_WordsParts.l0] at h, fun _ _ _ _ _ _ _ _ _ r h => by simp [lanyardlaw12_WordsParts.j1] at h, fun _ _ _ _ _ _ _ _ r h => by simp [lanyardlaw12_WordsParts.l1] at h⟩
  | k + 1 => by
    obtain ⟨ih0, ih1, ih2⟩ := lanyardlaw12_WordsParts.mono_l k
    refine ⟨?_, ?_, ?_⟩
    · intro y0 y1 y2 y3 y4
      unfold lanyardlaw12_WordsParts.l0
      repeat' first
      | (with_reducible exact ih0 _ _ _ _ _)
      | (with_reducible exact ih1 _ _ _ _ _ _ _ _ _)
      | (with_reducible exact ih2 _ _ _ _ _ _ _ _)
      | (with_reducible exact lanyardlaw12_begun.mono _)
      | (with_reducible exact shwords_Quoted.mono _ _ _)
      | (with_reducible exact shwords_Words.mono _ _)
      | (with_reducible exact LeO.refl _)
      | (with_reducible exact LeO.none _)
      | (with_reducible refine LeO.ite ?_ ?_)
      | (with_reducible refine LeO.bind ?_ (fun _ => ?_))
      | exact ih0 _ _ _ _ _
      | exact ih1 _ _ _ _ _ _ _ _ _
      | exact ih2 _ _ _ _ _ _ _ _
      | exact lanyardlaw12_begun.mono _
      | exact shwords_Quoted.mono _ _ _
      | exact shwords_Words.mono _ _
      | exact LeO.none _
      | refine LeO.ite ?_ ?_
      | refine LeO.bind ?_ (fun _ => ?_)
    · intro y0 y1 y2 y3 y4 y5 y6 y7 y8
      unfold lanyardlaw12_WordsParts.j1
      repeat' first
      | (with_reducible exact ih0 _ _ _ _ _)
      | (with_reducible exact ih1 _ _ _ _ _ _ _ _ _)
      | (with_reducible exact ih2 _ _ _ _ _ _ _ _)
      | (with_reducible exact lanyardlaw12_begun.mono _)
      | (with_reducible exact shwords_Quoted.mono _ _ _)
      | (with_reducible exact shwords_Words.mono _ _)
      | (with_reducible exact LeO.refl _)
      | (with_reducible exact LeO.none _)
      | (with_reducible refine LeO.ite ?_ ?_)
      | (with_reducible refine LeO.bind ?_ (fun _ => ?_))
      | exact ih0 _ _ _ _ _
      | exact ih1 _ _ _ _ _ _ _ _ _
      | exact ih2 _ _ _ _ _ _ _ _
      | exact lanyardlaw12_begun.mono _
      | exact shwords_Quoted.mono _ _ _
      | exact shwords_Words.mono _ _
      | exact LeO.none _
      | refine LeO.ite ?_ ?_
      | refine LeO.bind ?_ (fun _ => ?_)
    · intro y0 y1 y2 y3 y4 y5 y6 y7
      unfold lanyardlaw12_WordsParts.l1
      repeat' first
      | (with_reducible exact ih0 _ _ _ _ _)
      | (with_reducible exact ih1 _ _ _ _ _ _ _ _ _)
      | (with_reducible exact ih2 _ _ _ _ _ _ _ _)
      | (with_reducible exact lanyardlaw12_begun.mono _)
      | (with_reducible exact shwords_Quoted.mono _ _ _)
      | (with_reducible exact shwords_Words.mono _ _)
      | (with_reducible exact LeO.refl _)
      | (with_reducible exact LeO.none _)
      | (with_reducible refine LeO.ite ?_ ?_)
      | (with_reducible refine LeO.bind ?_ (fun _ => ?_))
      | exact ih0 _ _ _ _ _
      | exact ih1 _ _ _ _ _ _ _ _ _
      | exact ih2 _ _ _ _ _ _ _ _
      | exact lanyardlaw12_begun.mono _
      | exact shwords_Quoted.mono _ _ _
      | exact shwords_Words.mono _ _
      | exact LeO.none _
      | refine LeO.ite ?_ ?_
      | refine LeO.bind ?_ (fun _ => ?_)
theorem lanyardlaw12_WordsParts.mono : ∀ a0 k, LeO (lanyardlaw12_WordsParts.f k a0) (lanyardlaw12_WordsParts.f (k + 1) a0) := by
  intro a0 k
  obtain ⟨ih0, ih1, ih2⟩ := lanyardlaw12_WordsParts.mono_l k
  unfold lanyardlaw12_WordsParts.f
  repeat' first
      | (with_reducible exact ih0 _ _ _ _ _)
      | (with_reducible exact ih1 _ _ _ _ _ _ _ _ _)
      | (with_reducible exact ih2 _ _ _ _ _ _ _ _)
      | (with_reducible exact lanyardlaw12_begun.mono _)
      | (with_reducible exact shwords_Quoted.mono _ _ _)
      | (with_reducible exact shwords_Words.mono _ _)
      | (with_reducible exact LeO.refl _)
      | (with_reducible exact LeO.none _)
      | (with_reducible refine LeO.ite ?_ ?_)
      | (with_reducible refine LeO.bind ?_ (fun _ => ?_))
      | exact ih0 _ _ _ _ _
      | exact ih1 _ _ _ _ _ _ _ _ _
      | exact ih2 _ _ _ _ _ _ _ _
      | exact lanyardlaw12_begun.mono _
      | exact shwords_Quoted.mono _ _ _
      | exact shwords_Words.mono _ _
      | exact LeO.none _
      | refine LeO.ite ?_ ?_
      | refine LeO.bind ?_ (fun _ => ?_)
set_option maxHeartbeats 8000000 in
set_option maxRecDepth 100000 in
theorem lanyardlaw12_WordsParts.calls (k : Nat) (A0 : Option Addr) (c0 : Nat) (l0 : List Int) (r : Bool) (w : World) (hr0 : Kd.C (Kd.int .i32) w A0 l0.length l0) (hc0 : l0.length ≤ c0) (h : lanyardlaw12_WordsParts.f k l0 = some r) :
    Calls Try.prog 3 #[.slice A0 l0.length c0] w fun e w' => e = .returned (.bool r) ∧ Below w.heap.size w w' := by
  have hu27 := Try.underlying27
  have HR0 := Aside0.mk hr0
  have HC0 := Aside0.mk hc0
  clear hr0 hc0
  have HB := Aside0.mk (Below.refl w.heap.size w)
  have H : ((lanyardlaw12_begun.f k).bind fun t162 => (if t162 = true then ((shwords_Words.f k l0).bind fun t163 => (if t163.length < 5864062014805 then ((some (t163 ++ [(⟨0, (l0.length : Int), (l0.length : Int)⟩ : S27)] : List (S27))).bind fun y166 => (lanyardlaw12_WordsParts.l0 k l0 0 y166 (y166.length : Int) 0)) else (none))) else (some false))) = some r := h
  clear h
  replace H := Option.bind_eq_some_iff.mp H
  obtain ⟨t162, A20, H⟩ := H
  replace H : (if t162 = true then ((shwords_Words.f k l0).bind fun t163 => (if t163.length < 5864062014805 then ((some (t163 ++ [(⟨0, (l0.length : Int), (l0.length : Int)⟩ : S27)] : List (S27))).bind fun y166 => (lanyardlaw12_WordsParts.l0 k l0 0 y166 (y166.length : Int) 0)) else (none))) else (some false)) = some r := H
  have A2 := Aside0.mk A20
  clear A20
  by_cases c3 : t162 = true
  · subst c3
    have H1 : ((shwords_Words.f k l0).bind fun t163 => (if t163.length < 5864062014805 then ((some (t163 ++ [(⟨0, (l0.length : Int), (l0.length : Int)⟩ : S27)] : List (S27))).bind fun y166 => (lanyardlaw12_WordsParts.l0 k l0 0 y166 (y166.length : Int) 0)) else (none))) = some r := by rw [if_pos rfl] at H; exact H
    clear H
    have H := H1
    clear H1
    replace H := Option.bind_eq_some_iff.mp H
    obtain ⟨t163, A40, H⟩ := H
    replace H : (if t163.length < 5864062014805 then ((some (t163 ++ [(⟨0, (l0.length : Int), (l0.length : Int)⟩ : S27)] : List (S27))).bind fun y166 => (lanyardlaw12_WordsParts.l0 k l0 0 y166 (y166.length : Int) 0)) else (none)) = some r := H
    have A4 := Aside0.mk A40
    clear A40
    by_cases c5 : t163.length < 5864062014805
    · rw [if_pos c5] at H
      have LMc5 := Aside0.mk c5
      clear c5
      obtain ⟨y166, hy166⟩ : ∃ y_ : List (S27), y_ = (t163 ++ [(⟨0, (l0.length : Int), (l0.length : Int)⟩ : S27)]) := ⟨_, rfl⟩
      replace H : (lanyardlaw12_WordsParts.l0 k l0 0 y166 (y166.length : Int) 0) = some r := by first | (rw [hy166]; with_reducible exact H) | (have H2_ := (Option.bind_some _ _).symm.trans H; rw [hy166]; with_reducible exact H2_) | (have H2_ := (Option.bind_some _ _).symm.trans H; with_reducible exact H2_) | with_reducible exact H | (rw [hy166]; exact H) | exact H
      have Ny166 := Aside0.mk hy166
      clear hy166
      have H' := Aside0.mk H
      clear H
      go_enter Try.func3, Try.ntmps3
      go_wp2_with (first | ((with_reducible refine gate_callee (f := 8) rfl ?_); refine goesL_ (some 7) rfl rfl Try.func8 (by kernel_rfl) rfl #[] rfl (by (try simp only [List.map_toArray, List.map_cons, List.map_nil]); first | done | rfl | (simp only [List.length_drop, List.length_take]; rfl)) ?_; (with_reducible refine (lanyardlaw12_begun.calls k  true _ A2.out).mono ?_); rintro e w6 ⟨rfl, hb⟩; refine ⟨_, rfl, ?_⟩; have n0_ := Aside0.mk (below_step (by repeat (first | (with_reducible first | exact HB.out | apply below_alloc | apply pw_below_drewN | apply below_drew1) | exact HB.out)) hb); clear HB; have HB := n0_; clear n0_; (try clear hb); (try clear hb2); (try clear hk); (try clear hi)) | ((with_reducible refine gate_callee (f := 9) rfl ?_); refine goesL_ (some 10) rfl rfl Try.func9 (by kernel_rfl) rfl #[.slice A0 l0.length c0] rfl (by (try simp only [List.map_toArray, List.map_cons, List.map_nil]); first | done | rfl | (simp only [List.length_drop, List.length_take]; rfl)) ?_; (with_reducible refine (shwords_Words.calls k _ _ l0 t163 _ ?side1 ?side2 A4.out).mono ?_); (case side1 => repeat (first | exact (Kd.C_below HR0.out HB.out) | (with_reducible refine Kd.C_alloc ?_ _) | (with_reducible refine Kd.C_drewN ?_ _) | (with_reducible refine Kd.C_drew ?_))); (case side2 => exact HC0.out); rintro e w7 ⟨v164, rfl, ho0, hb⟩; refine ⟨_, rfl, ?_⟩; have n0_ := Aside0.mk (Kd.R_lower ho0 (below_size (by repeat (first | (with_reducible first | exact HB.out | apply below_alloc | apply pw_below_drewN | apply below_drew1) | exact HB.out)))); have n1_ := Aside0.mk (below_step (by repeat (first | (with_reducible first | exact HB.out | apply below_alloc | apply pw_below_drewN | apply below_drew1) | exact HB.out)) hb); clear HB; have HO165 := n0_; have HB := n1_; clear n0_ n1_; (try clear hb); (try clear hb2); (try clear hk); (try clear hi); (try clear ho0)) | ((with_reducible refine gate_builtin (b := .append) (xs := #[.tmp 10, .tmp 16]) rfl ?_); (try (refine gate_guard (by rfl) ?_; dsimp only)); at_builtin; refine Kd.R_append k27 (w0 := w) w.heap.size rfl (.tmp 10) (.tmp 16) 24 27 (.agg #[(.int .i64 0), (.int .i64 0), (.int .i64 0)]) 24 rfl Try.underlying24 info27 rfl (by decide) (by omega) v164 t163 (⟨0, (l0.length : Int), (l0.length : Int)⟩ : S27) [.int .i64 0, .int .i64 (l0.length : Int), .int .i64 (l0.length : Int)] (fun _ => True) (fun _ => False) rfl rfl ?aP (fun _ hk => hk.elim) ?aF ?aO ?aB ?aS ?aL ?_; (case aP => exact k27_mkM _ _ _ (⟨0, (l0.length : Int), (l0.length : Int)⟩ : S27)); (case aB => exact (by repeat (first | (with_reducible first | exact HB.out | apply below_alloc | apply pw_below_drewN | apply below_drew1) | exact HB.out))); (case aF => exact (fun _ _ => trivial)); (case aO => exact (by (with_reducible repeat (first | apply Kd.R_alloc | apply Kd.R_drewN | apply Kd.R_drew)); exact HO165.out)); (case aS => exact (below_size (by repeat (first | (with_reducible first | exact HB.out | apply below_alloc | apply pw_below_drewN | apply below_drew1) | exact HB.out)))); (case aL => have := LMc5.out; omega); intro v167 w8 ho hb hg hat; rw [← Ny166.out] at ho; have n0_ := Aside0.mk (hb); have n1_ := Aside0.mk (ho); clear HB; clear HO165; have HB := n0_; have HO168 := n1_; clear n0_ n1_; clear ho hb hg hat; obtain ⟨Ao9, co9, eo9⟩ := Kd.R_slice HO168.out; subst eo9))
      go_loopg [3, 19] k (fun kq v3 v19 w' => ∃ (x3_1 : Int) (x19_1 : Int), v3 = .int .i64 x3_1 ∧ v19 = .int .i64 x19_1 ∧ Aside0 (lanyardlaw12_WordsParts.l0 kq l0 x3_1 y166 (y166.length : Int) x19_1 = some r) ∧ Aside0 (kq ≤ k) ∧ Aside0 (Kd.R k27 27 w' w.heap.size (fun _ => True) (.slice Ao9 y166.length co9) y166) ∧ Aside0 (Below w.heap.size w w'))
      case atStart => exact ⟨(0), (0), (by first | rfl | (simp; done) | (simp [*]; done)), (by first | rfl | (simp; done) | (simp [*]; done)), H', ⟨Nat.le_refl _⟩, ⟨by (with_reducible repeat (first | apply Kd.R_alloc | apply Kd.R_drewN | apply Kd.R_drew)); exact HO168.out⟩, ⟨by repeat (first | (with_reducible first | exact HB.out | apply below_alloc | apply pw_below_drewN | apply below_drew1) | exact HB.out)⟩⟩
      case round =>
        clear H'
        try clear p2
        try clear c3
        try clear c5
        try clear c8
        try clear c9
        obtain ⟨x3_1, x19_1, rfl, rfl, HA, HK1, HO_17, HB⟩ := hrel
        cases gk with
        | zero => exact absurd HA.out (by simp [lanyardlaw12_WordsParts.l0])
        | succ k1 =>
          have H := HA.out
          clear HA
          simp only [lanyardlaw12_WordsParts.l0] at H
          by_cases c10 : x19_1 < (y166.length : Int)
          · rw [if_pos c10] at H
            have c10b0 : decide (x19_1 < (y166.length : Int)) = true := decide_eq_true c10
            clear c10
            by_cases c11 : 0 ≤ x19_1
            · rw [if_pos c11] at H
              have c11b0 : decide (0 ≤ x19_1) = true := decide_eq_true c11
              clear c11
              by_cases c12 : x19_1 < (y166.length : Int)
              · rw [if_pos c12] at H
                have c12b0 : decide (x19_1 < (y166.length : Int)) = true := decide_eq_true c12
                clear c12
                have HC13 := Aside0.mk H
                clear H
                have p169 : 0 ≤ (x19_1 : Int) := of_decide_eq_true (by first | (with_reducible assumption) | assumption)
                have q169 : x19_1 < (y166.length : Int) := of_decide_eq_true (by first | (with_reducible assumption) | assumption)
                obtain ⟨ad169, e169, hx169_0, hx169_1, hx169_2⟩ := at_T27 (Kd.R_reads' HO_17.out).2.2 x19_1 p169 q169
                cases e169
                replace p169 := eq_true p169
                replace q169 := eq_true q169
                go_upto_region 7 with (first | ((with_reducible refine gate_dst (N := 5) rfl ?_); (try (refine gate_guard (by rfl) ?_; dsimp only)); refine box_event ?hg (N := 5) ?hd (cs := #[.int .i64 0, .int .i64 0, .int .i64 0]) (t := 27) ?hr ?_; (case hd => rfl); (case hg => rfl); (case hr => first | (go_simp; done) | (go_simp; rfl)); intro gb170 hg w14 hbox hb; have n0_ := Aside0.mk (Kd.R_below (Kd.R_elderB (by (with_reducible repeat (first | apply Kd.R_alloc | apply Kd.R_drewN | apply Kd.R_drew)); exact HO_17.out) gb170 (Nat.le_of_eq hg.symm)) hb); have n1_ := Aside0.mk (below_step (by repeat (first | (with_reducible first | exact HB.out | apply below_alloc | apply pw_below_drewN | apply below_drew1) | exact HB.out)) hb); have n2_ := Aside0.mk (hbox); have n3_ := Aside0.mk ((by rw [hg]; exact (below_size (by repeat (first | (with_reducible first | exact HB.out | apply below_alloc | apply pw_below_drewN | apply below_drew1) | exact HB.out))) : w.heap.size ≤ gb170)); have n4_ := Aside0.mk ((by rw [hg]; exact (below_size (by repeat (first | (with_reducible first | exact HB.out | apply below_alloc | apply pw_below_drewN | apply below_drew1) | exact HB.out))) : w.heap.size ≤ gb170)); clear HO_17; clear HB; have HO_17 := n0_; have HB := n1_; have BK170 := n2_; have GW170 := n3_; have GE170 := n4_; clear n0_ n1_ n2_ n3_ n4_; clear hb hbox hg; have hcz15_0 : w14.cell? ⟨gb170, 0, none⟩ = some (.int .i64 0) := (blk_cell BK170.out 0).trans rfl; have hcz15_1 : w14.cell? ⟨gb170, 1, none⟩ = some (.int .i64 0) := (blk_cell BK170.out 1).trans rfl; have hcz15_2 : w14.cell? ⟨gb170, 2, none⟩ = some (.int .i64 0) := (blk_cell BK170.out 2).trans rfl; have hfz15_0 := blk_frozen BK170.out 0; have hfz15_1 := blk_frozen BK170.out 1; have hfz15_2 := blk_frozen BK170.out 2))
                (try simp only [Act.put, List.setIfInBounds_toArray, List.set_cons_zero, List.set_cons_succ])
                go_cut [54] (fun v54 wc => ∃ (kq : Nat) (x54_12 : Bool), v54 = .bool x54_12 ∧ Aside0 (lanyardlaw12_WordsParts.j1 kq l0 x3_1 y166 (y166.length : Int) x19_1 x54_12 ((rd_T27 y166 x19_1).f0) ((rd_T27 y166 x19_1).f1) ((rd_T27 y166 x19_1).f2) = some r) ∧ Aside0 (kq ≤ k1) ∧ Aside0 (Kd.R k27 27 wc w.heap.size (fun k_ => k_ ≠ gb170) (.slice (some ad169) y166.length co9) y166) ∧ Aside0 (wc.heap[gb170]? = some (.cells #[.int .i64 ((rd_T27 y166 x19_1).f0), .int .i64 ((rd_T27 y166 x19_1).f1), .int .i64 ((rd_T27 y166 x19_1).f2)] 27 (0, 0))) ∧ Aside0 (Below w.heap.size w wc))
                case first =>
                  have H := HC13.out
                  clear HC13
                  by_cases c16 : ((rd_T27 y166 x19_1).f1) < x3_1
                  · rw [if_pos c16] at H
                    have c16b0 : decide (((rd_T27 y166 x19_1).f1) < x3_1) = true := decide_eq_true c16
                    clear c16
                    (first | rw [c16b0] | (simp only [i64_w, i32_w]; rw [c16b0]) | skip)
                    have H' := Aside0.mk H
                    clear H
                    have hcz17_0 : w14.cell? ⟨gb170, 0, none⟩ = some (.int .i64 0) := (blk_cell BK170.out 0).trans rfl
                    have hcz17_1 : w14.cell? ⟨gb170, 1, none⟩ = some (.int .i64 0) := (blk_cell BK170.out 1).trans rfl
                    have hcz17_2 : w14.cell? ⟨gb170, 2, none⟩ = some (.int .i64 0) := (blk_cell BK170.out 2).trans rfl
                    have hfz17_0 := blk_frozen BK170.out 0
                    have hfz17_1 := blk_frozen BK170.out 1
                    have hfz17_2 := blk_frozen BK170.out 2
                    go_wp2
                    go_meet
                    case rel => exact ⟨_, (true), (by first | rfl | (simp; done) | (simp [*]; done)), H', ⟨by have := HK1.out; first | omega | exact Nat.le_refl _⟩, ⟨by (with_reducible repeat (first | apply Kd.R_alloc | apply Kd.R_drewN | apply Kd.R_drew)); exact Kd.R_mono (Kd.R_far (p := ⟨gb170, 2, none⟩) (Kd.R_far (p := ⟨gb170, 1, none⟩) (Kd.R_far (p := ⟨gb170, 0, none⟩) (Kd.R_mono HO_17.out (fun k_ hk => (⟨hk, hk.2⟩ : _ ∧ k_ ≠ gb170))) (fun _ hk => hk.2) (.int .i64 ((rd_T27 y166 x19_1).f0))) (fun _ hk => hk.2) (.int .i64 ((rd_T27 y166 x19_1).f1))) (fun _ hk => hk.2) (.int .i64 ((rd_T27 y166 x19_1).f2))) (fun _ hk => hk.1.2)⟩, ⟨by (with_reducible repeat (first | refine blk_drewN ?_ _ | refine blk_drew ?_ | refine blk_alloc ?_ _)); refine blk_put (cs := #[.int .i64 ((rd_T27 y166 x19_1).f0), .int .i64 ((rd_T27 y166 x19_1).f1), .int .i64 0]) ?_ 2 _ rfl; (with_reducible repeat (first | refine blk_drewN ?_ _ | refine blk_drew ?_ | refine blk_alloc ?_ _)); refine blk_put (cs := #[.int .i64 ((rd_T27 y166 x19_1).f0), .int .i64 0, .int .i64 0]) ?_ 1 _ rfl; (with_reducible repeat (first | refine blk_drewN ?_ _ | refine blk_drew ?_ | refine blk_alloc ?_ _)); refine blk_put (cs := #[.int .i64 0, .int .i64 0, .int .i64 0]) ?_ 0 _ rfl; (with_reducible repeat (first | refine blk_drewN ?_ _ | refine blk_drew ?_ | refine blk_alloc ?_ _)); exact BK170.out⟩, ⟨by repeat (first | (with_reducible first | exact HB.out | apply below_alloc | apply pw_below_drewN | apply below_drew1 | refine below_set ?_ GE170.out) | exact HB.out)⟩⟩
                  · rw [if_neg c16] at H
                    have c16b0 : decide (((rd_T27 y166 x19_1).f1) < x3_1) = false := decide_eq_false c16
                    clear c16
                    (first | rw [c16b0] | (simp only [i64_w, i32_w]; rw [c16b0]) | skip)
                    by_cases c18 : ((rd_T27 y166 x19_1).f2) > (l0.length : Int)
                    · rw [if_pos c18] at H
                      have c18b0 : decide ((l0.length : Int) < ((rd_T27 y166 x19_1).f2)) = true := decide_eq_true c18
                      clear c18
                      have H' := Aside0.mk H
                      clear H
                      have hcz19_0 : w14.cell? ⟨gb170, 0, none⟩ = some (.int .i64 0) := (blk_cell BK170.out 0).trans rfl
                      have hcz19_1 : w14.cell? ⟨gb170, 1, none⟩ = some (.int .i64 0) := (blk_cell BK170.out 1).trans rfl
                      have hcz19_2 : w14.cell? ⟨gb170, 2, none⟩ = some (.int .i64 0) := (blk_cell BK170.out 2).trans rfl
                      have hfz19_0 := blk_frozen BK170.out 0
                      have hfz19_1 := blk_frozen BK170.out 1
                      have hfz19_2 := blk_frozen BK170.out 2
                      go_wp2
                      go_meet
                      case rel => exact ⟨_, (true), (by first | rfl | (simp; done) | (simp [*]; done)), H', ⟨by have := HK1.out; first | omega | exact Nat.le_refl _⟩, ⟨by (with_reducible repeat (first | apply Kd.R_alloc | apply Kd.R_drewN | apply Kd.R_drew)); exact Kd.R_mono (Kd.R_far (p := ⟨gb170, 2, none⟩) (Kd.R_far (p := ⟨gb170, 1, none⟩) (Kd.R_far (p := ⟨gb170, 0, none⟩) (Kd.R_mono HO_17.out (fun k_ hk => (⟨hk, hk.2⟩ : _ ∧ k_ ≠ gb170))) (fun _ hk => hk.2) (.int .i64 ((rd_T27 y166 x19_1).f0))) (fun _ hk => hk.2) (.int .i64 ((rd_T27 y166 x19_1).f1))) (fun _ hk => hk.2) (.int .i64 ((rd_T27 y166 x19_1).f2))) (fun _ hk => hk.1.2)⟩, ⟨by (with_reducible repeat (first | refine blk_drewN ?_ _ | refine blk_drew ?_ | refine blk_alloc ?_ _)); refine blk_put (cs := #[.int .i64 ((rd_T27 y166 x19_1).f0), .int .i64 ((rd_T27 y166 x19_1).f1), .int .i64 0]) ?_ 2 _ rfl; (with_reducible repeat (first | refine blk_drewN ?_ _ | refine blk_drew ?_ | refine blk_alloc ?_ _)); refine blk_put (cs := #[.int .i64 ((rd_T27 y166 x19_1).f0), .int .i64 0, .int .i64 0]) ?_ 1 _ rfl; (with_reducible repeat (first | refine blk_drewN ?_ _ | refine blk_drew ?_ | refine blk_alloc ?_ _)); refine blk_put (cs := #[.int .i64 0, .int .i64 0, .int .i64 0]) ?_ 0 _ rfl; (with_reducible repeat (first | refine blk_drewN ?_ _ | refine blk_drew ?_ | refine blk_alloc ?_ _)); exact BK170.out⟩, ⟨by repeat (first | (with_reducible first | exact HB.out | apply below_alloc | apply pw_below_drewN | apply below_drew1 | refine below_set ?_ GE170.out) | exact HB.out)⟩⟩
                    · rw [if_neg c18] at H
                      have c18b0 : decide ((l0.length : Int) < ((rd_T27 y166 x19_1).f2)) = false := decide_eq_false c18
                      clear c18
                      by_cases c20 : ((rd_T27 y166 x19_1).f2) < ((rd_T27 y166 x19_1).f1)
                      · rw [if_pos c20] at H
                        have c20b0 : decide (((rd_T27 y166 x19_1).f2) < ((rd_T27 y166 x19_1).f1)) = true := decide_eq_true c20
                        clear c20
                        have H' := Aside0.mk H
                        clear H
                        have hcz21_0 : w14.cell? ⟨gb170, 0, none⟩ = some (.int .i64 0) := (blk_cell BK170.out 0).trans rfl
                        have hcz21_1 : w14.cell? ⟨gb170, 1, none⟩ = some (.int .i64 0) := (blk_cell BK170.out 1).trans rfl
                        have hcz21_2 : w14.cell? ⟨gb170, 2, none⟩ = some (.int .i64 0) := (blk_cell BK170.out 2).trans rfl
                        have hfz21_0 := blk_frozen BK170.out 0
                        have hfz21_1 := blk_frozen BK170.out 1
                        have hfz21_2 := blk_frozen BK170.out 2
                        go_wp2
                        go_meet
                        case rel => exact ⟨_, (true), (by first | rfl | (simp; done) | (simp [*]; done)), H', ⟨by have := HK1.out; first | omega | exact Nat.le_refl _⟩, ⟨by (with_reducible repeat (first | apply Kd.R_alloc | apply Kd.R_drewN | apply Kd.R_drew)); exact Kd.R_mono (Kd.R_far (p := ⟨gb170, 2, none⟩) (Kd.R_far (p := ⟨gb170, 1, none⟩) (Kd.R_far (p := ⟨gb170, 0, none⟩) (Kd.R_mono HO_17.out (fun k_ hk => (⟨hk, hk.2⟩ : _ ∧ k_ ≠ gb170))) (fun _ hk => hk.2) (.int .i64 ((rd_T27 y166 x19_1).f0))) (fun _ hk => hk.2) (.int .i64 ((rd_T27 y166 x19_1).f1))) (fun _ hk => hk.2) (.int .i64 ((rd_T27 y166 x19_1).f2))) (fun _ hk => hk.1.2)⟩, ⟨by (with_reducible repeat (first | refine blk_drewN ?_ _ | refine blk_drew ?_ | refine blk_alloc ?_ _)); refine blk_put (cs := #[.int .i64 ((rd_T27 y166 x19_1).f0), .int .i64 ((rd_T27 y166 x19_1).f1), .int .i64 0]) ?_ 2 _ rfl; (with_reducible repeat (first | refine blk_drewN ?_ _ | refine blk_drew ?_ | refine blk_alloc ?_ _)); refine blk_put (cs := #[.int .i64 ((rd_T27 y166 x19_1).f0), .int .i64 0, .int .i64 0]) ?_ 1 _ rfl; (with_reducible repeat (first | refine blk_drewN ?_ _ | refine blk_drew ?_ | refine blk_alloc ?_ _)); refine blk_put (cs := #[.int .i64 0, .int .i64 0, .int .i64 0]) ?_ 0 _ rfl; (with_reducible repeat (first | refine blk_drewN ?_ _ | refine blk_drew ?_ | refine blk_alloc ?_ _)); exact BK170.out⟩, ⟨by repeat (first | (with_reducible first | exact HB.out | apply below_alloc | apply pw_below_drewN | apply below_drew1 | refine below_set ?_ GE170.out) | exact HB.out)⟩⟩
                      · rw [if_neg c20] at H
                        have c20b0 : decide (((rd_T27 y166 x19_1).f2) < ((rd_T27 y166 x19_1).f1)) = false := decide_eq_false c20
                        clear c20
                        by_cases c22 : ((rd_T27 y166 x19_1).f2) = ((rd_T27 y166 x19_1).f1)
                        · rw [if_pos c22] at H
                          have c22b0 : (((rd_T27 y166 x19_1).f2) == ((rd_T27 y166 x19_1).f1)) = true := beq_iff_eq.mpr c22
                          have c22b1 : (((rd_T27 y166 x19_1).f2) != ((rd_T27 y166 x19_1).f1)) = false := bne_eq_false_iff_eq.mpr c22
                          clear c22
                          have H' := Aside0.mk H
                          clear H
                          have hcz23_0 : w14.cell? ⟨gb170, 0, none⟩ = some (.int .i64 0) := (blk_cell BK170.out 0).trans rfl
                          have hcz23_1 : w14.cell? ⟨gb170, 1, none⟩ = some (.int .i64 0) := (blk_cell BK170.out 1).trans rfl
                          have hcz23_2 : w14.cell? ⟨gb170, 2, none⟩ = some (.int .i64 0) := (blk_cell BK170.out 2).trans rfl
                          have hfz23_0 := blk_frozen BK170.out 0
                          have hfz23_1 := blk_frozen BK170.out 1
                          have hfz23_2 := blk_frozen BK170.out 2
                          go_wp2
                          go_meet
                          case rel => exact ⟨_, ((((rd_T27 y166 x19_1).f1) != (l0.length : Int))), (by first | rfl | (simp; done) | (simp [*]; done)), H', ⟨by have := HK1.out; first | omega | exact Nat.le_refl _⟩, ⟨by (with_reducible repeat (first | apply Kd.R_alloc | apply Kd.R_drewN | apply Kd.R_drew)); exact Kd.R_mono (Kd.R_far (p := ⟨gb170, 2, none⟩) (Kd.R_far (p := ⟨gb170, 1, none⟩) (Kd.R_far (p := ⟨gb170, 0, none⟩) (Kd.R_mono HO_17.out (fun k_ hk => (⟨hk, hk.2⟩ : _ ∧ k_ ≠ gb170))) (fun _ hk => hk.2) (.int .i64 ((rd_T27 y166 x19_1).f0))) (fun _ hk => hk.2) (.int .i64 ((rd_T27 y166 x19_1).f1))) (fun _ hk => hk.2) (.int .i64 ((rd_T27 y166 x19_1).f2))) (fun _ hk => hk.1.2)⟩, ⟨by (with_reducible repeat (first | refine blk_drewN ?_ _ | refine blk_drew ?_ | refine blk_alloc ?_ _)); refine blk_put (cs := #[.int .i64 ((rd_T27 y166 x19_1).f0), .int .i64 ((rd_T27 y166 x19_1).f1), .int .i64 0]) ?_ 2 _ rfl; (with_reducible repeat (first | refine blk_drewN ?_ _ | refine blk_drew ?_ | refine blk_alloc ?_ _)); refine blk_put (cs := #[.int .i64 ((rd_T27 y166 x19_1).f0), .int .i64 0, .int .i64 0]) ?_ 1 _ rfl; (with_reducible repeat (first | refine blk_drewN ?_ _ | refine blk_drew ?_ | refine blk_alloc ?_ _)); refine blk_put (cs := #[.int .i64 0, .int .i64 0, .int .i64 0]) ?_ 0 _ rfl; (with_reducible repeat (first | refine blk_drewN ?_ _ | refine blk_drew ?_ | refine blk_alloc ?_ _)); exact BK170.out⟩, ⟨by repeat (first | (with_reducible first | exact HB.out | apply below_alloc | apply pw_below_drewN | apply below_drew1 | refine below_set ?_ GE170.out) | exact HB.out)⟩⟩
                        · rw [if_neg c22] at H
                          have c22b0 : (((rd_T27 y166 x19_1).f2) == ((rd_T27 y166 x19_1).f1)) = false := beq_eq_false_iff_ne.mpr c22
                          have c22b1 : (((rd_T27 y166 x19_1).f2) != ((rd_T27 y166 x19_1).f1)) = true := bne_iff_ne.mpr c22
                          have H' := Aside0.mk H
                          clear H
                          have hcz24_0 : w14.cell? ⟨gb170, 0, none⟩ = some (.int .i64 0) := (blk_cell BK170.out 0).trans rfl
                          have hcz24_1 : w14.cell? ⟨gb170, 1, none⟩ = some (.int .i64 0) := (blk_cell BK170.out 1).trans rfl
                          have hcz24_2 : w14.cell? ⟨gb170, 2, none⟩ = some (.int .i64 0) := (blk_cell BK170.out 2).trans rfl
                          have hfz24_0 := blk_frozen BK170.out 0
                          have hfz24_1 := blk_frozen BK170.out 1
                          have hfz24_2 := blk_frozen BK170.out 2
                          go_wp2
                          go_meet
                          case rel => exact ⟨_, (false), (by first | rfl | (simp; done) | (simp [*]; done)), H', ⟨by have := HK1.out; first | omega | exact Nat.le_refl _⟩, ⟨by (with_reducible repeat (first | apply Kd.R_alloc | apply Kd.R_drewN | apply Kd.R_drew)); exact Kd.R_mono (Kd.R_far (p := ⟨gb170, 2, none⟩) (Kd.R_far (p := ⟨gb170, 1, none⟩) (Kd.R_far (p := ⟨gb170, 0, none⟩) (Kd.R_mono HO_17.out (fun k_ hk => (⟨hk, hk.2⟩ : _ ∧ k_ ≠ gb170))) (fun _ hk => hk.2) (.int .i64 ((rd_T27 y166 x19_1).f0))) (fun _ hk => hk.2) (.int .i64 ((rd_T27 y166 x19_1).f1))) (fun _ hk => hk.2) (.int .i64 ((rd_T27 y166 x19_1).f2))) (fun _ hk => hk.1.2)⟩, ⟨by (with_reducible repeat (first | refine blk_drewN ?_ _ | refine blk_drew ?_ | refine blk_alloc ?_ _)); refine blk_put (cs := #[.int .i64 ((rd_T27 y166 x19_1).f0), .int .i64 ((rd_T27 y166 x19_1).f1), .int .i64 0]) ?_ 2 _ rfl; (with_reducible repeat (first | refine blk_drewN ?_ _ | refine blk_drew ?_ | refine blk_alloc ?_ _)); refine blk_put (cs := #[.int .i64 ((rd_T27 y166 x19_1).f0), .int .i64 0, .int .i64 0]) ?_ 1 _ rfl; (with_reducible repeat (first | refine blk_drewN ?_ _ | refine blk_drew ?_ | refine blk_alloc ?_ _)); refine blk_put (cs := #[.int .i64 0, .int .i64 0, .int .i64 0]) ?_ 0 _ rfl; (with_reducible repeat (first | refine blk_drewN ?_ _ | refine blk_drew ?_ | refine blk_alloc ?_ _)); exact BK170.out⟩, ⟨by repeat (first | (with_reducible first | exact HB.out | apply below_alloc | apply pw_below_drewN | apply below_drew1 | refine below_set ?_ GE170.out) | exact HB.out)⟩⟩
                case rest =>
                  clear HC13
                  try clear c1
                  try clear p1
                  try clear q1
                  try clear hx1
                  try clear c2
                  try clear p2
                  try clear c3
                  try clear c5
                  try clear c8
                  try clear c9
                  try clear c10
                  try clear c10b0
                  try clear c11
                  try clear c11b0
                  try clear c12
                  try clear c12b0
                  try clear c16
                  try clear c16b0
                  try clear p16
                  try clear q16
                  try clear hx16
                  try clear c18
                  try clear c18b0
                  try clear c20
                  try clear c20b0
                  try clear c22
                  try clear c22b0
                  try clear c22b1
                  try clear hcz15_0
                  try clear hcz15_1
                  try clear hcz15_2
                  try clear hcz17_0
                  try clear hcz17_1
                  try clear hcz17_2
                  try clear hcz19_0
                  try clear hcz19_1
                  try clear hcz19_2
                  try clear hcz21_0
                  try clear hcz21_1
                  try clear hcz21_2
                  try clear hcz23_0
                  try clear hcz23_1
                  try clear hcz23_2
                  try clear hcz24_0
                  try clear hcz24_1
                  try clear hcz24_2
                  try clear hfz15_0
                  try clear hfz15_1
                  try clear hfz15_2
                  try clear hfz17_0
                  try clear hfz17_1
                  try clear hfz17_2
                  try clear hfz19_0
                  try clear hfz19_1
                  try clear hfz19_2
                  try clear hfz21_0
                  try clear hfz21_1
                  try clear hfz21_2
                  try clear hfz23_0
                  try clear hfz23_1
                  try clear hfz23_2
                  try clear hfz24_0
                  try clear hfz24_1
                  try clear hfz24_2
                  try clear hx169_0
                  try clear hx169_1
                  try clear hx169_2
                  try clear p169
                  try clear p2
                  try clear q169
                  obtain ⟨kq, x54_12, rfl, HA, HJ12, HO_17, BK170, HB⟩ := hcut
                  cases kq with
                  | zero => exact absurd HA.out (by simp [lanyardlaw12_WordsParts.j1])
                  | succ kj12 =>
                    have H := HA.out
                    clear HA
                    simp only [lanyardlaw12_WordsParts.j1] at H
                    by_cases c25 : x54_12 = true
                    · subst c25
                      have H1 : (some false) = some r := by rw [if_pos rfl] at H; exact H
                      clear H
                      have H := H1
                      clear H1
                      obtain rfl := Option.some.inj H
                      go_wp2
                      go_ret
                      exact ⟨by first | rfl | (simp [errW_none, errW_some] <;> rfl) | (simp [*, errW_none, errW_some] <;> rfl), by repeat (first | (with_reducible first | exact HB.out | apply below_alloc | apply pw_below_drewN | apply below_drew1 | refine below_set ?_ GE170.out) | exact HB.out)⟩
                    · replace c25 := Bool.eq_false_iff.mpr c25
                      subst c25
                      have H1 : (lanyardlaw12_WordsParts.l1 kj12 l0 x3_1 y166 (y166.length : Int) x19_1 ((rd_T27 y166 x19_1).f0) ((rd_T27 y166 x19_1).f1) ((rd_T27 y166 x19_1).f2)) = some r := by rw [if_neg (show ¬ (false = true) by decide)] at H; exact H
                      clear H
                      have H := H1
                      clear H1
                      have H' := Aside0.mk H
                      clear H
                      go_wp2
                      go_loopg [3] kj12 (fun kq v3 w' => ∃ (x3_3 : Int), v3 = .int .i64 x3_3 ∧ Aside0 (lanyardlaw12_WordsParts.l1 kq l0 x3_3 y166 (y166.length : Int) x19_1 ((rd_T27 y166 x19_1).f0) ((rd_T27 y166 x19_1).f1) ((rd_T27 y166 x19_1).f2) = some r) ∧ Aside0 (kq ≤ kj12) ∧ Aside0 (Kd.R k27 27 w' w.heap.size (fun k_ => k_ ≠ gb170) (.slice (some ad169) y166.length co9) y166) ∧ Aside0 (w'.heap[gb170]? = some (.cells #[.int .i64 ((rd_T27 y166 x19_1).f0), .int .i64 ((rd_T27 y166 x19_1).f1), .int .i64 ((rd_T27 y166 x19_1).f2)] 27 (0, 0))) ∧ Aside0 (Below w.heap.size w w'))
                      case atStart => exact ⟨(x3_1), (by first | rfl | (simp; done) | (simp [*]; done)), H', ⟨Nat.le_refl _⟩, ⟨by (with_reducible repeat (first | apply Kd.R_alloc | apply Kd.R_drewN | apply Kd.R_drew)); exact HO_17.out⟩, ⟨by (with_reducible repeat (first | refine blk_drewN ?_ _ | refine blk_drew ?_ | refine blk_alloc ?_ _)); exact BK170.out⟩, ⟨by repeat (first | (with_reducible first | exact HB.out | apply below_alloc | apply pw_below_drewN | apply below_drew1 | refine below_set ?_ GE170.out) | exact HB.out)⟩⟩
                      case round =>
                        clear H'
                        try clear c1
                        try clear p1
                        try clear q1
                        try clear hx1
                        try clear c2
                        try clear p2
                        try clear c3
                        try clear c5
                        try clear c8
                        try clear c9
                        try clear c10
                        try clear c10b0
                        try clear c11
                        try clear c11b0
                        try clear c12
                        try clear c12b0
                        try clear c16
                        try clear c16b0
                        try clear p16
                        try clear q16
                        try clear hx16
                        try clear c18
                        try clear c18b0
                        try clear c20
                        try clear c20b0
                        try clear c22
                        try clear c22b0
                        try clear c22b1
                        try clear c25
                        try clear hcz15_0
                        try clear hcz15_1
                        try clear hcz15_2
                        try clear hcz17_0
                        try clear hcz17_1
                        try clear hcz17_2
                        try clear hcz19_0
                        try clear hcz19_1
                        try clear hcz19_2
                        try clear hcz21_0
                        try clear hcz21_1
                        try clear hcz21_2
                        try clear hcz23_0
                        try clear hcz23_1
                        try clear hcz23_2
                        try clear hcz24_0
                        try clear hcz24_1
                        try clear hcz24_2
                        try clear hfz15_0
                        try clear hfz15_1
                        try clear hfz15_2
                        try clear hfz17_0
                        try clear hfz17_1
                        try clear hfz17_2
                        try clear hfz19_0
                        try clear hfz19_1
                        try clear hfz19_2
                        try clear hfz21_0
                        try clear hfz21_1
                        try clear hfz21_2
                        try clear hfz23_0
                        try clear hfz23_1
                        try clear hfz23_2
                        try clear hfz24_0
                        try clear hfz24_1
                        try clear hfz24_2
                        try clear hx169_0
                        try clear hx169_1
                        try clear hx169_2
                        try clear p1
                        try clear p16
                        try clear p169
                        try clear p2
                        try clear q1
                        try clear q16
                        try clear q169
                        obtain ⟨x3_3, rfl, HA, HK3, HO_17, BK170, HB⟩ := hrel
                        cases gk with
                        | zero => exact absurd HA.out (by simp [lanyardlaw12_WordsParts.l1])
                        | succ k3 =>
                          have H := HA.out
                          clear HA
                          simp only [lanyardlaw12_WordsParts.l1] at H
                          by_cases c26 : x3_3 < ((rd_T27 y166 x19_1).f1)
                          · rw [if_pos c26] at H
                            have c26b0 : decide (x3_3 < ((rd_T27 y166 x19_1).f1)) = true := decide_eq_true c26
                            clear c26
                            by_cases c27 : 0 ≤ x3_3
                            · rw [if_pos c27] at H
                              have c27b0 : decide (0 ≤ x3_3) = true := decide_eq_true c27
                              clear c27
                              by_cases c28 : x3_3 < (l0.length : Int)
                              · rw [if_pos c28] at H
                                have c28b0 : decide (x3_3 < (l0.length : Int)) = true := decide_eq_true c28
                                clear c28
                                by_cases c29 : (rd l0 x3_3) = 32
                                · rw [if_pos c29] at H
                                  have c29b0 : ((rd l0 x3_3) == 32) = true := beq_iff_eq.mpr c29
                                  have c29b1 : ((rd l0 x3_3) != 32) = false := bne_eq_false_iff_eq.mpr c29
                                  clear c29
                                  replace H := Option.bind_eq_some_iff.mp H
                                  obtain ⟨t172, A300, H⟩ := H
                                  replace H : (if t172 = 0 then (lanyardlaw12_WordsParts.l1 k3 l0 (wrap64 (x3_3 + 1)) y166 (y166.length : Int) x19_1 ((rd_T27 y166 x19_1).f0) ((rd_T27 y166 x19_1).f1) ((rd_T27 y166 x19_1).f2)) else (some false)) = some r := H
                                  have A30 := Aside0.mk A300
                                  clear A300
                                  by_cases c31 : t172 = 0
                                  · rw [if_pos c31] at H
                                    have c31b0 : (t172 == 0) = true := beq_iff_eq.mpr c31
                                    have c31b1 : (t172 != 0) = false := bne_eq_false_iff_eq.mpr c31
                                    clear c31
                                    have H' := Aside0.mk H
                                    clear H
                                    have hcz32_0 : wr.cell? ⟨gb170, 0, none⟩ = some (.int .i64 ((rd_T27 y166 x19_1).f0)) := (blk_cell BK170.out 0).trans rfl
                                    have hcz32_1 : wr.cell? ⟨gb170, 1, none⟩ = some (.int .i64 ((rd_T27 y166 x19_1).f1)) := (blk_cell BK170.out 1).trans rfl
                                    have hcz32_2 : wr.cell? ⟨gb170, 2, none⟩ = some (.int .i64 ((rd_T27 y166 x19_1).f2)) := (blk_cell BK170.out 2).trans rfl
                                    have hfz32_0 := blk_frozen BK170.out 0
                                    have hfz32_1 := blk_frozen BK170.out 1
                                    have hfz32_2 := blk_frozen BK170.out 2
                                    have p171 : 0 ≤ (x3_3 : Int) := of_decide_eq_true (by first | (with_reducible assumption) | assumption)
                                    have q171 : x3_3 < (l0.length : Int) := of_decide_eq_true (by first | (with_reducible assumption) | assumption)
                                    obtain ⟨ad171, e171, hx171_0⟩ := Kd.at_int HR0.out x3_3 p171 q171
                                    cases e171
                                    replace hx171_0 := (HB.out.cell (World.block_lt_of_cell? w _ hx171_0)).trans hx171_0
                                    replace p171 := eq_true p171
                                    replace q171 := eq_true q171
                                    go_wp2_with (first | (go_at_call 10; (with_reducible refine (shwords_Quoted.calls k3 _ _ l0 x3_3 t172 _ ?side1 ?side2 A30.out).mono ?_); (case side1 => repeat (first | exact (Kd.C_below HR0.out HB.out) | (with_reducible refine Kd.C_alloc ?_ _) | (with_reducible refine Kd.C_drewN ?_ _) | (with_reducible refine Kd.C_drew ?_))); (case side2 => exact HC0.out); rintro e w33 ⟨rfl, hb⟩; have n0_ := Aside0.mk (Kd.R_below (by (with_reducible repeat (first | apply Kd.R_alloc | apply Kd.R_drewN | apply Kd.R_drew)); exact HO_17.out) hb); have n1_ := Aside0.mk (blk_below (g := gb170) (o := .cells #[.int .i64 ((rd_T27 y166 x19_1).f0), .int .i64 ((rd_T27 y166 x19_1).f1), .int .i64 ((rd_T27 y166 x19_1).f2)] 27 (0, 0)) (by (with_reducible repeat (first | refine blk_drewN ?_ _ | refine blk_drew ?_ | refine blk_alloc ?_ _)); exact BK170.out) hb); have n2_ := Aside0.mk (below_step (by repeat (first | (with_reducible first | exact HB.out | apply below_alloc | apply pw_below_drewN | apply below_drew1 | refine below_set ?_ GE170.out) | exact HB.out)) hb); clear HO_17; clear BK170; clear HB; have HO_17 := n0_; have BK170 := n1_; have HB := n2_; clear n0_ n1_ n2_; (try clear hb); (try clear hb2); (try clear hk); (try clear hi)))
                                    go_roundg k3
                                    case measure => have := HK1.out; have := HJ12.out; have := HK3.out; omega
                                    case rel => exact ⟨(wrap64 (x3_3 + 1)), (by first | rfl | (simp; done) | (simp [*]; done)), H', ⟨by have := HK1.out; have := HJ12.out; have := HK3.out; omega⟩, ⟨by (with_reducible repeat (first | apply Kd.R_alloc | apply Kd.R_drewN | apply Kd.R_drew)); exact HO_17.out⟩, ⟨by (with_reducible repeat (first | refine blk_drewN ?_ _ | refine blk_drew ?_ | refine blk_alloc ?_ _)); exact BK170.out⟩, ⟨by repeat (first | (with_reducible first | exact HB.out | apply below_alloc | apply pw_below_drewN | apply below_drew1 | refine below_set ?_ GE170.out) | exact HB.out)⟩⟩
                                  · rw [if_neg c31] at H
                                    have c31b0 : (t172 == 0) = false := beq_eq_false_iff_ne.mpr c31
                                    have c31b1 : (t172 != 0) = true := bne_iff_ne.mpr c31
                                    obtain rfl := Option.some.inj H
                                    have hcz34_0 : wr.cell? ⟨gb170, 0, none⟩ = some (.int .i64 ((rd_T27 y166 x19_1).f0)) := (blk_cell BK170.out 0).trans rfl
                                    have hcz34_1 : wr.cell? ⟨gb170, 1, none⟩ = some (.int .i64 ((rd_T27 y166 x19_1).f1)) := (blk_cell BK170.out 1).trans rfl
                                    have hcz34_2 : wr.cell? ⟨gb170, 2, none⟩ = some (.int .i64 ((rd_T27 y166 x19_1).f2)) := (blk_cell BK170.out 2).trans rfl
                                    have hfz34_0 := blk_frozen BK170.out 0
                                    have hfz34_1 := blk_frozen BK170.out 1
                                    have hfz34_2 := blk_frozen BK170.out 2
                                    have p171 : 0 ≤ (x3_3 : Int) := of_decide_eq_true (by first | (with_reducible assumption) | assumption)
                                    have q171 : x3_3 < (l0.length : Int) := of_decide_eq_true (by first | (with_reducible assumption) | assumption)
                                    obtain ⟨ad171, e171, hx171_0⟩ := Kd.at_int HR0.out x3_3 p171 q171
                                    cases e171
                                    replace hx171_0 := (HB.out.cell (World.block_lt_of_cell? w _ hx171_0)).trans hx171_0
                                    replace p171 := eq_true p171
                                    replace q171 := eq_true q171
                                    go_wp2_with (first | (go_at_call 10; (with_reducible refine (shwords_Quoted.calls k3 _ _ l0 x3_3 t172 _ ?side1 ?side2 A30.out).mono ?_); (case side1 => repeat (first | exact (Kd.C_below HR0.out HB.out) | (with_reducible refine Kd.C_alloc ?_ _) | (with_reducible refine Kd.C_drewN ?_ _) | (with_reducible refine Kd.C_drew ?_))); (case side2 => exact HC0.out); rintro e w35 ⟨rfl, hb⟩; have n0_ := Aside0.mk (Kd.R_below (by (with_reducible repeat (first | apply Kd.R_alloc | apply Kd.R_drewN | apply Kd.R_drew)); exact HO_17.out) hb); have n1_ := Aside0.mk (blk_below (g := gb170) (o := .cells #[.int .i64 ((rd_T27 y166 x19_1).f0), .int .i64 ((rd_T27 y166 x19_1).f1), .int .i64 ((rd_T27 y166 x19_1).f2)] 27 (0, 0)) (by (with_reducible repeat (first | refine blk_drewN ?_ _ | refine blk_drew ?_ | refine blk_alloc ?_ _)); exact BK170.out) hb); have n2_ := Aside0.mk (below_step (by repeat (first | (with_reducible first | exact HB.out | apply below_alloc | apply pw_below_drewN | apply below_drew1 | refine below_set ?_ GE170.out) | exact HB.out)) hb); clear HO_17; clear BK170; clear HB; have HO_17 := n0_; have BK170 := n1_; have HB := n2_; clear n0_ n1_ n2_; (try clear hb); (try clear hb2); (try clear hk); (try clear hi)))
                                    go_ret
                                    exact ⟨by first | rfl | (simp [errW_none, errW_some] <;> rfl) | (simp [*, errW_none, errW_some] <;> rfl), by repeat (first | (with_reducible first | exact HB.out | apply below_alloc | apply pw_below_drewN | apply below_drew1 | refine below_set ?_ GE170.out) | exact HB.out)⟩
                                · rw [if_neg c29] at H
                                  have c29b0 : ((rd l0 x3_3) == 32) = false := beq_eq_false_iff_ne.mpr c29
                                  have c29b1 : ((rd l0 x3_3) != 32) = true := bne_iff_ne.mpr c29
                                  by_cases c36 : (rd l0 x3_3) = 9
                                  · rw [if_pos c36] at H
                                    have c36b0 : ((rd l0 x3_3) == 9) = true := beq_iff_eq.mpr c36
                                    have c36b1 : ((rd l0 x3_3) != 9) = false := bne_eq_false_iff_eq.mpr c36
                                    clear c36
                                    replace H := Option.bind_eq_some_iff.mp H
                                    obtain ⟨t173, A370, H⟩ := H
                                    replace H : (if t173 = 0 then (lanyardlaw12_WordsParts.l1 k3 l0 (wrap64 (x3_3 + 1)) y166 (y166.length : Int) x19_1 ((rd_T27 y166 x19_1).f0) ((rd_T27 y166 x19_1).f1) ((rd_T27 y166 x19_1).f2)) else (some false)) = some r := H
                                    have A37 := Aside0.mk A370
                                    clear A370
                                    by_cases c38 : t173 = 0
                                    · rw [if_pos c38] at H
                                      have c38b0 : (t173 == 0) = true := beq_iff_eq.mpr c38
                                      have c38b1 : (t173 != 0) = false := bne_eq_false_iff_eq.mpr c38
                                      clear c38
                                      have H' := Aside0.mk H
                                      clear H
                                      have hcz39_0 : wr.cell? ⟨gb170, 0, none⟩ = some (.int .i64 ((rd_T27 y166 x19_1).f0)) := (blk_cell BK170.out 0).trans rfl
                                      have hcz39_1 : wr.cell? ⟨gb170, 1, none⟩ = some (.int .i64 ((rd_T27 y166 x19_1).f1)) := (blk_cell BK170.out 1).trans rfl
                                      have hcz39_2 : wr.cell? ⟨gb170, 2, none⟩ = some (.int .i64 ((rd_T27 y166 x19_1).f2)) := (blk_cell BK170.out 2).trans rfl
                                      have hfz39_0 := blk_frozen BK170.out 0
                                      have hfz39_1 := blk_frozen BK170.out 1
                                      have hfz39_2 := blk_frozen BK170.out 2
                                      have p171 : 0 ≤ (x3_3 : Int) := of_decide_eq_true (by first | (with_reducible assumption) | assumption)
                                      have q171 : x3_3 < (l0.length : Int) := of_decide_eq_true (by first | (with_reducible assumption) | assumption)
                                      obtain ⟨ad171, e171, hx171_0⟩ := Kd.at_int HR0.out x3_3 p171 q171
                                      cases e171
                                      replace hx171_0 := (HB.out.cell (World.block_lt_of_cell? w _ hx171_0)).trans hx171_0
                                      replace p171 := eq_true p171
                                      replace q171 := eq_true q171
                                      go_wp2_with (first | (go_at_call 10; (with_reducible refine (shwords_Quoted.calls k3 _ _ l0 x3_3 t173 _ ?side1 ?side2 A37.out).mono ?_); (case side1 => repeat (first | exact (Kd.C_below HR0.out HB.out) | (with_reducible refine Kd.C_alloc ?_ _) | (with_reducible refine Kd.C_drewN ?_ _) | (with_reducible refine Kd.C_drew ?_))); (case side2 => exact HC0.out); rintro e w40 ⟨rfl, hb⟩; have n0_ := Aside0.mk (Kd.R_below (by (with_reducible repeat (first | apply Kd.R_alloc | apply Kd.R_drewN | apply Kd.R_drew)); exact HO_17.out) hb); have n1_ := Aside0.mk (blk_below (g := gb170) (o := .cells #[.int .i64 ((rd_T27 y166 x19_1).f0), .int .i64 ((rd_T27 y166 x19_1).f1), .int .i64 ((rd_T27 y166 x19_1).f2)] 27 (0, 0)) (by (with_reducible repeat (first | refine blk_drewN ?_ _ | refine blk_drew ?_ | refine blk_alloc ?_ _)); exact BK170.out) hb); have n2_ := Aside0.mk (below_step (by repeat (first | (with_reducible first | exact HB.out | apply below_alloc | apply pw_below_drewN | apply below_drew1 | refine below_set ?_ GE170.out) | exact HB.out)) hb); clear HO_17; clear BK170; clear HB; have HO_17 := n0_; have BK170 := n1_; have HB := n2_; clear n0_ n1_ n2_; (try clear hb); (try clear hb2); (try clear hk); (try clear hi)))
                                      go_roundg k3
                                      case measure => have := HK1.out; have := HJ12.out; have := HK3.out; omega
                                      case rel => exact ⟨(wrap64 (x3_3 + 1)), (by first | rfl | (simp; done) | (simp [*]; done)), H', ⟨by have := HK1.out; have := HJ12.out; have := HK3.out; omega⟩, ⟨by (with_reducible repeat (first | apply Kd.R_alloc | apply Kd.R_drewN | apply Kd.R_drew)); exact HO_17.out⟩, ⟨by (with_reducible repeat (first | refine blk_drewN ?_ _ | refine blk_drew ?_ | refine blk_alloc ?_ _)); exact BK170.out⟩, ⟨by repeat (first | (with_reducible first | exact HB.out | apply below_alloc | apply pw_below_drewN | apply below_drew1 | refine below_set ?_ GE170.out) | exact HB.out)⟩⟩
                                    · rw [if_neg c38] at H
                                      have c38b0 : (t173 == 0) = false := beq_eq_false_iff_ne.mpr c38
                                      have c38b1 : (t173 != 0) = true := bne_iff_ne.mpr c38
                                      obtain rfl := Option.some.inj H
                                      have hcz41_0 : wr.cell? ⟨gb170, 0, none⟩ = some (.int .i64 ((rd_T27 y166 x19_1).f0)) := (blk_cell BK170.out 0).trans rfl
                                      have hcz41_1 : wr.cell? ⟨gb170, 1, none⟩ = some (.int .i64 ((rd_T27 y166 x19_1).f1)) := (blk_cell BK170.out 1).trans rfl
                                      have hcz41_2 : wr.cell? ⟨gb170, 2, none⟩ = some (.int .i64 ((rd_T27 y166 x19_1).f2)) := (blk_cell BK170.out 2).trans rfl
                                      have hfz41_0 := blk_frozen BK170.out 0
                                      have hfz41_1 := blk_frozen BK170.out 1
                                      have hfz41_2 := blk_frozen BK170.out 2
                                      have p171 : 0 ≤ (x3_3 : Int) := of_decide_eq_true (by first | (with_reducible assumption) | assumption)
                                      have q171 : x3_3 < (l0.length : Int) := of_decide_eq_true (by first | (with_reducible assumption) | assumption)
                                      obtain ⟨ad171, e171, hx171_0⟩ := Kd.at_int HR0.out x3_3 p171 q171
                                      cases e171
                                      replace hx171_0 := (HB.out.cell (World.block_lt_of_cell? w _ hx171_0)).trans hx171_0
                                      replace p171 := eq_true p171
                                      replace q171 := eq_true q171
                                      go_wp2_with (first | (go_at_call 10; (with_reducible refine (shwords_Quoted.calls k3 _ _ l0 x3_3 t173 _ ?side1 ?side2 A37.out).mono ?_); (case side1 => repeat (first | exact (Kd.C_below HR0.out HB.out) | (with_reducible refine Kd.C_alloc ?_ _) | (with_reducible refine Kd.C_drewN ?_ _) | (with_reducible refine Kd.C_drew ?_))); (case side2 => exact HC0.out); rintro e w42 ⟨rfl, hb⟩; have n0_ := Aside0.mk (Kd.R_below (by (with_reducible repeat (first | apply Kd.R_alloc | apply Kd.R_drewN | apply Kd.R_drew)); exact HO_17.out) hb); have n1_ := Aside0.mk (blk_below (g := gb170) (o := .cells #[.int .i64 ((rd_T27 y166 x19_1).f0), .int .i64 ((rd_T27 y166 x19_1).f1), .int .i64 ((rd_T27 y166 x19_1).f2)] 27 (0, 0)) (by (with_reducible repeat (first | refine blk_drewN ?_ _ | refine blk_drew ?_ | refine blk_alloc ?_ _)); exact BK170.out) hb); have n2_ := Aside0.mk (below_step (by repeat (first | (with_reducible first | exact HB.out | apply below_alloc | apply pw_below_drewN | apply below_drew1 | refine below_set ?_ GE170.out) | exact HB.out)) hb); clear HO_17; clear BK170; clear HB; have HO_17 := n0_; have BK170 := n1_; have HB := n2_; clear n0_ n1_ n2_; (try clear hb); (try clear hb2); (try clear hk); (try clear hi)))
                                      go_ret
                                      exact ⟨by first | rfl | (simp [errW_none, errW_some] <;> rfl) | (simp [*, errW_none, errW_some] <;> rfl), by repeat (first | (with_reducible first | exact HB.out | apply below_alloc | apply pw_below_drewN | apply below_drew1 | refine below_set ?_ GE170.out) | exact HB.out)⟩
                                  · rw [if_neg c36] at H
                                    have c36b0 : ((rd l0 x3_3) == 9) = false := beq_eq_false_iff_ne.mpr c36
                                    have c36b1 : ((rd l0 x3_3) != 9) = true := bne_iff_ne.mpr c36
                                    by_cases c43 : (rd l0 x3_3) = 10
                                    · rw [if_pos c43] at H
                                      have c43b0 : ((rd l0 x3_3) == 10) = true := beq_iff_eq.mpr c43
                                      have c43b1 : ((rd l0 x3_3) != 10) = false := bne_eq_false_iff_eq.mpr c43
                                      clear c43
                                      replace H := Option.bind_eq_some_iff.mp H
                                      obtain ⟨t174, A440, H⟩ := H
                                      replace H : (if t174 = 0 then (lanyardlaw12_WordsParts.l1 k3 l0 (wrap64 (x3_3 + 1)) y166 (y166.length : Int) x19_1 ((rd_T27 y166 x19_1).f0) ((rd_T27 y166 x19_1).f1) ((rd_T27 y166 x19_1).f2)) else (some false)) = some r := H
                                      have A44 := Aside0.mk A440
                                      clear A440
                                      by_cases c45 : t174 = 0
                                      · rw [if_pos c45] at H
                                        have c45b0 : (t174 == 0) = true := beq_iff_eq.mpr c45
                                        have c45b1 : (t174 != 0) = false := bne_eq_false_iff_eq.mpr c45
                                        clear c45
                                        have H' := Aside0.mk H
                                        clear H
                                        have hcz46_0 : wr.cell? ⟨gb170, 0, none⟩ = some (.int .i64 ((rd_T27 y166 x19_1).f0)) := (blk_cell BK170.out 0).trans rfl
                                        have hcz46_1 : wr.cell? ⟨gb170, 1, none⟩ = some (.int .i64 ((rd_T27 y166 x19_1).f1)) := (blk_cell BK170.out 1).trans rfl
                                        have hcz46_2 : wr.cell? ⟨gb170, 2, none⟩ = some (.int .i64 ((rd_T27 y166 x19_1).f2)) := (blk_cell BK170.out 2).trans rfl
                                        have hfz46_0 := blk_frozen BK170.out 0
                                        have hfz46_1 := blk_frozen BK170.out 1
                                        have hfz46_2 := blk_frozen BK170.out 2
                                        have p171 : 0 ≤ (x3_3 : Int) := of_decide_eq_true (by first | (with_reducible assumption) | assumption)
                                        have q171 : x3_3 < (l0.length : Int) := of_decide_eq_true (by first | (with_reducible assumption) | assumption)
                                        obtain ⟨ad171, e171, hx171_0⟩ := Kd.at_int HR0.out x3_3 p171 q171
                                        cases e171
                                        replace hx171_0 := (HB.out.cell (World.block_lt_of_cell? w _ hx171_0)).trans hx171_0
                                        replace p171 := eq_true p171
                                        replace q171 := eq_true q171
                                        go_wp2_with (first | (go_at_call 10; (with_reducible refine (shwords_Quoted.calls k3 _ _ l0 x3_3 t174 _ ?side1 ?side2 A44.out).mono ?_); (case side1 => repeat (first | exact (Kd.C_below HR0.out HB.out) | (with_reducible refine Kd.C_alloc ?_ _) | (with_reducible refine Kd.C_drewN ?_ _) | (with_reducible refine Kd.C_drew ?_))); (case side2 => exact HC0.out); rintro e w47 ⟨rfl, hb⟩; have n0_ := Aside0.mk (Kd.R_below (by (with_reducible repeat (first | apply Kd.R_alloc | apply Kd.R_drewN | apply Kd.R_drew)); exact HO_17.out) hb); have n1_ := Aside0.mk (blk_below (g := gb170) (o := .cells #[.int .i64 ((rd_T27 y166 x19_1).f0), .int .i64 ((rd_T27 y166 x19_1).f1), .int .i64 ((rd_T27 y166 x19_1).f2)] 27 (0, 0)) (by (with_reducible repeat (first | refine blk_drewN ?_ _ | refine blk_drew ?_ | refine blk_alloc ?_ _)); exact BK170.out) hb); have n2_ := Aside0.mk (below_step (by repeat (first | (with_reducible first | exact HB.out | apply below_alloc | apply pw_below_drewN | apply below_drew1 | refine below_set ?_ GE170.out) | exact HB.out)) hb); clear HO_17; clear BK170; clear HB; have HO_17 := n0_; have BK170 := n1_; have HB := n2_; clear n0_ n1_ n2_; (try clear hb); (try clear hb2); (try clear hk); (try clear hi)))
                                        go_roundg k3
                                        case measure => have := HK1.out; have := HJ12.out; have := HK3.out; omega
                                        case rel => exact ⟨(wrap64 (x3_3 + 1)), (by first | rfl | (simp; done) | (simp [*]; done)), H', ⟨by have := HK1.out; have := HJ12.out; have := HK3.out; omega⟩, ⟨by (with_reducible repeat (first | apply Kd.R_alloc | apply Kd.R_drewN | apply Kd.R_drew)); exact HO_17.out⟩, ⟨by (with_reducible repeat (first | refine blk_drewN ?_ _ | refine blk_drew ?_ | refine blk_alloc ?_ _)); exact BK170.out⟩, ⟨by repeat (first | (with_reducible first | exact HB.out | apply below_alloc | apply pw_below_drewN | apply below_drew1 | refine below_set ?_ GE170.out) | exact HB.out)⟩⟩
                                      · rw [if_neg c45] at H
                                        have c45b0 : (t174 == 0) = false := beq_eq_false_iff_ne.mpr c45
                                        have c45b1 : (t174 != 0) = true := bne_iff_ne.mpr c45
                                        obtain rfl := Option.some.inj H
                                        have hcz48_0 : wr.cell? ⟨gb170, 0, none⟩ = some (.int .i64 ((rd_T27 y166 x19_1).f0)) := (blk_cell BK170.out 0).trans rfl
                                        have hcz48_1 : wr.cell? ⟨gb170, 1, none⟩ = some (.int .i64 ((rd_T27 y166 x19_1).f1)) := (blk_cell BK170.out 1).trans rfl
                                        have hcz48_2 : wr.cell? ⟨gb170, 2, none⟩ = some (.int .i64 ((rd_T27 y166 x19_1).f2)) := (blk_cell BK170.out 2).trans rfl
                                        have hfz48_0 := blk_frozen BK170.out 0
                                        have hfz48_1 := blk_frozen BK170.out 1
                                        have hfz48_2 := blk_frozen BK170.out 2
                                        have p171 : 0 ≤ (x3_3 : Int) := of_decide_eq_true (by first | (with_reducible assumption) | assumption)
                                        have q171 : x3_3 < (l0.length : Int) := of_decide_eq_true (by first | (with_reducible assumption) | assumption)
                                        obtain ⟨ad171, e171, hx171_0⟩ := Kd.at_int HR0.out x3_3 p171 q171
                                        cases e171
                                        replace hx171_0 := (HB.out.cell (World.block_lt_of_cell? w _ hx171_0)).trans hx171_0
                                        replace p171 := eq_true p171
                                        replace q171 := eq_true q171
                                        go_wp2_with (first | (go_at_call 10; (with_reducible refine (shwords_Quoted.calls k3 _ _ l0 x3_3 t174 _ ?side1 ?side2 A44.out).mono ?_); (case side1 => repeat (first | exact (Kd.C_below HR0.out HB.out) | (with_reducible refine Kd.C_alloc ?_ _) | (with_reducible refine Kd.C_drewN ?_ _) | (with_reducible refine Kd.C_drew ?_))); (case side2 => exact HC0.out); rintro e w49 ⟨rfl, hb⟩; have n0_ := Aside0.mk (Kd.R_below (by (with_reducible repeat (first | apply Kd.R_alloc | apply Kd.R_drewN | apply Kd.R_drew)); exact HO_17.out) hb); have n1_ := Aside0.mk (blk_below (g := gb170) (o := .cells #[.int .i64 ((rd_T27 y166 x19_1).f0), .int .i64 ((rd_T27 y166 x19_1).f1), .int .i64 ((rd_T27 y166 x19_1).f2)] 27 (0, 0)) (by (with_reducible repeat (first | refine blk_drewN ?_ _ | refine blk_drew ?_ | refine blk_alloc ?_ _)); exact BK170.out) hb); have n2_ := Aside0.mk (below_step (by repeat (first | (with_reducible first | exact HB.out | apply below_alloc | apply pw_below_drewN | apply below_drew1 | refine below_set ?_ GE170.out) | exact HB.out)) hb); clear HO_17; clear BK170; clear HB; have HO_17 := n0_; have BK170 := n1_; have HB := n2_; clear n0_ n1_ n2_; (try clear hb); (try clear hb2); (try clear hk); (try clear hi)))
                                        go_ret
                                        exact ⟨by first | rfl | (simp [errW_none, errW_some] <;> rfl) | (simp [*, errW_none, errW_some] <;> rfl), by repeat (first | (with_reducible first | exact HB.out | apply below_alloc | apply pw_below_drewN | apply below_drew1 | refine below_set ?_ GE170.out) | exact HB.out)⟩
                                    · rw [if_neg c43] at H
                                      have c43b0 : ((rd l0 x3_3) == 10) = false := beq_eq_false_iff_ne.mpr c43
                                      have c43b1 : ((rd l0 x3_3) != 10) = true := bne_iff_ne.mpr c43
                                      obtain rfl := Option.some.inj H
                                      have hcz50_0 : wr.cell? ⟨gb170, 0, none⟩ = some (.int .i64 ((rd_T27 y166 x19_1).f0)) := (blk_cell BK170.out 0).trans rfl
                                      have hcz50_1 : wr.cell? ⟨gb170, 1, none⟩ = some (.int .i64 ((rd_T27 y166 x19_1).f1)) := (blk_cell BK170.out 1).trans rfl
                                      have hcz50_2 : wr.cell? ⟨gb170, 2, none⟩ = some (.int .i64 ((rd_T27 y166 x19_1).f2)) := (blk_cell BK170.out 2).trans rfl
                                      have hfz50_0 := blk_frozen BK170.out 0
                                      have hfz50_1 := blk_frozen BK170.out 1
                                      have hfz50_2 := blk_frozen BK170.out 2
                                      have p171 : 0 ≤ (x3_3 : Int) := of_decide_eq_true (by first | (with_reducible assumption) | assumption)
                                      have q171 : x3_3 < (l0.length : Int) := of_decide_eq_true (by first | (with_reducible assumption) | assumption)
                                      obtain ⟨ad171, e171, hx171_0⟩ := Kd.at_int HR0.out x3_3 p171 q171
                                      cases e171
                                      replace hx171_0 := (HB.out.cell (World.block_lt_of_cell? w _ hx171_0)).trans hx171_0
                                      replace p171 := eq_true p171
                                      replace q171 := eq_true q171
                                      go_wp2
                                      go_ret
                                      exact ⟨by first | rfl | (simp [errW_none, errW_some] <;> rfl) | (simp [*, errW_none, errW_some] <;> rfl), by repeat (first | (with_reducible first | exact HB.out | apply below_alloc | apply pw_below_drewN | apply below_drew1 | refine below_set ?_ GE170.out) | exact HB.out)⟩
                              · rw [if_neg c28] at H
                                exact absurd H (by simp)
                            · rw [if_neg c27] at H
                              exact absurd H (by simp)
                          · rw [if_neg c26] at H
                            have c26b0 : decide (x3_3 < ((rd_T27 y166 x19_1).f1)) = false := decide_eq_false c26
                            clear c26
                            have H' := Aside0.mk H
                            clear H
                            have hcz51_0 : wr.cell? ⟨gb170, 0, none⟩ = some (.int .i64 ((rd_T27 y166 x19_1).f0)) := (blk_cell BK170.out 0).trans rfl
                            have hcz51_1 : wr.cell? ⟨gb170, 1, none⟩ = some (.int .i64 ((rd_T27 y166 x19_1).f1)) := (blk_cell BK170.out 1).trans rfl
                            have hcz51_2 : wr.cell? ⟨gb170, 2, none⟩ = some (.int .i64 ((rd_T27 y166 x19_1).f2)) := (blk_cell BK170.out 2).trans rfl
                            have hfz51_0 := blk_frozen BK170.out 0
                            have hfz51_1 := blk_frozen BK170.out 1
                            have hfz51_2 := blk_frozen BK170.out 2
                            go_wp2
                            go_roundg k3
                            case measure => have := HK1.out; have := HJ12.out; have := HK3.out; omega
                            case rel => exact ⟨(((rd_T27 y166 x19_1).f2)), (wrap64 (x19_1 + 1)), (by first | rfl | (simp; done) | (simp [*]; done)), (by first | rfl | (simp; done) | (simp [*]; done)), H', ⟨by have := HK1.out; have := HJ12.out; have := HK3.out; omega⟩, ⟨by (with_reducible repeat (first | apply Kd.R_alloc | apply Kd.R_drewN | apply Kd.R_drew)); exact Kd.R_mono HO_17.out (fun _ hk => trivial)⟩, ⟨by repeat (first | (with_reducible first | exact HB.out | apply below_alloc | apply pw_below_drewN | apply below_drew1 | refine below_set ?_ GE170.out) | exact HB.out)⟩⟩
              · rw [if_neg c12] at H
                exact absurd H (by simp)
            · rw [if_neg c11] at H
              exact absurd H (by simp)
          · rw [if_neg c10] at H
            have c10b0 : decide (x19_1 < (y166.length : Int)) = false := decide_eq_false c10
            clear c10
            obtain rfl := Option.some.inj H
            go_wp2
            go_ret
            exact ⟨by first | rfl | (simp [errW_none, errW_some] <;> rfl) | (simp [*, errW_none, errW_some] <;> rfl), by repeat (first | (with_reducible first | exact HB.out | apply below_alloc | apply pw_below_drewN | apply below_drew1) | exact HB.out)⟩
    · rw [if_neg c5] at H
      exact absurd H (by simp)
  · replace c3 := Bool.eq_false_iff.mpr c3
    subst c3
    have H1 : (some false) = some r := by rw [if_neg (show ¬ (false = true) by decide)] at H; exact H
    clear H
    have H := H1
    clear H1
    obtain rfl := Option.some.inj H
    go_enter Try.func3, Try.ntmps3
    go_wp2_with (first | ((with_reducible refine gate_callee (f := 8) rfl ?_); refine goesL_ (some 7) rfl rfl Try.func8 (by kernel_rfl) rfl #[] rfl (by (try simp only [List.map_toArray, List.map_cons, List.map_nil]); first | done | rfl | (simp only [List.length_drop, List.length_take]; rfl)) ?_; (with_reducible refine (lanyardlaw12_begun.calls k  false _ A2.out).mono ?_); rintro e w52 ⟨rfl, hb⟩; refine ⟨_, rfl, ?_⟩; have n0_ := Aside0.mk (below_step (by repeat (first | (with_reducible first | exact HB.out | apply below_alloc | apply pw_below_drewN | apply below_drew1) | exact HB.out)) hb); clear HB; have HB := n0_; clear n0_; (try clear hb); (try clear hb2); (try clear hk); (try clear hi)))
    go_ret
    exact ⟨by first | rfl | (simp [errW_none, errW_some] <;> rfl) | (simp [*, errW_none, errW_some] <;> rfl), by repeat (first | (with_reducible first | exact HB.out | apply below_alloc | apply pw_below_drewN | apply below_drew1) | exact HB.out)⟩

/-- THE ONE PURE STATEMENT of lanyardlaw12_WordsParts: yours. -/
def lanyardlaw12_WordsParts.Pure : Prop := ∀ (l0 : List Int), l0.length ≤ maxLen → l0.length * 4 ≤ 140737488351232 → (∀ x ∈ l0, (Lit.int .i32 x).wf = true) → ∃ k, lanyardlaw12_WordsParts.f k l0 = some true
theorem lanyardlaw12_WordsParts.walk (P : lanyardlaw12_WordsParts.Pure) (a0 : Option Addr) (len0 cap0 : Nat) (z0 : List Int) (w : World) (w0 : (a0 = none ∧ len0 = 0 ∧ cap0 = 0 ∧ z0 = []) ∨ ∃ x, a0 = some x ∧ len0 ≤ cap0 ∧ cap0 ≤ maxLen ∧ z0.length = cap0 ∧ (∀ i, i < z0.length → w.cell? (x.add i) = some (.int .i32 (z0.getD i 0))) ∧ ∀ n ∈ z0, (Lit.int .i32 n).wf = true) (y0 : len0 * 4 ≤ 140737488351232) :
    Calls Try.prog 3 #[.slice a0 len0 cap0] w fun e w' => e = .returned (.bool true) ∧ Below w.heap.size w w' := by
  obtain ⟨l0, rfl, hr0, hm0, hw0, hc0⟩ := ReadsInt.ofRowC w0
  obtain ⟨k, h⟩ := P l0 hm0 y0 hw0
  refine (lanyardlaw12_WordsParts.calls k _ _ l0 true w (Kd.C_of_reads (d := (0 : Int)) (h1 := fun _ => rfl) hr0) hc0 h).mono ?_
  rintro e w' ⟨rfl, hd⟩
  exact ⟨rfl, hd⟩

/-! ### shwords_Open: function 18 -/
def shwords_Open.l0 : Nat → List Int → Int → Int → Int → Bool → Option (Int)
  | 0, _, _, _, _, _ => none
  | k + 1, x6, x7, x8, x176000, x176001 => if x8 < x7 then (if 0 ≤ x8 then (if x8 < (x6.length : Int) then ((shwords_state_next.f k x176000 x176001 (rd x6 x8)).bind fun bt177 => (shwords_Open.l0 k x6 x7 (wrap64 (x8 + 1)) bt177.1 bt177.2)) else (none)) else (none)) else ((shwords_state_kind.f x176000 x176001).bind fun t179 => (some t179))
def shwords_Open.f (k : Nat) (l0 : List Int) : Option (Int) := shwords_Open.l0 k l0 (l0.length : Int) 0 0 false
theorem shwords_Open.mono_l : ∀ k, (∀ y0 y1 y2 y3 y4, LeO (shwords_Open.l0 k y0 y1 y2 y3 y4) (shwords_Open.l0 (k + 1) y0 y1 y2 y3 y4))
  | 0 => fun _ _ _ _ _ r h => by simp [shwords_Open.l0] at h
  | k + 1 => by
    have ih0 := shwords_Open.mono_l k
    · intro y0 y1 y2 y3 y4
      unfold shwords_Open.l0
      repeat' first
      | (with_reducible exact ih0 _ _ _ _ _)
      | (with_reducible exact shwords_state_next.mono _ _ _ _)
      | (with_reducible exact LeO.refl _)
      | (with_reducible exact LeO.none _)
      | (with_reducible refine LeO.ite ?_ ?_)
      | (with_reducible refine LeO.bind ?_ (fun _ => ?_))
      | exact ih0 _ _ _ _ _
      | exact shwords_state_next.mono _ _ _ _
      | exact LeO.none _
      | refine LeO.ite ?_ ?_
      | refine LeO.bind ?_ (fun _ => ?_)
theorem shwords_Open.mono : ∀ a0 k, LeO (shwords_Open.f k a0) (shwords_Open.f (k + 1) a0) := by
  intro a0 k
  have ih0 := shwords_Open.mono_l k
  unfold shwords_Open.f
  repeat' first
      | (with_reducible exact ih0 _ _ _ _ _)
      | (with_reducible exact shwords_state_next.mono _ _ _ _)
      | (with_reducible exact LeO.refl _)
      | (with_reducible exact LeO.none _)
      | (with_reducible refine LeO.ite ?_ ?_)
      | (with_reducible refine LeO.bind ?_ (fun _ => ?_))
      | exact ih0 _ _ _ _ _
      | exact shwords_state_next.mono _ _ _ _
      | exact LeO.none _
      | refine LeO.ite ?_ ?_
      | refine LeO.bind ?_ (fun _ => ?_)
set_option maxHeartbeats 8000000 in
set_option maxRecDepth 100000 in
theorem shwords_Open.calls (k : Nat) (A0 : Option Addr) (c0 : Nat) (l0 : List Int) (r : Int) (w : World) (hr0 : Kd.C (Kd.int .i32) w A0 l0.length l0) (hc0 : l0.length ≤ c0) (h : shwords_Open.f k l0 = some r) :
    Calls Try.prog 18 #[.slice A0 l0.length c0] w fun e w' => e = .returned (.int .i64 r) ∧ Below w.heap.size w w' := by
  have hu55 := Try.underlying55
  have HR0 := Aside0.mk hr0
  have HC0 := Aside0.mk hc0
  clear hr0 hc0
  have HB := Aside0.mk (Below.refl w.heap.size w)
  have H : (shwords_Open.l0 k l0 (l0.length : Int) 0 0 false) = some r := h
  clear h
  have H' := Aside0.mk H
  clear H
  go_enter Try.func18, Try.ntmps18
  go_wp2_with (first | ((with_reducible refine gate_dst (N := 3) rfl ?_); refine box_event ?hg (N := 3) ?hd (cs := #[.int .i32 0, .bool false]) (t := 55) ?hr ?_; (case hd => rfl); (case hg => rfl); (case hr => first | (go_simp; done) | (go_simp; rfl)); intro gb175 hg w2 hbox hb; have n0_ := Aside0.mk (below_step (by repeat (first | (with_reducible first | exact HB.out | apply below_alloc | apply pw_below_drewN | apply below_drew1) | exact HB.out)) hb); have n1_ := Aside0.mk (hbox); have n2_ := Aside0.mk ((by rw [hg]; exact (below_size (by repeat (first | (with_reducible first | exact HB.out | apply below_alloc | apply pw_below_drewN | apply below_drew1) | exact HB.out))) : w.heap.size ≤ gb175)); have n3_ := Aside0.mk ((by rw [hg]; exact (below_size (by repeat (first | (with_reducible first | exact HB.out | apply below_alloc | apply pw_below_drewN | apply below_drew1) | exact HB.out))) : w.heap.size ≤ gb175)); clear HB; have HB := n0_; have BK175 := n1_; have GW175 := n2_; have GE175 := n3_; clear n0_ n1_ n2_ n3_; clear hb hbox hg))
  go_loopg [8] k (fun kq v8 w' => ∃ (x8_1 : Int) (x176000_1 : Int) (x176001_1 : Bool), v8 = .int .i64 x8_1 ∧ Aside0 (shwords_Open.l0 kq l0 (l0.length : Int) x8_1 x176000_1 x176001_1 = some r) ∧ Aside0 (kq ≤ k) ∧ Aside0 (w'.heap[gb175]? = some (.cells #[.int .i32 x176000_1, .bool x176001_1] 55 (0, 0))) ∧ Aside0 (Below w.heap.size w w'))
  case atStart => exact ⟨(0), (0), (false), (by first | rfl | (simp; done) | (simp [*]; done)), H', ⟨Nat.le_refl _⟩, ⟨by (with_reducible repeat (first | refine blk_drewN ?_ _ | refine blk_drew ?_ | refine blk_alloc ?_ _)); exact BK175.out⟩, ⟨by repeat (first | (with_reducible first | exact HB.out | apply below_alloc | apply pw_below_drewN | apply below_drew1 | refine below_set ?_ GE175.out) | exact HB.out)⟩⟩
  case round =>
    clear H'
    try clear c1
    try clear p2
    obtain ⟨x8_1, x176000_1, x176001_1, rfl, HA, HK1, BK175, HB⟩ := hrel
    cases gk with
    | zero => exact absurd HA.out (by simp [shwords_Open.l0])
    | succ k1 =>
      have H := HA.out
      clear HA
      simp only [shwords_Open.l0] at H
      by_cases c3 : x8_1 < (l0.length : Int)
      · rw [if_pos c3] at H
        have c3b0 : decide (x8_1 < (l0.length : Int)) = true := decide_eq_true c3
        clear c3
        by_cases c4 : 0 ≤ x8_1
        · rw [if_pos c4] at H
          have c4b0 : decide (0 ≤ x8_1) = true := decide_eq_true c4
          clear c4
          by_cases c5 : x8_1 < (l0.length : Int)
          · rw [if_pos c5] at H
            have c5b0 : decide (x8_1 < (l0.length : Int)) = true := decide_eq_true c5
            clear c5
            replace H := Option.bind_eq_some_iff.mp H
            obtain ⟨⟨t177, t178⟩, A60, H⟩ := H
            replace H : (shwords_Open.l0 k1 l0 (l0.length : Int) (wrap64 (x8_1 + 1)) t177 t178) = some r := H
            have A6 := Aside0.mk A60
            clear A60
            have H' := Aside0.mk H
            clear H
            have p176 : 0 ≤ (x8_1 : Int) := of_decide_eq_true (by first | (with_reducible assumption) | assumption)
            have q176 : x8_1 < (l0.length : Int) := of_decide_eq_true (by first | (with_reducible assumption) | assumption)
            obtain ⟨ad176, e176, hx176_0⟩ := Kd.at_int HR0.out x8_1 p176 q176
            cases e176
            replace hx176_0 := (HB.out.cell (World.block_lt_of_cell? w _ hx176_0)).trans hx176_0
            replace p176 := eq_true p176
            replace q176 := eq_true q176
            have hcz7_0 : wr.cell? ⟨gb175, 0, none⟩ = some (.int .i32 x176000_1) := (blk_cell BK175.out 0).trans rfl
            have hcz7_1 : wr.cell? ⟨gb175, 1, none⟩ = some (.bool x176001_1) := (blk_cell BK175.out 1).trans rfl
            have hfz7_0 := blk_frozen BK175.out 0
            have hfz7_1 := blk_frozen BK175.out 1
            go_wp2_with (first | ((with_reducible refine gate_callee (f := 35) rfl ?_); refine goesL_ (some 14) rfl rfl Try.func35 (by kernel_rfl) rfl #[.agg #[.int .i32 x176000_1, .bool x176001_1], .int .i32 (rd l0 x8_1)] rfl (by (try simp only [List.map_toArray, List.map_cons, List.map_nil]); first | done | rfl | (simp only [List.length_drop, List.length_take]; rfl)) ?_; (with_reducible refine (shwords_state_next.calls k1 x176000_1 x176001_1 (rd l0 x8_1) t177 t178 _ A6.out).mono ?_); rintro e w8 ⟨rfl, hb⟩; refine ⟨_, rfl, ?_⟩; have n0_ := Aside0.mk (blk_below (g := gb175) (o := .cells #[.int .i32 x176000_1, .bool x176001_1] 55 (0, 0)) (by (with_reducible repeat (first | refine blk_drewN ?_ _ | refine blk_drew ?_ | refine blk_alloc ?_ _)); exact BK175.out) hb); have n1_ := Aside0.mk (below_step (by repeat (first | (with_reducible first | exact HB.out | apply below_alloc | apply pw_below_drewN | apply below_drew1 | refine below_set ?_ GE175.out) | exact HB.out)) hb); clear BK175; clear HB; have BK175 := n0_; have HB := n1_; clear n0_ n1_; (try clear hb); (try clear hb2); (try clear hk); (try clear hi); have hcz9_0 : w8.cell? ⟨gb175, 0, none⟩ = some (.int .i32 x176000_1) := (blk_cell BK175.out 0).trans rfl; have hcz9_1 : w8.cell? ⟨gb175, 1, none⟩ = some (.bool x176001_1) := (blk_cell BK175.out 1).trans rfl; have hfz9_0 := blk_frozen BK175.out 0; have hfz9_1 := blk_frozen BK175.out 1))
            go_roundg k1
            case measure => have := HK1.out; omega
            case rel => exact ⟨(wrap64 (x8_1 + 1)), (t177), (t178), (by first | rfl | (simp; done) | (simp [*]; done)), H', ⟨by have := HK1.out; omega⟩, ⟨by (with_reducible repeat (first | refine blk_drewN ?_ _ | refine blk_drew ?_ | refine blk_alloc ?_ _)); refine blk_put (cs := #[.int .i32 t177, .bool x176001_1]) ?_ 1 _ rfl; (with_reducible repeat (first | refine blk_drewN ?_ _ | refine blk_drew ?_ | refine blk_alloc ?_ _)); refine blk_put (cs := #[.int .i32 x176000_1, .bool x176001_1]) ?_ 0 _ rfl; (with_reducible repeat (first | refine blk_drewN ?_ _ | refine blk_drew ?_ | refine blk_alloc ?_ _)); exact BK175.out⟩, ⟨by repeat (first | (with_reducible first | exact HB.out | apply below_alloc | apply pw_below_drewN | apply below_drew1 | refine below_set ?_ GE175.out) | exact HB.out)⟩⟩
          · rw [if_neg c5] at H
            exact absurd H (by simp)
        · rw [if_neg c4] at H
          exact absurd H (by simp)
      · rw [if_neg c3] at H
        have c3b0 : decide (x8_1 < (l0.length : Int)) = false := decide_eq_false c3
        clear c3
        replace H := Option.bind_eq_some_iff.mp H
        obtain ⟨t179, A100, H⟩ := H
        replace H : (some t179) = some r := H
        have A10 := Aside0.mk A100
        clear A100
        obtain rfl := Option.some.inj H
        have hcz11_0 : wr.cell? ⟨gb175, 0, none⟩ = some (.int .i32 x176000_1) := (blk_cell BK175.out 0).trans rfl
        have hcz11_1 : wr.cell? ⟨gb175, 1, none⟩ = some (.bool x176001_1) := (blk_cell BK175.out 1).trans rfl
        have hfz11_0 := blk_frozen BK175.out 0
        have hfz11_1 := blk_frozen BK175.out 1
        go_wp2_with (first | ((with_reducible refine gate_callee (f := 37) rfl ?_); refine goesL_ (some 17) rfl rfl Try.func37 (by kernel_rfl) rfl #[.agg #[.int .i32 x176000_1, .bool x176001_1]] rfl (by (try simp only [List.map_toArray, List.map_cons, List.map_nil]); first | done | rfl | (simp only [List.length_drop, List.length_take]; rfl)) ?_; (with_reducible refine (shwords_state_kind.calls x176000_1 x176001_1 t179 _ A10.out).mono ?_); rintro e w12 ⟨rfl, hb⟩; refine ⟨_, rfl, ?_⟩; have n0_ := Aside0.mk (blk_below (g := gb175) (o := .cells #[.int .i32 x176000_1, .bool x176001_1] 55 (0, 0)) (by (with_reducible repeat (first | refine blk_drewN ?_ _ | refine blk_drew ?_ | refine blk_alloc ?_ _)); exact BK175.out) hb); have n1_ := Aside0.mk (below_step (by repeat (first | (with_reducible first | exact HB.out | apply below_alloc | apply pw_below_drewN | apply below_drew1 | refine below_set ?_ GE175.out) | exact HB.out)) hb); clear BK175; clear HB; have BK175 := n0_; have HB := n1_; clear n0_ n1_; (try clear hb); (try clear hb2); (try clear hk); (try clear hi)))
        go_ret
        exact ⟨by first | rfl | (simp [errW_none, errW_some] <;> rfl) | (simp [*, errW_none, errW_some] <;> rfl), by repeat (first | (with_reducible first | exact HB.out | apply below_alloc | apply pw_below_drewN | apply below_drew1 | refine below_set ?_ GE175.out) | exact HB.out)⟩

end Go.Proofs.Ytpebdkchdgaeoaa.PAll
