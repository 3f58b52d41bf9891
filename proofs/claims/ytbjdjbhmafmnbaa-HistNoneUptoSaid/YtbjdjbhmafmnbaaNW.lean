/-
  The walk of HistNone.
-/
import Derived.Test.YtbjdjbhmafmnbaaNA
import Derived.Test.YtbjdjbhmafmnbaaNR
import Derived.Deep.RegionHeld3
namespace Go.Proofs.Ytbjdjbhmafmnbaa
open Go.RowKit Go.Proofs.YtbjdjbhmafmnbaaW.PrintWords Go.Proofs.YtbjdjbhmafmnbaaW.PrintLast Go.Proofs.YtbjdjbhmafmnbaaW.PrintMore Go.Proofs.Ytbjdjbhmafmnbaa.PAll
set_option linter.unusedVariables false
set_option linter.unusedSimpArgs false
attribute [local go_sem] Oper.semAt_some
/-- An operation, as it is handed over. -/
structure OpIn where
  do_ : Int
  la : Option Addr
  ll : List S36
  lc : Nat
  i : Int
  n : Int
  text : ByteArray
  back : Bool
  begins : Bool
def OpIn.cells (o : OpIn) : Array Value := #[.int .i64 o.do_, .slice o.la o.ll.length o.lc, .int .i64 o.i, .int .i64 o.n, .string o.text, .bool o.back, .bool o.begins]
theorem line_calls {w : World} (o : OpIn) (hr : Kd.C k36 w o.la o.ll.length o.ll) (hc : o.ll.length ≤ o.lc) : Calls Try.prog 37 #[.agg o.cells] w fun e w' => (∃ (x0 : ByteArray) (x1 : Int), e = .returned (.agg #[.string x0, .int .i64 x1])) ∧ Below w.heap.size w w' := by
  have h : ∃ r, lanyardlaw10_Op_line.f o.do_ o.ll o.i o.n o.text o.back o.begins = some r := by
    unfold lanyardlaw10_Op_line.f
    split
    · exact ⟨_, rfl⟩
    · rw [if_pos (by omega)]
      exact ⟨_, rfl⟩
  obtain ⟨⟨r1, r2⟩, h⟩ := h
  refine (lanyardlaw10_Op_line.calls o.do_ o.la o.lc o.ll o.i o.n o.text o.back o.begins r1 r2 w hr hc h).mono ?_
  rintro e w' ⟨rfl, hb⟩
  exact ⟨⟨r1, r2, rfl⟩, hb⟩
set_option maxRecDepth 100000 in
set_option maxHeartbeats 4000000 in
theorem walkNone (o : OpIn) {w : World} (hr : Kd.C k36 w o.la o.ll.length o.ll) (hc : o.ll.length ≤ o.lc) (hl : o.ll.length ≤ 1048576) :
    Calls Try.prog 8 #[.agg o.cells] w fun e w' => e = .returned (.bool true) ∧ Below w.heap.size w w' := by
  have LC := Aside0.mk (fun (w' : World) (hb : Below w.heap.size w w') => line_calls o (Kd.C_below hr hb) hc)
  obtain ⟨d, la, ll, lc, i, n, s, b, g⟩ := o
  simp only [OpIn.cells] at LC hr hc hl ⊢
  refine (callsIn_wide (n := 4)).1 (callsIn_of_wp_marks Try.func8 rfl trivial ?_ rfl)
  refine wpIn_wide.2 ?_
  simp only [Try.ntmps8, List.size_toArray, List.length_cons, List.length_nil, Nat.reduceAdd, Nat.reduceSub, Array.replicate_succ, Array.replicate_zero, List.push_toArray, List.append_toArray, List.nil_append, List.cons_append]
  have hA1 := below_alloc (below_alloc (Below.refl w.heap.size w) (.cells #[.int .i64 d, .slice la ll.length lc, .int .i64 i, .int .i64 n, .string s, .bool b, .bool g] 77)) (.cells #[.bool false] 4)
  have h1 := blk_alloc (blk_new w (.cells #[.int .i64 d, .slice la ll.length lc, .int .i64 i, .int .i64 n, .string s, .bool b, .bool g] 77)) (.cells #[.bool false] 4)
  have h2 : ((w.alloc (.cells #[.int .i64 d, .slice la ll.length lc, .int .i64 i, .int .i64 n, .string s, .bool b, .bool g] 77)).alloc (.cells #[.bool false] 4)).heap[w.heap.size + 1]? = some (.cells #[.bool false] 4 (0, 0)) := by
    have := blk_new (w.alloc (.cells #[.int .i64 d, .slice la ll.length lc, .int .i64 i, .int .i64 n, .string s, .bool b, .bool g] 77)) (.cells #[.bool false] 4)
    rwa [World.size_alloc] at this
  go_wp2_with (go_at_call 10; go_loud (refine (begun_calls _).mono ?_; rintro e w4 ⟨rfl, hb4⟩; have h14 := blk_below h1 hb4; have h24 := blk_below h2 hb4; have hB4 := below_step hA1 hb4; clear h1 h2 hA1 hb4))
  have hal := below_alloc (below_alloc (Below.refl w4.heap.size w4) (.cells #[.slice none 0 0, .int .i64 0, .int .i64 0] 87)) (.cells #[.pointer none, .pointer (some ⟨w4.heap.size, 0, none⟩)] 23)
  have h1W := blk_below h14 hal
  have h2W := blk_below h24 hal
  have hBW := below_step hB4 hal
  have hz := blk_alloc (blk_new w4 (.cells #[.slice none 0 0, .int .i64 0, .int .i64 0] 87)) (.cells #[.pointer none, .pointer (some ⟨w4.heap.size, 0, none⟩)] 23)
  have hrow : ((w4.alloc (.cells #[.slice none 0 0, .int .i64 0, .int .i64 0] 87)).alloc (.cells #[.pointer none, .pointer (some ⟨w4.heap.size, 0, none⟩)] 23)).heap[w4.heap.size + 1]? = some (.cells #[.pointer none, .pointer (some ⟨w4.heap.size, 0, none⟩)] 23 (0, 0)) := by
    have := blk_new (w4.alloc (.cells #[.slice none 0 0, .int .i64 0, .int .i64 0] 87)) (.cells #[.pointer none, .pointer (some ⟨w4.heap.size, 0, none⟩)] 23)
    rwa [World.size_alloc] at this
  clear h14 h24 hB4 hal
  generalize ((w4.alloc (.cells #[.slice none 0 0, .int .i64 0, .int .i64 0] 87)).alloc (.cells #[.pointer none, .pointer (some ⟨w4.heap.size, 0, none⟩)] 23)) = W at h1W h2W hBW hz hrow ⊢
  generalize w4.heap.size = z at hz hrow ⊢
  have hg2 : w.heap.size ≤ w.heap.size + 1 := by omega
  have sW := hBW.size
  generalize w.heap.size + 1 = g2 at h2W hg2 ⊢
  have kr0 : W.cell? ⟨z + 1, 0, none⟩ = some (.pointer none) := (blk_cell hrow 0).trans rfl
  have kr1 : W.cell? ⟨z + 1, 1, none⟩ = some (.pointer (some ⟨z, 0, none⟩)) := (blk_cell hrow 1).trans rfl
  have k12 : W.cell? ⟨w.heap.size, 2, none⟩ = some (.int .i64 i) := (blk_cell h1W 2).trans rfl
  have k13 : W.cell? ⟨w.heap.size, 3, none⟩ = some (.int .i64 n) := (blk_cell h1W 3).trans rfl
  have k14 : W.cell? ⟨w.heap.size, 4, none⟩ = some (.string s) := (blk_cell h1W 4).trans rfl
  have k15 : W.cell? ⟨w.heap.size, 5, none⟩ = some (.bool b) := (blk_cell h1W 5).trans rfl
  have k16 : W.cell? ⟨w.heap.size, 6, none⟩ = some (.bool g) := (blk_cell h1W 6).trans rfl
  have hU0 : Un W (.pointer none) := .inl rfl
  have hU1 : Un W (.pointer (some ⟨z, 0, none⟩)) := .inr ⟨z, rfl, hz⟩
  refine wp_loop_rounds 3 ?_
  simp only [Code.rounds]
  go_wp2_with (first
    | (go_at_call 21; go_loud (refine (un_at hU0 i).mono ?_; rintro e w5 ⟨rfl, hb5⟩; have b51 := blk_below h1W (below_alloc hb5 (.cells #[.string ⟨#[]⟩, .int .i64 0] 36)); have k53 : (w5.alloc (.cells #[.string ⟨#[]⟩, .int .i64 0] 36)).cell? ⟨w.heap.size, 3, none⟩ = some (.int .i64 n) := (blk_cell b51 3).trans rfl))
    | (go_at_call 15; go_loud (refine (un_number (hU0.below (below_alloc hb5 _)) n).mono ?_; rintro e w6 ⟨rfl, hb6⟩)))
  have hV := below_alloc (below_step (below_alloc hb5 (.cells #[.string ⟨#[]⟩, .int .i64 0] 36)) hb6) (.cells #[.string ⟨#[]⟩, .int .i64 0] 36)
  generalize w6.alloc (.cells #[.string ⟨#[]⟩, .int .i64 0] 36) = V at hV ⊢
  have h1V := blk_below h1W hV
  have CS : ∀ w', Below V.heap.size V w' → (w'.cell? ⟨w.heap.size, 0, none⟩ = some (.int .i64 d) ∧ w'.cell? ⟨w.heap.size, 1, none⟩ = some (.slice la ll.length lc) ∧ w'.cell? ⟨w.heap.size, 2, none⟩ = some (.int .i64 i) ∧ w'.cell? ⟨w.heap.size, 3, none⟩ = some (.int .i64 n) ∧ w'.cell? ⟨w.heap.size, 4, none⟩ = some (.string s) ∧ w'.cell? ⟨w.heap.size, 5, none⟩ = some (.bool b) ∧ w'.cell? ⟨w.heap.size, 6, none⟩ = some (.bool g) ∧ Below V.heap.size V w') := fun w' hb => by
    have h := blk_below h1V hb
    exact ⟨(blk_cell h 0).trans rfl, (blk_cell h 1).trans rfl, (blk_cell h 2).trans rfl, (blk_cell h 3).trans rfl, (blk_cell h 4).trans rfl, (blk_cell h 5).trans rfl, (blk_cell h 6).trans rfl, hb⟩
  have CS' := Aside0.mk CS
  have hV0 := Aside0.mk (below_drew (Below.refl V.heap.size V))
  have hUV := Aside0.mk (hU0.below hV)
  have LV := Aside0.mk (fun (w' : World) (hb : Below V.heap.size V w') => LC.out w' (below_step (below_step hBW hV) hb))
  clear CS k53 b51 hb5 hb6
  go_cut [9, 10] from 48 to 57 (fun v9 v10 w' => v10 = .int .i64 2 ∧ Below V.heap.size V w')
  case first =>
    refine wp_region_noPanic ?_
    go_region_held3 (fun w' => w'.cell? ⟨w.heap.size, 0, none⟩ = some (.int .i64 d) ∧ w'.cell? ⟨w.heap.size, 1, none⟩ = some (.slice la ll.length lc) ∧ w'.cell? ⟨w.heap.size, 2, none⟩ = some (.int .i64 i) ∧ w'.cell? ⟨w.heap.size, 3, none⟩ = some (.int .i64 n) ∧ w'.cell? ⟨w.heap.size, 4, none⟩ = some (.string s) ∧ w'.cell? ⟨w.heap.size, 5, none⟩ = some (.bool b) ∧ w'.cell? ⟨w.heap.size, 6, none⟩ = some (.bool g) ∧ Below V.heap.size V w')
      (first | exact CS'.out _ hV0.out | exact CS'.out _ hv1 | exact CS'.out _ hv2 | exact CS'.out _ (below_alloc hV0.out _) | exact CS'.out _ (below_alloc hv1 _) | exact CS'.out _ (below_alloc hv2 _) | exact CS'.out _ (below_set (below_set hv2 (Nat.le_refl _)) (Nat.le_refl _)) | exact CS'.out _ (below_set (below_set hv2 hv1.size) hv1.size))
      (first
        | (go_at_call 37; go_loud (refine (LV.out _ (by first | exact hV0.out | exact below_alloc hV0.out _)).mono ?_; rintro e v1 ⟨⟨x0, x1, rfl⟩, hbv1⟩; have hv1 : Below V.heap.size V v1 := below_step (by first | exact hV0.out | exact below_alloc hV0.out _) hbv1; first | (have hq0 : v1.heap[V.heap.size]? = some (.cells #[.string ⟨#[]⟩, .int .i64 0] 36 (0, 0)) := blk_below (blk_new V.drew (.cells #[.string ⟨#[]⟩, .int .i64 0] 36)) hbv1) | skip))
        | (go_at_call 36; go_loud (refine (un_replace (hUV.out.below (by first | exact hv1 | exact below_alloc hv1 _)) i x0 x1).mono ?_; rintro e v2 ⟨rfl, hbv2⟩; have hv2 : Below V.heap.size V v2 := below_step (by first | exact hv1 | exact below_alloc hv1 _) hbv2; first | (have hq1 := blk_below hq0 hbv2; have q10 : v2.cell? ⟨V.heap.size, 0, none⟩ = some (.string ⟨#[]⟩) := (blk_cell hq1 0).trans rfl; have q11 : v2.cell? ⟨V.heap.size, 1, none⟩ = some (.int .i64 0) := (blk_cell hq1 1).trans rfl; have q12 := blk_frozen hq1 0; have q13 := blk_frozen hq1 1) | (have hq1 : v2.heap[v1.heap.size]? = some (.cells #[.string ⟨#[]⟩, .int .i64 0] 36 (0, 0)) := blk_below (blk_new v1 (.cells #[.string ⟨#[]⟩, .int .i64 0] 36)) hbv2; have q10 : v2.cell? ⟨v1.heap.size, 0, none⟩ = some (.string ⟨#[]⟩) := (blk_cell hq1 0).trans rfl; have q11 : v2.cell? ⟨v1.heap.size, 1, none⟩ = some (.int .i64 0) := (blk_cell hq1 1).trans rfl; have q12 := blk_frozen hq1 0; have q13 := blk_frozen hq1 1) | skip)))
    all_goals
      refine NoPanic.normal ?_
      go_wp2
      go_meet
      case rel => exact ⟨rfl, by first | exact below_alloc hv2 _ | exact below_set (below_set hv2 (Nat.le_refl _)) (Nat.le_refl _) | exact below_set (below_set hv2 hv1.size) hv1.size⟩
  case rest =>
    obtain ⟨rfl, hbc⟩ := hcut
    have CSc := Aside0.mk (fun (w' : World) (hb : Below wc.heap.size wc w') => (by
      have h := blk_below (blk_below h1V hbc) hb
      exact ⟨(blk_cell h 0).trans rfl, (blk_cell h 1).trans rfl, (blk_cell h 2).trans rfl, (blk_cell h 3).trans rfl, (blk_cell h 4).trans rfl, (blk_cell h 5).trans rfl, (blk_cell h 6).trans rfl⟩ : w'.cell? ⟨w.heap.size, 0, none⟩ = some (.int .i64 d) ∧ w'.cell? ⟨w.heap.size, 1, none⟩ = some (.slice la ll.length lc) ∧ w'.cell? ⟨w.heap.size, 2, none⟩ = some (.int .i64 i) ∧ w'.cell? ⟨w.heap.size, 3, none⟩ = some (.int .i64 n) ∧ w'.cell? ⟨w.heap.size, 4, none⟩ = some (.string s) ∧ w'.cell? ⟨w.heap.size, 5, none⟩ = some (.bool b) ∧ w'.cell? ⟨w.heap.size, 6, none⟩ = some (.bool g)))
    have hUc := Aside0.mk (hUV.out.below hbc)
    obtain ⟨c0, c1, c2, c3, c4, c5, c6⟩ := CSc.out wc (Below.refl _ _)
    go_wp2_with (first
      | (go_at_call 38; go_loud (refine (un_remove hUc.out i).mono ?_; rintro e w7 ⟨rfl, hb7⟩; obtain ⟨d0, d1, d2, d3, d4, d5, d6⟩ := CSc.out (w7.alloc (.cells #[.string ⟨#[]⟩, .int .i64 0] 36)) (below_alloc hb7 _)))
      | (go_at_call 32; go_loud (refine (un_search (hUc.out.below (below_alloc hb7 _)) i s b g).mono ?_; rintro e w8 ⟨rfl, hb8⟩))
      | (go_at_call 17; go_loud (refine (un_newWalk (hUc.out.below (below_step (below_alloc hb7 _) hb8))).mono ?_; rintro e w9 ⟨rfl, hb9⟩; obtain ⟨f0, f1, f2, f3, f4, f5, f6⟩ := CSc.out w9 (below_step (below_step (below_alloc hb7 _) hb8) hb9); have hU9 := Aside0.mk (hUc.out.below (below_step (below_step (below_alloc hb7 _) hb8) hb9))))
      | (go_at_call 11; go_loud (refine (un_add hU9.out _).mono ?_; rintro e w' ⟨rfl, rfl⟩))
      | (go_at_call 39; go_loud (refine (un_stifle hU9.out _).mono ?_; rintro e w' ⟨rfl, rfl⟩))
      | (go_at_call 12; go_loud (refine (un_len hU9.out).mono ?_; rintro e w' ⟨rfl, rfl⟩))
      | (go_at_call 13; go_loud (refine (un_base hU9.out).mono ?_; rintro e w' ⟨rfl, rfl⟩))
      | (go_at_call 40; go_loud (refine (un_most hU9.out).mono ?_; rintro e w' ⟨rfl, rfl⟩))
      | (go_at_call 41; go_loud (refine (un_clone hU9.out).mono ?_; rintro e w' ⟨rfl, rfl⟩))
      | (go_at_call 14; go_loud (refine (un_all hU9.out).mono ?_; rintro e w10 ⟨Bx, rfl, hBx, hbx, hb10⟩)))
    have hWA := below_step (below_step (below_step (below_step (below_step hV hbc) (below_alloc hb7 (.cells #[.string ⟨#[]⟩, .int .i64 0] 36))) hb8) hb9) hb10
    refine (wpIn_wide (n := 4)).1 ?_
    refine range_none (F := Fence.wide) rfl (by omega) (gf := 61) (lb := #[.pointer (some ⟨Bx, 0, none⟩)]) rfl trivial (enters_of Try.func61 (by kernel_rfl) rfl)
      (all_stops 3 (by omega) Bx w9.heap.size (.slice none 0 0) [] w10 (fun k => w9.heap.size ≤ k ∧ k < w10.heap.size) (fun k hk => hk.2) ⟨hBx, blk_lt hbx⟩ hbx (Kd.R_nil _ _ _ _ _) (by simp))
      (fun p x W h => by have := h.2; simp at this) (fun h k => h.trans k) (fun W l o o' hl ho _ _ => ⟨by simp, fun k hk hlt => World.putObj_heap_other (by have := hk.2; omega)⟩) (fun _ => rfl) ?_
    intro D1 WD hD1 hWD hK1
    have hWB := below_step hWA hWD
    have sA1 := hWA.size
    clear hWA hWD hb7 hb8 hb9 hb10 hbx CSc hUc c0 c1 c2 c3 c4 c5 c6 d0 d1 d2 d3 d4 d5 d6 f0 f1 f2 f3 f4 f5 f6 hU9
    have hrowD := blk_below hrow hWB
    have h1D := blk_below h1W hWB
    have h2D := blk_below h2W hWB
    have hBD := below_step hBW hWB
    have hU1D := hU1.below hWB
    have kr1D : WD.cell? ⟨z + 1, 1, none⟩ = some (.pointer (some ⟨z, 0, none⟩)) := (blk_cell hrowD 1).trans rfl
    have k12D : WD.cell? ⟨w.heap.size, 2, none⟩ = some (.int .i64 i) := (blk_cell h1D 2).trans rfl
    have k13D : WD.cell? ⟨w.heap.size, 3, none⟩ = some (.int .i64 n) := (blk_cell h1D 3).trans rfl
    have sWD := hWB.size
    clear hbc hV h1V CS' hV0 hUV LV hU0 k12 k13 k14 k15 k16 kr0 kr1
    go_wp2_with (first
      | (go_at_call 21; go_loud (refine (un_at hU1D i).mono ?_; rintro e w5 ⟨rfl, hb5⟩; have b51 := blk_below h1D (below_alloc hb5 (.cells #[.string ⟨#[]⟩, .int .i64 0] 36)); have k53 : (w5.alloc (.cells #[.string ⟨#[]⟩, .int .i64 0] 36)).cell? ⟨w.heap.size, 3, none⟩ = some (.int .i64 n) := (blk_cell b51 3).trans rfl))
      | (go_at_call 15; go_loud (refine (un_number (hU1D.below (below_alloc hb5 _)) n).mono ?_; rintro e w6 ⟨rfl, hb6⟩)))
    have hV := below_alloc (below_step (below_alloc hb5 (.cells #[.string ⟨#[]⟩, .int .i64 0] 36)) hb6) (.cells #[.string ⟨#[]⟩, .int .i64 0] 36)
    generalize w6.alloc (.cells #[.string ⟨#[]⟩, .int .i64 0] 36) = V at hV ⊢
    have h1V := blk_below h1D hV
    have CS : ∀ w', Below V.heap.size V w' → (w'.cell? ⟨w.heap.size, 0, none⟩ = some (.int .i64 d) ∧ w'.cell? ⟨w.heap.size, 1, none⟩ = some (.slice la ll.length lc) ∧ w'.cell? ⟨w.heap.size, 2, none⟩ = some (.int .i64 i) ∧ w'.cell? ⟨w.heap.size, 3, none⟩ = some (.int .i64 n) ∧ w'.cell? ⟨w.heap.size, 4, none⟩ = some (.string s) ∧ w'.cell? ⟨w.heap.size, 5, none⟩ = some (.bool b) ∧ w'.cell? ⟨w.heap.size, 6, none⟩ = some (.bool g) ∧ Below V.heap.size V w') := fun w' hb => by
      have h := blk_below h1V hb
      exact ⟨(blk_cell h 0).trans rfl, (blk_cell h 1).trans rfl, (blk_cell h 2).trans rfl, (blk_cell h 3).trans rfl, (blk_cell h 4).trans rfl, (blk_cell h 5).trans rfl, (blk_cell h 6).trans rfl, hb⟩
    have CS' := Aside0.mk CS
    have hV0 := Aside0.mk (below_drew (Below.refl V.heap.size V))
    have hUV := Aside0.mk (hU1D.below hV)
    have LV := Aside0.mk (fun (w' : World) (hb : Below V.heap.size V w') => LC.out w' (below_step (below_step hBD hV) hb))
    clear CS k53 b51 hb5 hb6
    go_cut [9, 10] from 48 to 57 (fun v9 v10 w' => v10 = .int .i64 2 ∧ Below V.heap.size V w')
    case first =>
      refine wp_region_noPanic ?_
      go_region_held3 (fun w' => w'.cell? ⟨w.heap.size, 0, none⟩ = some (.int .i64 d) ∧ w'.cell? ⟨w.heap.size, 1, none⟩ = some (.slice la ll.length lc) ∧ w'.cell? ⟨w.heap.size, 2, none⟩ = some (.int .i64 i) ∧ w'.cell? ⟨w.heap.size, 3, none⟩ = some (.int .i64 n) ∧ w'.cell? ⟨w.heap.size, 4, none⟩ = some (.string s) ∧ w'.cell? ⟨w.heap.size, 5, none⟩ = some (.bool b) ∧ w'.cell? ⟨w.heap.size, 6, none⟩ = some (.bool g) ∧ Below V.heap.size V w')
        (first | exact CS'.out _ hV0.out | exact CS'.out _ hv1 | exact CS'.out _ hv2 | exact CS'.out _ (below_alloc hV0.out _) | exact CS'.out _ (below_alloc hv1 _) | exact CS'.out _ (below_alloc hv2 _) | exact CS'.out _ (below_set (below_set hv2 (Nat.le_refl _)) (Nat.le_refl _)) | exact CS'.out _ (below_set (below_set hv2 hv1.size) hv1.size))
        (first
          | (go_at_call 37; go_loud (refine (LV.out _ (by first | exact hV0.out | exact below_alloc hV0.out _)).mono ?_; rintro e v1 ⟨⟨x0, x1, rfl⟩, hbv1⟩; have hv1 : Below V.heap.size V v1 := below_step (by first | exact hV0.out | exact below_alloc hV0.out _) hbv1; first | (have hq0 : v1.heap[V.heap.size]? = some (.cells #[.string ⟨#[]⟩, .int .i64 0] 36 (0, 0)) := blk_below (blk_new V.drew (.cells #[.string ⟨#[]⟩, .int .i64 0] 36)) hbv1) | skip))
          | (go_at_call 36; go_loud (refine (un_replace (hUV.out.below (by first | exact hv1 | exact below_alloc hv1 _)) i x0 x1).mono ?_; rintro e v2 ⟨rfl, hbv2⟩; have hv2 : Below V.heap.size V v2 := below_step (by first | exact hv1 | exact below_alloc hv1 _) hbv2; first | (have hq1 := blk_below hq0 hbv2; have q10 : v2.cell? ⟨V.heap.size, 0, none⟩ = some (.string ⟨#[]⟩) := (blk_cell hq1 0).trans rfl; have q11 : v2.cell? ⟨V.heap.size, 1, none⟩ = some (.int .i64 0) := (blk_cell hq1 1).trans rfl; have q12 := blk_frozen hq1 0; have q13 := blk_frozen hq1 1) | (have hq1 : v2.heap[v1.heap.size]? = some (.cells #[.string ⟨#[]⟩, .int .i64 0] 36 (0, 0)) := blk_below (blk_new v1 (.cells #[.string ⟨#[]⟩, .int .i64 0] 36)) hbv2; have q10 : v2.cell? ⟨v1.heap.size, 0, none⟩ = some (.string ⟨#[]⟩) := (blk_cell hq1 0).trans rfl; have q11 : v2.cell? ⟨v1.heap.size, 1, none⟩ = some (.int .i64 0) := (blk_cell hq1 1).trans rfl; have q12 := blk_frozen hq1 0; have q13 := blk_frozen hq1 1) | skip)))
      all_goals
        refine NoPanic.normal ?_
        go_wp2
        go_meet
        case rel => exact ⟨rfl, by first | exact below_alloc hv2 _ | exact below_set (below_set hv2 (Nat.le_refl _)) (Nat.le_refl _) | exact below_set (below_set hv2 hv1.size) hv1.size⟩
    case rest =>
      obtain ⟨rfl, hbc⟩ := hcut
      have CSc := Aside0.mk (fun (w' : World) (hb : Below wc.heap.size wc w') => (by
        have h := blk_below (blk_below h1V hbc) hb
        exact ⟨(blk_cell h 0).trans rfl, (blk_cell h 1).trans rfl, (blk_cell h 2).trans rfl, (blk_cell h 3).trans rfl, (blk_cell h 4).trans rfl, (blk_cell h 5).trans rfl, (blk_cell h 6).trans rfl⟩ : w'.cell? ⟨w.heap.size, 0, none⟩ = some (.int .i64 d) ∧ w'.cell? ⟨w.heap.size, 1, none⟩ = some (.slice la ll.length lc) ∧ w'.cell? ⟨w.heap.size, 2, none⟩ = some (.int .i64 i) ∧ w'.cell? ⟨w.heap.size, 3, none⟩ = some (.int .i64 n) ∧ w'.cell? ⟨w.heap.size, 4, none⟩ = some (.string s) ∧ w'.cell? ⟨w.heap.size, 5, none⟩ = some (.bool b) ∧ w'.cell? ⟨w.heap.size, 6, none⟩ = some (.bool g)))
      have hUc := Aside0.mk (hUV.out.below hbc)
      obtain ⟨c0, c1, c2, c3, c4, c5, c6⟩ := CSc.out wc (Below.refl _ _)
      go_wp2_with (first
        | (go_at_call 38; go_loud (refine (un_remove hUc.out i).mono ?_; rintro e w7 ⟨rfl, hb7⟩; obtain ⟨d0, d1, d2, d3, d4, d5, d6⟩ := CSc.out (w7.alloc (.cells #[.string ⟨#[]⟩, .int .i64 0] 36)) (below_alloc hb7 _)))
        | (go_at_call 32; go_loud (refine (un_search (hUc.out.below (below_alloc hb7 _)) i s b g).mono ?_; rintro e w8 ⟨rfl, hb8⟩))
        | (go_at_call 17; go_loud (refine (un_newWalk (hUc.out.below (below_step (below_alloc hb7 _) hb8))).mono ?_; rintro e w9 ⟨rfl, hb9⟩; obtain ⟨f0, f1, f2, f3, f4, f5, f6⟩ := CSc.out w9 (below_step (below_step (below_alloc hb7 _) hb8) hb9); have hU9 := Aside0.mk (hUc.out.below (below_step (below_step (below_alloc hb7 _) hb8) hb9))))
        | (go_at_call 11; go_loud (refine (un_add hU9.out _).mono ?_; rintro e w' ⟨rfl, rfl⟩))
        | (go_at_call 39; go_loud (refine (un_stifle hU9.out _).mono ?_; rintro e w' ⟨rfl, rfl⟩))
        | (go_at_call 12; go_loud (refine (un_len hU9.out).mono ?_; rintro e w' ⟨rfl, rfl⟩))
        | (go_at_call 13; go_loud (refine (un_base hU9.out).mono ?_; rintro e w' ⟨rfl, rfl⟩))
        | (go_at_call 40; go_loud (refine (un_most hU9.out).mono ?_; rintro e w' ⟨rfl, rfl⟩))
        | (go_at_call 41; go_loud (refine (un_clone hU9.out).mono ?_; rintro e w' ⟨rfl, rfl⟩))
        | (go_at_call 14; go_loud (refine (un_all hU9.out).mono ?_; rintro e w10 ⟨Bx, rfl, hBx, hbx, hb10⟩)))
      have hWA2 := below_step (below_step (below_step (below_step (below_step hV hbc) (below_alloc hb7 (.cells #[.string ⟨#[]⟩, .int .i64 0] 36))) hb8) hb9) hb10
      refine (wpIn_wide (n := 4)).1 ?_
      refine range_none (F := Fence.wide) rfl (by omega) (gf := 61) (lb := #[.pointer (some ⟨Bx, 0, none⟩)]) rfl trivial (enters_of Try.func61 (by kernel_rfl) rfl)
        (all_stops 3 (by omega) Bx w9.heap.size (.slice none 0 0) [] w10 (fun k => w9.heap.size ≤ k ∧ k < w10.heap.size) (fun k hk => hk.2) ⟨hBx, blk_lt hbx⟩ hbx (Kd.R_nil _ _ _ _ _) (by simp))
        (fun p x W h => by have := h.2; simp at this) (fun h k => h.trans k) (fun W l o o' hl ho _ _ => ⟨by simp, fun k hk hlt => World.putObj_heap_other (by have := hk.2; omega)⟩) (fun _ => rfl) ?_
      intro D2 WE hD2 hWE hK2
      have hWC := below_step hWA2 hWE
      have sA2 := hWA2.size
      have sK1 := blk_lt hK1
      clear hWA2 hWE hb7 hb8 hb9 hb10 hbx CSc hUc c0 c1 c2 c3 c4 c5 c6 d0 d1 d2 d3 d4 d5 d6 f0 f1 f2 f3 f4 f5 f6 hU9
      have h1E := blk_below h1D hWC
      have h2E := blk_below h2D hWC
      have hBE := below_step hBD hWC
      have hD1E := blk_below hK1 hWC
      have sWE := hWC.size
      clear hrowD kr1D k12D k13D hU1D hbc hV h1V CS' hV0 hUV LV hU1 hrow hz h1D h2D hBD
      go_wp2
      have hal := below_alloc (below_alloc (Below.refl WE.heap.size WE) (.cells #[.slice none 0 0, .slice none 0 0, .int .i64 0] 96)) (.cells #[.pointer none, .pointer (some ⟨WE.heap.size, 0, none⟩)] 42)
      have h1Y := blk_below h1E hal
      have h2Y := blk_below h2E hal
      have hBY := below_step hBE hal
      have hD1Y := blk_below hD1E hal
      have hD2Y := blk_below hK2 hal
      have sY := hal.size
      have hzY := blk_alloc (blk_new WE (.cells #[.slice none 0 0, .slice none 0 0, .int .i64 0] 96)) (.cells #[.pointer none, .pointer (some ⟨WE.heap.size, 0, none⟩)] 42)
      have hrY : ((WE.alloc (.cells #[.slice none 0 0, .slice none 0 0, .int .i64 0] 96)).alloc (.cells #[.pointer none, .pointer (some ⟨WE.heap.size, 0, none⟩)] 42)).heap[WE.heap.size + 1]? = some (.cells #[.pointer none, .pointer (some ⟨WE.heap.size, 0, none⟩)] 42 (0, 0)) := by
        have := blk_new (WE.alloc (.cells #[.slice none 0 0, .slice none 0 0, .int .i64 0] 96)) (.cells #[.pointer none, .pointer (some ⟨WE.heap.size, 0, none⟩)] 42)
        rwa [World.size_alloc] at this
      generalize ((WE.alloc (.cells #[.slice none 0 0, .slice none 0 0, .int .i64 0] 96)).alloc (.cells #[.pointer none, .pointer (some ⟨WE.heap.size, 0, none⟩)] 42)) = Y at h1Y h2Y hBY hD1Y hD2Y hzY hrY sY ⊢
      clear hal h1E h2E hBE hD1E hK2 hK1
      have hx0 : Uw Y (.pointer none) := .inl rfl
      have hx1 : Uw Y (.pointer (some ⟨WE.heap.size, 0, none⟩)) := .inr ⟨_, rfl, hzY⟩
      have yr0 : Y.cell? ⟨WE.heap.size + 1, 0, none⟩ = some (.pointer none) := (blk_cell hrY 0).trans rfl
      have y12 : Y.cell? ⟨w.heap.size, 2, none⟩ = some (.int .i64 i) := (blk_cell h1Y 2).trans rfl
      have y14 : Y.cell? ⟨w.heap.size, 4, none⟩ = some (.string s) := (blk_cell h1Y 4).trans rfl
      refine wp_loop_rounds 3 ?_
      simp only [Code.rounds]
      go_wp2_with (first
        | (go_at_call 19; go_loud (refine (uw_to hx0 i s).mono ?_; rintro e y5 ⟨rfl, hy5⟩; have y52 : y5.cell? ⟨w.heap.size, 2, none⟩ = some (.int .i64 i) := (blk_cell (blk_below h1Y hy5) 2).trans rfl))
        | (go_at_call 25; go_loud (refine (uw_here (hx0.below hy5) i).mono ?_; rintro e y6 ⟨rfl, hy6⟩; have hx6 := hx0.below (below_step hy5 hy6)))
        | (go_at_call 18; go_loud (refine (uw_place hx6).mono ?_; rintro e w' ⟨rfl, rfl⟩))
        | (go_at_call 20; go_loud (refine (uw_changed hx6).mono ?_; rintro e y7 ⟨C1, C2, rfl, hC1, hC2, hc1, hc2, hy7⟩)))
      have hYA := below_step (below_step hy5 hy6) hy7
      refine (wpIn_wide (n := 4)).1 ?_
      refine range_none (F := Fence.wide) rfl (by omega) (gf := 49) (lb := #[.pointer (some ⟨C1, 0, none⟩), .pointer (some ⟨C2, 0, none⟩)]) rfl trivial (enters_of Try.func49 (by kernel_rfl) rfl)
        (changed_stops 3 (by omega) C1 C2 y6.heap.size (.slice none 0 0) (.slice none 0 0) [] y7 (fun k => y6.heap.size ≤ k ∧ k < y7.heap.size) (fun k hk => hk.2) ⟨hC1, blk_lt hc1⟩ ⟨hC2, blk_lt hc2⟩ hc1 hc2 (Kd.R_nil _ _ _ _ _) (Kd.R_nil _ _ _ _ _) (by simp))
        (fun p x W h => by have h' : ([] : List (Nat × ByteArray))[p.length]? = some x := h; simp at h') (fun h k => h.trans k) (fun W l o o' hl ho _ _ => ⟨by simp, fun k hk hlt => World.putObj_heap_other (by have := hk.2; omega)⟩) (fun _ => rfl) ?_
      intro D3 WF hD3 hWF hK3
      have hYB := below_step hYA hWF
      have h1F := blk_below h1Y hYB
      have h2F := blk_below h2Y hYB
      have hBF := below_step hBY hYB
      have hx1F := hx1.below hYB
      have hD1F := blk_below hD1Y hYB
      have hD2F := blk_below hD2Y hYB
      have sYF := hYB.size
      have yr1F : WF.cell? ⟨WE.heap.size + 1, 1, none⟩ = some (.pointer (some ⟨WE.heap.size, 0, none⟩)) := (blk_cell (blk_below hrY hYB) 1).trans rfl
      have y12F : WF.cell? ⟨w.heap.size, 2, none⟩ = some (.int .i64 i) := (blk_cell h1F 2).trans rfl
      have y14F : WF.cell? ⟨w.heap.size, 4, none⟩ = some (.string s) := (blk_cell h1F 4).trans rfl
      have sD1 := blk_lt hD1Y
      have sD2 := blk_lt hD2Y
      have s34 := hYA.size
      clear yr0 y12 y14 y52 hx6 hx0 hx1 h1Y hBY hD1Y hD2Y hrY hzY hy5 hy6 hy7 hWF hYA hYB hc1 hc2
      go_wp2_with (first
        | (go_at_call 19; go_loud (refine (uw_to hx1F i s).mono ?_; rintro e q5 ⟨rfl, hq5⟩; have q52 : q5.cell? ⟨w.heap.size, 2, none⟩ = some (.int .i64 i) := (blk_cell (blk_below h1F hq5) 2).trans rfl))
        | (go_at_call 25; go_loud (refine (uw_here (hx1F.below hq5) i).mono ?_; rintro e q6 ⟨rfl, hq6⟩; have hx6F := hx1F.below (below_step hq5 hq6)))
        | (go_at_call 18; go_loud (refine (uw_place hx6F).mono ?_; rintro e w' ⟨rfl, rfl⟩))
        | (go_at_call 20; go_loud (refine (uw_changed hx6F).mono ?_; rintro e q7 ⟨E1, E2, rfl, hE1, hE2, he1, he2, hq7⟩)))
      have hYC := below_step (below_step hq5 hq6) hq7
      refine (wpIn_wide (n := 4)).1 ?_
      refine range_none (F := Fence.wide) rfl (by omega) (gf := 49) (lb := #[.pointer (some ⟨E1, 0, none⟩), .pointer (some ⟨E2, 0, none⟩)]) rfl trivial (enters_of Try.func49 (by kernel_rfl) rfl)
        (changed_stops 3 (by omega) E1 E2 q6.heap.size (.slice none 0 0) (.slice none 0 0) [] q7 (fun k => q6.heap.size ≤ k ∧ k < q7.heap.size) (fun k hk => hk.2) ⟨hE1, blk_lt he1⟩ ⟨hE2, blk_lt he2⟩ he1 he2 (Kd.R_nil _ _ _ _ _) (Kd.R_nil _ _ _ _ _) (by simp))
        (fun p x W h => by have h' : ([] : List (Nat × ByteArray))[p.length]? = some x := h; simp at h') (fun h k => h.trans k) (fun W l o o' hl ho _ _ => ⟨by simp, fun k hk hlt => World.putObj_heap_other (by have := hk.2; omega)⟩) (fun _ => rfl) ?_
      intro D4 WG hD4 hWG hK4
      have hYD := below_step hYC hWG
      have h2G := blk_below h2F hYD
      have hBG := below_step hBF hYD
      have hD1G := blk_below hD1F hYD
      have hD2G := blk_below hD2F hYD
      have hD3G := blk_below hK3 hYD
      have k2G : WG.cell? ⟨g2, 0, none⟩ = some (.bool false) := (blk_cell h2G 0).trans rfl
      have f2G := blk_frozen h2G 0
      have s45 := hYC.size
      have lD3 := blk_lt hK3
      clear y12F y14F yr1F q52 hx6F hx1F
      go_wp2
      have l2 := blk_lt h2W
      have K4 := (KeepsOthers.setCell WG ⟨g2, 0, none⟩ (.bool true)).same D4 _ hK4 rfl
      have K3 := (KeepsOthers.setCell WG ⟨g2, 0, none⟩ (.bool true)).same D3 _ hD3G rfl
      have K2 := (KeepsOthers.setCell WG ⟨g2, 0, none⟩ (.bool true)).same D2 _ hD2G rfl
      have K1 := (KeepsOthers.setCell WG ⟨g2, 0, none⟩ (.bool true)).same D1 _ hD1G rfl
      have h2s := blk_put h2G 0 (.bool true) rfl
      have BS := hBG.setCell (p := ⟨g2, 0, none⟩) hg2 (.bool true)
      generalize WG.setCell ⟨g2, 0, none⟩ (.bool true) = Z at K4 K3 K2 K1 h2s BS ⊢
      have K3' : (Z.putObj D4 (.deferred none)).heap[D3]? = some (.deferred (some [])) := (World.putObj_heap_other (by omega)).trans K3
      have K2' : ((Z.putObj D4 (.deferred none)).putObj D3 (.deferred none)).heap[D2]? = some (.deferred (some [])) := (World.putObj_heap_other (by omega)).trans ((World.putObj_heap_other (by omega)).trans K2)
      have K1' : (((Z.putObj D4 (.deferred none)).putObj D3 (.deferred none)).putObj D2 (.deferred none)).heap[D1]? = some (.deferred (some [])) := (World.putObj_heap_other (by omega)).trans ((World.putObj_heap_other (by omega)).trans ((World.putObj_heap_other (by omega)).trans K1))
      have h2f : ((((Z.putObj D4 (.deferred none)).putObj D3 (.deferred none)).putObj D2 (.deferred none)).putObj D1 (.deferred none)).heap[g2]? = some (.cells #[.bool true] 4 (0, 0)) := (World.putObj_heap_other (by omega)).trans ((World.putObj_heap_other (by omega)).trans ((World.putObj_heap_other (by omega)).trans ((World.putObj_heap_other (by omega)).trans h2s)))
      have B4 := BS.trans (belowK_b (w := w) (Nat.le_refl _) _ D4 _ (.deferred none) (by omega) K4 rfl rfl)
      have B3 := B4.trans (belowK_b (w := w) (Nat.le_refl _) _ D3 _ (.deferred none) (by omega) K3' rfl rfl)
      have B2 := B3.trans (belowK_b (w := w) (Nat.le_refl _) _ D2 _ (.deferred none) (by omega) K2' rfl rfl)
      have B1 := B2.trans (belowK_b (w := w) (Nat.le_refl _) _ D1 _ (.deferred none) (by omega) K1' rfl rfl)
      refine ⟨by simp, .inl ⟨_, _, rfl, run_takeDeferred K4, ⟨by simp, .inl ⟨_, _, rfl, run_takeDeferred K3', ⟨by simp, .inl ⟨_, _, rfl, run_takeDeferred K2', ⟨by simp, .inl ⟨_, _, rfl, run_takeDeferred K1', ?_⟩⟩⟩⟩⟩⟩⟩⟩
      have hc5 := (blk_cell h2f 0).trans (rfl : _ = some (Value.bool true))
      refine ⟨.bool true, ?_, rfl, B1⟩
      simp [results, Try.f8, go_sem, hc5]
end Go.Proofs.Ytbjdjbhmafmnbaa
