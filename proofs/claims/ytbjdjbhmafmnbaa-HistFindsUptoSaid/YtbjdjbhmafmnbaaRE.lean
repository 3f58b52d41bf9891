/-
  changed: a walk's changes are the document's, twice.
-/
import Derived.Test.YtbjdjbhmafmnbaaRD
import Derived.LoopN
namespace Go.Proofs.Ytbjdjbhmafmnbaa
open Go.RowKit Go.Proofs.YtbjdjbhmafmnbaaW.PrintWords Go.Proofs.YtbjdjbhmafmnbaaW.PrintLast Go.Proofs.YtbjdjbhmafmnbaaW.PrintMore Go.Proofs.Ytbjdjbhmafmnbaa.PAll
set_option linter.unusedVariables false
set_option linter.unusedSimpArgs false
attribute [local go_sem] Oper.semAt_some
set_option maxRecDepth 100000 in
set_option maxHeartbeats 4000000 in
theorem same_changed {w : World} {B g : Nat} {u v : Value} {q : Wk} (h : WL w B g u v q) (hn : q.now.length = q.was.length + 1) (hl : q.was.length ≤ 1000000) (A0 : Option Addr) (n0 c0 : Nat) (hr0 : Kd.C k106 w A0 n0 (recsOf (chgs q.was q.now q.was.length))) (hc0 : n0 ≤ c0) :
    Calls Try.prog 27 #[.pointer (some ⟨g, 0, none⟩), .slice A0 n0 c0] w fun e w' => e = .returned (.bool true) ∧ Below w.heap.size w w' := by
  have hcl := chgs_len q.was q.now q.was.length
  have CC := Aside0.mk (fun (w' : World) (hb : Below w.heap.size w w') => changed_calls (h.below hb) hn hl)
  generalize chgs q.was q.now q.was.length = cs at hr0 CC hcl
  have hrl : (recsOf cs).length = cs.length := by simp [recsOf]
  obtain rfl : n0 = cs.length := by have := hr0.1; omega
  clear hrl
  refine (callsIn_wide (n := 4)).1 (callsIn_of_wp_marks Try.func27 rfl trivial ?_ rfl)
  refine wpIn_wide.2 ?_
  simp only [Try.ntmps27, List.size_toArray, List.length_cons, List.length_nil, Nat.reduceAdd, Nat.reduceSub, Array.replicate_succ, Array.replicate_zero, List.push_toArray, List.append_toArray, List.nil_append, List.cons_append]
  have HB0 := Aside0.mk (Below.refl w.heap.size w)
  go_wp2_with (first
    | ((with_reducible refine gate_dst (N := 3) rfl ?_); refine box_event ?hg (N := 3) ?hd (cs := #[.slice A0 cs.length c0]) (t := 66) ?hr ?_; (case hd => rfl); (case hg => rfl); (case hr => first | (go_simp; done) | (go_simp; rfl)); intro g3 hg w1 hb3 hb1; have hl3 := Aside0.mk (Nat.le_of_eq hg.symm); clear hg; have HB1 := Aside0.mk (below_step HB0.out hb1))
    | ((with_reducible refine gate_dst (N := 4) rfl ?_); refine box_event ?hg (N := 4) ?hd (cs := #[.bool false]) (t := 4) ?hr ?_; (case hd => rfl); (case hg => rfl); (case hr => first | (go_simp; done) | (go_simp; rfl)); intro g4 hg w2 hb4 hb2; have hl4 := Aside0.mk (Nat.le_of_eq hg.symm); clear hg; have HB2 := Aside0.mk (below_step HB1.out hb2))
    | (go_at_call 20; refine (CC.out _ HB2.out).mono ?_; rintro e w3 ⟨B1, B2, vp, vt, rfl, hB1, hB2, hp1, hp2, hRp, hRt, hb3'⟩))
  refine wp_loop_rounds 3 ?_
  simp only [Code.rounds]
  go_wp2_with ((with_reducible refine gate_dst (N := 6) rfl ?_); refine box_event ?hg (N := 6) ?hd (cs := #[.int .i64 0]) (t := 3) ?hr ?_; (case hd => rfl); (case hg => rfl); (case hr => first | (go_simp; done) | (go_simp; rfl)); intro g6 hg w4 hb6 hb4'; have hl6 := Aside0.mk (Nat.le_of_eq hg.symm); clear hg; have hk6 : w4.cell? ⟨g6, 0, none⟩ = some (.int .i64 0) := (blk_cell hb6 0).trans rfl; have hf6 := blk_frozen hb6 0)
  have hs34 : w3.heap.size ≤ w4.heap.size := hb4'.size
  have hg6l := blk_lt hb6
  have hg6w3 := hl6.out
  have hg3l := blk_lt hb3
  have hg4l := blk_lt hb4
  have hg4w2 := hl4.out
  have hs12 := hb2.size
  have hs23 := hb3'.size
  have hg3w := hl3.out
  have hg4w : w.heap.size ≤ g4 := by have := hb1.size; omega
  have hg6w : w.heap.size ≤ g6 := by have := HB2.out.size; omega
  have RPK := Kd.R_mono (Kd.R_bound hRp) (ok' := fun k => w2.heap.size ≤ k ∧ k < w3.heap.size) (fun k hk => ⟨hk.2.1, hk.2.2.1⟩)
  have RTK := Kd.R_mono (Kd.R_bound hRt) (ok' := fun k => w2.heap.size ≤ k ∧ k < w3.heap.size) (fun k hk => ⟨hk.2.1, hk.2.2.1⟩)
  have HB3 := below_step HB2.out hb3'
  have HB4 := below_step HB3 hb4'
  have hkeep : ∀ k, k < w3.heap.size → (w4.setCell ⟨g6, 0, none⟩ (.int .i64 0)).heap[k]? = w3.heap[k]? := fun k hk => (Below.heap_setCell w4 ⟨g6, 0, none⟩ _ k (by show k ≠ g6; omega)).trans (hb4'.block k hk)
  have hb6s := blk_put hb6 0 (.int .i64 0) rfl
  have HB5 := HB4.setCell (p := ⟨g6, 0, none⟩) hg6w (.int .i64 0)
  have hs5 : (w4.setCell ⟨g6, 0, none⟩ (.int .i64 0)).heap.size = w4.heap.size := by rw [World.size_setCell]
  generalize w4.setCell ⟨g6, 0, none⟩ (.int .i64 0) = w5 at hkeep hb6s HB5 hs5 ⊢
  have hr3 := (blk_below (blk_below hb3 hb2) hb3')
  have hr4 := (blk_below hb4 hb3')
  refine (wpIn_wide (n := 4)).1 ?_
  refine range_law (F := Fence.wide) rfl (by omega) (gf := 49) (lb := #[.pointer (some ⟨B1, 0, none⟩), .pointer (some ⟨B2, 0, none⟩)]) rfl trivial (enters_of Try.func49 (by kernel_rfl) rfl)
    (changed_stops 3 (by omega) B1 B2 w2.heap.size vp vt cs w5 (fun k => w2.heap.size ≤ k ∧ k < w3.heap.size) (fun k hk => by have := hk.2; omega) ⟨hB1, blk_lt hp1⟩ ⟨hB2, blk_lt hp2⟩ ((hkeep _ (blk_lt hp1)).trans hp1) ((hkeep _ (blk_lt hp2)).trans hp2)
      (Kd.R_step RPK (fun k hk _ => hkeep k hk.2)) (Kd.R_step RTK (fun k hk _ => hkeep k hk.2)) (by omega))
    (fun p x s W W' row hs _ _ => hs) (fun h k => h.trans k) (fun W l o o' hl ho _ _ => ⟨by simp, fun k hk hlt => World.putObj_heap_other (by have := hk.2; omega)⟩) (fun _ => rfl)
    (fun pre W => W.heap[g6]? = some (.cells #[.int .i64 (pre.length : Int)] 3 (0, 0)) ∧ (∀ k, k < w3.heap.size → W.heap[k]? = w3.heap[k]?) ∧ Below w.heap.size w W)
    (fun _ _ _ => False) ?hI (fun _ _ _ _ _ hs _ _ => hs) ⟨hb6s, hkeep, HB5⟩ (fun x => { tmps := #[Value.pointer (some { block := g, off := 0 }), Value.slice A0 cs.length c0, undef, Value.pointer (some { block := g3, off := 0 }), Value.pointer (some { block := g4, off := 0 }), Value.func (Fn.func 49) #[] #[Value.pointer (some { block := B1, off := 0 }), Value.pointer (some { block := B2, off := 0 })], Value.pointer (some { block := g6, off := 0 }), .int .i64 (x.1 : Int), .string x.2, Value.pointer (some { block := g, off := 0 }), Value.func (Fn.func 49) #[] #[Value.pointer (some { block := B1, off := 0 }), Value.pointer (some { block := B2, off := 0 })], Value.int IntKind.i64 0, Value.bool true, Value.func (Fn.func 49) #[] #[Value.pointer (some { block := B1, off := 0 }), Value.pointer (some { block := B2, off := 0 })], .int .i64 (x.1 : Int), .string x.2, undef, undef, undef, undef, undef, undef, undef, undef, undef, undef, undef, undef, undef, undef, undef, undef, undef, undef, undef, undef, undef, undef, undef, undef, undef, undef, undef, undef, undef], defers := [] }) ?assign ?body ?done ?stop
  case assign =>
    intro l' x W K hK
    simp only [encC]
    gi_wp2
    exact hK
  case hI =>
    rintro pre X Y row ⟨h1, h2, h3⟩ hg hr
    refine ⟨(hg.block _ (blk_lt h1) (fun e => ?_)).trans h1, fun k hk => (hg.block k (by have := h2 k hk; have hw : w3.heap[k]? = some w3.heap[k] := Array.getElem?_eq_getElem hk; rw [hw] at this; exact blk_lt this) (fun e => ?_)).trans (h2 k hk), h3.grown hg h3.size (fun k e => by have := (hr k e).1; have := HB5.size; omega)⟩
    · have := (hr _ e.symm).1; omega
    · have := (hr _ e.symm).1; omega
  case body =>
    rintro l' pre x W ⟨h1, h2, h3⟩ hget
    have hget' : cs[pre.length]? = some x := hget
    obtain ⟨hpl, hpx⟩ := List.getElem?_eq_some_iff.1 hget'
    have hk6' : W.cell? ⟨g6, 0, none⟩ = some (.int .i64 (pre.length : Int)) := (blk_cell h1 0).trans rfl
    have hf6' := blk_frozen h1 0
    have hk3 : W.cell? ⟨g3, 0, none⟩ = some (.slice A0 cs.length c0) := (blk_cell ((h2 _ (blk_lt hr3)).trans hr3) 0).trans rfl
    obtain ⟨ad, e8, hz0, hz1⟩ := at_T106 (Kd.C_below hr0 h3) (pre.length : Int) (by omega) (by omega)
    have hrd : rd_T106 (recsOf cs) (pre.length : Int) = ⟨(x.1 : Int), x.2⟩ := by simp [rd_T106, recsOf, List.getD, List.getElem?_map, hget']
    rw [hrd, Int.toNat_natCast] at hz0 hz1
    subst e8
    have hpi : (pre.length : Int) < (cs.length : Int) := by omega
    gi_wp2
    have hb6n := blk_put h1 0 (.int .i64 ((pre.length : Int) + 1)) rfl
    refine ⟨⟨by rw [World.size_setCell]; exact Nat.le_refl _, fun k o hk ho _ => (Below.heap_setCell W ⟨g6, 0, none⟩ _ k (by show k ≠ g6; omega)).trans ho⟩, ⟨by rw [World.size_setCell]; exact Nat.le_refl _, fun k hk _ => Below.heap_setCell W ⟨g6, 0, none⟩ _ k (by show k ≠ g6; omega)⟩, ?_⟩
    refine ⟨?_, fun k hk => (Below.heap_setCell W ⟨g6, 0, none⟩ _ k (by show k ≠ g6; omega)).trans (h2 k hk), h3.setCell (p := ⟨g6, 0, none⟩) hg6w _⟩
    simpa using hb6n
  case done =>
    rintro D xs W hD hxs ⟨h1, h2, h3⟩ hK
    have hxs' : xs.length = cs.length := hxs
    rw [hxs'] at h1
    have hk6' : W.cell? ⟨g6, 0, none⟩ = some (.int .i64 (cs.length : Int)) := (blk_cell h1 0).trans rfl
    have hk3 : W.cell? ⟨g3, 0, none⟩ = some (.slice A0 cs.length c0) := (blk_cell ((h2 _ (blk_lt hr3)).trans hr3) 0).trans rfl
    go_wp2_with ((with_reducible refine gate_dst (N := 6) rfl ?_); refine box_event ?hg (N := 6) ?hd (cs := #[.int .i64 0]) (t := 3) ?hr ?_; (case hd => rfl); (case hg => rfl); (case hr => first | (go_simp; done) | (go_simp; rfl)); intro y6 hyg W4 hyb6 hyb4; have hyl6 := Aside0.mk (Nat.le_of_eq hyg.symm); clear hyg; have hyk6 : W4.cell? ⟨y6, 0, none⟩ = some (.int .i64 0) := (blk_cell hyb6 0).trans rfl; have hyf6 := blk_frozen hyb6 0)
    have ht34 : W.heap.size ≤ W4.heap.size := hyb4.size
    have hs3W : w3.heap.size ≤ W.heap.size := Nat.le_trans hs34 (Nat.le_trans (by omega) (Nat.le_of_lt (Nat.lt_of_le_of_lt hD (blk_lt hK))))
    have hDl := blk_lt hK
    have hy6l := blk_lt hyb6
    have hyl := hyl6.out
    have hk2 : ∀ k, k < W.heap.size → (W4.setCell ⟨y6, 0, none⟩ (.int .i64 0)).heap[k]? = W.heap[k]? := fun k hk => (Below.heap_setCell W4 ⟨y6, 0, none⟩ _ k (by show k ≠ y6; omega)).trans (hyb4.block k hk)
    have hy6s := blk_put hyb6 0 (.int .i64 0) rfl
    have hY5 := (below_step h3 hyb4).setCell (p := ⟨y6, 0, none⟩) (by have := h3.size; show _ ≤ y6; omega) (.int .i64 0)
    have ht5 : (W4.setCell ⟨y6, 0, none⟩ (.int .i64 0)).heap.size = W4.heap.size := by rw [World.size_setCell]
    generalize W4.setCell ⟨y6, 0, none⟩ (.int .i64 0) = W5 at hk2 hy6s hY5 ht5 ⊢
    have hkk : ∀ k, w2.heap.size ≤ k ∧ k < w3.heap.size → W5.heap[k]? = w3.heap[k]? := fun k hk => (hk2 k (by omega)).trans (h2 k hk.2)
    refine (wpIn_wide (n := 4)).1 ?_
    refine range_law (F := Fence.wide) rfl (by omega) (gf := 49) (lb := #[.pointer (some ⟨B1, 0, none⟩), .pointer (some ⟨B2, 0, none⟩)]) rfl trivial (enters_of Try.func49 (by kernel_rfl) rfl)
      (changed_stops 3 (by omega) B1 B2 w2.heap.size vp vt cs W5 (fun k => w2.heap.size ≤ k ∧ k < w3.heap.size) (fun k hk => by have := hk.2; omega) ⟨hB1, blk_lt hp1⟩ ⟨hB2, blk_lt hp2⟩ ((hkk _ ⟨hB1, blk_lt hp1⟩).trans hp1) ((hkk _ ⟨hB2, blk_lt hp2⟩).trans hp2)
        (Kd.R_step RPK (fun k hk _ => hkk k hk)) (Kd.R_step RTK (fun k hk _ => hkk k hk)) (by omega))
      (fun p x s W W' row hs _ _ => hs) (fun h k => h.trans k) (fun W l o o' hl ho _ _ => ⟨by simp, fun k hk hlt => World.putObj_heap_other (by have := hk.2; omega)⟩) (fun _ => rfl)
      (fun pre X => X.heap[y6]? = some (.cells #[.int .i64 (pre.length : Int)] 3 (0, 0)) ∧ (∀ k, k < W.heap.size → X.heap[k]? = W.heap[k]?) ∧ Below w.heap.size w X)
      (fun _ _ _ => False) ?hI2 (fun _ _ _ _ _ hs _ _ => hs) ⟨hy6s, hk2, hY5⟩ (fun x => { tmps := #[Value.pointer (some { block := g, off := 0 }), Value.slice A0 cs.length c0, undef, Value.pointer (some { block := g3, off := 0 }), Value.pointer (some { block := g4, off := 0 }), Value.func (Fn.func 49) #[] #[Value.pointer (some { block := B1, off := 0 }), Value.pointer (some { block := B2, off := 0 })], Value.pointer (some { block := y6, off := 0 }), .int .i64 (x.1 : Int), .string x.2, Value.pointer (some { block := g, off := 0 }), Value.func (Fn.func 49) #[] #[Value.pointer (some { block := B1, off := 0 }), Value.pointer (some { block := B2, off := 0 })], Value.int IntKind.i64 1, Value.bool true, Value.func (Fn.func 49) #[] #[Value.pointer (some { block := B1, off := 0 }), Value.pointer (some { block := B2, off := 0 })], .int .i64 (x.1 : Int), .string x.2, undef, undef, undef, undef, undef, undef, undef, undef, undef, undef, undef, undef, undef, undef, undef, undef, undef, undef, undef, undef, undef, undef, undef, undef, Value.int IntKind.i64 (cs.length : Int), Value.slice A0 cs.length c0, Value.int IntKind.i64 (cs.length : Int), Value.bool false, Value.int IntKind.i64 1], defers := [] }) ?assign2 ?body2 ?done2 ?stop2
    case assign2 =>
      intro l' x X K hK
      simp only [encC]
      gi_wp2
      exact hK
    case hI2 =>
      rintro pre X Y row ⟨j1, j2, j3⟩ hg hr
      refine ⟨(hg.block _ (blk_lt j1) (fun e => ?_)).trans j1, fun k hk => (hg.block k (by have := j2 k hk; have hw : W.heap[k]? = some W.heap[k] := Array.getElem?_eq_getElem hk; rw [hw] at this; exact blk_lt this) (fun e => ?_)).trans (j2 k hk), j3.grown hg j3.size (fun k e => by have := (hr k e).1; have := hY5.size; omega)⟩
      · have := (hr _ e.symm).1; omega
      · have := (hr _ e.symm).1; omega
    case body2 =>
      rintro l' pre x X ⟨j1, j2, j3⟩ hget
      have hget' : cs[pre.length]? = some x := hget
      obtain ⟨hpl, hpx⟩ := List.getElem?_eq_some_iff.1 hget'
      have hyk6' : X.cell? ⟨y6, 0, none⟩ = some (.int .i64 (pre.length : Int)) := (blk_cell j1 0).trans rfl
      have hyf6' := blk_frozen j1 0
      have hyk3 : X.cell? ⟨g3, 0, none⟩ = some (.slice A0 cs.length c0) := (blk_cell ((j2 _ (by have := blk_lt hr3; omega)).trans ((h2 _ (blk_lt hr3)).trans hr3)) 0).trans rfl
      obtain ⟨ad, e8, hz0, hz1⟩ := at_T106 (Kd.C_below hr0 j3) (pre.length : Int) (by omega) (by omega)
      have hrd : rd_T106 (recsOf cs) (pre.length : Int) = ⟨(x.1 : Int), x.2⟩ := by simp [rd_T106, recsOf, List.getD, List.getElem?_map, hget']
      rw [hrd, Int.toNat_natCast] at hz0 hz1
      subst e8
      have hpi : (pre.length : Int) < (cs.length : Int) := by omega
      gi_wp2
      have hy6n := blk_put j1 0 (.int .i64 ((pre.length : Int) + 1)) rfl
      refine ⟨⟨by rw [World.size_setCell]; exact Nat.le_refl _, fun k o hk ho _ => (Below.heap_setCell X ⟨y6, 0, none⟩ _ k (by show k ≠ y6; omega)).trans ho⟩, ⟨by rw [World.size_setCell]; exact Nat.le_refl _, fun k hk _ => Below.heap_setCell X ⟨y6, 0, none⟩ _ k (by have := hk.2; show k ≠ y6; omega)⟩, ?_⟩
      refine ⟨?_, fun k hk => (Below.heap_setCell X ⟨y6, 0, none⟩ _ k (by show k ≠ y6; omega)).trans (j2 k hk), j3.setCell (p := ⟨y6, 0, none⟩) (by have := h3.size; show _ ≤ y6; omega) _⟩
      simpa using hy6n
    case done2 =>
      rintro D2 ys X hD2 hys ⟨j1, j2, j3⟩ hK2
      have hys' : ys.length = cs.length := hys
      rw [hys'] at j1
      have hyk6' : X.cell? ⟨y6, 0, none⟩ = some (.int .i64 (cs.length : Int)) := (blk_cell j1 0).trans rfl
      have h3X := (j2 _ (by have := blk_lt hr3; omega)).trans ((h2 _ (blk_lt hr3)).trans hr3)
      have h4X := (j2 _ (by have := blk_lt hr4; omega)).trans ((h2 _ (blk_lt hr4)).trans hr4)
      have hyk3 : X.cell? ⟨g3, 0, none⟩ = some (.slice A0 cs.length c0) := (blk_cell h3X 0).trans rfl
      have hyk4 : X.cell? ⟨g4, 0, none⟩ = some (.bool false) := (blk_cell h4X 0).trans rfl
      have hyf4 := blk_frozen h4X 0
      have hKX := (j2 _ hDl).trans hK
      go_wp2
      have K1 := (KeepsOthers.setCell X ⟨g4, 0, none⟩ (.bool true)).same D2 _ hK2 rfl
      have K0 := (KeepsOthers.setCell X ⟨g4, 0, none⟩ (.bool true)).same D _ hKX rfl
      have hy4s := blk_put h4X 0 (.bool true) rfl
      have hg4w' : w.heap.size ≤ g4 := hg4w
      have K0' : ((X.setCell ⟨g4, 0, none⟩ (.bool true)).putObj D2 (.deferred none)).heap[D]? = some (.deferred (some [])) := (World.putObj_heap_other (by omega)).trans K0
      have h4f : (((X.setCell ⟨g4, 0, none⟩ (.bool true)).putObj D2 (.deferred none)).putObj D (.deferred none)).heap[g4]? = some (.cells #[.bool true] 4 (0, 0)) := (World.putObj_heap_other (by omega)).trans ((World.putObj_heap_other (by omega)).trans hy4s)
      have B1' := (j3.setCell (p := ⟨g4, 0, none⟩) hg4w (.bool true)).trans (belowK_b (w := w) (Nat.le_refl _) _ D2 _ (.deferred none) (by have := hY5.size; omega) K1 rfl rfl)
      have B2' := B1'.trans (belowK_b (w := w) (Nat.le_refl _) _ D _ (.deferred none) (by have := HB5.size; omega) K0' rfl rfl)
      refine ⟨by simp, .inl ⟨_, _, rfl, run_takeDeferred K1, ⟨by simp, .inl ⟨_, _, rfl, run_takeDeferred K0', ?_⟩⟩⟩⟩
      have hc5 := (blk_cell h4f 0).trans (rfl : _ = some (Value.bool true))
      refine ⟨.bool true, ?_, rfl, B2'⟩
      simp [results, Try.f27, go_sem, hc5]
    case stop2 =>
      rintro D c pre W _ _ h _
      exact h.elim
  case stop =>
    rintro D c pre W _ _ h _
    exact h.elim
end Go.Proofs.Ytbjdjbhmafmnbaa
