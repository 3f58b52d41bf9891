/-
  NewWalk.
-/
import Derived.Test.YtbjdjbhmafmnbaaWA
import Derived.Deep.RegionHeld3
namespace Go.Proofs.Ytbjdjbhmafmnbaa
open Go.RowKit Go.Proofs.YtbjdjbhmafmnbaaW.PrintWords Go.Proofs.YtbjdjbhmafmnbaaW.PrintLast Go.Proofs.YtbjdjbhmafmnbaaW.PrintMore Go.Proofs.Ytbjdjbhmafmnbaa.PAll
set_option linter.unusedVariables false
set_option linter.unusedSimpArgs false
theorem info9 : (Try.prog.info? 9).map (fun i => (i.zero, i.size, i.bytes)) = some (some (.string ⟨#[]⟩), 1, 16) := by kernel_rfl
theorem cloneS_calls (A0 : Option Addr) (c0 : Nat) (l0 : List ByteArray) (w : World) (hr0 : Kd.C Kd.string w A0 l0.length l0) (hc0 : l0.length ≤ c0) (hl : l0.length ≤ 1000000000000) :
    Calls Try.prog 47 #[.slice A0 l0.length c0] w fun e w' => ∃ v0_ : Value, e = .returned (v0_) ∧ Kd.R Kd.string 9 w' w.heap.size (fun _ => True) v0_ l0 ∧ Below w.heap.size w w' := by
  have HB0 := Below.refl w.heap.size w
  have hq := run_eql_slice_nil (P := Try.prog) w 62 9 A0 l0.length c0 Try.underlying62
  cases A0 with
  | none =>
    simp only [Option.isNone] at hq
    have hz : l0 = [] := by
      cases l0 with
      | nil => rfl
      | cons a t => obtain ⟨ad, h, _⟩ := hr0.2.2 (by simp); cases h
    subst hz
    simp only [List.length_nil] at hq ⊢
    go_enter Try.func47, Try.ntmps47
    go_wp2
    go_ret
    exact ⟨_, rfl, Kd.R_nil _ _ _ _ _, Below.refl _ _⟩
  | some ad =>
    go_enter Try.func47, Try.ntmps47
    have HO : Kd.R Kd.string 9 (w.alloc (.cells #[] 9)) w.heap.size (fun _ => True) (.slice (some ⟨w.heap.size, 0, none⟩) 0 0) [] :=
      ⟨fun _ _ => trivial, OwnRow.lit w w.heap.size (R := Kd.M Kd.string _ _ _) (ps := []) (inner := []) ⟨rfl, fun i p h => by simp at h⟩ (Nat.le_refl _) (by simp)⟩
    have HC := Kd.C_alloc hr0 (.cells #[] 9)
    simp only [Option.isNone] at hq
    go_wp2_with ((with_reducible refine gate_builtin (b := .append) (xs := #[.tmp 5, .tmp 6]) rfl ?_); at_builtin; refine Kd.R_append_rows Kd.string (w0 := w) w.heap.size rfl (.tmp 5) (.tmp 6) 62 9 (.string ⟨#[]⟩) 16 rfl Try.underlying62 info9 rfl (by decide) (by omega) _ [] l0 _ _ _ (fun _ => True) (fun _ => False) rfl rfl HO HC (fun x cs h => h) (fun _ h => h.elim) (fun _ _ => trivial) (by exact HB0.alloc (Nat.le_refl _) _) (by simp) (by simp; omega) ?_; intro v1 w1 ho hb hg hat)
    go_ret
    exact ⟨_, rfl, ho, hb⟩

theorem cloneS_at (A0 : Option Addr) (n c0 : Nat) (l0 : List ByteArray) (w : World) (hn : l0.length = n) (hr0 : Kd.C Kd.string w A0 n l0) (hc0 : n ≤ c0) (hl : n ≤ 1000000000000) :
    Calls Try.prog 47 #[.slice A0 n c0] w fun e w' => ∃ v0_ : Value, e = .returned (v0_) ∧ Kd.R Kd.string 9 w' w.heap.size (fun _ => True) v0_ l0 ∧ Below w.heap.size w w' := by
  subst hn
  exact cloneS_calls A0 c0 l0 w hr0 hc0 hl
theorem litE (w : World) : Kd.C Kd.string (w.alloc (.cells #[.string ⟨#[]⟩] 9)) (some ⟨w.heap.size, 0, none⟩) 1 [⟨#[]⟩] := by
  have h := OwnRow.lit (R := Kd.string.K w) (size := 1) (e := 9) w w.heap.size (ps := [⟨#[]⟩]) (inner := [.string ⟨#[]⟩]) (Reps.snoc (Reps.none (Kd.string.K w) 1) rfl rfl) (Nat.le_refl _) (by decide)
  obtain ⟨A, c, e, _, hr⟩ := h.reads
  injection e with e1 e2 e3
  subst e1
  exact hr.imp_ (Below.refl _ _) (fun p cs hp => hp)
theorem WL.putD {W : World} {B g D : Nat} {u v : Value} {q : Wk} {x : Option (List Deferred)} (h : WL W B g u v q) (hD : W.heap[D]? = some (.deferred x)) : WL (W.putObj D (.deferred none)) B g u v q := by
  have hf : Fr (fun k => k = D) W (W.putObj D (.deferred none)) := Fr.of_grown (grownBy_putObj' _ D (.deferred none)) (fun k e => by cases e; rfl)
  refine h.fr hf (fun e => ?_) (fun k e1 e2 => ?_) (fun k e1 e2 => ?_)
  · have := h.box
    rw [e, hD] at this
    cases this
  · subst e2
    obtain ⟨cells, hcl⟩ := (Kd.R_own h.was).elim fun inner hi => own_typed hi k e1.symm
    rw [hD] at hcl
    cases hcl
  · subst e2
    obtain ⟨cells, hcl⟩ := (Kd.R_own h.now).elim fun inner hi => own_typed hi k e1.symm
    rw [hD] at hcl
    cases hcl
/-- The texts of lines. -/
def textsOf (l : List S36) : List ByteArray := l.map (·.f0)
attribute [local go_sem] Oper.semAt_some
set_option maxRecDepth 100000 in
set_option maxHeartbeats 4000000 in
theorem newWalk_calls {w : World} {B g : Nat} {v : Value} {q : Hs} (hl : HL w B g v q) (hq : q.base ≠ 0) (hn : q.lines.length ≤ 1000000) :
    Calls Try.prog 17 #[.pointer (some ⟨g, 0, none⟩)] w fun e w' => ∃ gw u1 u2, e = .returned (.tuple #[.pointer (some ⟨gw, 0, none⟩), .int .i64 0]) ∧ w.heap.size ≤ gw ∧
      WL w' w.heap.size gw u1 u2 ⟨textsOf q.lines, textsOf q.lines ++ [⟨#[]⟩], q.lines.length⟩ ∧ Below w.heap.size w w' := by
  refine (callsIn_wide (n := 4)).1 (callsIn_of_wp_marks Try.func17 rfl trivial ?_ rfl)
  refine wpIn_wide.2 ?_
  simp only [Try.ntmps17, List.size_toArray, List.length_cons, List.length_nil, Nat.reduceAdd, Nat.reduceSub, Array.replicate_succ, Array.replicate_zero, List.push_toArray, List.append_toArray, List.nil_append, List.cons_append]
  have HB0 := Aside0.mk (Below.refl w.heap.size w)
  go_wp2_with (first
    | (go_at_call 42; refine (none_calls hl hq).mono ?_; rintro e w' ⟨rfl, rfl⟩)
    | (go_at_call 12; refine (len_calls hl hq).mono ?_; rintro e w' ⟨rfl, rfl⟩)
    | ((with_reducible refine gate_dst (N := 12) rfl ?_); refine box_event ?hg (N := 12) ?hd (cs := #[.slice none 0 0, .slice none 0 0, .int .i64 (q.lines.length : Int)]) (t := 96) ?hr ?_; (case hd => rfl); (case hg => rfl); (case hr => first | (go_simp; done) | (go_simp; rfl)); intro gw hg w1 hbw hb1; have hlw := Aside0.mk (Nat.le_of_eq hg.symm); clear hg; have HB1 := Aside0.mk (below_step HB0.out hb1))
    | ((with_reducible refine gate_dst (N := 4) rfl ?_); refine box_event ?hg (N := 4) ?hd (cs := #[.pointer none]) (t := 42) ?hr ?_; (case hd => rfl); (case hg => rfl); (case hr => first | (go_simp; done) | (go_simp; rfl)); intro g4 hg w2 hb4 hb2; have hl4 := Aside0.mk (Nat.le_of_eq hg.symm); clear hg; have HB2 := Aside0.mk (below_step HB1.out hb2); have hbw2 := blk_below hbw hb2; have hk4 : w2.cell? ⟨g4, 0, none⟩ = some (.pointer none) := (blk_cell hb4 0).trans rfl; have hf4 := blk_frozen hb4 0; have hL2 := (hl.below hb1).below hb2; have hL2s := hL2.set_ hb4 (by decide) (by decide) 0 (.pointer (some ⟨gw, 0, none⟩)))
    | (go_at_call 14; refine (all_calls hL2s hq (by omega)).mono ?_; rintro e w7 ⟨Bx, vx, rfl, hBx, hbx, hRx, hb7⟩))
  have hw27 := hb7.size
  have b4s := blk_put hb4 0 (.pointer (some ⟨gw, 0, none⟩)) rfl
  have bws := blk_far hbw2 (p := ⟨g4, 0, none⟩) (blk_ne hbw2 hb4 (by decide)) (.pointer (some ⟨gw, 0, none⟩))
  have b47 := blk_below b4s hb7
  have bw7 := blk_below bws hb7
  have hg4w : w.heap.size ≤ g4 := by have := hl4.out; have := HB1.out.size; omega
  have hgww := hlw.out
  have HB7 := below_step (HB2.out.setCell (p := ⟨g4, 0, none⟩) hg4w (.pointer (some ⟨gw, 0, none⟩))) hb7
  have hl27 : (w2.setCell ⟨g4, 0, none⟩ (.pointer (some ⟨gw, 0, none⟩))).heap.size = w2.heap.size := by rw [World.size_setCell]
  have hg4l : g4 < w2.heap.size := blk_lt hb4
  have hgwl : gw < w2.heap.size := blk_lt hbw2
  rw [hl27] at hw27 hBx hRx
  refine (wpIn_wide (n := 4)).1 ?_
  refine range_lawA (F := Fence.wide) rfl (by omega) (gf := 61) (lb := #[.pointer (some ⟨Bx, 0, none⟩)]) rfl trivial (enters_of Try.func61 (by kernel_rfl) rfl)
    (all_stops 3 (by omega) Bx w2.heap.size vx q.lines w7 (fun k => w2.heap.size ≤ k ∧ k < w7.heap.size) (fun k hk => hk.2) ⟨hBx, blk_lt hbx⟩ hbx (Kd.R_mono (Kd.R_bound hRx) (fun k hk => ⟨hk.2.1, hk.2.2.1⟩)) (by omega))
    (fun p x s W W' row hs _ _ => hs) (fun h k => h.trans k) (fun W l o o' hl ho _ _ => ⟨by simp, fun k hk hlt => World.putObj_heap_other (by have := hk.2; omega)⟩)
    (fun W o => ⟨by simp, fun k _ hl => Below.heap_alloc W o k hl⟩) (fun _ => rfl)
    (fun pre W => W.heap[g4]? = some (.cells #[.pointer (some ⟨gw, 0, none⟩)] 42 (0, 0)) ∧ (∃ Au cu, W.heap[gw]? = some (.cells #[.slice Au pre.length cu, .slice none 0 0, .int .i64 (q.lines.length : Int)] 96 (0, 0)) ∧ Kd.R Kd.string 9 W w7.heap.size (fun _ => True) (.slice Au pre.length cu) (textsOf (pre.map (·.s)))) ∧ pre.map (·.s) = q.lines.take pre.length ∧ Below w.heap.size w W)
    (fun _ _ _ => False) ?hI (fun _ _ _ _ _ hs _ _ => hs) ⟨b47, ⟨none, 0, bw7, Kd.R_nil _ _ _ _ _⟩, by simp, HB7⟩ (fun x gx => { tmps := #[Value.pointer (some { block := g, off := 0 }), undef, Value.pointer none, Value.int IntKind.i64 0, Value.pointer (some { block := g4, off := 0 }), undef, .pointer (some ⟨gx, 0, none⟩), Value.pointer (some { block := g, off := 0 }), Value.bool false, Value.pointer (some { block := g, off := 0 }), Value.int IntKind.i64 ↑q.lines.length, Value.agg #[Value.slice none 0 0, Value.slice none 0 0, Value.int IntKind.i64 ↑q.lines.length], Value.pointer (some { block := gw, off := 0 }), Value.pointer (some { block := g, off := 0 }), Value.func (Fn.func 61) #[] #[Value.pointer (some { block := Bx, off := 0 })], .int .i64 (x.i : Int), .agg #[.string x.s.f0, .int .i64 x.s.f1], undef, undef, undef, undef, undef, undef, undef, undef, undef, undef, undef, undef, undef, undef, undef, undef, undef, undef, undef, undef, undef, undef], defers := [] }) (fun x => .cells #[.string x.s.f0, .int .i64 x.s.f1] 36) ?assign ?body ?done ?stop
  case assign =>
    intro l' x W K hK
    simp only [Item.encs, S36.v]
    gi_wp2
    exact hK
  case hI =>
    rintro pre X Y row ⟨h1, ⟨Au, cu, h2, h3⟩, h4, h5⟩ hg hr
    refine ⟨(hg.block _ (blk_lt h1) (fun e => ?_)).trans h1, ⟨Au, cu, (hg.block _ (blk_lt h2) (fun e => ?_)).trans h2, Kd.R_mono (Kd.R_grown (Kd.R_bound h3) hg (fun k hk e => ?_)) (fun _ _ => trivial)⟩, h4, h5.grown hg h5.size (fun k e => by have := (hr k e).1; have := HB7.size; omega)⟩
    · have := (hr _ e.symm).1; omega
    · have := (hr _ e.symm).1; omega
    · obtain ⟨_, o, ho, hc⟩ := hr k e.symm
      obtain ⟨_, _, _, t, _, cells, hcl⟩ := hk
      rw [hcl] at ho
      cases ho
      cases hc
  case body =>
    rintro l' pre x gx W ⟨h4, ⟨Au, cu, h2, h3⟩, h5, h6⟩ ⟨hxi, hget⟩ hgw2 hbx2
    have hxl := (List.getElem?_eq_some_iff.1 hget).1
    have hs4 : W.cell? ⟨g4, 0, none⟩ = some (.pointer (some ⟨gw, 0, none⟩)) := (blk_cell h4 0).trans rfl
    have hsw : W.cell? ⟨gw, 0, none⟩ = some (.slice Au pre.length cu) := (blk_cell h2 0).trans rfl
    have hsx : W.cell? ⟨gx, 0, none⟩ = some (.string x.s.f0) := (blk_cell hbx2 0).trans rfl
    gi_wp2
    refine region_round (by kernel_rfl) (by kernel_rfl) (fun ⟨_, _, h⟩ => h) (wpAny_of_S (S := fun w' => w'.cell? ⟨g4, 0, none⟩ = some (.pointer (some ⟨gw, 0, none⟩)) ∧ w'.cell? ⟨gw, 0, none⟩ = some (.slice Au pre.length cu) ∧ w'.cell? ⟨gx, 0, none⟩ = some (.string x.s.f0)) (s := 11) _ _ _ _ ?_)
    have hS0 : W.drew.cell? ⟨g4, 0, none⟩ = some (.pointer (some ⟨gw, 0, none⟩)) ∧ W.drew.cell? ⟨gw, 0, none⟩ = some (.slice Au pre.length cu) ∧ W.drew.cell? ⟨gx, 0, none⟩ = some (.string x.s.f0) := ⟨hs4, hsw, hsx⟩
    refine wpAnyS_take (i := 0) (v := .pointer (some ⟨gw, 0, none⟩)) rfl (by kernel_rfl) (by kernel_rfl) (by kernel_rfl) (by kernel_rfl) (fun _ _ _ h => h) (Or.inl ⟨by rfl, fun w' hS => by obtain ⟨k1, k2, k3⟩ := hS; go_simp⟩) hS0 ?_
    simp only [Act.put, List.setIfInBounds_toArray, List.set_cons_zero, List.set_cons_succ]
    refine wpAnyS_take (i := 1) (v := .pointer (some ⟨gw, 0, none⟩)) rfl (by kernel_rfl) (by kernel_rfl) (by kernel_rfl) (by kernel_rfl) (fun _ _ _ h => h) (Or.inl ⟨by rfl, fun w' hS => by obtain ⟨k1, k2, k3⟩ := hS; go_simp⟩) hS0 ?_
    simp only [Act.put, List.setIfInBounds_toArray, List.set_cons_zero, List.set_cons_succ]
    refine wpAnyS_take (i := 2) (v := .pointer (some ⟨gw, 0, none⟩)) rfl (by kernel_rfl) (by kernel_rfl) (by kernel_rfl) (by kernel_rfl) (fun _ _ _ h => h) (Or.inl ⟨by rfl, fun w' hS => by obtain ⟨k1, k2, k3⟩ := hS; go_simp⟩) hS0 ?_
    simp only [Act.put, List.setIfInBounds_toArray, List.set_cons_zero, List.set_cons_succ]
    refine wpAnyS_take (i := 3) (v := .pointer (some ⟨gw, 0, none⟩)) rfl (by kernel_rfl) (by kernel_rfl) (by kernel_rfl) (by kernel_rfl) (fun _ _ _ h => h) (Or.inl ⟨by rfl, fun w' hS => by obtain ⟨k1, k2, k3⟩ := hS; go_simp⟩) hS0 ?_
    simp only [Act.put, List.setIfInBounds_toArray, List.set_cons_zero, List.set_cons_succ]
    refine wpAnyS_take (i := 4) (v := .slice Au pre.length cu) rfl (by kernel_rfl) (by kernel_rfl) (by kernel_rfl) (by kernel_rfl) (fun _ _ _ h => h) (Or.inl ⟨by rfl, fun w' hS => by obtain ⟨k1, k2, k3⟩ := hS; go_simp⟩) hS0 ?_
    simp only [Act.put, List.setIfInBounds_toArray, List.set_cons_zero, List.set_cons_succ]
    refine wpAnyS_take (i := 5) (v := .pointer (some ⟨gx, 0, none⟩)) rfl (by kernel_rfl) (by kernel_rfl) (by kernel_rfl) (by kernel_rfl) (fun _ _ _ h => h) (Or.inl ⟨by rfl, fun w' hS => by obtain ⟨k1, k2, k3⟩ := hS; go_simp⟩) hS0 ?_
    simp only [Act.put, List.setIfInBounds_toArray, List.set_cons_zero, List.set_cons_succ]
    refine wpAnyS_take (i := 6) (v := .string x.s.f0) rfl (by kernel_rfl) (by kernel_rfl) (by kernel_rfl) (by kernel_rfl) (fun _ _ _ h => h) (Or.inl ⟨by rfl, fun w' hS => by obtain ⟨k1, k2, k3⟩ := hS; go_simp⟩) hS0 ?_
    simp only [Act.put, List.setIfInBounds_toArray, List.set_cons_zero, List.set_cons_succ]
    refine wpAnyS_one (i := 7) (by kernel_rfl) rfl (fun K2 hK2 => ?_)
    go_simp
    have h4a := blk_alloc (blk_drew h4) (.cells #[.string x.s.f0] 9)
    have h2a := blk_alloc (blk_drew h2) (.cells #[.string x.s.f0] 9)
    have hxa := blk_alloc (blk_drew hbx2) (.cells #[.string x.s.f0] 9)
    refine hK2.out _ _ (fun _ => ⟨(blk_cell h4a 0).trans rfl, (blk_cell h2a 0).trans rfl, (blk_cell hxa 0).trans rfl⟩) ?_
    refine wpAnyS_one (i := 8) (by kernel_rfl) rfl (fun K3 hK3 => ?_)
    refine Kd.R_append_step Kd.string (w0 := W) (W := W.drew) w7.heap.size (by rfl) (.tmp 21) (.tmp 24) 62 9 (.string ⟨#[]⟩) 16 (by rfl) Try.underlying62 info9 rfl (by decide) (by omega) (.slice Au pre.length cu) (textsOf (pre.map (·.s))) x.s.f0 [.string x.s.f0] (fun _ => True) (fun _ => False) (by rfl) (by rfl) rfl (fun _ h => h.elim) (fun _ _ => trivial) (Kd.R_drew h3) (Below.refl _ _).drew (by have := blk_lt hbx2; show w7.heap.size ≤ W.heap.size; omega) (by simp [textsOf]; omega) ?_
    intro v1 w3 hR3 hb3 hg3 hat3
    obtain ⟨A3, c3, rfl⟩ := Kd.R_slice hR3
    have hlen : (textsOf (pre.map (·.s)) ++ [x.s.f0]).length = pre.length + 1 := by simp [textsOf]
    have htx : textsOf (pre.map (·.s)) ++ [x.s.f0] = textsOf ((pre ++ [x]).map (·.s)) := by simp [textsOf]
    rw [hlen] at hR3 hat3 ⊢
    rw [htx] at hR3
    have h43 := blk_grown (blk_drew h4) hg3 (Kd.R_ne (Kd.R_drew h3) (blk_drew h4) (by decide))
    have h23 := blk_grown (blk_drew h2) hg3 (Kd.R_ne (Kd.R_drew h3) (blk_drew h2) (by decide))
    have hx3 := blk_grown (blk_drew hbx2) hg3 (Kd.R_ne (Kd.R_drew h3) (blk_drew hbx2) (by decide))
    have hS3 : w3.cell? ⟨g4, 0, none⟩ = some (.pointer (some ⟨gw, 0, none⟩)) ∧ w3.cell? ⟨gw, 0, none⟩ = some (.slice Au pre.length cu) ∧ w3.cell? ⟨gx, 0, none⟩ = some (.string x.s.f0) := ⟨(blk_cell h43 0).trans rfl, (blk_cell h23 0).trans rfl, (blk_cell hx3 0).trans rfl⟩
    refine hK3.out _ _ (fun _ => hS3) ?_
    simp only [Act.put, List.setIfInBounds_toArray, List.set_cons_zero, List.set_cons_succ]
    refine wpAnyS_one (i := 9) (by kernel_rfl) rfl (fun K4 hK4 => ?_)
    go_simp
    refine hK4.out _ _ (fun _ => hS3) ?_
    refine wpAnyS_one (i := 10) (by kernel_rfl) rfl (fun K5 hK5 => ?_)
    go_simp
    refine hK5.out _ _ (fun _ => hS3) ?_
    refine wpAnyS_one (i := 11) (by kernel_rfl) rfl (fun K6 hK6 => ?_)
    have hf23 := blk_frozen h23 0
    have hk23 := hS3.2.1
    go_simp
    refine hK6.out _ _ (fun h => absurd rfl h) ?_
    refine wpAnyS_done (by kernel_rfl) ?_ _
    have hsz : W.heap.size ≤ w3.heap.size := hg3.size
    have hxg := blk_lt hbx2
    have hgwk : ∀ k, w2.heap.size ≤ k → k ≠ gw := fun k hk => by omega
    have hbase := Kd.R_base h3
    refine ⟨⟨by rw [World.size_setCell]; exact hsz, fun k o hk ho hc => ?_⟩, ⟨by rw [World.size_setCell]; exact hsz, fun k hk hl => ?_⟩, blk_far h43 (p := ⟨gw, 0, none⟩) (fun e => by rw [e] at h43; rw [h43] at h23; simp at h23) _, ⟨A3, c3, ?_, Kd.R_set ?_ h23 (by decide) 0 _⟩, ?_, ?_⟩
    · refine (Below.heap_setCell w3 ⟨gw, 0, none⟩ _ k (hgwk k (by omega))).trans ((hg3.block k (blk_lt ho) (fun e => ?_)).trans ho)
      obtain ⟨cells, hcl⟩ := (Kd.R_own h3).elim fun inner hi => own_typed hi k e.symm
      rw [hcl] at ho
      cases ho
      cases hc
    · refine (Below.heap_setCell w3 ⟨gw, 0, none⟩ _ k (hgwk k hk.1)).trans (hg3.block k hl (fun e => ?_))
      have := hbase k e.symm
      omega
    · rw [List.length_append]
      exact blk_put h23 0 _ rfl
    · rw [List.length_append]
      exact hR3
    · rw [List.map_append, h5, List.length_append, List.length_singleton, List.take_succ_eq_append_getElem (by omega)]
      have := (List.getElem?_eq_some_iff.1 hget).2
      simp only [hxi] at this
      rw [List.map_singleton, this]
    · exact (h6.drew.trans (Fr.below (B := w.heap.size) (Fr.of_grown (N := fun k => some k = (Value.slice Au pre.length cu).ownBlock) hg3 (fun k hk => hk.symm)) (fun k hk => by have := hbase k hk.symm; have := HB7.size; omega) h6.size)).setCell (p := ⟨gw, 0, none⟩) hgww _
  case done =>
    rintro D xs W hD hxs ⟨h4, ⟨Au, cu, h2, h3⟩, h5, h6⟩ hK
    rw [hxs] at h2 h3 h5
    rw [List.take_of_length_le (Nat.le_refl _)] at h5
    rw [h5] at h3
    clear hxs h5
    have hB0 : w.heap.size ≤ w7.heap.size := HB7.size
    have HS := Aside0.mk (fun (w' : World) (hb : Below W.heap.size W w') => ((blk_cell (blk_below h4 hb) 0).trans rfl : w'.cell? ⟨g4, 0, none⟩ = some (.pointer (some ⟨gw, 0, none⟩))))
    have HT := Aside0.mk (fun (w' : World) (hb : Below W.heap.size W w') => ((blk_cell (blk_below h2 hb) 0).trans rfl : w'.cell? ⟨gw, 0, none⟩ = some (.slice Au q.lines.length cu)))
    have hS0 : Below W.heap.size W W.drew := (Below.refl _ _).drew
    have hlx : (textsOf q.lines).length = q.lines.length := by simp [textsOf]
    have hC0 := (Kd.R_reads' h3).2.2
    rw [hlx] at hC0
    have hcu := (Kd.R_reads' h3).2.1
    go_wp2
    refine wp_region_noPanic (region_S (S := fun w' => Below W.heap.size W w') (s := 10) (by kernel_rfl) ?_)
    refine wpAnyS_take (i := 0) (v := .pointer (some ⟨gw, 0, none⟩)) rfl (by kernel_rfl) (by kernel_rfl) (by kernel_rfl) (by kernel_rfl) (fun _ _ _ h => h) (Or.inl ⟨by rfl, fun w' hS => by have k1 := HS.out w' hS; have k2 := HT.out w' hS; go_simp⟩) hS0 ?_
    simp only [Act.put, List.setIfInBounds_toArray, List.set_cons_zero, List.set_cons_succ]
    refine wpAnyS_take (i := 1) (v := .pointer (some ⟨gw, 0, none⟩)) rfl (by kernel_rfl) (by kernel_rfl) (by kernel_rfl) (by kernel_rfl) (fun _ _ _ h => h) (Or.inl ⟨by rfl, fun w' hS => by have k1 := HS.out w' hS; have k2 := HT.out w' hS; go_simp⟩) hS0 ?_
    simp only [Act.put, List.setIfInBounds_toArray, List.set_cons_zero, List.set_cons_succ]
    refine wpAnyS_take (i := 2) (v := .pointer (some ⟨gw, 0, none⟩)) rfl (by kernel_rfl) (by kernel_rfl) (by kernel_rfl) (by kernel_rfl) (fun _ _ _ h => h) (Or.inl ⟨by rfl, fun w' hS => by have k1 := HS.out w' hS; have k2 := HT.out w' hS; go_simp⟩) hS0 ?_
    simp only [Act.put, List.setIfInBounds_toArray, List.set_cons_zero, List.set_cons_succ]
    refine wpAnyS_take (i := 3) (v := .pointer (some ⟨gw, 0, none⟩)) rfl (by kernel_rfl) (by kernel_rfl) (by kernel_rfl) (by kernel_rfl) (fun _ _ _ h => h) (Or.inl ⟨by rfl, fun w' hS => by have k1 := HS.out w' hS; have k2 := HT.out w' hS; go_simp⟩) hS0 ?_
    simp only [Act.put, List.setIfInBounds_toArray, List.set_cons_zero, List.set_cons_succ]
    refine wpAnyS_take (i := 4) (v := .slice Au q.lines.length cu) rfl (by kernel_rfl) (by kernel_rfl) (by kernel_rfl) (by kernel_rfl) (fun _ _ _ h => h) (Or.inl ⟨by rfl, fun w' hS => by have k1 := HS.out w' hS; have k2 := HT.out w' hS; go_simp⟩) hS0 ?_
    simp only [Act.put, List.setIfInBounds_toArray, List.set_cons_zero, List.set_cons_succ]
    refine wpAnyS_two (i := 5) (j := 6) (by kernel_rfl) rfl rfl (fun K2 hK2 => ?_) (fun K2 hK2 => ?_)
    · go_simp
      refine (cloneS_at Au q.lines.length cu (textsOf q.lines) _ hlx (Kd.C_below hC0 hS0) hcu (by omega)).mono ?_
      rintro e W2 ⟨v2, rfl, hR2, hb2⟩
      have hS1 := below_step hS0 hb2
      refine hK2.out _ _ (fun _ => hS1) ?_
      refine wpAnyS_one (i := 6) (by kernel_rfl) rfl (fun K3 hK3 => ?_)
      go_simp
      refine hK3.out _ _ (fun _ => below_alloc hS1 _) ?_
      refine wpAnyS_one (i := 7) (by kernel_rfl) rfl (fun K4 hK4 => ?_)
      refine Kd.R_append_step Kd.string (w0 := W) (W := W2) W.heap.size (by rfl) (.tmp 33) (.tmp 34) 62 9 (.string ⟨#[]⟩) 16 (by rfl) Try.underlying62 info9 rfl (by decide) (by omega) v2 (textsOf q.lines) ⟨#[]⟩ [.string ⟨#[]⟩] (fun _ => True) (fun _ => False) (by rfl) (by rfl) rfl (fun _ h => h.elim) (fun _ _ => trivial) hR2 hS1 hS1.size (by simp [textsOf]; omega) ?_
      intro v3 w3 hR3 hb3 hg3 hat3
      obtain ⟨A3, c3, rfl⟩ := Kd.R_slice hR3
      have hl3 : (textsOf q.lines ++ [(⟨#[]⟩ : ByteArray)]).length = q.lines.length + 1 := by simp [textsOf]
      rw [hl3] at hR3 ⊢
      clear hl3
      refine hK4.out _ _ (fun _ => hb3) ?_
      simp only [Act.put, List.setIfInBounds_toArray, List.set_cons_zero, List.set_cons_succ]
      refine wpAnyS_one (i := 8) (by kernel_rfl) rfl (fun K5 hK5 => ?_)
      go_simp
      refine hK5.out _ _ (fun _ => hb3) ?_
      refine wpAnyS_one (i := 9) (by kernel_rfl) rfl (fun K6 hK6 => ?_)
      go_simp
      refine hK6.out _ _ (fun _ => hb3) ?_
      refine wpAnyS_one (i := 10) (by kernel_rfl) rfl (fun K7 hK7 => ?_)
      have h23 := blk_below h2 hb3
      have h43 := blk_below h4 hb3
      have hD3 := (hb3.block D (blk_lt hK)).trans hK
      have hk1 : w3.cell? ⟨gw, 1, none⟩ = some (.slice none 0 0) := (blk_cell h23 1).trans rfl
      have hf1 := blk_frozen h23 1
      go_simp
      refine hK7.out _ _ (fun h => absurd rfl h) ?_
      refine wpAnyS_done (by kernel_rfl) (NoPanic.normal ?_) _
      have h4f : (w3.setCell ⟨gw, 1, none⟩ (.slice A3 (q.lines.length + 1) c3)).cell? ⟨g4, 0, none⟩ = some (.pointer (some ⟨gw, 0, none⟩)) := (blk_cell (blk_far h43 (p := ⟨gw, 1, none⟩) (fun e => by rw [e] at h43; rw [h43] at h23; simp at h23) _) 0).trans rfl
      have hDf := (KeepsOthers.setCell w3 ⟨gw, 1, none⟩ (.slice A3 (q.lines.length + 1) c3)).same D _ hD3 rfl
      have hBf : Below w.heap.size w (w3.setCell ⟨gw, 1, none⟩ (.slice A3 (q.lines.length + 1) c3)) := (below_step h6 hb3).setCell (p := ⟨gw, 1, none⟩) hgww _
      have hWf : WL (w3.setCell ⟨gw, 1, none⟩ (.slice A3 (q.lines.length + 1) c3)) w.heap.size gw (.slice Au q.lines.length cu) (.slice A3 (q.lines.length + 1) c3) ⟨textsOf q.lines, textsOf q.lines ++ [⟨#[]⟩], q.lines.length⟩ :=
        ⟨blk_put h23 1 _ rfl, Kd.R_set (Kd.R_lower (Kd.R_below h3 hb3) hB0) h23 (by decide) 1 _, Kd.R_set (Kd.R_lower hR3 h6.size) h23 (by decide) 1 _, fun k e1 e2 => by have := Kd.R_lt h3 k e1.symm; have := Kd.R_base hR3 k e2.symm; omega⟩
      go_wp2
      refine ⟨by simp, .inl ⟨_, _, rfl, run_takeDeferred hDf, ?_⟩⟩
      exact ⟨.tuple #[.pointer (some ⟨gw, 0, none⟩), .int .i64 0], by simp [results, Try.f17, go_sem], gw, _, _, rfl, hgww, hWf.putD hDf, hBf.trans (belowK_b (w := w) (Nat.le_refl _) _ D _ _ (by omega) hDf rfl rfl)⟩
    · go_simp
      refine hK2.out _ _ (fun _ => below_alloc hS0 _) ?_
      refine wpAnyS_one (i := 5) (by kernel_rfl) rfl (fun K3 hK3 => ?_)
      go_simp
      refine (cloneS_at Au q.lines.length cu (textsOf q.lines) _ hlx (Kd.C_below hC0 (below_alloc hS0 _)) hcu (by omega)).mono ?_
      rintro e W2 ⟨v2, rfl, hR2, hb2⟩
      have hS1 := below_step (below_alloc hS0 _) hb2
      have hR2' := Kd.R_lower (base' := W.heap.size) hR2 (by simp)
      have hC2 := Kd.C_below (litE W.drew) hb2
      refine hK3.out _ _ (fun _ => hS1) ?_
      refine wpAnyS_one (i := 7) (by kernel_rfl) rfl (fun K4 hK4 => ?_)
      refine Kd.R_append_rows_step Kd.string (w0 := W) (W := W2) W.heap.size (by rfl) (.tmp 33) (.tmp 34) 62 9 (.string ⟨#[]⟩) 16 (by rfl) Try.underlying62 info9 rfl (by decide) (by omega) v2 (textsOf q.lines) [⟨#[]⟩] (some ⟨W.heap.size, 0, none⟩) 1 1 (fun _ => True) (fun _ => False) (by rfl) (by rfl) hR2' hC2 (fun x cs h => h) (fun _ h => h.elim) (fun _ _ => trivial) hS1 hS1.size (by simp [textsOf]; omega) ?_
      intro v3 w3 hR3 hb3 hg3 hat3
      obtain ⟨A3, c3, rfl⟩ := Kd.R_slice hR3
      have hl3 : (textsOf q.lines ++ [(⟨#[]⟩ : ByteArray)]).length = q.lines.length + 1 := by simp [textsOf]
      rw [hl3] at hR3 ⊢
      clear hl3
      refine hK4.out _ _ (fun _ => hb3) ?_
      simp only [Act.put, List.setIfInBounds_toArray, List.set_cons_zero, List.set_cons_succ]
      refine wpAnyS_one (i := 8) (by kernel_rfl) rfl (fun K5 hK5 => ?_)
      go_simp
      refine hK5.out _ _ (fun _ => hb3) ?_
      refine wpAnyS_one (i := 9) (by kernel_rfl) rfl (fun K6 hK6 => ?_)
      go_simp
      refine hK6.out _ _ (fun _ => hb3) ?_
      refine wpAnyS_one (i := 10) (by kernel_rfl) rfl (fun K7 hK7 => ?_)
      have h23 := blk_below h2 hb3
      have h43 := blk_below h4 hb3
      have hD3 := (hb3.block D (blk_lt hK)).trans hK
      have hk1 : w3.cell? ⟨gw, 1, none⟩ = some (.slice none 0 0) := (blk_cell h23 1).trans rfl
      have hf1 := blk_frozen h23 1
      go_simp
      refine hK7.out _ _ (fun h => absurd rfl h) ?_
      refine wpAnyS_done (by kernel_rfl) (NoPanic.normal ?_) _
      have h4f : (w3.setCell ⟨gw, 1, none⟩ (.slice A3 (q.lines.length + 1) c3)).cell? ⟨g4, 0, none⟩ = some (.pointer (some ⟨gw, 0, none⟩)) := (blk_cell (blk_far h43 (p := ⟨gw, 1, none⟩) (fun e => by rw [e] at h43; rw [h43] at h23; simp at h23) _) 0).trans rfl
      have hDf := (KeepsOthers.setCell w3 ⟨gw, 1, none⟩ (.slice A3 (q.lines.length + 1) c3)).same D _ hD3 rfl
      have hBf : Below w.heap.size w (w3.setCell ⟨gw, 1, none⟩ (.slice A3 (q.lines.length + 1) c3)) := (below_step h6 hb3).setCell (p := ⟨gw, 1, none⟩) hgww _
      have hWf : WL (w3.setCell ⟨gw, 1, none⟩ (.slice A3 (q.lines.length + 1) c3)) w.heap.size gw (.slice Au q.lines.length cu) (.slice A3 (q.lines.length + 1) c3) ⟨textsOf q.lines, textsOf q.lines ++ [⟨#[]⟩], q.lines.length⟩ :=
        ⟨blk_put h23 1 _ rfl, Kd.R_set (Kd.R_lower (Kd.R_below h3 hb3) hB0) h23 (by decide) 1 _, Kd.R_set (Kd.R_lower hR3 h6.size) h23 (by decide) 1 _, fun k e1 e2 => by have := Kd.R_lt h3 k e1.symm; have := Kd.R_base hR3 k e2.symm; omega⟩
      go_wp2
      refine ⟨by simp, .inl ⟨_, _, rfl, run_takeDeferred hDf, ?_⟩⟩
      exact ⟨.tuple #[.pointer (some ⟨gw, 0, none⟩), .int .i64 0], by simp [results, Try.f17, go_sem], gw, _, _, rfl, hgww, hWf.putD hDf, hBf.trans (belowK_b (w := w) (Nat.le_refl _) _ D _ _ (by omega) hDf rfl rfl)⟩
  case stop =>
    rintro D c pre W _ _ h _
    exact h.elim
end Go.Proofs.Ytbjdjbhmafmnbaa
