/-
  The walk of HistComesBack.
-/
import Derived.Test.YtbjdjbhmafmnbaaMA
import Derived.Test.YtbjdjbhmafmnbaaWW
import Derived.StillTailTactics
namespace Go.Proofs.Ytbjdjbhmafmnbaa
open Go.RowKit Go.Proofs.YtbjdjbhmafmnbaaW.PrintWords Go.Proofs.YtbjdjbhmafmnbaaW.PrintLast Go.Proofs.YtbjdjbhmafmnbaaW.PrintMore Go.Proofs.Ytbjdjbhmafmnbaa.PAll
set_option linter.unusedVariables false
set_option linter.unusedSimpArgs false
attribute [local go_sem] Oper.semAt_some
theorem mayF_cases (l : List S36) : mayF l = 0 ∨ mayF l = 1 ∨ mayF l = 3 := by
  unfold mayF
  split
  · exact .inr (.inr rfl)
  · split
    · exact .inr (.inl rfl)
    · exact .inl rfl
theorem chgs_mem (was now : List ByteArray) : ∀ k, ∀ x ∈ chgs was now k, x.1 < k ∧ now.getD x.1 ⟨#[]⟩ = x.2 ∧ was.getD x.1 ⟨#[]⟩ ≠ x.2
  | 0, x, h => by cases h
  | k + 1, x, h => by
    rw [chgs] at h
    split at h
    · obtain ⟨h1, h2⟩ := chgs_mem was now k x h
      exact ⟨by omega, h2⟩
    · rename_i hne
      rcases List.mem_append.1 h with h | h
      · obtain ⟨h1, h2⟩ := chgs_mem was now k x h
        exact ⟨by omega, h2⟩
      · obtain rfl := List.mem_singleton.1 h
        exact ⟨by show k < k + 1; omega, rfl, fun e => hne e.symm⟩
theorem may_mem {l : List S36} (h : mayF l = 0) (x : S36) (hx : x ∈ l) : x.f0.size ≤ 16384 := by
  unfold mayF at h
  by_cases ha : l.any longB = true
  · rw [if_pos ha] at h; cases h
  · have := List.any_eq_false.1 (by simpa using ha) x hx
    simp only [longB, decide_eq_true_eq] at this
    omega
set_option maxRecDepth 100000 in
set_option maxHeartbeats 4000000 in
set_option pp.deepTerms true in
set_option pp.maxSteps 1000000 in
theorem walkBack (A0 : Option Addr) (c0 : Nat) (l0 : List S36) (A1 : Option Addr) (c1 : Nat) (gs : List S106) {w : World}
    (hr0 : Kd.C k36 w A0 l0.length l0) (hc0 : l0.length ≤ c0) (hl0 : l0.length ≤ 1048576) (hr1 : Kd.C k106 w A1 gs.length gs) (hc1 : gs.length ≤ c1) (hl1 : gs.length ≤ 1048576) (hg1 : ∀ y ∈ gs, (Lit.int .i64 y.f0).wf = true) :
    Calls Try.prog 4 #[.slice A0 l0.length c0, .slice A1 gs.length c1] w fun e w' => e = .returned (.bool true) ∧ Below w.heap.size w w' := by
  by_cases hm : mayF l0 = 0
  · have hq0 : Hs.add ⟨[], 1, 4096⟩ l0 = Hs.of 4096 l0 := by
      have := Hs.of_add 4096 [] l0
      rwa [Hs.of_nil, List.nil_append] at this
    have hlen := Hs.of_len 4096 l0
    have hb0 : 0 < (Hs.of 4096 l0).base := by simp only [Hs.of]; omega
    have hb1 : (Hs.of 4096 l0).base ≤ 1000000000000000 := by simp only [Hs.of, gone]; omega
    have hsz : ∀ x ∈ (Hs.of 4096 l0).lines, x.f0.size ≤ 16384 := fun x hx => may_mem hm x (List.mem_of_mem_drop hx)
    have HSZ := Aside0.mk hsz
    clear hsz
    generalize Hs.of 4096 l0 = Q at HSZ hq0 hlen hb0 hb1
    have hlen' : Q.lines.length ≤ 4096 := by omega
    clear hlen
    have hbne : Q.base ≠ 0 := by omega
    have hmm := @run_makeMap Try.prog
    refine (callsIn_wide (n := 4)).1 (callsIn_of_wp_marks Try.func4 rfl trivial ?_ rfl)
    refine wpIn_wide.2 ?_
    simp only [Try.ntmps4, List.size_toArray, List.length_cons, List.length_nil, Nat.reduceAdd, Nat.reduceSub, Array.replicate_succ, Array.replicate_zero, List.push_toArray, List.append_toArray, List.nil_append, List.cons_append]
    have HB0 := Aside0.mk (Below.refl w.heap.size w)
    have hr0' := Aside0.mk hr0
    clear hr0
    go_wp2_with (first
      | ((with_reducible refine gate_dst (N := 4) rfl ?_); refine box_event ?hg (N := 4) ?hd (cs := #[.bool false]) (t := 4) ?hr ?_; (case hd => rfl); (case hg => rfl); (case hr => first | (go_simp; done) | (go_simp; rfl)); intro g4 hg w1 hbox4 hb1'; have hle4 := Aside0.mk (Nat.le_of_eq hg.symm); clear hg; have HB1 := Aside0.mk (below_step HB0.out hb1'))
      | (go_at_call 16; go_loud (have FC := (from_calls 4096 (by decide) (by decide) A0 c0 l0 w1 (Kd.C_below hr0'.out HB1.out) hc0 (by omega) hm); rw [hq0] at FC; refine FC.mono ?_; clear FC; rintro e w2 ⟨gh, vh, rfl, hgh, hH2, hb2⟩; have HB2 := Aside0.mk (below_step HB1.out hb2); have hbox42 := blk_below hbox4 hb2))
      | ((with_reducible refine gate_dst (N := 5) rfl ?_); refine box_event ?hg (N := 5) ?hd (cs := #[.pointer none]) (t := 23) ?hr ?_; (case hd => rfl); (case hg => rfl); (case hr => first | (go_simp; done) | (go_simp; rfl)); intro g5 hg w3 hbox5 hb3; have hle5 := Aside0.mk (Nat.le_of_eq hg.symm); clear hg; have HB3 := Aside0.mk (below_step HB2.out hb3); have hbox43 := blk_below hbox42 hb3; have hH3 := hH2.below hb3; have hk5 : w3.cell? ⟨g5, 0, none⟩ = some (.pointer none) := (blk_cell hbox5 0).trans rfl; have hf5 := blk_frozen hbox5 0)
      | (go_at_call 10; refine (begun_calls _).mono ?_; rintro e w4 ⟨rfl, hb4⟩; have b5s := blk_put hbox5 0 (.pointer (some ⟨gh, 0, none⟩)) rfl; have hg5w : w.heap.size ≤ g5 := (by have := hle5.out; have := HB2.out.size; omega); have hne45 : g4 ≠ g5 := (by have := hle5.out; have := blk_lt hbox42; omega); have h44 := blk_below (blk_far hbox43 (p := ⟨g5, 0, none⟩) hne45 (.pointer (some ⟨gh, 0, none⟩))) hb4; have h54 := blk_below b5s hb4; have hH4 := (hH3.set_ hbox5 (by decide) (by decide) 0 (.pointer (some ⟨gh, 0, none⟩))).below hb4; have HB4 := Aside0.mk (below_step (HB3.out.setCell (p := ⟨g5, 0, none⟩) hg5w (.pointer (some ⟨gh, 0, none⟩))) hb4); have hk54 : w4.cell? ⟨g5, 0, none⟩ = some (.pointer (some ⟨gh, 0, none⟩)) := (blk_cell h54 0).trans rfl)
      | (go_at_call 17; refine (newWalk_calls hH4 hbne (by omega)).mono ?_; rintro e w5 ⟨gw, u1, u2, rfl, hgw, hW5, hb5⟩; have h45 := blk_below h44 hb5; have h55 := blk_below h54 hb5; have hH5 := hH4.below hb5; have HB5 := Aside0.mk (below_step HB4.out hb5); have hk55 : w5.cell? ⟨g5, 0, none⟩ = some (.pointer (some ⟨gh, 0, none⟩)) := (blk_cell h55 0).trans rfl))
    have hTl := textsOf_len Q.lines
    have LC := Aside0.mk (fun n => quiet_w (len_calls (hH5.drewN n) hbne))
    have PC := Aside0.mk (fun n => quiet_w (place_calls (hW5.drewN n) (by simp)))
    go_quiet (first | (go_at_call 12; exact LC.out _) | (go_at_call 18; exact PC.out _))
    have hM0 := Mp.made (w5.drewN nq)
    have hNwf : (Lit.int .i64 (Q.lines.length : Int)).wf = true := WalkArith.wf_i64 (by omega)
    obtain ⟨w7, hst, hM7, hg7⟩ := hM0.store hNwf (s := ⟨#[]⟩) (by decide) (by omega)
    simp only [Option.isSome_none, Bool.false_eq_true, if_false, Nat.zero_add] at hM7
    rw [← hTl, partOf_none] at hM7
    have hal := below_alloc (pw_below_drewN (Below.refl w5.heap.size w5) nq) (.map #[] 0)
    have hb57 : Below w5.heap.size w5 w7 := hal.grown hg7 hal.size (fun k e => by cases e; exact Nat.le_refl _)
    have hk5n : ((w5.drewN nq).alloc (.map #[] 0)).cell? ⟨g5, 0, none⟩ = some (.pointer (some ⟨gh, 0, none⟩)) := (blk_cell (blk_below h55 hal) 0).trans rfl
    have h47 := blk_below h45 hb57
    have h57 := blk_below h55 hb57
    have hH7 := hH5.below hb57
    have hW7 := hW5.below hb57
    have HB7 := Aside0.mk (below_step HB5.out hb57)
    have LC7 := Aside0.mk (len_calls (hH5.below hal) hbne)
    have hst' : (Instr.mapUpdate 45 (.map (some w5.heap.size)) (.int .i64 (Q.lines.length : Int)) (.string ⟨#[]⟩)).run Try.prog ((w5.drewN nq).alloc (.map #[] 0)) = .ok () w7 := hst
    have hM7' : Mp w7 w5.heap.size (partOf (textsOf Q.lines) 0) 1 := hM7
    clear hst hM7 hM0
    go_wp2_with (first
      | (go_at_call 12; refine LC7.out.mono ?_; rintro e w' ⟨rfl, rfl⟩)
      | ((with_reducible refine gate_dst (N := 8) rfl ?_); refine box_event ?hg (N := 8) ?hd (cs := #[.map none]) (t := 45) ?hr ?_; (case hd => rfl); (case hg => rfl); (case hr => first | (go_simp; done) | (go_simp; rfl)); intro g8 hg w8 hbox8 hb8; have hle8 := Aside0.mk (Nat.le_of_eq hg.symm); clear hg; have hk8 : w8.cell? ⟨g8, 0, none⟩ = some (.map none) := (blk_cell hbox8 0).trans rfl; have hf8 := blk_frozen hbox8 0; have hne58 : g5 ≠ g8 := (by have := hle8.out; have := blk_lt h57; omega); have hne48 : g4 ≠ g8 := (by have := hle8.out; have := blk_lt h47; omega); have h58 := blk_far (blk_below h57 hb8) (p := ⟨g8, 0, none⟩) hne58 (.map (some w5.heap.size)); have hk5s : (w8.setCell ⟨g8, 0, none⟩ (.map (some w5.heap.size))).cell? ⟨g5, 0, none⟩ = some (.pointer (some ⟨gh, 0, none⟩)) := (blk_cell h58 0).trans rfl)
      | (go_at_call 14; go_loud (have HB78 := below_set (j := 0) (v := .map (some w5.heap.size)) hb8 hle8.out; have hH8 := hH7.below HB78; have h48 := blk_below h47 HB78; have h88 := blk_put hbox8 0 (.map (some w5.heap.size)) rfl; have hM8 := hM7'.below HB78; have hW8 := hW7.below HB78; have HB8 := Aside0.mk (below_step HB7.out HB78); generalize w8.setCell ⟨g8, 0, none⟩ (.map (some w5.heap.size)) = w9 at hH8 h48 h58 h88 hM8 hW8 HB8 HB78 ⊢; refine (all_calls hH8 hbne (by omega)).mono ?_; rintro e w10 ⟨Bx, vx, rfl, hBx, hbx, hRx, hb10⟩)))
    have hs910 := hb10.size
    have hle4' := hle4.out
    have hs59 : w5.heap.size < w9.heap.size := Nat.lt_of_lt_of_le hM7'.lt HB78.size
    have hs5w : w.heap.size ≤ w5.heap.size := HB5.out.size
    have l4 := blk_lt h48
    have l5 := blk_lt h58
    have l8 := blk_lt h88
    have n5 : g5 ≠ w5.heap.size := hM8.ne h58
    have n4 : g4 ≠ w5.heap.size := hM8.ne h48
    have n8 : g8 ≠ w5.heap.size := hM8.ne h88
    have hM10 := hM8.below hb10
    have HB10 := below_step HB8.out hb10
    have h410 := blk_below h48 hb10
    have h510 := blk_below h58 hb10
    have h810 := blk_below h88 hb10
    have hH10 := hH8.below hb10
    have hW10 := hW8.below hb10
    refine (wpIn_wide (n := 4)).1 ?_
    refine range_lawA (F := Fence.wide) rfl (by omega) (gf := 61) (lb := #[.pointer (some ⟨Bx, 0, none⟩)]) rfl trivial (enters_of Try.func61 (by kernel_rfl) rfl)
      (all_stops 3 (by omega) Bx w9.heap.size vx Q.lines w10 (fun k => w9.heap.size ≤ k ∧ k < w10.heap.size) (fun k hk => hk.2) ⟨hBx, blk_lt hbx⟩ hbx (Kd.R_mono (Kd.R_bound hRx) (fun k hk => ⟨hk.2.1, hk.2.2.1⟩)) (by omega))
      (fun p x s W W' row hs _ _ => hs) (fun h k => h.trans k) (fun W l o o' hl ho _ _ => ⟨by simp, fun k hk hlt => World.putObj_heap_other (by have := hk.2; omega)⟩)
      (fun W o => ⟨by simp, fun k _ hl => Below.heap_alloc W o k hl⟩) (fun _ => rfl)
      (fun pre W => Mp W w5.heap.size (partOf (textsOf Q.lines) pre.length) (pre.length + 1) ∧ Fr (fun k => k = w5.heap.size) w10 W) (fun _ _ _ => False) ?hI (fun _ _ _ _ _ hs _ _ => hs) ⟨hM10, Fr.refl _ _⟩ (fun x g => { tmps := #[Value.slice A0 l0.length c0, Value.slice A1 gs.length c1, undef, undef, Value.pointer (some { block := g4, off := 0 }), Value.pointer (some { block := g5, off := 0 }), Value.int IntKind.i64 0, Value.pointer (some { block := gw, off := 0 }), Value.pointer (some { block := g8, off := 0 }), .int .i64 (x.i : Int), .pointer (some ⟨g, 0, none⟩), undef, undef, undef, undef, undef, undef, undef, undef, undef, undef, undef, undef, Value.tuple #[Value.pointer (some { block := gh, off := 0 }), Value.int IntKind.i64 0], Value.slice A0 l0.length c0, Value.tuple #[Value.pointer (some { block := gh, off := 0 }), Value.int IntKind.i64 0], Value.pointer (some { block := gh, off := 0 }), Value.int IntKind.i64 0, Value.bool true, Value.bool false, Value.int IntKind.i64 0, Value.bool false, undef, undef, undef, undef, undef, undef, Value.tuple #[Value.pointer (some { block := gw, off := 0 }), Value.int IntKind.i64 0], Value.pointer (some { block := gh, off := 0 }), Value.tuple #[Value.pointer (some { block := gw, off := 0 }), Value.int IntKind.i64 0], Value.pointer (some { block := gw, off := 0 }), Value.int IntKind.i64 0, Value.pointer (some { block := gw, off := 0 }), Value.bool false, Value.bool false, Value.int IntKind.i64 0, Value.bool false, Value.bool false, Value.bool false, Value.pointer (some { block := gw, off := 0 }), Value.int IntKind.i64 (Q.lines.length : Int), Value.pointer (some { block := gh, off := 0 }), Value.int IntKind.i64 (Q.lines.length : Int), Value.bool false, Value.bool false, Value.map (some w5.heap.size), Value.pointer (some { block := gh, off := 0 }), Value.int IntKind.i64 (Q.lines.length : Int), Value.map (some w5.heap.size), Value.pointer (some { block := gh, off := 0 }), Value.func (Fn.func 61) #[] #[Value.pointer (some { block := Bx, off := 0 })], .int .i64 (x.i : Int), .agg #[.string x.s.f0, .int .i64 x.s.f1], undef, undef, undef, undef, undef, undef, undef, undef, undef, undef, undef, undef, undef, undef, undef, undef, undef, undef, undef, undef, undef, undef, undef, undef, undef, undef, undef, undef, undef, undef, undef, undef, undef, undef, undef, undef, undef, undef, undef, undef, undef, undef, undef, undef, undef, undef, undef, undef, undef, undef, undef, undef, undef, undef, undef, undef, undef, undef, undef, undef, undef, undef, undef, undef, undef, undef, undef, undef, undef, undef, undef, undef, undef, undef, undef, undef, undef, undef, undef, undef, undef, undef, undef, undef, undef, undef, undef, undef, undef, undef, undef, undef, undef, undef, undef, undef, undef, undef, undef, undef, undef, undef], defers := [] }) (fun x => .cells #[.string x.s.f0, .int .i64 x.s.f1] 36) ?assign ?body ?done ?stop
    case assign =>
      intro l' x W K hK
      simp only [Item.encs, S36.v]
      gi_wp2
      exact hK
    case hI =>
      rintro pre X Y row ⟨j1, j2⟩ hg hr
      exact ⟨j1.kept hg (fun e => by have := (hr _ e.symm).1; omega), j2.trans (Fr.of_grown (N := fun k => row = some k) hg (fun k e => e)) (fun i hi e => by have := (hr _ e).1; omega)⟩
    case body =>
      rintro l' pre x g W ⟨j1, j2⟩ ⟨hxi, hget⟩ hgw hbx2
      have hb8W := j2.blk h810 n8
      have hk8W : W.cell? ⟨g8, 0, none⟩ = some (.map (some w5.heap.size)) := (blk_cell hb8W 0).trans rfl
      have hkx0 : W.cell? ⟨g, 0, none⟩ = some (.string x.s.f0) := (blk_cell hbx2 0).trans rfl
      obtain ⟨hxl, hxs⟩ := List.getElem?_eq_some_iff.1 hget
      have hTx : (textsOf Q.lines)[x.i]'(by rw [hTl]; exact hxl) = x.s.f0 := by simp [textsOf, hxs]
      have hsx := HSZ.out x.s (hxs ▸ List.getElem_mem hxl)
      obtain ⟨W1, hst, hM1, hg1⟩ := j1.store (i := (x.i : Int)) (WalkArith.wf_i64 (by omega)) (s := x.s.f0) (by omega) (by omega)
      rw [← hxi, partOf_none_at _ _ (by rw [hTl]; exact hxl)] at hM1
      rw [← hTx, partOf_step _ _ (by rw [hTl]; exact hxl)] at hM1
      simp only [Bool.false_eq_true, if_false] at hM1
      have HM1 := Aside0.mk hM1
      have HX := Aside0.mk hxi
      clear hM1 hxi hTx hget hxs
      gi_wp2
      refine ⟨KeepsFrom.of_grownBy hg1 (fun k e => by cases e; omega), ⟨hg1.size, fun k hk hl => hg1.block k hl (fun e => by cases e; have := hk.1; omega)⟩, ?_⟩
      dsimp only
      rw [List.length_append, List.length_singleton, ← HX.out]
      exact ⟨HM1.out, j2.trans (Fr.of_grown (N := fun k => k = w5.heap.size) hg1 (fun k e => by cases e; rfl)) (fun _ _ h => h)⟩
    case done =>
      rintro D1 xs W hD1 hxs ⟨j1, j2⟩ hK1
      have hxs' : xs.length = Q.lines.length := hxs
      rw [hxs', ← hTl, partOf_all] at j1
      have l10 : w10.heap.size ≤ W.heap.size := j2.size
      have hB := HB10.trans (j2.below (B := w.heap.size) (fun k h => by omega) (by have := HB10.size; omega))
      have h4W := j2.blk h410 n4
      have h5W := j2.blk h510 n5
      have h8W := j2.blk h810 n8
      have lgh := blk_lt hH5.box
      have lgw := blk_lt hW5.box
      have hHW := hH10.fr j2 (by omega) (fun k hk h => by have := Kd.R_lt hH5.row k hk.symm; omega)
      have hWW := hW10.fr j2 (by omega) (fun k hk h => by have := Kd.R_lt hW5.was k hk.symm; omega) (fun k hk h => by have := Kd.R_lt hW5.now k hk.symm; omega)
      have lu1 : ∀ k, some k = u1.ownBlock → w4.heap.size ≤ k ∧ k < w5.heap.size := fun k hk => ⟨Kd.R_base hW5.was k hk.symm, Kd.R_lt hW5.was k hk.symm⟩
      have lu2 : ∀ k, some k = u2.ownBlock → w4.heap.size ≤ k ∧ k < w5.heap.size := fun k hk => ⟨Kd.R_base hW5.now k hk.symm, Kd.R_lt hW5.now k hk.symm⟩
      have s45 := hb5.size
      have lvh : ∀ k, some k = vh.ownBlock → k < w4.heap.size := fun k hk => Kd.R_lt hH4.row k hk.symm
      have lgh4 := blk_lt hH4.box
      have l54 := blk_lt h54
      have l44 := blk_lt h44
      have hw4w := HB4.out.size
      have l8lo : w5.heap.size ≤ g8 := by have := hle8.out; have := hb57.size; omega
      clear hW10 hH10 h410 h510 h810 HB10 hM10 hbox4 hb1' hle4 HB1 hH2 hb2 HB2 hbox42 hbox5 hb3 hle5 HB3 hbox43 hH3 hk5 hf5 hb4 b5s h44 h54 hH4 HB4 hk54 hW5 hb5 h45 h55 hH5 HB5 hk55 LC PC hg7 hal hb57 hk5n h47 h57 hH7 hW7 HB7 LC7 hM7' hbox8 hb8 hle8 hk8 hf8 h58 hk5s HB78 hH8 h48 h88 hM8 hW8 HB8 hbx hRx hb10 hst'
      go_wp2
      go_loopw [70] (fun i wr => ∃ (j : Nat) (q : Wk), i = .int .i64 (j : Int) ∧ j ≤ gs.length ∧ WL wr w4.heap.size gw u1 u2 q ∧ q.was = textsOf Q.lines ∧ q.now.length = Q.lines.length + 1 ∧ q.place < q.now.length ∧ Mp wr w5.heap.size (mapOf q.now) (Q.lines.length + 1) ∧ Fr (fun k => k = w5.heap.size ∨ k = gw ∨ some k = u2.ownBlock) W wr)
        (fun i wr => gs.length - (intOf i).toNat)
      case atStart => exact ⟨0, ⟨textsOf Q.lines, textsOf Q.lines ++ [⟨#[]⟩], Q.lines.length⟩, rfl, by omega, hWW, rfl, by simp [hTl], by simp [hTl], hTl ▸ j1, Fr.refl _ _⟩
      case round =>
        obtain ⟨j, q, rfl, hj, hW, hqw, hqn, hqp, hM, hF⟩ := hrel
        have hbel := hB.trans (hF.below (B := w.heap.size) (fun k h => by rcases h with h | h | h; · omega
                                                                          · omega
                                                                          · have := lu2 k h; omega) (by have := hB.size; omega))
        by_cases hlt : j < gs.length
        · have hk7 : (Lit.int .i64 (rd_T106 gs (j : Int)).f0).wf = true := by
            have : rd_T106 gs (j : Int) = gs[j] := by simp [rd_T106, List.getD, List.getElem?_eq_getElem hlt]
            rw [this]
            exact hg1 _ (List.getElem_mem hlt)
          obtain ⟨ad, e8, hz0, hz1⟩ := at_T106 (Kd.C_below hr1 hbel) (j : Int) (by omega) (by omega)
          rw [Int.toNat_natCast] at hz0 hz1
          subst e8
          generalize rd_T106 gs (j : Int) = x at hz0 hz1 hk7
          have h8r := hF.blk h8W (fun h => by rcases h with h | h | h; · exact n8 h
                                              · omega
                                              · have := lu2 _ h; omega)
          have lwr := hF.size
          have l8W := blk_lt h8W
          have PC := Aside0.mk (fun (w' : World) (hb : Below wr.heap.size wr w') => place_calls (hW.below hb) (by omega))
          have TC := fun (w' : World) (hb : Below wr.heap.size wr w') => to_any (hW.below hb) hqp x.f0 x.f1
          have hcase : (∃ r : Int, (r = 6 ∨ r = 3) ∧ ansTo q x.f0 x.f1 = (⟨#[]⟩, r, q)) ∨ (∃ i : Nat, x.f0 = (i : Int) ∧ i < q.now.length ∧ x.f1.size ≤ 16384 ∧ ansTo q x.f0 x.f1 = ((q.now.set q.place x.f1).getD i ⟨#[]⟩, 0, q.to i x.f1)) := by
            unfold ansTo
            split
            · exact .inl ⟨6, .inl rfl, rfl⟩
            · split
              · exact .inl ⟨3, .inr rfl, rfl⟩
              · exact .inr ⟨x.f0.toNat, by omega, by omega, by omega, rfl⟩
          rcases hcase with ⟨r, hr, ha⟩ | ⟨i, hi, hil, hsz, ha⟩
          · rw [ha] at TC
            have TC' := Aside0.mk TC
            clear TC ha
            rcases hr with rfl | rfl
            all_goals
              go_wp2_with (first
                | ((with_reducible refine gate_dst (N := 12) rfl ?_); refine box_event ?hg (N := 12) ?hd (cs := #[.int .i64 0, .string ⟨#[]⟩]) (t := 47) ?hr ?_; (case hd => rfl); (case hg => rfl); (case hr => first | (go_simp; done) | (go_simp; rfl)); intro g12 hg v1 hb12 hb1; have hl12 := Aside0.mk (Nat.le_of_eq hg.symm); clear hg; have hk12 : v1.cell? ⟨g12, 0, none⟩ = some (.int .i64 0) := (blk_cell hb12 0).trans rfl; have hk12b : v1.cell? ⟨g12, 1, none⟩ = some (.string ⟨#[]⟩) := (blk_cell hb12 1).trans rfl; have hf12 := blk_frozen hb12 0; have hf12b := blk_frozen hb12 1; have hbz := Aside0.mk (blk_put (blk_put hb12 0 (.int .i64 x.f0) rfl) 1 (.string x.f1) rfl); have hBz := Aside0.mk (below_set (j := 1) (v := .string x.f1) (below_set (j := 0) (v := .int .i64 x.f0) hb1 hl12.out) hl12.out))
                | (go_at_call 18; refine (PC.out _ hBz.out).mono ?_; rintro e w' ⟨rfl, rfl⟩)
                | (go_at_call 19; go_loud (refine (TC'.out _ hBz.out).mono ?_; rintro e w2 ⟨rfl, hW2, hF2⟩; have PC2 := Aside0.mk (place_calls hW2 (by omega))))
                | (go_at_call 18; refine PC2.out.mono ?_; rintro e w' ⟨rfl, rfl⟩))
              have hM2 := (hM.below hBz.out).same (hF2.block _ (Nat.lt_of_lt_of_le hM.lt hBz.out.size) (fun h => h.elim (fun e => by omega) (fun e => by have := lu2 _ e; omega)))
              refine ⟨⟨j + 1, q, rfl, by omega, hW2, hqw, hqn, hqp, hM2, (hF.trans (Fr.of_below (N := fun k => k = w5.heap.size ∨ k = gw ∨ some k = u2.ownBlock) hBz.out) (fun _ _ h => h)).trans hF2 (fun _ _ h => .inr h)⟩, ?_⟩
              simp only [intOf]
              omega
          · rw [ha] at TC
            have TC' := Aside0.mk TC
            have hil' : i < (q.now.set q.place x.f1).length := by simpa using hil
            have haa : ((q.now.set q.place x.f1).getD i ⟨#[]⟩ == (q.now.set q.place x.f1).getD i ⟨#[]⟩) = true := by rw [beq_toListBytes]; simp
            have hgd := mapOf_getD (q.now.set q.place x.f1) i hil'
            have hgd2 : (q.now.set q.place x.f1).getD i ⟨#[]⟩ = (q.now.set q.place x.f1)[i] := by simp only [List.getD, List.getElem?_eq_getElem hil', Option.getD_some]
            rw [← hgd2, ← hi] at hgd
            have HGD := Aside0.mk hgd
            have HI := Aside0.mk hi
            have hqt : (q.to i x.f1).now = q.now.set q.place x.f1 := rfl
            have hqt2 : ((q.to i x.f1).place : Int) = x.f0 := hi.symm
            have HPL := Aside0.mk hqt2
            clear TC ha hgd hgd2 hi hqt2
            generalize (q.now.set q.place x.f1).getD i ⟨#[]⟩ = a at TC' haa HGD
            go_wp2_with (first
              | ((with_reducible refine gate_dst (N := 12) rfl ?_); refine box_event ?hg (N := 12) ?hd (cs := #[.int .i64 0, .string ⟨#[]⟩]) (t := 47) ?hr ?_; (case hd => rfl); (case hg => rfl); (case hr => first | (go_simp; done) | (go_simp; rfl)); intro g12 hg v1 hb12 hb1; have hl12 := Aside0.mk (Nat.le_of_eq hg.symm); clear hg; have hk12 : v1.cell? ⟨g12, 0, none⟩ = some (.int .i64 0) := (blk_cell hb12 0).trans rfl; have hk12b : v1.cell? ⟨g12, 1, none⟩ = some (.string ⟨#[]⟩) := (blk_cell hb12 1).trans rfl; have hf12 := blk_frozen hb12 0; have hf12b := blk_frozen hb12 1; have hbz := Aside0.mk (blk_put (blk_put hb12 0 (.int .i64 x.f0) rfl) 1 (.string x.f1) rfl); have hBz := Aside0.mk (below_set (j := 1) (v := .string x.f1) (below_set (j := 0) (v := .int .i64 x.f0) hb1 hl12.out) hl12.out))
              | (go_at_call 18; refine (PC.out _ hBz.out).mono ?_; rintro e w' ⟨rfl, rfl⟩)
              | (go_at_call 19; go_loud (refine (TC'.out _ hBz.out).mono ?_; rintro e w2 ⟨rfl, hW2, hF2⟩; have hM2 := (hM.below hBz.out).same (hF2.block _ (Nat.lt_of_lt_of_le hM.lt hBz.out.size) (fun h => h.elim (fun e => by omega) (fun e => by have := lu2 _ e; omega))); have hb2 := hF2.blk hbz.out (fun h => h.elim (fun e => by have := hl12.out; omega) (fun e => by have := hl12.out; have := lu2 _ e; omega)); have h82 := hF2.blk (blk_below h8r hBz.out) (fun h => h.elim (fun e => by omega) (fun e => by have := lu2 _ e; omega)); have hk82 : w2.cell? ⟨g8, 0, none⟩ = some (.map (some w5.heap.size)) := (blk_cell h82 0).trans rfl; have hk20 : w2.cell? ⟨g12, 0, none⟩ = some (.int .i64 x.f0) := (blk_cell hb2 0).trans rfl; have hk21 : w2.cell? ⟨g12, 1, none⟩ = some (.string x.f1) := (blk_cell hb2 1).trans rfl; obtain ⟨w3, hst, hM3, hg3⟩ := hM2.store (i := (q.place : Int)) (WalkArith.wf_i64 (by omega)) (s := x.f1) (by omega) (by omega); rw [mapOf_some _ _ hqp, mapOf_set _ _ hqp] at hM3; simp only [if_true] at hM3; have hW3 := hW2.fr (Fr.of_grown (N := fun k => k = w5.heap.size) hg3 (fun k e => by cases e; rfl)) (by omega) (fun k hk h => by have := lu1 k hk; omega) (fun k hk h => by have := lu2 k hk; omega); have hk83 : w3.cell? ⟨g8, 0, none⟩ = some (.map (some w5.heap.size)) := (blk_cell (blk_grown h82 hg3 (fun e => n8 (by cases e; rfl))) 0).trans rfl; have hb3 := blk_grown hb2 hg3 (fun e => by cases e; have := hl12.out; omega); have hk30 : w3.cell? ⟨g12, 0, none⟩ = some (.int .i64 x.f0) := (blk_cell hb3 0).trans rfl)))
            have HLK := Aside0.mk (fun n => by have h := (hM3.drewN n).look hk7; rw [HGD.out] at h; exact h : ∀ n, (Instr.lookup 45 (.map (some w5.heap.size)) (.int .i64 x.f0) false).run Try.prog (w3.drewN n) = .ok (.string a) (w3.drewN n))
            have PC3 := Aside0.mk (fun n => by have h := quiet_w (place_calls (hW3.drewN n) (by rw [hqt, List.length_set]; omega)); rw [HPL.out] at h; exact h)
            have hlk := HLK.out
            go_quiet ((go_at_call 18; exact PC3.out _))
            go_wp2
            go_roundw
            case rel => exact ⟨j + 1, q.to i x.f1, by simp, by omega, hW3.drewN _, hqw, by rw [hqt, List.length_set]; exact hqn, by rw [hqt, List.length_set]; exact hil, hM3.drewN _, (((hF.trans (Fr.of_below (N := fun k => k = w5.heap.size ∨ k = gw ∨ some k = u2.ownBlock) hBz.out) (fun _ _ h => h)).trans hF2 (fun _ _ h => .inr h)).trans (Fr.of_grown (N := fun k => k = w5.heap.size) hg3 (fun k e => by cases e; rfl)) (fun _ _ h => .inl h)).drewN _⟩
            case measure => simp [intOf]; omega
        · obtain rfl : j = gs.length := by omega
          have nF : ∀ k, k < w10.heap.size → k ≠ w5.heap.size → (k < w4.heap.size ∨ w5.heap.size ≤ k) → ¬ (k = w5.heap.size ∨ k = gw ∨ some k = u2.ownBlock) := fun k h1 h2 h3 h => by
            rcases h with h | h | h
            · exact h2 h
            · omega
            · have := lu2 _ h
              omega
          have h4V := hF.blk h4W (nF _ (by omega) n4 (by omega))
          have h5V := hF.blk h5W (nF _ (by omega) n5 (by omega))
          have h8V := hF.blk h8W (nF _ (by omega) n8 (by omega))
          have hHV := hHW.fr hF (nF _ (by omega) (by omega) (by omega)) (fun k hk => nF _ (by have := lvh k hk; omega) (by have := lvh k hk; omega) (by have := lvh k hk; omega))
          have hD1V := hF.blk hK1 (fun h => by
            rcases h with h | h | h
            · omega
            · omega
            · have := lu2 _ h
              omega)
          have hk5V : wr.cell? ⟨g5, 0, none⟩ = some (.pointer (some ⟨gh, 0, none⟩)) := (blk_cell h5V 0).trans rfl
          have hwV := hF.size
          clear nF hF hHW hWW h4W h5W h8W hK1 j2 j1
          have HBV := Aside0.mk hbel
          clear hbel
          go_wp2_with (first
            | ((with_reducible refine gate_dst (N := 16) rfl ?_); refine box_event ?hg (N := 16) ?hd (cs := #[.int .i64 0]) (t := 3) ?hr ?_; (case hd => rfl); (case hg => rfl); (case hr => first | (go_simp; done) | (go_simp; rfl)); intro g16 hg v1 hb16 hb1; have hl16 := Aside0.mk (Nat.le_of_eq hg.symm); clear hg; have hk16 : v1.cell? ⟨g16, 0, none⟩ = some (.int .i64 0) := (blk_cell hb16 0).trans rfl; have hf16 := blk_frozen hb16 0; have hBz := Aside0.mk (below_set (j := 0) (v := .int .i64 0) hb1 hl16.out); have hbz := Aside0.mk (blk_put hb16 0 (.int .i64 0) rfl); have hk5z : (v1.setCell ⟨g16, 0, none⟩ (.int .i64 0)).cell? ⟨g5, 0, none⟩ = some (.pointer (some ⟨gh, 0, none⟩)) := (blk_cell (blk_below h5V hBz.out) 0).trans rfl)
            | (go_at_call 14; go_loud (refine (all_calls (hHV.below hBz.out) hbne (by omega)).mono ?_; rintro e v3 ⟨By, vy, rfl, hBy, hby, hRy, hb3⟩)))
          have hbelz := below_step HBV.out hBz.out
          have sVz := hBz.out.size
          have s3z := hb3.size
          have HB3 := below_step hbelz hb3
          have HV3 := below_step hBz.out hb3
          have lg16 := blk_lt hbz.out
          have l16' := hl16.out
          have h163 := blk_below hbz.out hb3
          have lM := hM.lt
          generalize v1.setCell ⟨g16, 0, none⟩ (.int .i64 0) = v2 at hb3 hbelz HB3 HV3 h163 sVz s3z hBy hRy lg16 hBz hbz hk5z ⊢
          refine (wpIn_wide (n := 4)).1 ?_
          refine range_lawA (F := Fence.wide) rfl (by omega) (gf := 61) (lb := #[.pointer (some ⟨By, 0, none⟩)]) rfl trivial (enters_of Try.func61 (by kernel_rfl) rfl)
            (all_stops 3 (by omega) By v2.heap.size vy Q.lines v3 (fun k => v2.heap.size ≤ k ∧ k < v3.heap.size) (fun k hk => hk.2) ⟨hBy, blk_lt hby⟩ hby (Kd.R_mono (Kd.R_bound hRy) (fun k hk => ⟨hk.2.1, hk.2.2.1⟩)) (by omega))
            (fun p x s W W' row hs _ _ => hs) (fun h k => h.trans k) (fun W l o o' hl ho _ _ => ⟨by simp, fun k hk hlt => World.putObj_heap_other (by have := hk.2; omega)⟩)
            (fun W o => ⟨by simp, fun k _ hl => Below.heap_alloc W o k hl⟩) (fun _ => rfl)
            (fun pre X => X.heap[g16]? = some (.cells #[.int .i64 ((chgs q.was q.now pre.length).length : Int)] 3 (0, 0)) ∧ Fr (fun k => k = g16) v3 X) (fun _ _ _ => False) ?hI2 (fun _ _ _ _ _ hs _ _ => hs) ⟨h163, Fr.refl _ _⟩ (fun x g => { tmps := #[Value.slice A0 l0.length c0, Value.slice A1 gs.length c1, undef, undef, Value.pointer (some { block := g4, off := 0 }), Value.pointer (some { block := g5, off := 0 }), Value.int IntKind.i64 0, Value.pointer (some { block := gw, off := 0 }), Value.pointer (some { block := g8, off := 0 }), undef, undef, undef, u12, u13, u14, u15, Value.pointer (some { block := g16, off := 0 }), .int .i64 (x.i : Int), .pointer (some ⟨g, 0, none⟩), undef, undef, undef, undef, Value.tuple #[Value.pointer (some { block := gh, off := 0 }), Value.int IntKind.i64 0], Value.slice A0 l0.length c0, Value.tuple #[Value.pointer (some { block := gh, off := 0 }), Value.int IntKind.i64 0], Value.pointer (some { block := gh, off := 0 }), Value.int IntKind.i64 0, Value.bool true, Value.bool false, Value.int IntKind.i64 0, Value.bool false, undef, undef, undef, undef, undef, undef, Value.tuple #[Value.pointer (some { block := gw, off := 0 }), Value.int IntKind.i64 0], Value.pointer (some { block := gh, off := 0 }), Value.tuple #[Value.pointer (some { block := gw, off := 0 }), Value.int IntKind.i64 0], Value.pointer (some { block := gw, off := 0 }), Value.int IntKind.i64 0, Value.pointer (some { block := gw, off := 0 }), Value.bool false, Value.bool false, Value.int IntKind.i64 0, Value.bool false, Value.bool false, Value.bool false, Value.pointer (some { block := gw, off := 0 }), Value.int IntKind.i64 (Q.lines.length : Int), Value.pointer (some { block := gh, off := 0 }), Value.int IntKind.i64 (Q.lines.length : Int), Value.bool false, Value.bool false, Value.map (some w5.heap.size), Value.pointer (some { block := gh, off := 0 }), Value.int IntKind.i64 (Q.lines.length : Int), Value.map (some w5.heap.size), Value.pointer (some { block := gh, off := 0 }), Value.func (Fn.func 61) #[] #[Value.pointer (some { block := Bx, off := 0 })], undef, undef, undef, undef, undef, undef, Value.slice A1 gs.length c1, Value.int IntKind.i64 (gs.length : Int), Value.int IntKind.i64 (gs.length : Int), Value.bool false, u72, u73, u74, u75, u76, u77, u78, u79, u80, u81, u82, u83, u84, u85, u86, u87, u88, u89, u90, u91, u92, u93, u94, u95, u96, u97, u98, u99, u100, u101, u102, u103, u104, u105, u106, u107, u108, u109, u110, u111, u112, u113, u114, u115, u116, Value.pointer (some { block := gh, off := 0 }), Value.func (Fn.func 61) #[] #[Value.pointer (some { block := By, off := 0 })], .int .i64 (x.i : Int), .agg #[.string x.s.f0, .int .i64 x.s.f1], undef, undef, undef, undef, undef, undef, undef, undef, undef, undef, undef, undef, undef, undef, undef, undef, undef, undef, undef, undef, undef, undef, undef, undef, undef, undef, undef, undef, undef, undef, undef, undef, undef, undef, undef, undef, undef, undef, undef, undef, undef, undef, undef, undef, undef], defers := [] }) (fun x => .cells #[.string x.s.f0, .int .i64 x.s.f1] 36) ?assign2 ?body2 ?done2 ?stop2
          case assign2 =>
            intro l' x W K hK
            simp only [Item.encs, S36.v]
            gi_wp2
            exact hK
          case hI2 =>
            rintro pre X Y row ⟨j1, j2⟩ hg hr
            exact ⟨(hg.block _ (blk_lt j1) (fun e => by have := (hr _ e.symm).1; omega)).trans j1, j2.trans (Fr.of_grown (N := fun k => row = some k) hg (fun k e => e)) (fun i hi e => by have := (hr _ e).1; omega)⟩
          case body2 =>
            rintro l' pre x g X ⟨j1, j2⟩ ⟨hxi, hget⟩ hgw hbx2
            have h83 := j2.blk (blk_below h8V HV3) (by omega)
            have hk8X : X.cell? ⟨g8, 0, none⟩ = some (.map (some w5.heap.size)) := (blk_cell h83 0).trans rfl
            have hkx0 : X.cell? ⟨g, 0, none⟩ = some (.string x.s.f0) := (blk_cell hbx2 0).trans rfl
            have hk16X : X.cell? ⟨g16, 0, none⟩ = some (.int .i64 ((chgs q.was q.now pre.length).length : Int)) := (blk_cell j1 0).trans rfl
            have hf16X := blk_frozen j1 0
            obtain ⟨hxl, hxs⟩ := List.getElem?_eq_some_iff.1 hget
            have hTx : (textsOf Q.lines)[x.i]'(by rw [hTl]; exact hxl) = x.s.f0 := by simp [textsOf, hxs]
            have hMX := (hM.below HV3).same (j2.block _ (by omega) (by omega))
            have hxn : x.i < q.now.length := by omega
            have hlk := hMX.look (i := (x.i : Int)) (WalkArith.wf_i64 (by omega))
            rw [mapOf_getD _ _ hxn] at hlk
            have hch : chgs q.was q.now (x.i + 1) = if q.now[x.i] = x.s.f0 then chgs q.was q.now x.i else chgs q.was q.now x.i ++ [(x.i, q.now[x.i])] := by
              rw [chgs, ← hTx]
              have e1 : q.was.getD x.i ⟨#[]⟩ = (textsOf Q.lines)[x.i]'(by rw [hTl]; exact hxl) := by simp only [hqw, List.getD, List.getElem?_eq_getElem (show x.i < (textsOf Q.lines).length by rw [hTl]; exact hxl), Option.getD_some]
              have e2 : q.now.getD x.i ⟨#[]⟩ = q.now[x.i] := by simp only [List.getD, List.getElem?_eq_getElem hxn, Option.getD_some]
              rw [e1, e2]
            have hcl := chgs_len q.was q.now x.i
            have hteq := teq x.s.f0 q.now[x.i]
            generalize q.now[x.i] = y at hlk hch hteq
            have HX := Aside0.mk hxi
            rw [← hxi] at j1 hk16X
            have KF : ∀ (X' : World), X' = X ∨ X' = X.setCell ⟨g16, 0, none⟩ (.int .i64 ((chgs q.was q.now x.i).length + 1)) → KeepsFrom v3.heap.size X X' ∧ KeepIn (fun k => v2.heap.size ≤ k ∧ k < v3.heap.size) X X' ∧ Fr (fun k => k = g16) v3 X' := by
              rintro X' (rfl | rfl)
              · exact ⟨KeepsFrom.refl _ _, KeepIn.refl _ _, j2⟩
              · have hl3 : g16 < v3.heap.size := by omega
                refine ⟨⟨by rw [World.size_setCell]; exact Nat.le_refl _, fun k o hk ho _ => (Below.heap_setCell X ⟨g16, 0, none⟩ _ k (by show k ≠ g16; omega)).trans ho⟩, ⟨by rw [World.size_setCell]; exact Nat.le_refl _, fun k hk _ => Below.heap_setCell X ⟨g16, 0, none⟩ _ k (by have := hk.1; show k ≠ g16; omega)⟩, j2.set (p := ⟨g16, 0, none⟩) (.inl rfl) _⟩
            have KF' := Aside0.mk KF
            clear KF hxi hget hxs hTx
            by_cases hxy : y = x.s.f0
            · rw [if_pos hxy] at hch
              rw [decide_eq_true hxy.symm] at hteq
              have HC := Aside0.mk hch
              clear hch hxy
              gi_wp2
              refine ⟨(KF'.out _ (.inl rfl)).1, (KF'.out _ (.inl rfl)).2.1, ?_⟩
              dsimp only
              rw [List.length_append, List.length_singleton, ← HX.out, HC.out]
              exact ⟨j1, (KF'.out _ (.inl rfl)).2.2⟩
            · rw [if_neg hxy] at hch
              rw [decide_eq_false (fun h => hxy h.symm)] at hteq
              have HC := Aside0.mk hch
              clear hch hxy
              generalize hcc : (chgs q.was q.now x.i).length = n at *
              gi_wp2
              have h16n := blk_put j1 0 (.int .i64 ((n : Int) + 1)) rfl
              refine ⟨(KF'.out _ (.inr rfl)).1, (KF'.out _ (.inr rfl)).2.1, ?_⟩
              dsimp only
              rw [List.length_append, List.length_singleton, ← HX.out, HC.out, List.length_append, List.length_singleton, hcc]
              exact ⟨by simpa using h16n, (KF'.out _ (.inr rfl)).2.2⟩
          case done2 =>
            rintro D2 xs X hD2 hxs ⟨j1, j2⟩ hK2
            have hxs' : xs.length = Q.lines.length := hxs
            have hqwl : q.was.length = Q.lines.length := by rw [hqw, hTl]
            rw [hxs', ← hqwl] at j1
            have nX : ∀ k, k < wr.heap.size → ¬ (k = g16) := fun k h => by omega
            have h4X := j2.blk (blk_below h4V HV3) (nX _ (blk_lt h4V))
            have h5X := j2.blk (blk_below h5V HV3) (nX _ (blk_lt h5V))
            have h8X := j2.blk (blk_below h8V HV3) (nX _ (blk_lt h8V))
            have lghV := blk_lt hHV.box
            have hHX := (hHV.below HV3).fr j2 (nX _ lghV) (fun k hk => nX _ (Kd.R_lt hHV.row k hk.symm))
            have hWX := (hW.below HV3).fr j2 (nX _ (blk_lt hW.box)) (fun k hk => nX _ (Kd.R_lt hW.was k hk.symm)) (fun k hk => nX _ (Kd.R_lt hW.now k hk.symm))
            have hMX := (hM.below HV3).same (j2.block _ (by omega) (nX _ lM))
            have hD1X := j2.blk (blk_below hD1V HV3) (nX _ (blk_lt hD1V))
            have hlX := j2.size
            have HBX := Aside0.mk (HB3.trans (j2.below (B := w.heap.size) (fun k h => by have := HBV.out.size; omega) (by have := HB3.size; omega)))
            have hk5X : X.cell? ⟨g5, 0, none⟩ = some (.pointer (some ⟨gh, 0, none⟩)) := (blk_cell h5X 0).trans rfl
            have lD1V := blk_lt hD1V
            have CHC := Aside0.mk (changed_calls hWX (by rw [hqn, hqwl]) (by omega))
            have hcsl := chgs_len q.was q.now q.was.length
            have hcsm := chgs_mem q.was q.now q.was.length
            generalize chgs q.was q.now q.was.length = cs at j1 CHC hcsl hcsm
            have HCM := Aside0.mk hcsm
            clear hcsm hb16 hb1 hk16 hf16 hbz hk5z hHV hW hM hD1V h4V h5V h8V h163 hby hRy hBy hb3 hk5V HB3 HV3 hBz hbelz HBV hxs hxs'
            go_wp2_with (go_at_call 20; go_loud (refine CHC.out.mono ?_; rintro e v4 ⟨C1, C2, vp, vt, rfl, hC1, hC2, hp1, hp2, hRp, hRt, hb4⟩))
            have hsX4 := hb4.size
            have lg16X := blk_lt j1
            have h164 := blk_below j1 hb4
            have lD2X := blk_lt hK2
            have lghX := blk_lt hHX.box
            have l8X := blk_lt h8X
            have l4X := blk_lt h4X
            have l5X := blk_lt h5X
            refine (wpIn_wide (n := 4)).1 ?_
            refine range_law (F := Fence.wide) rfl (by omega) (gf := 49) (lb := #[.pointer (some ⟨C1, 0, none⟩), .pointer (some ⟨C2, 0, none⟩)]) rfl trivial (enters_of Try.func49 (by kernel_rfl) rfl)
              (changed_stops 3 (by omega) C1 C2 X.heap.size vp vt cs v4 (fun k => X.heap.size ≤ k ∧ k < v4.heap.size) (fun k hk => hk.2) ⟨hC1, blk_lt hp1⟩ ⟨hC2, blk_lt hp2⟩ hp1 hp2 (Kd.R_mono (Kd.R_bound hRp) (fun k hk => ⟨hk.2.1, hk.2.2.1⟩)) (Kd.R_mono (Kd.R_bound hRt) (fun k hk => ⟨hk.2.1, hk.2.2.1⟩)) (by omega))
              (fun p x s W W' row hs _ _ => hs) (fun h k => h.trans k) (fun W l o o' hl ho _ _ => ⟨by simp, fun k hk hlt => World.putObj_heap_other (by have := hk.2; omega)⟩) (fun _ => rfl)
              (fun pre Y => Y.heap[g16]? = some (.cells #[.int .i64 ((cs.length : Int) - (pre.length : Int))] 3 (0, 0)) ∧ Fr (fun k => k = g16) v4 Y) (fun _ _ _ => False) ?hI3 (fun _ _ _ _ _ hs _ _ => hs) ⟨by simpa using h164, Fr.refl _ _⟩ (fun x => { tmps := #[Value.slice A0 l0.length c0, Value.slice A1 gs.length c1, undef, undef, Value.pointer (some { block := g4, off := 0 }), Value.pointer (some { block := g5, off := 0 }), Value.int IntKind.i64 0, Value.pointer (some { block := gw, off := 0 }), Value.pointer (some { block := g8, off := 0 }), undef, undef, undef, u12, u13, u14, u15, Value.pointer (some { block := g16, off := 0 }), undef, undef, .int .i64 (x.1 : Int), .string x.2, undef, undef, Value.tuple #[Value.pointer (some { block := gh, off := 0 }), Value.int IntKind.i64 0], Value.slice A0 l0.length c0, Value.tuple #[Value.pointer (some { block := gh, off := 0 }), Value.int IntKind.i64 0], Value.pointer (some { block := gh, off := 0 }), Value.int IntKind.i64 0, Value.bool true, Value.bool false, Value.int IntKind.i64 0, Value.bool false, undef, undef, undef, undef, undef, undef, Value.tuple #[Value.pointer (some { block := gw, off := 0 }), Value.int IntKind.i64 0], Value.pointer (some { block := gh, off := 0 }), Value.tuple #[Value.pointer (some { block := gw, off := 0 }), Value.int IntKind.i64 0], Value.pointer (some { block := gw, off := 0 }), Value.int IntKind.i64 0, Value.pointer (some { block := gw, off := 0 }), Value.bool false, Value.bool false, Value.int IntKind.i64 0, Value.bool false, Value.bool false, Value.bool false, Value.pointer (some { block := gw, off := 0 }), Value.int IntKind.i64 (Q.lines.length : Int), Value.pointer (some { block := gh, off := 0 }), Value.int IntKind.i64 (Q.lines.length : Int), Value.bool false, Value.bool false, Value.map (some w5.heap.size), Value.pointer (some { block := gh, off := 0 }), Value.int IntKind.i64 (Q.lines.length : Int), Value.map (some w5.heap.size), Value.pointer (some { block := gh, off := 0 }), Value.func (Fn.func 61) #[] #[Value.pointer (some { block := Bx, off := 0 })], undef, undef, undef, undef, undef, undef, Value.slice A1 gs.length c1, Value.int IntKind.i64 (gs.length : Int), Value.int IntKind.i64 (gs.length : Int), Value.bool false, u72, u73, u74, u75, u76, u77, u78, u79, u80, u81, u82, u83, u84, u85, u86, u87, u88, u89, u90, u91, u92, u93, u94, u95, u96, u97, u98, u99, u100, u101, u102, u103, u104, u105, u106, u107, u108, u109, u110, u111, u112, u113, u114, u115, u116, Value.pointer (some { block := gh, off := 0 }), Value.func (Fn.func 61) #[] #[Value.pointer (some { block := By, off := 0 })], undef, undef, undef, undef, undef, undef, undef, undef, undef, undef, Value.pointer (some { block := gw, off := 0 }), Value.func (Fn.func 49) #[] #[Value.pointer (some { block := C1, off := 0 }), Value.pointer (some { block := C2, off := 0 })], .int .i64 (x.1 : Int), .string x.2, undef, undef, undef, undef, undef, undef, undef, undef, undef, undef, undef, undef, undef, undef, undef, undef, undef, undef, undef, undef, undef, undef, undef, undef, undef, undef, undef, undef, undef, undef, undef, undef, undef], defers := [] }) ?assign3 ?body3 ?done3 ?stop3
            case assign3 =>
              intro l' x W K hK
              simp only [encC]
              gi_wp2
              exact hK
            case hI3 =>
              rintro pre X1 Y row ⟨j1, j2⟩ hg hr
              exact ⟨(hg.block _ (blk_lt j1) (fun e => by have := (hr _ e.symm).1; omega)).trans j1, j2.trans (Fr.of_grown (N := fun k => row = some k) hg (fun k e => e)) (fun i hi e => by have := (hr _ e).1; omega)⟩
            case body3 =>
              rintro l' pre x Y ⟨k1, k2⟩ hget
              have hget' : cs[pre.length]? = some x := hget
              obtain ⟨hpl, hpx⟩ := List.getElem?_eq_some_iff.1 hget'
              obtain ⟨hx1, hx2, hx3⟩ := HCM.out x (hpx ▸ List.getElem_mem hpl)
              have hxN : x.1 < Q.lines.length := by omega
              have hxn : x.1 < q.now.length := by omega
              have nY : ∀ k, k < X.heap.size → k ≠ g16 → ¬ (k = g16) := fun k _ h => h
              have h5Y := k2.blk (blk_below h5X hb4) (by omega)
              have h8Y := k2.blk (blk_below h8X hb4) (by omega)
              have hHY := (hHX.below hb4).fr k2 (by have := blk_lt hHX.box; intro e; subst e; exact absurd hHX.box (by rw [j1]; simp)) (fun k hk e => by subst e; exact Kd.R_ne hHX.row j1 (by decide) hk)
              have hMY := (hMX.below hb4).same (k2.block _ (by omega) (by omega))
              have hk5Y : Y.cell? ⟨g5, 0, none⟩ = some (.pointer (some ⟨gh, 0, none⟩)) := (blk_cell h5Y 0).trans rfl
              have AC := at_calls hHY hbne x.1 hxN
              have hTx : q.was.getD x.1 ⟨#[]⟩ = Q.lines[x.1].f0 := by
                rw [hqw]
                simp [textsOf, List.getD, List.getElem?_map, List.getElem?_eq_getElem hxN]
              rw [hTx] at hx3
              have hgn : q.now[x.1] = x.2 := by simpa only [List.getD, List.getElem?_eq_getElem hxn, Option.getD_some] using hx2
              simp only [S36.v] at AC
              have hne : (Q.lines[x.1].f0 == x.2) = false := by rw [beq_toListBytes, teq, decide_eq_false hx3]
              have hteq := teq Q.lines[x.1].f0 x.2
              rw [decide_eq_false hx3] at hteq
              have hteq2 := teq x.2 x.2
              rw [decide_eq_true rfl] at hteq2
              generalize Q.lines[x.1] = ln at AC hne hteq
              have AC' := Aside0.mk AC
              clear AC hx2 hx3 hTx hx1 hget'
              gi_wp2
              refine ⟨trivial, (CallsIn.inRound l' (callsIn_wide.2 AC'.out)).mono ?_⟩
              rintro e Y2 ⟨rfl, hY2⟩
              have hY3 := below_alloc hY2 (.cells #[.string ln.f0, .int .i64 ln.f1] 36)
              have h163 := blk_below k1 hY3
              have h83 := blk_below h8Y hY3
              have hM3 := hMY.below hY3
              have hlk := hM3.look (i := (x.1 : Int)) (WalkArith.wf_i64 (by omega))
              rw [mapOf_getD _ _ hxn, hgn] at hlk
              have hk83 : (Y2.alloc (.cells #[.string ln.f0, .int .i64 ln.f1] 36)).cell? ⟨g8, 0, none⟩ = some (.map (some w5.heap.size)) := (blk_cell h83 0).trans rfl
              have hk163 : (Y2.alloc (.cells #[.string ln.f0, .int .i64 ln.f1] 36)).cell? ⟨g16, 0, none⟩ = some (.int .i64 ((cs.length : Int) - (pre.length : Int))) := (blk_cell h163 0).trans rfl
              have hf163 := blk_frozen h163 0
              gi_wp2
              have h16n := blk_put h163 0 (.int .i64 ((cs.length : Int) - (pre.length : Int) - 1)) rfl
              have lY := k2.size
              refine ⟨⟨by rw [World.size_setCell]; exact hY3.size, fun k o hk ho _ => (Below.heap_setCell _ ⟨g16, 0, none⟩ _ k (by show k ≠ g16; omega)).trans ((hY3.block k (blk_lt ho)).trans ho)⟩, ⟨by rw [World.size_setCell]; exact hY3.size, fun k hk hl => (Below.heap_setCell _ ⟨g16, 0, none⟩ _ k (by have := hk.1; show k ≠ g16; omega)).trans (hY3.block k hl)⟩, ?_⟩
              refine ⟨?_, (k2.trans (Fr.of_below (N := fun k => k = g16) hY3) (fun _ _ h => h)).set (p := ⟨g16, 0, none⟩) (.inl rfl) _⟩
              have e : (cs.length : Int) - (pre.length : Int) - 1 = (cs.length : Int) - ((pre ++ [x]).length : Int) := by simp; omega
              rw [← e]
              exact h16n
            case done3 =>
              rintro D3 xs Y hD3 hxs ⟨k1, k2⟩ hK3
              have hxs' : xs.length = cs.length := hxs
              rw [hxs', Int.sub_self] at k1
              have nY : ∀ k, k < X.heap.size → k ≠ g16 → k < v4.heap.size := fun k h _ => by omega
              have h4Y := k2.blk (blk_below h4X hb4) (by omega)
              have h5Y := k2.blk (blk_below h5X hb4) (by omega)
              have h8Y := k2.blk (blk_below h8X hb4) (by omega)
              have hHY := (hHX.below hb4).fr k2 (by have := blk_lt hHX.box; intro e; subst e; exact absurd hHX.box (by rw [j1]; simp)) (fun k hk e => by subst e; exact Kd.R_ne hHX.row j1 (by decide) hk)
              have hMY := (hMX.below hb4).same (k2.block _ (by omega) (by omega))
              have hD1Y := k2.blk (blk_below hD1X hb4) (by omega)
              have hD2Y := k2.blk (blk_below hK2 hb4) (by omega)
              have hBY := (below_step HBX.out hb4).trans (k2.below (B := w.heap.size) (fun k h => by have := hlX; omega) (by have := HBX.out.size; omega))
              have hk5Y : Y.cell? ⟨g5, 0, none⟩ = some (.pointer (some ⟨gh, 0, none⟩)) := (blk_cell h5Y 0).trans rfl
              have hk8Y : Y.cell? ⟨g8, 0, none⟩ = some (.map (some w5.heap.size)) := (blk_cell h8Y 0).trans rfl
              have hk4Y : Y.cell? ⟨g4, 0, none⟩ = some (.bool false) := (blk_cell h4Y 0).trans rfl
              have hk16Y : Y.cell? ⟨g16, 0, none⟩ = some (.int .i64 0) := (blk_cell k1 0).trans rfl
              have hf4Y := blk_frozen h4Y 0
              have LC := Aside0.mk (fun n => quiet_w (len_calls (hHY.drewN n) hbne))
              have hlm : ∀ (n : Nat) (ty : TypeId), (Builtin.len_ #[45] ty #[.map (some w5.heap.size)]).run Try.prog (Y.drewN n) = .ok (.int .i64 ((Q.lines.length + 1 : Nat) : Int)) (Y.drewN n) := fun n ty => (hMY.drewN n).len ty
              have LCS := Aside0.mk (len_calls (hHY.below (below_drew (Below.refl _ _))) hbne)
              have hlm' : ∀ (ty : TypeId), (Builtin.len_ #[45] ty #[.map (some w5.heap.size)]).run Try.prog Y.drew = .ok (.int .i64 ((Q.lines.length : Int) + 1)) Y.drew := fun ty => (hMY.drewN 1).len ty
              clear hlm LC
              go_wp2
              refine wp_region_still_tail 10 (by kernel_rfl) (by kernel_rfl) ?_
              simp only [List.take_succ_cons, List.take_zero, List.drop_succ_cons, List.drop_zero]
              still_step
              still_step
              still_step
              still_step
              still_call (LCS.out.mono (fun e w' h => ⟨h.1, h.2.symm⟩))
              repeat still_step
              refine wpStill_nil ?_
              change wpList _ _ _ _ _ Y.drew
              have hDr := below_drew (Below.refl Y.heap.size Y)
              have h4D := blk_below h4Y hDr
              have h1D := blk_below hD1Y hDr
              have h2D := blk_below hD2Y hDr
              have h3D := blk_below hK3 hDr
              have hBD := below_step hBY hDr
              generalize Y.drew = YD at h4D h1D h2D h3D hBD ⊢
              have hk4D : YD.cell? ⟨g4, 0, none⟩ = some (.bool false) := (blk_cell h4D 0).trans rfl
              have hf4D := blk_frozen h4D 0
              go_wp2
              have hbb : ((Q.lines.length : Int) == (Q.lines.length : Int)) = true := by simp
              rw [hbb]
              have lD1 : D1 ≠ D2 := by omega
              have lD2 : D2 ≠ D3 := by omega
              have lD3 : D1 ≠ D3 := by omega
              have l4D : g4 < w10.heap.size := by omega
              have K3 := (KeepsOthers.setCell YD ⟨g4, 0, none⟩ (.bool true)).same D3 _ h3D rfl
              have K2 := (KeepsOthers.setCell YD ⟨g4, 0, none⟩ (.bool true)).same D2 _ h2D rfl
              have K1 := (KeepsOthers.setCell YD ⟨g4, 0, none⟩ (.bool true)).same D1 _ h1D rfl
              have h4s := blk_put h4D 0 (.bool true) rfl
              have hg4w : w.heap.size ≤ g4 := hle4'
              have BS := hBD.setCell (p := ⟨g4, 0, none⟩) hg4w (.bool true)
              generalize YD.setCell ⟨g4, 0, none⟩ (.bool true) = Z at K3 K2 K1 h4s BS ⊢
              have K2' : (Z.putObj D3 (.deferred none)).heap[D2]? = some (.deferred (some [])) := (World.putObj_heap_other (by omega)).trans K2
              have K1' : ((Z.putObj D3 (.deferred none)).putObj D2 (.deferred none)).heap[D1]? = some (.deferred (some [])) := (World.putObj_heap_other (by omega)).trans ((World.putObj_heap_other (by omega)).trans K1)
              have h4f : (((Z.putObj D3 (.deferred none)).putObj D2 (.deferred none)).putObj D1 (.deferred none)).heap[g4]? = some (.cells #[.bool true] 4 (0, 0)) := (World.putObj_heap_other (by omega)).trans ((World.putObj_heap_other (by omega)).trans ((World.putObj_heap_other (by omega)).trans h4s))
              have B3 := BS.trans (belowK_b (w := w) (Nat.le_refl _) _ D3 _ (.deferred none) (by omega) K3 rfl rfl)
              have B2 := B3.trans (belowK_b (w := w) (Nat.le_refl _) _ D2 _ (.deferred none) (by omega) K2' rfl rfl)
              have B1 := B2.trans (belowK_b (w := w) (Nat.le_refl _) _ D1 _ (.deferred none) (by omega) K1' rfl rfl)
              refine ⟨by simp, .inl ⟨_, _, rfl, run_takeDeferred K3, ⟨by simp, .inl ⟨_, _, rfl, run_takeDeferred K2', ⟨by simp, .inl ⟨_, _, rfl, run_takeDeferred K1', ?_⟩⟩⟩⟩⟩⟩
              have hc5 := (blk_cell h4f 0).trans (rfl : _ = some (Value.bool true))
              refine ⟨.bool true, ?_, rfl, B1⟩
              simp [results, Try.f4, go_sem, hc5]
            case stop3 =>
              rintro D c pre W _ _ h _
              exact h.elim
          case stop2 =>
            rintro D c pre W _ _ h _
            exact h.elim
    case stop =>
      rintro D c pre W _ _ h _
      exact h.elim
  · have FC := fun (w1 : World) (hb : Below w.heap.size w w1) => from_lines 4096 (by decide) (by decide) A0 c0 l0 w1 (Kd.C_below hr0 hb) hc0 (by omega) hm
    have hmc := mayF_cases l0
    generalize mayF l0 = m at hm hmc FC
    have FC' := Aside0.mk FC
    clear FC
    have hal := below_alloc (Below.refl w.heap.size w) (.cells #[.bool false] 4)
    rcases hmc with rfl | rfl | rfl
    · exact absurd rfl hm
    all_goals
      go_enter Try.func4, Try.ntmps4
      go_wp2_with (first
        | (go_at_call 16; refine (FC'.out _ hal).mono ?_; rintro e w2 ⟨rfl, hb2⟩)
        | (go_at_call 10; refine (begun_calls _).mono ?_; rintro e w4 ⟨rfl, hb4⟩; have h4b := blk_below (blk_alloc (blk_below (blk_new w (.cells #[.bool false] 4)) hb2) _) hb4; have h40 : w4.cell? ⟨w.heap.size, 0, none⟩ = some (.bool false) := (blk_cell h4b 0).trans rfl; have hf40 := blk_frozen h4b 0))
      have hc : (w4.setCell ⟨w.heap.size, 0, none⟩ (.bool true)).cell? ⟨w.heap.size, 0, none⟩ = some (.bool true) := (blk_cell (blk_put h4b 0 (.bool true) rfl) 0).trans rfl
      exact bodyPost_ret (v := .bool true) (by simp [results, Try.f4, go_sem, hc]) rfl ⟨rfl, below_set (below_step (below_alloc (below_step hal hb2) _) hb4) (Nat.le_refl _)⟩
end Go.Proofs.Ytbjdjbhmafmnbaa
