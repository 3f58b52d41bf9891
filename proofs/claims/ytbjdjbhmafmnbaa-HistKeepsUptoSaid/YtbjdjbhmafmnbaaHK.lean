/-
  The walk of HistKeeps.
-/
import Derived.Test.YtbjdjbhmafmnbaaHF
import Derived.Test.YtbjdjbhmafmnbaaHQ
import Derived.Sort.CutIn
namespace Go.Proofs.Ytbjdjbhmafmnbaa
open Go.RowKit Go.Proofs.YtbjdjbhmafmnbaaW.PrintWords Go.Proofs.YtbjdjbhmafmnbaaW.PrintLast Go.Proofs.YtbjdjbhmafmnbaaW.PrintMore Go.Proofs.Ytbjdjbhmafmnbaa.PAll
set_option linter.unusedVariables false
set_option linter.unusedSimpArgs false
attribute [local go_sem] max2_int min2_int max_two min_two max_three min_three max_four min_four
attribute [local go_sem] Oper.semAt_some

theorem eqA36 (d : Nat) (w : World) (x0 y0 : ByteArray) (x1 y1 : Int) :
    (Op.equalIn (d + 2) 36 (.agg #[.string x0, .int .i64 x1]) (.agg #[.string y0, .int .i64 y1])).run Try.prog w = .ok (x0 == y0 && (x1 == y1)) w := by
  refine eqA_of Try.underlying36 (by kernel_rfl) ?_
  refine eqf_cons (by rfl) (by go_simp; rfl) (by go_simp; rfl) (by go_simp; exact (beq_toListBytes _ _).symm) ?_
  exact eqf_last (by rfl) (by go_simp; rfl) (by go_simp; rfl) (by go_simp)
attribute [local go_sem high] eqA36

abbrev DL : Kd (List S36) := Kd.slice 36 k36
def rd_L36 (xs : List (List S36)) (i : Int) : List S36 := xs.getD i.toNat []
theorem at_L36 {w : World} {A : Option Addr} {n : Nat} {xs : List (List S36)} (h : Kd.C DL w A n xs) (i : Nat) (h1 : i < xs.length) (hn : xs.length = n) : ∃ ad A0 c0, A = some ad ∧ w.cell? (ad.add i) = some (.slice A0 (xs[i]).length c0) ∧ (xs[i]).length ≤ c0 ∧ k36.C w A0 (xs[i]).length (xs[i]) := by
  obtain ⟨ad, c, e, _, hK, hc0⟩ := Kd.C_get h ([] : List S36) (i : Int) (by omega) (by omega)
  have hc : ∀ j u, c[j]? = some u → w.cell? (ad.add ((i : Int).toNat * 1 + j)) = some u := hc0
  obtain ⟨A0, c0, rfl, l0, g0⟩ := hK
  have e2 : xs.getD (i : Int).toNat [] = xs[i] := by simp [List.getD, List.getElem?_eq_getElem h1]
  rw [e2] at l0 g0
  exact ⟨ad, A0, c0, e, by have hq := hc 0 _ rfl; rw [e2] at hq; rwa [Nat.mul_one, Nat.add_zero, Int.toNat_natCast] at hq, l0, g0⟩

theorem HL.set_ {w : World} {B g : Nat} {v : Value} {h : Hs} (hl : HL w B g v h) {g' t : Nat} {cells : Array Value} (hb : w.heap[g']? = some (.cells cells t (0, 0))) (h1 : (87 : Nat) ≠ t) (h2 : ∀ q, q ∈ 36 :: k36.E → q ≠ t) (j : Nat) (u : Value) : HL (w.setCell ⟨g', j, none⟩ u) B g v h :=
  ⟨blk_far hl.box (p := ⟨g', j, none⟩) (blk_ne hl.box hb h1) u, Kd.R_set hl.row hb h2 j u⟩
/-- No block is both's. -/
def Apart (u v : Value) : Prop := ∀ k, some k = u.ownBlock → some k = v.ownBlock → False
theorem Apart.grow {w : World} {u v v1 : Value} (h : Apart u v) (hat : v1.ownBlock = v.ownBlock ∨ ∃ b, v1.ownBlock = some b ∧ w.heap.size ≤ b) (hlt : ∀ k, u.ownBlock = some k → k < w.heap.size) : Apart u v1 := fun k h1 h2 => by
  rcases hat with e | ⟨b, e, hb⟩
  · exact h k h1 (h2.trans e)
  · rw [e] at h2
    have := hlt k h1.symm
    cases h2
    omega

set_option maxRecDepth 100000 in
set_option maxHeartbeats 4000000 in
theorem walkKeeps (most : Int) (hmost : (Lit.int IntKind.i64 most).wf = true) (A3 : Option Addr) (c3 : Nat) (l3 : List (List S36)) {w : World} (R3 : Kd.C DL w A3 l3.length l3) (hc3 : l3.length ≤ c3) (hb3 : tot36 l3 ≤ 1048576) :
    Calls Try.prog 3 #[.int .i64 most, .slice A3 l3.length c3] w fun e w' => e = .returned (.bool true) ∧ Below w.heap.size w w' := by
  by_cases hbad : most < 0 ∨ 4096 < most
  · have t0 : (decide (0 ≤ most) && decide (most ≤ 4096)) = false := by
      rw [Bool.and_eq_false_iff]
      rcases hbad with h | h
      · exact .inl (by simp; omega)
      · exact .inr (by simp; omega)
    go_enter Try.func3, Try.ntmps3
    go_wp2_with (first
      | (go_at_call 9; refine (new_bad most hbad _).mono ?_; rintro e w2 ⟨rfl, rfl⟩)
      | (go_at_call 10; refine (begun_calls _).mono ?_; rintro e w4 ⟨rfl, hb4⟩; have h4b := blk_below (blk_alloc (blk_new w (.cells #[.bool false] 4)) _) hb4; have h40 : w4.cell? ⟨w.heap.size, 0, none⟩ = some (.bool false) := (blk_cell h4b 0).trans rfl; have hf40 := blk_frozen h4b 0))
    all_goals
      have hc : (w4.setCell ⟨w.heap.size, 0, none⟩ (.bool true)).cell? ⟨w.heap.size, 0, none⟩ = some (.bool true) := (blk_cell (blk_put h4b 0 (.bool true) rfl) 0).trans rfl
      exact bodyPost_ret (v := .bool true) (by simp [results, Try.f3, go_sem, hc]) rfl ⟨rfl, below_set (below_step (below_alloc (below_alloc (Below.refl _ _) _) _) hb4) (Nat.le_refl _)⟩
  refine (callsIn_wide (n := 4)).1 (callsIn_of_wp_marks Try.func3 rfl trivial ?_ rfl)
  refine wpIn_wide.2 ?_
  simp only [Try.ntmps3, List.size_toArray, List.length_cons, List.length_nil, Nat.reduceAdd, Nat.reduceSub, Array.replicate_succ, Array.replicate_zero, List.push_toArray, List.append_toArray, List.nil_append, List.cons_append]
  have hl3 : l3.length ≤ 1048576 := Nat.le_trans (len_tot36 l3) hb3
  have HB0 := Aside0.mk (Below.refl w.heap.size w)
  obtain ⟨m, rfl⟩ := Int.eq_ofNat_of_zero_le (show 0 ≤ most by omega)
  have hm : m ≤ 4096 := by omega
  clear hbad
  have t1 : decide ((m : Int) ≤ 4096) = true := by simp; omega
  go_wp2_with (first
    | ((with_reducible refine gate_dst (N := 4) rfl ?_); refine box_event ?hg (N := 4) ?hd (cs := #[.bool false]) (t := 4) ?hr ?_; (case hd => rfl); (case hg => rfl); (case hr => first | (go_simp; done) | (go_simp; rfl)); intro g4 hg w1 hbox4 hb1; have hle4 := Aside0.mk (Nat.le_of_eq hg.symm); clear hg; have HB1 := Aside0.mk (below_step HB0.out hb1))
    | (go_at_call 9; refine (new_calls (m : Int) (by omega) (by omega) _).mono ?_; rintro e w2 ⟨gh, rfl, hgh, hl2, hb2⟩; have HB2 := Aside0.mk (below_step HB1.out hb2); have hbox42 := blk_below hbox4 hb2)
    | ((with_reducible refine gate_dst (N := 5) rfl ?_); refine box_event ?hg (N := 5) ?hd (cs := #[.pointer none]) (t := 23) ?hr ?_; (case hd => rfl); (case hg => rfl); (case hr => first | (go_simp; done) | (go_simp; rfl)); intro g5 hg w3 hbox5 hb3'; have hle5 := Aside0.mk (Nat.le_of_eq hg.symm); clear hg; have HB3 := Aside0.mk (below_step HB2.out hb3'); have hbox43 := blk_below hbox42 hb3'; have hl3' := hl2.below hb3'; have hk5 : w3.cell? ⟨g5, 0, none⟩ = some (.pointer none) := (blk_cell hbox5 0).trans rfl; have hf5 := blk_frozen hbox5 0)
    | (go_at_call 10; refine (begun_calls _).mono ?_; rintro e w4 ⟨rfl, hb4⟩)
    | ((with_reducible refine gate_dst (N := 7) rfl ?_); refine box_event ?hg (N := 7) ?hd (cs := #[.slice none 0 0]) (t := 28) ?hr ?_; (case hd => rfl); (case hg => rfl); (case hr => first | (go_simp; done) | (go_simp; rfl)); intro g7 hg w5 hbox7 hb5; have hle7 := Aside0.mk (Nat.le_of_eq hg.symm); clear hg))
  have hne45 : g4 ≠ g5 := by have := hle5.out; have := blk_lt hbox42; omega
  have hg5w : w.heap.size ≤ g5 := by have := hle5.out; have := HB2.out.size; omega
  have hg4w := hle4.out
  have hghw : w.heap.size ≤ gh := by have := hb1.size; omega
  have b5s := blk_put hbox5 0 (.pointer (some ⟨gh, 0, none⟩)) rfl
  have b4s := blk_far hbox43 (p := ⟨g5, 0, none⟩) hne45 (.pointer (some ⟨gh, 0, none⟩))
  have hls := hl3'.set_ hbox5 (by decide) (by decide) 0 (.pointer (some ⟨gh, 0, none⟩))
  have HBs := HB3.out.setCell (p := ⟨g5, 0, none⟩) hg5w (.pointer (some ⟨gh, 0, none⟩))
  have b55 := blk_below (blk_below b5s hb4) hb5
  have b45 := blk_below (blk_below b4s hb4) hb5
  have hl5 := (hls.below hb4).below hb5
  have HB5 := below_step (below_step HBs hb4) hb5
  have hg7w : w.heap.size ≤ g7 := by have := hle7.out; have := (below_step HBs hb4).size; omega
  have hl5' : HL w5 w.heap.size gh (.slice none 0 0) (Hs.of m []) := by rw [Hs.of_nil]; exact ⟨hl5.box, Kd.R_nil _ _ _ _ _⟩
  clear hbox4 hb1 hle4 HB1 hl2 hb2 HB2 hbox42 hbox5 hb3' hle5 HB3 hbox43 hl3' hk5 hf5 hb4 hb5 b5s b4s hls HBs hl5 hgh
  go_loopw [36] (fun i wr => ∃ (j : Nat) (u v : Value), i = .int .i64 (j : Int) ∧ j ≤ l3.length ∧ wr.heap[g4]? = some (.cells #[.bool false] 4 (0, 0)) ∧ wr.heap[g5]? = some (.cells #[.pointer (some ⟨gh, 0, none⟩)] 23 (0, 0)) ∧ wr.heap[g7]? = some (.cells #[v] 28 (0, 0)) ∧
      HL wr w.heap.size gh u (Hs.of m (goods (l3.take j))) ∧ Kd.R k36 36 wr w.heap.size (fun _ => True) v (goods (l3.take j)) ∧ Apart u v ∧ Below w.heap.size w wr)
    (fun i wr => l3.length - (intOf i).toNat)
  case atStart => exact ⟨0, _, _, rfl, Nat.zero_le _, b45, b55, hbox7, hl5', Kd.R_nil _ _ _ _ _, fun k hk => by simp [Value.ownBlock] at hk, HB5⟩
  case round =>
    obtain ⟨j, u, v, rfl, hj, h4, h5, h7, hL, hR, hA, hbel⟩ := hrel
    by_cases hlt : j < l3.length
    · obtain ⟨ad, A0, c0, e7, hcellw, hle0, hC0⟩ := at_L36 R3 j hlt rfl
      cases e7
      have hcell := (hbel.cell (World.block_lt_of_cell? w _ hcellw)).trans hcellw
      have hCr := Kd.C_below hC0 hbel
      have htk : l3.take (j + 1) = l3.take j ++ [l3[j]] := by rw [List.take_succ_eq_append_getElem hlt]
      have hgs := goods_snoc (l3.take j) l3[j]
      rw [← htk] at hgs
      have hb1 := Nat.le_trans (goods_len (l3.take (j + 1))) (Nat.le_trans (tot36_take l3 (j + 1)) hb3)
      have hb2 := Nat.le_trans (goods_len (l3.take j)) (Nat.le_trans (tot36_take l3 j) hb3)
      have hlk := Nat.le_trans (tot36_mem (List.getElem_mem hlt)) hb3
      have hk5 : wr.cell? ⟨g5, 0, none⟩ = some (.pointer (some ⟨gh, 0, none⟩)) := (blk_cell h5 0).trans rfl
      have n4 : ∀ k, k = g4 → ¬ (k = gh ∨ some k = u.ownBlock) := fun k e h => by subst e; exact h.elim (blk_ne h4 hL.box (by decide)) (Kd.R_ne hL.row h4 (by decide))
      have n5 : ∀ k, k = g5 → ¬ (k = gh ∨ some k = u.ownBlock) := fun k e h => by subst e; exact h.elim (blk_ne h5 hL.box (by decide)) (Kd.R_ne hL.row h5 (by decide))
      have n7 : ∀ k, k = g7 → ¬ (k = gh ∨ some k = u.ownBlock) := fun k e h => by subst e; exact h.elim (blk_ne h7 hL.box (by decide)) (Kd.R_ne hL.row h7 (by decide))
      have nv : ∀ k, some k = v.ownBlock → ¬ (k = gh ∨ some k = u.ownBlock) := fun k e h => h.elim (fun e2 => Kd.R_ne hR hL.box (by decide) (e2 ▸ e)) (fun e2 => hA k e2 e)
      have nfr : ∀ k, (k = gh ∨ some k = u.ownBlock) → w.heap.size ≤ k := fun k h => h.elim (fun e => e ▸ hghw) (fun e => Kd.R_base hL.row k e.symm)
      have N4 := Aside0.mk (n4 _ rfl)
      have N5 := Aside0.mk (n5 _ rfl)
      have N7 := Aside0.mk (n7 _ rfl)
      have NV := Aside0.mk nv
      have NF := Aside0.mk nfr
      clear hcellw htk n4 n5 n7 nv nfr
      have hC0w := hC0
      clear hC0
      generalize l3[j] = t at hcell hCr hle0 hgs hlk hC0w
      generalize hgo : goods (l3.take (j + 1)) = G' at hgs hb1
      have HG := Aside0.mk hgo
      clear hgo
      generalize goods (l3.take j) = G at hL hR hgs hb2
      by_cases hmay : mayF t = 0
      · rw [if_pos hmay] at hgs
        subst hgs
        have hlenG := Hs.of_len m (G ++ t)
        have t2 : decide (m < (Hs.of m (G ++ t)).lines.length) = false := by simp only [decide_eq_false_iff_not]; omega
        have hbe : (Hs.of m G).base ≤ 1000000000000000 := by have := Hs.of_base m G; have := Hs.of_len m G; omega
        have hbe0 : 0 < (Hs.of m G).base := by have := Hs.of_base m G; have := Hs.of_len m G; omega
        have hbe1 : (Hs.of m (G ++ t)).base ≠ 0 := by have := Hs.of_base m (G ++ t); have := Hs.of_len m (G ++ t); omega
        have hlG := Hs.of_len m G
        rw [List.length_append] at hb1
        have hbL : (Hs.of m G).lines.length + t.length ≤ 1000000000000 := by omega
        have HM := Aside0.mk hmay
        clear hlenG hlG hmay
        obtain ⟨Av, cv, rfl⟩ := Kd.R_slice hR
        go_wp2_with (first
          | (go_at_call 11; refine (add_calls hL A0 c0 t hCr hle0 HM.out hbL (by show (0 : Int) ≤ (m : Int); omega) (by show (m : Int) ≤ 4096; omega) hbel.size hghw hbe0 hbe).mono ?_; rintro e w2 ⟨rfl, u2, hL2, hN2, hF2⟩; rw [Hs.of_add] at hL2; have h42 := hF2.blk h4 N4.out; have h52 := hF2.blk h5 N5.out; have h72 := hF2.blk h7 N7.out; have hR2 := R_one_fr hR hF2 NV.out; have hbel2 := hbel.trans (hF2.below NF.out hbel.size); have hA2 : Apart u2 (.slice Av G.length cv) := (fun k e1 e2 => (hN2 k e1.symm).elim (fun e => hA k e.symm e2) (fun e => by have := Kd.R_lt hR k e2.symm; omega)); have hk7 : w2.cell? ⟨g7, 0, none⟩ = some (.slice Av G.length cv) := (blk_cell h72 0).trans rfl; have hC2 := Kd.C_below (w1 := w2) hC0w (hbel2))
          | ((with_reducible refine gate_builtin (b := .append) (xs := #[.tmp 44, .tmp 45]) rfl ?_); at_builtin; refine Kd.R_append_rows k36 (w0 := w2) w.heap.size rfl (.tmp 44) (.tmp 45) 28 36 (.agg #[.string ⟨#[]⟩, .int .i64 0]) 24 rfl Try.underlying28 info36 rfl (by decide) (by omega) (.slice Av G.length cv) G t _ _ _ (fun _ => True) (fun _ => False) rfl rfl hR2 hC2 (fun x cs h => M_of_K36 _ _ x cs h) (fun _ h => h.elim) (fun _ _ => trivial) (Below.refl _ _) hbel2.size (by omega) ?_; intro v3 w3 hR3 hb3 hg3 hat3; obtain ⟨A3', c3', rfl⟩ := Kd.R_slice hR3; have h43 := blk_grown h42 hg3 (Kd.R_ne hR2 h42 (by decide)); have h53 := blk_grown h52 hg3 (Kd.R_ne hR2 h52 (by decide)); have h73 := blk_grown h72 hg3 (Kd.R_ne hR2 h72 (by decide)); have hF3 := Fr.of_grown (N := fun k => some k = (Value.slice Av G.length cv).ownBlock) hg3 (fun k hk => hk.symm); have hL3 := hL2.fr hF3 (fun e => Kd.R_ne hR2 hL2.box (by decide) e) (fun k e1 e2 => hA2 k e1 e2); have hbel3 := hbel2.trans hb3; rw [List.length_append] at hR3 hat3; have hk73 : w3.cell? ⟨g7, 0, none⟩ = some (.slice Av G.length cv) := (blk_cell h73 0).trans rfl; have hf73 := blk_frozen h73 0; have hL3s := hL3.set_ h73 (by decide) (by decide) 0 (.slice A3' (G.length + t.length) c3'); have hk53 : w3.cell? ⟨g5, 0, none⟩ = some (.pointer (some ⟨gh, 0, none⟩)) := (blk_cell h53 0).trans rfl; have hk53s : (w3.setCell ⟨g7, 0, none⟩ (.slice A3' (G.length + t.length) c3')).cell? ⟨g5, 0, none⟩ = some (.pointer (some ⟨gh, 0, none⟩)) := (blk_cell (blk_far h53 (p := ⟨g7, 0, none⟩) (blk_ne h53 h73 (by decide)) _) 0).trans rfl)
          | (go_at_call 12; refine (len_calls hL3s hbe1).mono ?_; rintro e w' ⟨rfl, rfl⟩))
        have hA3 : Apart u2 (.slice A3' (G.length + t.length) c3') := Apart.grow hA2 hat3 (Kd.R_lt hL2.row)
        go_roundw
        case rel => exact ⟨j + 1, u2, _, by simp, by omega, blk_far h43 (p := ⟨g7, 0, none⟩) (blk_ne h43 h73 (by decide)) _, blk_far h53 (p := ⟨g7, 0, none⟩) (blk_ne h53 h73 (by decide)) _, blk_put h73 0 _ rfl, by rw [HG.out]; exact hL3s, by rw [HG.out]; exact Kd.R_set hR3 h73 (by decide) 0 _, hA3, hbel3.setCell (p := ⟨g7, 0, none⟩) hg7w _⟩
        case measure => simp [intOf]; omega
      · rw [if_neg hmay] at hgs
        subst hgs
        have hlenG := Hs.of_len m G'
        have t2 : decide (m < (Hs.of m G').lines.length) = false := by simp only [decide_eq_false_iff_not]; omega
        have hbe1 : (Hs.of m G').base ≠ 0 := by have := Hs.of_base m G'; have := Hs.of_len m G'; omega
        have hm1 : (mayF t == 0) = false := by simpa using hmay
        generalize hr : mayF t = r at hm1
        have HR := Aside0.mk hr
        have HM := Aside0.mk hmay
        clear hr hmay hlenG
        go_wp2_with (first
          | (go_at_call 11; refine (add_bad hL hbe1 A0 c0 t hCr hle0 (by omega) HM.out).mono ?_; rintro e w2 ⟨rfl, hb2'⟩; rw [HR.out]; have hL2 := hL.below hb2'; have h52 := blk_below h5 hb2'; have hk52 : w2.cell? ⟨g5, 0, none⟩ = some (.pointer (some ⟨gh, 0, none⟩)) := (blk_cell h52 0).trans rfl)
          | (go_at_call 12; refine (len_calls hL2 hbe1).mono ?_; rintro e w' ⟨rfl, rfl⟩))
        go_roundw
        case rel => exact ⟨j + 1, u, v, by simp, by omega, blk_below h4 hb2', h52, blk_below h7 hb2', by rw [HG.out]; exact hL2, by rw [HG.out]; exact Kd.R_below hR hb2', hA, below_step hbel hb2'⟩
        case measure => simp [intOf]; omega
    · obtain rfl : j = l3.length := by omega
      rw [List.take_of_length_le (Nat.le_refl _)] at hL hR
      have hGl := Nat.le_trans (goods_len l3) hb3
      generalize goods l3 = G at hL hR hGl
      have hbe1 : (Hs.of m G).base ≠ 0 := by have := Hs.of_base m G; have := Hs.of_len m G; omega
      have hlen := Hs.of_len m G
      have hbase := Hs.of_base m G
      obtain ⟨Av, cv, rfl⟩ := Kd.R_slice hR
      obtain ⟨Au, cu, rfl⟩ := Kd.R_slice hL.row
      have hk5 : wr.cell? ⟨g5, 0, none⟩ = some (.pointer (some ⟨gh, 0, none⟩)) := (blk_cell h5 0).trans rfl
      have hk7 : wr.cell? ⟨g7, 0, none⟩ = some (.slice Av G.length cv) := (blk_cell h7 0).trans rfl
      have hk4 : wr.cell? ⟨g4, 0, none⟩ = some (.bool false) := (blk_cell h4 0).trans rfl
      have LC := fun (n : Nat) => quiet_w (len_calls (hL.drewN n) hbe1)
      have BC := fun (n : Nat) => quiet_w (base_calls (hL.drewN n) hbe1)
      rw [hbase] at BC
      rw [hlen] at LC BC
      have LC' := Aside0.mk LC
      have BC' := Aside0.mk BC
      clear hlen hbase LC BC
      obtain ⟨n, hn, hnm, hnG, hn2⟩ : ∃ n : Nat, min m G.length = n ∧ n ≤ m ∧ n ≤ G.length ∧ (n = m ∨ n = G.length) := ⟨_, rfl, by omega, by omega, by omega⟩
      have hmin : (if G.length < m then (G.length : Int) else (m : Int)) = (n : Int) := by split <;> omega
      have w1' := wrap_in (x := (G.length : Int) - (n : Int)) (by omega) (by omega)
      have w2' := wrap_in (x := (G.length : Int) - (n : Int) + 1) (by omega) (by omega)
      rw [hn] at LC' BC'
      have HN := Aside0.mk hn
      clear hn hn2
      go_wp2
      go_quiet (first | (go_at_call 12; exact LC'.out _) | (go_at_call 13; exact BC'.out _))
      clear hmin w1' w2'
      have hLd := hL.drewN nq
      go_wp2_with (go_at_call 14; refine (all_calls hLd hbe1 (by rw [Hs.of_len]; omega)).mono ?_; rintro e w7 ⟨Bx, vx, rfl, hBx, hbx, hRx, hb7⟩)
      have hw67 := hb7.size
      refine (wpIn_wide (n := 4)).1 ?_
      refine range_lawA (F := Fence.wide) rfl (by omega) (gf := 61) (lb := #[.pointer (some ⟨Bx, 0, none⟩)]) rfl trivial (enters_of Try.func61 (by kernel_rfl) rfl)
        (all_stops 3 (by omega) Bx (wr.drewN nq).heap.size vx (Hs.of m G).lines w7 (fun k => (wr.drewN nq).heap.size ≤ k ∧ k < w7.heap.size) (fun k hk => hk.2) ⟨hBx, blk_lt hbx⟩ hbx (Kd.R_mono (Kd.R_bound hRx) (fun k hk => ⟨hk.2.1, hk.2.2.1⟩)) (by rw [Hs.of_len]; omega))
        (fun p x s W W' row hs _ _ => hs) (fun h k => h.trans k) (fun W l o o' hl ho _ _ => ⟨by simp, fun k hk hlt => World.putObj_heap_other (by have := hk.2; omega)⟩)
        (fun W o => ⟨by simp, fun k _ hl => Below.heap_alloc W o k hl⟩) (fun _ => rfl)
        (fun _ W => Below w7.heap.size w7 W) (fun _ _ _ => False) ?hI (fun _ _ _ _ _ hs _ _ => hs) (Below.refl _ _) (fun x g => { tmps := #[Value.int IntKind.i64 ↑m, Value.slice A3 l3.length c3, undef, undef, Value.pointer (some { block := g4, off := 0 }), Value.pointer (some { block := g5, off := 0 }), Value.int IntKind.i64 0, Value.pointer (some { block := g7, off := 0 }), undef, u9, .int .i64 (x.i : Int), .pointer (some ⟨g, 0, none⟩), undef, undef, Value.tuple #[Value.pointer (some { block := gh, off := 0 }), Value.int IntKind.i64 0], Value.int IntKind.i64 ↑m, Value.tuple #[Value.pointer (some { block := gh, off := 0 }), Value.int IntKind.i64 0], Value.pointer (some { block := gh, off := 0 }), Value.int IntKind.i64 0, Value.bool true, Value.bool false, Value.bool false, Value.int IntKind.i64 0, Value.bool true, Value.int IntKind.i64 ↑m, Value.bool true, Value.bool true, Value.int IntKind.i64 ↑m, Value.bool true, Value.bool true, Value.bool false, Value.bool false, Value.int IntKind.i64 0, Value.bool false, Value.slice A3 l3.length c3, Value.int IntKind.i64 ↑l3.length, Value.int IntKind.i64 ↑l3.length, Value.bool false, u38, u39, u40, u41, u42, u43, u44, u45, u46, u47, u48, u49, u50, u51, Value.pointer (some { block := gh, off := 0 }), Value.int IntKind.i64 ↑n, Value.int IntKind.i64 ↑m, Value.slice Av G.length cv, Value.int IntKind.i64 ↑G.length, Value.int IntKind.i64 ↑n, Value.bool false, Value.bool false, Value.pointer (some { block := gh, off := 0 }), Value.int IntKind.i64 (↑G.length - ↑n + 1), Value.slice Av G.length cv, Value.int IntKind.i64 ↑G.length, Value.pointer (some { block := gh, off := 0 }), Value.int IntKind.i64 ↑n, Value.int IntKind.i64 (↑G.length - ↑n), Value.int IntKind.i64 (↑G.length - ↑n + 1), Value.bool false, Value.bool false, Value.pointer (some { block := gh, off := 0 }), Value.func (Fn.func 61) #[] #[Value.pointer (some { block := Bx, off := 0 })], .int .i64 (x.i : Int), .agg #[.string x.s.f0, .int .i64 x.s.f1], undef, undef, undef, undef, undef, undef, undef, undef, undef, undef, undef, undef, undef, undef, undef, undef, undef, undef, undef, undef, undef, undef, undef, undef, undef, undef, undef, undef, undef, undef], defers := [] }) (fun x => .cells #[.string x.s.f0, .int .i64 x.s.f1] 36) ?assign ?body ?done ?stop
      case assign =>
        intro l' x W K hK
        simp only [Item.encs, S36.v]
        gi_wp2
        exact hK
      case hI =>
        intro pre X Y row hs hg hr
        exact hs.grown hg hs.size (fun k e => (hr k e).1)
      case body =>
        rintro l' pre x g W hW ⟨hxi, hget⟩ hgw hbx2
        have hn1 := (HN.out)
        have hxn : x.i < n := by
          have := (List.getElem?_eq_some_iff.1 hget).1
          rw [Hs.of_len] at this
          omega
        have hg5' := blk_lt h5
        have hg7' := blk_lt h7
        have hsz : wr.heap.size ≤ w7.heap.size := hb7.size
        have hLW := ((hL.drewN nq).below hb7).below hW
        have hRW := Kd.R_below (Kd.R_below (Kd.R_drewN hR nq) hb7) hW
        have h5W := blk_below (blk_below (blk_drewN h5 nq) hb7) hW
        have h7W := blk_below (blk_below (blk_drewN h7 nq) hb7) hW
        have hk5W : W.cell? ⟨g5, 0, none⟩ = some (.pointer (some ⟨gh, 0, none⟩)) := (blk_cell h5W 0).trans rfl
        have hk7W : W.cell? ⟨g7, 0, none⟩ = some (.slice Av G.length cv) := (blk_cell h7W 0).trans rfl
        have hkx0 : W.cell? ⟨g, 0, none⟩ = some (.string x.s.f0) := (blk_cell hbx2 0).trans rfl
        have hkx1 : W.cell? ⟨g, 1, none⟩ = some (.int .i64 x.s.f1) := (blk_cell hbx2 1).trans rfl
        have hk5a : (W.alloc (.cells #[.string ⟨#[]⟩, .int .i64 0] 36)).cell? ⟨g5, 0, none⟩ = some (.pointer (some ⟨gh, 0, none⟩)) := (blk_cell (blk_alloc h5W _) 0).trans rfl
        have hbs := Hs.of_base m G
        have hbl := Hs.of_len m G
        rw [hn1] at hbl
        rw [hbl] at hbs
        have hbs' : (Hs.of m G).base + (x.i : Int) = (G.length : Int) - (n : Int) + 1 + (x.i : Int) := by omega
        have wx := wrap_in (x := (Hs.of m G).base + (x.i : Int)) (by omega) (by omega)
        have hget' : (Hs.of m G).lines[x.i]'(by omega) = x.s := by
          have := (List.getElem?_eq_some_iff.1 hget)
          exact this.2
        have NC := fun (W' : World) (hb : Below W.heap.size W W') => number_calls (hLW.below hb) (by omega) (by omega) x.i (by omega) (by omega)
        rw [hget'] at NC
        simp only [S36.v] at NC
        have NC' := Aside0.mk NC
        have hgetS := Aside0.mk hget
        clear NC hget' hbs hbs' hbl hn1 hget hxi
        gi_wp2
        gi_cut [12, 13] from 74 (fun v12 v13 W' => ∃ gy, v12 = .pointer (some ⟨gy, 0, none⟩) ∧ v13 = .bool true ∧ Below W.heap.size W W' ∧ W'.heap[gy]? = some (.cells #[.string x.s.f0, .int .i64 x.s.f1] 36 (0, 0)))
        case first =>
          rename_i a4 K1 a3 Q0 K0 a2 J K' a1 a0
          clear a4 a3 a2 hbox7 b55 b45 HB5 hl5' h4 h5 h7 hR hL hbx hRx hb7 hk5 hk7 hk4 LC' BC' hLd t1 hmost hkx0 hkx1 hk7W h7W hRW hbel hA hle7 HB0 R3 hk5W hk5a
          have HK := Aside0.mk (fun (w' : World) (hb : Below W.heap.size W w') => ((blk_cell (blk_below h5W hb) 0).trans rfl : w'.cell? ⟨g5, 0, none⟩ = some (.pointer (some ⟨gh, 0, none⟩))))
          have hS0 : Below W.heap.size W W.drew := (Below.refl _ _).drew
          refine region_round_held (S := fun w' => Below W.heap.size W w') (by kernel_rfl) (by kernel_rfl) (fun ⟨_, _, h⟩ => h) ?_
          refine wpAnyH_take (i := 0) (v := .pointer (some ⟨gh, 0, none⟩)) rfl (by kernel_rfl) (by kernel_rfl) (by kernel_rfl) (fun _ _ _ h => h) (Or.inl ⟨by rfl, fun w' hS => by have hk := HK.out w' hS; go_simp⟩) hS0 ?_
          simp only [Act.put, List.setIfInBounds_toArray, List.set_cons_zero, List.set_cons_succ]
          refine wpAnyH_take (i := 1) (v := .pointer (some ⟨gh, 0, none⟩)) rfl (by kernel_rfl) (by kernel_rfl) (by kernel_rfl) (fun _ _ _ h => h) (Or.inl ⟨by rfl, fun w' hS => by have hk := HK.out w' hS; go_simp⟩) hS0 ?_
          simp only [Act.put, List.setIfInBounds_toArray, List.set_cons_zero, List.set_cons_succ]
          refine wpAnyH_take (i := 3) (v := .int .i64 (x.i : Int)) rfl (by kernel_rfl) (by kernel_rfl) (by kernel_rfl) (fun _ _ _ h => h) (Or.inl ⟨by rfl, fun w' hS => by go_simp⟩) hS0 ?_
          simp only [Act.put, List.setIfInBounds_toArray, List.set_cons_zero, List.set_cons_succ]
          refine wpAnyH_ready (rs := [2, 9]) (by kernel_rfl) (by simp) (AllReadyH.cons rfl (fun K2 hK2 => ?_) (AllReadyH.cons rfl (fun K2 hK2 => ?_) AllReadyH.nil))
          · go_simp
            refine (base_calls (hLW.below hS0) hbe1).mono ?_
            rintro e w' ⟨rfl, rfl⟩
            refine hK2.out _ _ hS0 (fun _ => ?_)
            refine wpAnyH_take (i := 4) (v := .int .i64 ((Hs.of m G).base + (x.i : Int))) rfl (by kernel_rfl) (by kernel_rfl) (by kernel_rfl) (fun _ _ _ h => h) (Or.inl ⟨by rfl, fun w' hS => by go_simp⟩) hS0 ?_
            simp only [Act.put, List.setIfInBounds_toArray, List.set_cons_zero, List.set_cons_succ]
            refine wpAnyH_ready (rs := [5, 9]) (by kernel_rfl) (by simp) (AllReadyH.cons rfl (fun K3 hK3 => ?_) (AllReadyH.cons rfl (fun K3 hK3 => ?_) AllReadyH.nil))
            · go_simp
              refine (NC'.out _ hS0).mono ?_
              rintro e W2 ⟨rfl, hb2⟩
              have hS1 := below_step hS0 hb2
              refine hK3.out _ _ hS1 (fun _ => ?_)
              refine wpAnyH_take (i := 6) (v := .tuple #[.agg #[.string x.s.f0, .int .i64 x.s.f1], .bool true]) rfl (by kernel_rfl) (by kernel_rfl) (by kernel_rfl) (fun _ _ _ h => h) (Or.inl ⟨by rfl, fun w' hS => by go_simp⟩) hS1 ?_
              simp only [Act.put, List.setIfInBounds_toArray, List.set_cons_zero, List.set_cons_succ]
              refine wpAnyH_take (i := 7) (v := .agg #[.string x.s.f0, .int .i64 x.s.f1]) rfl (by kernel_rfl) (by kernel_rfl) (by kernel_rfl) (fun _ _ _ h => h) (Or.inl ⟨by rfl, fun w' hS => by go_simp⟩) hS1 ?_
              simp only [Act.put, List.setIfInBounds_toArray, List.set_cons_zero, List.set_cons_succ]
              refine wpAnyH_take (i := 8) (v := .bool true) rfl (by kernel_rfl) (by kernel_rfl) (by kernel_rfl) (fun _ _ _ h => h) (Or.inl ⟨by rfl, fun w' hS => by go_simp⟩) hS1 ?_
              simp only [Act.put, List.setIfInBounds_toArray, List.set_cons_zero, List.set_cons_succ]
              refine wpAnyH_ready (rs := [9]) (by kernel_rfl) (by simp) (AllReadyH.cons rfl (fun K4 hK4 => ?_) AllReadyH.nil)
              go_simp
              refine hK4.out _ _ (below_alloc hS1 _) (fun _ => ?_)
              refine wpAnyH_ready (rs := [10]) (by kernel_rfl) (by simp) (AllReadyH.cons rfl (fun K5 hK5 => ?_) AllReadyH.nil)
              go_simp
              refine hK5.out _ _ (below_alloc hS1 _) (fun _ => ?_)
              refine wpAnyH_take (i := 11) (oi := { dst := some 13, op := .assign (.tmp 82), type := 4, pos := _, after := _, guard := none }) (v := .bool true) rfl (by kernel_rfl) (by kernel_rfl) (by kernel_rfl) (fun _ _ _ h => h) (Or.inl ⟨by rfl, fun w' hS => by go_simp⟩) (below_alloc hS1 _) ?_
              simp only [Act.put, List.setIfInBounds_toArray, List.set_cons_zero, List.set_cons_succ]
              refine wpAnyH_done (by kernel_rfl) ?_ _
              gi_wp2
              gi_meet
              case rel => exact ⟨_, rfl, rfl, below_alloc hS1 _, blk_new _ _⟩
            · go_simp
              refine hK3.out _ _ (below_alloc hS0 _) (fun _ => ?_)
              refine wpAnyH_ready (rs := [5]) (by kernel_rfl) (by simp) (AllReadyH.cons rfl (fun K4 hK4 => ?_) AllReadyH.nil)
              go_simp
              refine (NC'.out _ (below_alloc hS0 _)).mono ?_
              rintro e W2 ⟨rfl, hb2⟩
              have hS1 := below_step (below_alloc hS0 _) hb2
              have hz := blk_below (blk_drew (blk_new W _)) hb2
              have hz0 : W2.cell? ⟨W.heap.size, 0, none⟩ = some (.string ⟨#[]⟩) := (blk_cell hz 0).trans rfl
              have hz1 : W2.cell? ⟨W.heap.size, 1, none⟩ = some (.int .i64 0) := (blk_cell hz 1).trans rfl
              have hzf0 := blk_frozen hz 0
              have hzf1 := blk_frozen hz 1
              refine hK4.out _ _ hS1 (fun _ => ?_)
              refine wpAnyH_take (i := 6) (v := .tuple #[.agg #[.string x.s.f0, .int .i64 x.s.f1], .bool true]) rfl (by kernel_rfl) (by kernel_rfl) (by kernel_rfl) (fun _ _ _ h => h) (Or.inl ⟨by rfl, fun w' hS => by go_simp⟩) hS1 ?_
              simp only [Act.put, List.setIfInBounds_toArray, List.set_cons_zero, List.set_cons_succ]
              refine wpAnyH_take (i := 7) (v := .agg #[.string x.s.f0, .int .i64 x.s.f1]) rfl (by kernel_rfl) (by kernel_rfl) (by kernel_rfl) (fun _ _ _ h => h) (Or.inl ⟨by rfl, fun w' hS => by go_simp⟩) hS1 ?_
              simp only [Act.put, List.setIfInBounds_toArray, List.set_cons_zero, List.set_cons_succ]
              refine wpAnyH_take (i := 8) (v := .bool true) rfl (by kernel_rfl) (by kernel_rfl) (by kernel_rfl) (fun _ _ _ h => h) (Or.inl ⟨by rfl, fun w' hS => by go_simp⟩) hS1 ?_
              simp only [Act.put, List.setIfInBounds_toArray, List.set_cons_zero, List.set_cons_succ]
              refine wpAnyH_ready (rs := [10]) (by kernel_rfl) (by simp) (AllReadyH.cons rfl (fun K5 hK5 => ?_) AllReadyH.nil)
              go_simp
              refine hK5.out _ _ (below_set (below_set hS1 (Nat.le_refl _)) (Nat.le_refl _)) (fun _ => ?_)
              refine wpAnyH_take (i := 11) (oi := { dst := some 13, op := .assign (.tmp 82), type := 4, pos := _, after := _, guard := none }) (v := .bool true) rfl (by kernel_rfl) (by kernel_rfl) (by kernel_rfl) (fun _ _ _ h => h) (Or.inl ⟨by rfl, fun w' hS => by go_simp⟩) (below_set (below_set hS1 (Nat.le_refl _)) (Nat.le_refl _)) ?_
              simp only [Act.put, List.setIfInBounds_toArray, List.set_cons_zero, List.set_cons_succ]
              refine wpAnyH_done (by kernel_rfl) ?_ _
              gi_wp2
              gi_meet
              case rel => exact ⟨_, rfl, rfl, below_set (below_set hS1 (Nat.le_refl _)) (Nat.le_refl _), blk_put (blk_put hz 0 _ rfl) 1 _ rfl⟩
          · go_simp
            refine hK2.out _ _ (below_alloc hS0 _) (fun _ => ?_)
            refine wpAnyH_ready (rs := [2]) (by kernel_rfl) (by simp) (AllReadyH.cons rfl (fun K3 hK3 => ?_) AllReadyH.nil)
            go_simp
            refine (base_calls (hLW.below (below_alloc hS0 _)) hbe1).mono ?_
            rintro e w' ⟨rfl, rfl⟩
            refine hK3.out _ _ (below_alloc hS0 _) (fun _ => ?_)
            refine wpAnyH_take (i := 4) (v := .int .i64 ((Hs.of m G).base + (x.i : Int))) rfl (by kernel_rfl) (by kernel_rfl) (by kernel_rfl) (fun _ _ _ h => h) (Or.inl ⟨by rfl, fun w' hS => by go_simp⟩) (below_alloc hS0 _) ?_
            simp only [Act.put, List.setIfInBounds_toArray, List.set_cons_zero, List.set_cons_succ]
            refine wpAnyH_ready (rs := [5]) (by kernel_rfl) (by simp) (AllReadyH.cons rfl (fun K4 hK4 => ?_) AllReadyH.nil)
            go_simp
            refine (NC'.out _ (below_alloc hS0 _)).mono ?_
            rintro e W2 ⟨rfl, hb2⟩
            have hS1 := below_step (below_alloc hS0 _) hb2
            have hz := blk_below (blk_drew (blk_new W _)) hb2
            have hz0 : W2.cell? ⟨W.heap.size, 0, none⟩ = some (.string ⟨#[]⟩) := (blk_cell hz 0).trans rfl
            have hz1 : W2.cell? ⟨W.heap.size, 1, none⟩ = some (.int .i64 0) := (blk_cell hz 1).trans rfl
            have hzf0 := blk_frozen hz 0
            have hzf1 := blk_frozen hz 1
            refine hK4.out _ _ hS1 (fun _ => ?_)
            refine wpAnyH_take (i := 6) (v := .tuple #[.agg #[.string x.s.f0, .int .i64 x.s.f1], .bool true]) rfl (by kernel_rfl) (by kernel_rfl) (by kernel_rfl) (fun _ _ _ h => h) (Or.inl ⟨by rfl, fun w' hS => by go_simp⟩) hS1 ?_
            simp only [Act.put, List.setIfInBounds_toArray, List.set_cons_zero, List.set_cons_succ]
            refine wpAnyH_take (i := 7) (v := .agg #[.string x.s.f0, .int .i64 x.s.f1]) rfl (by kernel_rfl) (by kernel_rfl) (by kernel_rfl) (fun _ _ _ h => h) (Or.inl ⟨by rfl, fun w' hS => by go_simp⟩) hS1 ?_
            simp only [Act.put, List.setIfInBounds_toArray, List.set_cons_zero, List.set_cons_succ]
            refine wpAnyH_take (i := 8) (v := .bool true) rfl (by kernel_rfl) (by kernel_rfl) (by kernel_rfl) (fun _ _ _ h => h) (Or.inl ⟨by rfl, fun w' hS => by go_simp⟩) hS1 ?_
            simp only [Act.put, List.setIfInBounds_toArray, List.set_cons_zero, List.set_cons_succ]
            refine wpAnyH_ready (rs := [10]) (by kernel_rfl) (by simp) (AllReadyH.cons rfl (fun K5 hK5 => ?_) AllReadyH.nil)
            go_simp
            refine hK5.out _ _ (below_set (below_set hS1 (Nat.le_refl _)) (Nat.le_refl _)) (fun _ => ?_)
            refine wpAnyH_take (i := 11) (oi := { dst := some 13, op := .assign (.tmp 82), type := 4, pos := _, after := _, guard := none }) (v := .bool true) rfl (by kernel_rfl) (by kernel_rfl) (by kernel_rfl) (fun _ _ _ h => h) (Or.inl ⟨by rfl, fun w' hS => by go_simp⟩) (below_set (below_set hS1 (Nat.le_refl _)) (Nat.le_refl _)) ?_
            simp only [Act.put, List.setIfInBounds_toArray, List.set_cons_zero, List.set_cons_succ]
            refine wpAnyH_done (by kernel_rfl) ?_ _
            gi_wp2
            gi_meet
            case rel => exact ⟨_, rfl, rfl, below_set (below_set hS1 (Nat.le_refl _)) (Nat.le_refl _), blk_put (blk_put hz 0 _ rfl) 1 _ rfl⟩
        case rest =>
          obtain ⟨gy, rfl, rfl, hbW, hby⟩ := hcut
          have hLc := hLW.below hbW
          have h5c := blk_below h5W hbW
          have h7c := blk_below h7W hbW
          have hxc := blk_below hbx2 hbW
          have hk5c : wc.cell? ⟨g5, 0, none⟩ = some (.pointer (some ⟨gh, 0, none⟩)) := (blk_cell h5c 0).trans rfl
          have hk7c : wc.cell? ⟨g7, 0, none⟩ = some (.slice Av G.length cv) := (blk_cell h7c 0).trans rfl
          have hx0 : wc.cell? ⟨g, 0, none⟩ = some (.string x.s.f0) := (blk_cell hxc 0).trans rfl
          have hx1 : wc.cell? ⟨g, 1, none⟩ = some (.int .i64 x.s.f1) := (blk_cell hxc 1).trans rfl
          have hy0 : wc.cell? ⟨gy, 0, none⟩ = some (.string x.s.f0) := (blk_cell hby 0).trans rfl
          have hy1 : wc.cell? ⟨gy, 1, none⟩ = some (.int .i64 x.s.f1) := (blk_cell hby 1).trans rfl
          obtain ⟨q, hq⟩ : ∃ q : Nat, (q : Int) = (G.length : Int) - (n : Int) + (x.i : Int) := ⟨((G.length : Int) - (n : Int) + (x.i : Int)).toNat, by omega⟩
          have hqG : q < G.length := by omega
          have hGq : G[q] = x.s := by
            have h1 := hgetS.out
            simp only [Hs.of, gone, List.getElem?_drop] at h1
            rw [show G.length - m + x.i = q by have := HN.out; omega, List.getElem?_eq_getElem hqG] at h1
            exact Option.some.inj h1
          obtain ⟨ad, e8, hz0, hz1⟩ := at_T36 (Kd.C_below (Kd.R_reads' hRW).2.2 hbW) (q : Int) (by omega) (by omega)
          rw [rd36_nat _ _ hqG, Int.toNat_natCast, hGq] at hz0 hz1
          subst e8
          have hqt : G.length - n + x.i = q := by omega
          rw [← hqt] at hz0 hz1
          clear hqt
          have w3' := wrap_in (x := (G.length : Int) - (n : Int)) (by omega) (by omega)
          have w4' := wrap_in (x := (G.length : Int) - (n : Int) + (x.i : Int)) (by omega) (by omega)
          have LCc := fun (k : Nat) => quiet_w (len_calls (hLc.drewN k) hbe1)
          rw [Hs.of_len, HN.out] at LCc
          have LCc' := Aside0.mk LCc
          have hbq : (x.s.f0 == x.s.f0) = true := by rw [beq_toListBytes]; simp
          clear LCc hq
          gi_wp2
          refine region_round_quiet (C := fun w' => ∃ n, w' = wc.drewN n) (by kernel_rfl) (by kernel_rfl) (by kernel_rfl) (fun ⟨_, _, h⟩ => h) ⟨1, rfl⟩ ?_
          repeat (any_goals (first | go_big_quiet_step ((go_at_call 12; exact LCc'.out _)) | quiet_step ((go_at_call 12; exact LCc'.out _))))
          all_goals (refine wpQuiet_nil ?_; intro _ hw'; obtain ⟨nq2, hw''⟩ := hw'; subst hw'')
          gi_wp2
          have hbF := pw_below_drewN hbW nq2
          exact ⟨⟨hbF.size, fun k o _ hk _ => (hbF.block k (blk_lt hk)).trans hk⟩, ⟨hbF.size, fun k _ hl => hbF.block k hl⟩, below_step hW hbF⟩
      case done =>
        rintro D xs W hD hxs hW hK
        have hBW : Below w.heap.size w W := below_step (below_step (pw_below_drewN hbel nq) hb7) hW
        have h4W := blk_below (blk_below (blk_drewN h4 nq) hb7) hW
        have hk4W : W.cell? ⟨g4, 0, none⟩ = some (.bool false) := (blk_cell h4W 0).trans rfl
        have hf4W := blk_frozen h4W 0
        go_wp2
        have hK2 := (KeepsOthers.setCell W ⟨g4, 0, none⟩ (.bool true)).same D _ hK rfl
        have hb6t := blk_put h4W 0 (.bool true) rfl
        refine ⟨by simp, .inl ⟨_, _, rfl, run_takeDeferred hK2, ?_⟩⟩
        have hc5 := cell_kept ((blk_cell hb6t 0).trans rfl : _ = some (Value.bool true)) (grownBy_putObj' _ D (.deferred none)) (fun r e => by cases e; exact ⟨_, hK2, rfl⟩)
        refine ⟨.bool true, ?_, rfl, (hBW.setCell (p := ⟨g4, 0, none⟩) hg4w _).trans (belowK_b (w := w) (Nat.le_refl _) _ D _ _ (by have := (below_step (pw_below_drewN hbel nq) hb7).size; omega) hK2 rfl rfl)⟩
        simp [results, Try.f3, go_sem, hc5]
      case stop =>
        rintro D c pre W _ _ h _
        exact h.elim
end Go.Proofs.Ytbjdjbhmafmnbaa
