/-
  The walk of HistWalks.
-/
import Derived.Test.YtbjdjbhmafmnbaaRE
import Derived.Test.YtbjdjbhmafmnbaaHF
import Derived.Deep.RegionHeld3
namespace Go.Proofs.Ytbjdjbhmafmnbaa
open Go.RowKit Go.Proofs.YtbjdjbhmafmnbaaW.PrintWords Go.Proofs.YtbjdjbhmafmnbaaW.PrintLast Go.Proofs.YtbjdjbhmafmnbaaW.PrintMore Go.Proofs.Ytbjdjbhmafmnbaa.PAll
set_option linter.unusedVariables false
set_option linter.unusedSimpArgs false
attribute [local go_sem] Oper.semAt_some
/-- What To tells, and what the walk is behind it. -/
def ansTo (q : Wk) (i : Int) (s : ByteArray) : ByteArray × Int × Wk :=
  if i < 0 ∨ (q.now.length : Int) ≤ i then (⟨#[]⟩, 6, q) else if 16384 < s.size then (⟨#[]⟩, 3, q) else ((q.now.set q.place s).getD i.toNat ⟨#[]⟩, 0, q.to i.toNat s)
/-- What Here tells. -/
def ansHere (q : Wk) (i : Int) : ByteArray × Bool := if i < 0 ∨ (q.now.length : Int) ≤ i then (⟨#[]⟩, false) else (q.now.getD i.toNat ⟨#[]⟩, true)
theorem ansTo_was (q : Wk) (i : Int) (s : ByteArray) : (ansTo q i s).2.2.was = q.was := by
  unfold ansTo; split <;> try split
  all_goals rfl
theorem ansTo_len (q : Wk) (i : Int) (s : ByteArray) : (ansTo q i s).2.2.now.length = q.now.length := by
  unfold ansTo; split <;> try split
  all_goals simp [Wk.to]
theorem ansTo_place (q : Wk) (i : Int) (s : ByteArray) (h : q.place < q.now.length) : (ansTo q i s).2.2.place < q.now.length := by
  unfold ansTo; split
  · exact h
  · split
    · exact h
    · simp only [Wk.to]; omega
theorem to_any {w : World} {B g : Nat} {u v : Value} {q : Wk} (h : WL w B g u v q) (hp : q.place < q.now.length) (i : Int) (s : ByteArray) :
    Calls Try.prog 19 #[.pointer (some ⟨g, 0, none⟩), .int .i64 i, .string s] w fun e w' => e = .returned (.tuple #[.string (ansTo q i s).1, .int .i64 (ansTo q i s).2.1]) ∧ WL w' B g u v (ansTo q i s).2.2 ∧ Fr (fun k => k = g ∨ some k = v.ownBlock) w w' := by
  unfold ansTo
  split
  · rename_i hi
    refine (to_out h (by omega) i hi s).mono ?_
    rintro e w' ⟨rfl, rfl⟩
    exact ⟨rfl, h, Fr.refl _ _⟩
  · rename_i hi
    obtain ⟨k, rfl⟩ : ∃ k : Nat, i = (k : Int) := ⟨i.toNat, by omega⟩
    split
    · rename_i hs
      refine (to_long h k (by omega) s hs).mono ?_
      rintro e w' ⟨rfl, rfl⟩
      exact ⟨rfl, h, Fr.refl _ _⟩
    · rename_i hs
      refine (to_calls h k (by omega) hp s (by omega)).mono ?_
      rintro e w' ⟨rfl, h1, h2⟩
      refine ⟨?_, h1, h2⟩
      have hk : k < (q.now.set q.place s).length := by simp; omega
      simp only [Int.toNat_natCast, List.getD, List.getElem?_eq_getElem hk, Option.getD_some]
theorem rto_any {w : World} {B g : Nat} {u v : Value} {q q' : Wk} (h : XL w B g u v q') (hn : q'.now = q.now) (hpl : q'.place = q.place) (hp : q.place < q.now.length) (i : Int) (s : ByteArray) :
    Calls Try.prog 24 #[.pointer (some ⟨g, 0, none⟩), .int .i64 i, .string s] w fun e w' => e = .returned (.tuple #[.string (ansTo q i s).1, .int .i64 (ansTo q i s).2.1]) ∧ XL w' B g u v ⟨q'.was, (ansTo q i s).2.2.now, (ansTo q i s).2.2.place⟩ ∧ Fr (fun k => k = g ∨ some k = v.ownBlock) w w' := by
  obtain ⟨qw, qn, qp⟩ := q'
  obtain rfl : qn = q.now := hn
  obtain rfl : qp = q.place := hpl
  unfold ansTo
  split
  · rename_i hi
    refine (rto_out h (by show 0 < q.now.length; omega) i hi s).mono ?_
    rintro e w' ⟨rfl, rfl⟩
    exact ⟨rfl, h, Fr.refl _ _⟩
  · rename_i hi
    obtain ⟨k, rfl⟩ : ∃ k : Nat, i = (k : Int) := ⟨i.toNat, by omega⟩
    split
    · rename_i hs
      refine (rto_long h k (by show k < q.now.length; omega) s hs).mono ?_
      rintro e w' ⟨rfl, rfl⟩
      exact ⟨rfl, h, Fr.refl _ _⟩
    · rename_i hs
      refine (rto_calls h k (by show k < q.now.length; omega) hp s (by omega)).mono ?_
      rintro e w' ⟨rfl, h1, h2⟩
      refine ⟨?_, h1, h2⟩
      have hk : k < (q.now.set q.place s).length := by simp; omega
      simp only [Int.toNat_natCast, List.getD, List.getElem?_eq_getElem hk, Option.getD_some]
theorem here_any {w : World} {B g : Nat} {u v : Value} {q : Wk} (h : WL w B g u v q) (hn : 0 < q.now.length) (i : Int) :
    Calls Try.prog 25 #[.pointer (some ⟨g, 0, none⟩), .int .i64 i] w fun e w' => e = .returned (.tuple #[.string (ansHere q i).1, .bool (ansHere q i).2]) ∧ w = w' := by
  unfold ansHere
  split
  · rename_i hi
    exact here_out h hn i hi
  · rename_i hi
    obtain ⟨k, rfl⟩ : ∃ k : Nat, i = (k : Int) := ⟨i.toNat, by omega⟩
    have hk : k < q.now.length := by omega
    simp only [Int.toNat_natCast, List.getD, List.getElem?_eq_getElem hk, Option.getD_some]
    exact here_calls h k hk
theorem rhere_any {w : World} {B g : Nat} {u v : Value} {q q' : Wk} (h : XL w B g u v q') (hnn : q'.now = q.now) (hn : 0 < q.now.length) (i : Int) :
    Calls Try.prog 26 #[.pointer (some ⟨g, 0, none⟩), .int .i64 i] w fun e w' => e = .returned (.tuple #[.string (ansHere q i).1, .bool (ansHere q i).2]) ∧ w = w' := by
  obtain ⟨qw, qn, qp⟩ := q'
  obtain rfl : qn = q.now := hnn
  unfold ansHere
  split
  · rename_i hi
    exact rhere_out h hn i hi
  · rename_i hi
    obtain ⟨k, rfl⟩ : ∃ k : Nat, i = (k : Int) := ⟨i.toNat, by omega⟩
    have hk : k < q.now.length := by omega
    simp only [Int.toNat_natCast, List.getD, List.getElem?_eq_getElem hk, Option.getD_some]
    exact rhere_calls h k hk
theorem chgs_more (was now : List ByteArray) (x : ByteArray) : ∀ k, k ≤ was.length → chgs (was ++ [x]) now k = chgs was now k
  | 0, _ => rfl
  | k + 1, h => by
    have e : (was ++ [x]).getD k ⟨#[]⟩ = was.getD k ⟨#[]⟩ := by
      simp only [List.getD]
      rw [List.getElem?_append_left (by omega)]
    rw [chgs, chgs, chgs_more was now x k (by omega), e]
theorem add_any {w : World} {B g : Nat} {v : Value} {q : Hs} (hl : HL w B g v q) (A0 : Option Addr) (c0 : Nat) (l0 : List S36) (hr0 : Kd.C k36 w A0 l0.length l0) (hc0 : l0.length ≤ c0)
    (hn0 : q.lines.length + l0.length ≤ 1000000000000) (hm0 : 0 ≤ q.most) (hm1 : q.most ≤ 4096) (hB : B ≤ w.heap.size) (hbg : B ≤ g) (hb0 : 0 < q.base) (hb1 : q.base ≤ 1000000000000000) :
    Calls Try.prog 11 #[.pointer (some ⟨g, 0, none⟩), .slice A0 l0.length c0] w fun e w' => (∃ n : Int, e = .returned (.int .i64 n)) ∧ Fr (fun k => k = g ∨ some k = v.ownBlock) w w' := by
  by_cases hm : mayF l0 = 0
  · refine (add_calls hl A0 c0 l0 hr0 hc0 hm hn0 hm0 hm1 hB hbg hb0 hb1).mono ?_
    rintro e w' ⟨rfl, v', h1, h2, h3⟩
    exact ⟨⟨_, rfl⟩, h3⟩
  · refine (add_bad hl (by omega) A0 c0 l0 hr0 hc0 (by omega) hm).mono ?_
    rintro e w' ⟨rfl, h⟩
    exact ⟨⟨_, rfl⟩, Fr.of_below h⟩
set_option maxRecDepth 100000 in
set_option maxHeartbeats 2000000 in
theorem walkWalks (A0 : Option Addr) (c0 : Nat) (l0 : List S36) (A1 : Option Addr) (c1 : Nat) (gs : List S106) (A2 : Option Addr) (c2 : Nat) (l2 : List S36) {w : World}
    (hr0 : Kd.C k36 w A0 l0.length l0) (hc0 : l0.length ≤ c0) (hl0 : l0.length ≤ 1048576) (hr1 : Kd.C k106 w A1 gs.length gs) (hc1 : gs.length ≤ c1) (hl1 : gs.length ≤ 1048576) (hg1 : ∀ y ∈ gs, (Lit.int .i64 y.f0).wf = true) (hr2 : Kd.C k36 w A2 l2.length l2) (hc2 : l2.length ≤ c2) (hl2 : l2.length ≤ 1048576) :
    Calls Try.prog 5 #[.slice A0 l0.length c0, .slice A1 gs.length c1, .slice A2 l2.length c2] w fun e w' => e = .returned (.bool true) ∧ Below w.heap.size w w' := by
  by_cases hm : mayF l0 = 0
  · have hq0 : Hs.add ⟨[], 1, 4096⟩ l0 = Hs.of 4096 l0 := by
      have := Hs.of_add 4096 [] l0
      rwa [Hs.of_nil, List.nil_append] at this
    have hlen := Hs.of_len 4096 l0
    have hb0 : 0 < (Hs.of 4096 l0).base := by simp only [Hs.of]; omega
    have hb1 : (Hs.of 4096 l0).base ≤ 1000000000000000 := by simp only [Hs.of, gone]; omega
    have hmo : (Hs.of 4096 l0).most = 4096 := rfl
    generalize Hs.of 4096 l0 = Q at hq0 hlen hb0 hb1 hmo
    have hlen' : Q.lines.length ≤ 4096 := by omega
    clear hlen
    have FC := Aside0.mk (from_calls 4096 (by decide) (by decide) A0 c0 l0 w hr0 hc0 (by omega) hm)
    have RC := Aside0.mk (fun (w1 : World) (hb : Below w.heap.size w w1) => rfrom_calls 4096 (by decide) (by decide) A0 c0 l0 w1 (Kd.C_below hr0 hb) hc0 (by omega) hm)
    rw [hq0] at FC RC
    go_enter Try.func5, Try.ntmps5
    go_wp2_with (first
      | (go_at_call 16; refine FC.out.mono ?_; rintro e wa ⟨gh, vh, rfl, hgh, hHa, hba⟩)
      | (go_at_call 22; refine (RC.out wa hba).mono ?_; rintro e wb ⟨gr, vr, rfl, hgr, hRb, hbb⟩)
      | (go_at_call 10; refine (begun_calls _).mono ?_; rintro e wc ⟨rfl, hbc⟩; have hHc := (hHa.below hbb).below hbc; have hRc := hRb.below hbc; have hBc := Aside0.mk (below_step (below_step hba hbb) hbc))
      | (go_at_call 17; refine (newWalk_calls hHc (by omega) (by omega)).mono ?_; rintro e wd ⟨gw, u1, u2, rfl, hgw, hWd, hbd⟩)
      | (go_at_call 23; refine (rnewWalk_calls (hRc.below hbd) (by omega)).mono ?_; rintro e we ⟨gx, v1, v2, rfl, hgx, hXe, hbe⟩; have hBe := Aside0.mk (below_step (below_step hBc.out hbd) hbe); have AC := Aside0.mk (add_any ((hHc.below hbd).below hbe) A2 c2 l2 (Kd.C_below hr2 hBe.out) hc2 (by omega) (by omega) (by omega) (by have := hba.size; have := hbb.size; have := hbc.size; have := hbd.size; have := hbe.size; omega) hgh hb0 hb1))
      | (go_at_call 11; refine AC.out.mono ?_; rintro e wf ⟨⟨nn, rfl⟩, hFf⟩))
    have s1 := hba.size
    have s2 := hbb.size
    have s3 := hbc.size
    have s4 := hbd.size
    have s5 := hbe.size
    have s6 := hFf.size
    have lgh := blk_lt hHa.box
    have lvh : ∀ k, some k = vh.ownBlock → w.heap.size ≤ k ∧ k < wa.heap.size := fun k hk => ⟨Kd.R_base hHa.row k hk.symm, Kd.R_lt hHa.row k hk.symm⟩
    have lu1 : ∀ k, some k = u1.ownBlock → wc.heap.size ≤ k ∧ k < wd.heap.size := fun k hk => ⟨Kd.R_base hWd.was k hk.symm, Kd.R_lt hWd.was k hk.symm⟩
    have lu2 : ∀ k, some k = u2.ownBlock → wc.heap.size ≤ k ∧ k < wd.heap.size := fun k hk => ⟨Kd.R_base hWd.now k hk.symm, Kd.R_lt hWd.now k hk.symm⟩
    have lv1 : ∀ k, some k = v1.ownBlock → wd.heap.size ≤ k ∧ k < we.heap.size := fun k hk => ⟨Kd.R_base hXe.was k hk.symm, Kd.R_lt hXe.was k hk.symm⟩
    have lv2 : ∀ k, some k = v2.ownBlock → wd.heap.size ≤ k ∧ k < we.heap.size := fun k hk => ⟨Kd.R_base hXe.now k hk.symm, Kd.R_lt hXe.now k hk.symm⟩
    have lgw := blk_lt hWd.box
    have lgx := blk_lt hXe.box
    have hWf := (hWd.below hbe).fr hFf (fun h => h.elim (fun e => by omega) (fun e => by have := lvh _ e; omega)) (fun k hk h => h.elim (fun e => by have := lu1 k hk; omega) (fun e => by have := lvh _ e; have := lu1 k hk; omega)) (fun k hk h => h.elim (fun e => by have := lu2 k hk; omega) (fun e => by have := lvh _ e; have := lu2 k hk; omega))
    have hXf := hXe.fr hFf (fun h => h.elim (fun e => by omega) (fun e => by have := lvh _ e; omega)) (fun k hk h => h.elim (fun e => by have := lv1 k hk; omega) (fun e => by have := lvh _ e; have := lv1 k hk; omega)) (fun k hk h => h.elim (fun e => by have := lv2 k hk; omega) (fun e => by have := lvh _ e; have := lv2 k hk; omega))
    have hBf := hBe.out.trans (hFf.below (B := w.heap.size) (fun k h => h.elim (fun e => by omega) (fun e => by have := lvh _ e; omega)) (by omega))
    have hTl := textsOf_len Q.lines
    go_loopw [60] (fun i wr => ∃ (j : Nat) (q : Wk), i = .int .i64 (j : Int) ∧ j ≤ gs.length ∧ WL wr wc.heap.size gw u1 u2 q ∧ XL wr wd.heap.size gx v1 v2 ⟨q.was ++ [⟨#[]⟩], q.now, q.place⟩ ∧ q.was.length ≤ 4096 ∧ q.now.length = q.was.length + 1 ∧ q.place < q.now.length ∧ Below w.heap.size w wr ∧ wf.heap.size ≤ wr.heap.size)
      (fun i wr => gs.length - (intOf i).toNat)
    case atStart => exact ⟨0, ⟨textsOf Q.lines, textsOf Q.lines ++ [⟨#[]⟩], Q.lines.length⟩, rfl, by omega, hWf, hXf, by show (textsOf Q.lines).length ≤ 4096; omega, by simp, by simp [hTl], hBf, Nat.le_refl _⟩
    case round =>
      obtain ⟨j, q, rfl, hj, hW, hX, hql, hqn, hqp, hbel, hsz⟩ := hrel
      by_cases hlt : j < gs.length
      · obtain ⟨ad, e8, hz0, hz1⟩ := at_T106 (Kd.C_below hr1 hbel) (j : Int) (by omega) (by omega)
        rw [Int.toNat_natCast] at hz0 hz1
        subst e8
        generalize rd_T106 gs (j : Int) = x at hz0 hz1
        go_wp2_with (first
          | ((with_reducible refine gate_dst (N := 14) rfl ?_); refine box_event ?hg (N := 14) ?hd (cs := #[.int .i64 0, .string ⟨#[]⟩]) (t := 47) ?hr ?_; (case hd => rfl); (case hg => rfl); (case hr => first | (go_simp; done) | (go_simp; rfl)); intro g14 hg w1 hb14 hb1; have hl14 := Aside0.mk (Nat.le_of_eq hg.symm); clear hg; have hk14 : w1.cell? ⟨g14, 0, none⟩ = some (.int .i64 0) := (blk_cell hb14 0).trans rfl; have hk14b : w1.cell? ⟨g14, 1, none⟩ = some (.string ⟨#[]⟩) := (blk_cell hb14 1).trans rfl; have hf14 := blk_frozen hb14 0; have hf14b := blk_frozen hb14 1)
          | (go_at_call 19; go_loud (have hBz := Aside0.mk (below_set (j := 1) (v := .string x.f1) (below_set (j := 0) (v := .int .i64 x.f0) hb1 hl14.out) hl14.out); have hbz := Aside0.mk (blk_put (blk_put hb14 0 (.int .i64 x.f0) rfl) 1 (.string x.f1) rfl); refine (to_any (hW.below hBz.out) hqp x.f0 x.f1).mono ?_; rintro e w2 ⟨rfl, hW2, hF2⟩; have hb2 := Aside0.mk (hF2.blk hbz.out (fun h => h.elim (fun e => by have := hl14.out; omega) (fun e => by have := hl14.out; have := lu2 _ e; omega))); have hX2 := (hX.below hBz.out).fr hF2 (fun h => h.elim (fun e => by omega) (fun e => by have := lu2 _ e; omega)) (fun k hk h => h.elim (fun e => by have := lv1 k hk; omega) (fun e => by have := lu2 _ e; have := lv1 k hk; omega)) (fun k hk h => h.elim (fun e => by have := lv2 k hk; omega) (fun e => by have := lu2 _ e; have := lv2 k hk; omega)); have hBel2 := Aside0.mk ((below_step hbel hBz.out).trans (hF2.below (B := w.heap.size) (fun k h => h.elim (fun e => by omega) (fun e => by have := lu2 _ e; omega)) (by have := hBz.out.size; omega))); have hs2 := Aside0.mk (Nat.le_trans hBz.out.size hF2.size); have hk20 : w2.cell? ⟨g14, 0, none⟩ = some (.int .i64 x.f0) := (blk_cell hb2.out 0).trans rfl; have hk21 : w2.cell? ⟨g14, 1, none⟩ = some (.string x.f1) := (blk_cell hb2.out 1).trans rfl))
          | (go_at_call 24; go_loud (refine (rto_any (q := q) hX2 rfl rfl hqp x.f0 x.f1).mono ?_; rintro e w3 ⟨rfl, hX3, hF3⟩; have hb3 := Aside0.mk (hF3.blk hb2.out (fun h => h.elim (fun e => by have := hl14.out; omega) (fun e => by have := hl14.out; have := lv2 _ e; omega))); have hW3 := hW2.fr hF3 (fun h => h.elim (fun e => by omega) (fun e => by have := lv2 _ e; omega)) (fun k hk h => h.elim (fun e => by have := lu1 k hk; omega) (fun e => by have := lv2 _ e; have := lu1 k hk; omega)) (fun k hk h => h.elim (fun e => by have := lu2 k hk; omega) (fun e => by have := lv2 _ e; have := lu2 k hk; omega)); have hBel3 := Aside0.mk (hBel2.out.trans (hF3.below (B := w.heap.size) (fun k h => h.elim (fun e => by omega) (fun e => by have := lv2 _ e; omega)) (by have := hs2.out; omega))); have hs3 := Aside0.mk (Nat.le_trans hs2.out hF3.size); have hk30 : w3.cell? ⟨g14, 0, none⟩ = some (.int .i64 x.f0) := (blk_cell hb3.out 0).trans rfl; have hk31 : w3.cell? ⟨g14, 1, none⟩ = some (.string x.f1) := (blk_cell hb3.out 1).trans rfl; have hTw := Aside0.mk (ansTo_was q x.f0 x.f1); have hTl := Aside0.mk (ansTo_len q x.f0 x.f1); have hTp := Aside0.mk (ansTo_place q x.f0 x.f1 hqp); generalize hT : ansTo q x.f0 x.f1 = T at hW3 hX3 hTw hTl hTp ⊢))
          | (go_at_call 25; go_loud (refine (here_any hW3 (by rw [hTl.out]; omega) x.f0).mono ?_; rintro e w' ⟨rfl, rfl⟩))
          | (go_at_call 26; go_loud (refine (rhere_any (q := T.2.2) hX3 rfl (by rw [hTl.out]; omega) x.f0).mono ?_; rintro e w' ⟨rfl, rfl⟩)))
        have hxc := hX3.c2
        obtain ⟨a, e, q2⟩ := T
        simp only at hxc hTw hTl hTp hW3 hX3 ⊢
        have hPl := Aside0.mk (place_calls (hW3.below (below_drew (Below.refl _ _))) (by rw [hTl.out]; omega))
        have hCh := chgs_more q2.was q2.now ⟨#[]⟩ q2.was.length (Nat.le_refl _)
        have hRCH := rchanged_calls (hX3.below (below_drew (Below.refl _ _))) (by have h1 := hTl.out; have h2 := hTw.out; simp only [List.length_append, List.length_singleton] at h1 ⊢; omega) (by simp only [List.length_append, List.length_singleton]; omega) (by simp)
        simp only [List.length_append, List.length_singleton, Nat.add_sub_cancel] at hRCH
        rw [← hTw.out, hCh] at hRCH
        have HR := Aside0.mk hRCH
        have hSC := Aside0.mk (fun (w' : World) (hb : Below w3.drew.heap.size w3.drew w') => same_changed ((hW3.below (below_drew (Below.refl _ _))).below hb) (by have h1 := hTl.out; have h2 := hTw.out; rw [h1, hqn, h2]) (by rw [hTw.out]; omega))
        generalize chgs q2.was q2.now q2.was.length = cs at HR hSC
        clear hRCH hCh
        have hWs := Aside0.mk hW3
        have hXs := Aside0.mk hX3
        generalize hH : ansHere q2 x.f0 = hh
        obtain ⟨hc, hd⟩ := hh
        have haa : (a == a) = true := by rw [beq_toListBytes]; simp
        have hcc : (hc == hc) = true := by rw [beq_toListBytes]; simp
        simp only
        clear hW3 hX3 hX2 hW2 hF2 hF3 hb2 hb3 hbz hBz hk20 hk21 hk30 hk31 hf14 hf14b hk14 hk14b hT hH
        go_region_held3 (fun w' => w'.cell? ⟨gx, 2, none⟩ = some (.int .i64 (q2.place : Int)))
          (first | exact hxc | exact hxc4 | exact hxc5)
          (first
            | (go_at_call 18; refine hPl.out.mono ?_; rintro e w' ⟨rfl, rfl⟩)
            | (go_at_call 28; go_loud (refine HR.out.mono ?_; rintro e w4 ⟨vr, rfl, hR4, hb4⟩; obtain ⟨A4, c4, rfl⟩ := Kd.R_slice hR4; have hxc4 : w4.cell? ⟨gx, 2, none⟩ = some (.int .i64 (q2.place : Int)) := (hXs.out.below (below_step (below_drew (Below.refl _ _)) hb4)).c2))
            | (go_at_call 27; go_loud (refine (hSC.out _ hb4 _ _ _ (Kd.R_reads' hR4).2.2 (Kd.R_reads' hR4).2.1).mono ?_; rintro e w5 ⟨rfl, hb5⟩; have hxc5 : w5.cell? ⟨gx, 2, none⟩ = some (.int .i64 (q2.place : Int)) := (hXs.out.below (below_step (below_step (below_drew (Below.refl _ _)) hb4) hb5)).c2)))
        have hb35 := below_step (below_step (below_drew (Below.refl _ _)) hb4) hb5
        have hW5 := hWs.out.below hb35
        have hX5 := hXs.out.below hb35
        have hB5 := below_step hBel3.out hb35
        have hs35 := hb35.size
        go_wp2
        go_roundw
        case rel => exact ⟨j + 1, q2, by simp, by omega, hW5, by rw [hTw.out]; exact hX5, by rw [hTw.out]; exact hql, by rw [hTl.out, hTw.out]; exact hqn, by rw [hTl.out]; exact hTp.out, hB5, by have := hs3.out; omega⟩
        case measure => simp [intOf]; omega
      · have hPl := Aside0.mk (fun n => quiet_w (place_calls (hW.drewN n) (by omega)))
        have hxc := hX.c2
        go_wp2
        go_quiet ((go_at_call 18; exact hPl.out _))
        go_wp2
        go_ret
        exact ⟨rfl, pw_below_drewN hbel _⟩
  · have FC := Aside0.mk (from_lines 4096 (by decide) (by decide) A0 c0 l0 w hr0 hc0 (by omega) hm)
    have RC := Aside0.mk (fun (w1 : World) (hb : Below w.heap.size w w1) => rfrom_lines 4096 (by decide) (by decide) A0 c0 l0 w1 (Kd.C_below hr0 hb) hc0 (by omega) hm)
    generalize mayF l0 = m at hm FC RC
    have hm0 : decide (m = 0) = false := by simp [hm]
    have hm1 : (m == 0) = false := by simp [hm]
    go_enter Try.func5, Try.ntmps5
    go_wp2_with (first
      | (go_at_call 16; refine FC.out.mono ?_; rintro e wa ⟨rfl, hba⟩)
      | (go_at_call 22; refine (RC.out wa hba).mono ?_; rintro e wb ⟨rfl, hbb⟩)
      | (go_at_call 10; refine (begun_calls _).mono ?_; rintro e wc ⟨rfl, hbc⟩))
    go_ret
    exact ⟨rfl, below_step (below_step hba hbb) hbc⟩
end Go.Proofs.Ytbjdjbhmafmnbaa
