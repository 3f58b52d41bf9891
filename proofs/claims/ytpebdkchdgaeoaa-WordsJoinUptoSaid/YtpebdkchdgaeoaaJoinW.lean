/-
  The walk of WordsJoin.
-/
import Derived.Test.YtpebdkchdgaeoaaStops
import Derived.Test.YtpebdkchdgaeoaaU9
import Derived.Test.YtpebdkchdgaeoaaArgs2
namespace Go.Proofs.Ytpebdkchdgaeoaa
open Go.RowKit Go.Proofs.YtpebdkchdgaeoaaW.PrintWords Go.Proofs.YtpebdkchdgaeoaaW.PrintLast Go.Proofs.YtpebdkchdgaeoaaW.PrintMore Go.Proofs.Ytpebdkchdgaeoaa.PAll
set_option linter.unusedVariables false
set_option linter.unusedSimpArgs false
attribute [local go_sem] Oper.semAt_some

theorem T9.mem_tot {l : List (List Int)} {t : List Int} (h : t ∈ l) : t.length ≤ T9.tot l := by
  induction l with
  | nil => cases h
  | cons x l ih =>
    have e : T9.tot (x :: l) = x.length + 1 + T9.tot l := by simp [T9.tot]
    rcases List.mem_cons.1 h with rfl | h
    · omega
    · have := ih h
      omega
/-- A count of rounds, as the machine counts. -/
def cnt (n : Nat) : Int := wrap64 (n : Int)
theorem cnt_succ (n : Nat) : wrap64 (cnt n + 1) = cnt (n + 1) := by
  unfold cnt wrap64
  omega
theorem cnt_small (n : Nat) (h : n ≤ 1000000000000) : cnt n = (n : Int) := T.wrapN rfl (by omega) (by omega)

/-- A text that lies in the memory of w. -/
def RinW (w : World) (p : List Int) (cs : List Value) : Prop := ∃ A c, cs = [.slice A p.length c] ∧ p.length ≤ c ∧ Kd.C (Kd.int .i32) w A p.length p

theorem take_k27 {head all rest : List S27} (h : all = head ++ rest) {W : World} {A : Option Addr} (hC : Kd.C k27 W A all.length all) : Kd.C k27 W A head.length head := by
  have h1 := Kd.C_take (m := head.length) hC (by rw [h, List.length_append]; omega)
  rw [h, List.take_left] at h1
  exact h1
theorem words_at (k : Nat) (A0 : Option Addr) (n c0 : Nat) (l0 : List Int) (r : List S27) (w : World) (hn : l0.length = n) (hr0 : Kd.C (Kd.int .i32) w A0 n l0) (hc0 : n ≤ c0) (h : shwords_Words.f k l0 = some r) :
    Calls Try.prog 9 #[.slice A0 n c0] w fun e w' => ∃ v0_ : Value, e = .returned (v0_) ∧ Kd.R k27 27 w' w.heap.size (fun _ => True) v0_ r ∧ Below w.heap.size w w' := by
  subst hn
  exact shwords_Words.calls k A0 c0 l0 r w hr0 hc0 h
theorem reads_texts {w W : World} {base : Nat} {A : Option Addr} {n c : Nat} {ps : List (List Int)} (h : OwnRow (RinW w) 22 1 W base (.slice A n c) ps) (hb : Below w.heap.size w W) : Kd.C DT W A ps.length ps := by
  obtain ⟨A', c', e, _, hr⟩ := OwnRow.reads h
  injection e with e1 e2 e3
  subst e1
  exact hr.imp_ (Below.refl _ _) (fun p cs ⟨B, d, e, hl, hC⟩ => ⟨B, d, e, hl, Kd.C_below hC hb⟩)

set_option maxRecDepth 100000 in
set_option maxHeartbeats 4000000 in
theorem walkJoin (A3 : Option Addr) (c3 : Nat) (l3 : List (List Int)) {w : World} (R3 : TextsIn w A3 c3 l3) (hb3 : totL l3 ≤ 1048576) (A : Option Addr) (c : Nat) (l : List Int) (R : RunesIn w A l.length c l) (hb : l.length ≤ 1048576)
    (cut : Int) (hcut : (Lit.int IntKind.i64 cut).wf = true) :
    Calls Try.prog 4 #[.slice A3 l3.length c3, .slice A l.length c, .int .i64 cut] w fun e w' => e = .returned (.bool true) ∧ Below w.heap.size w w' := by
  refine (callsIn_wide (n := 4)).1 (callsIn_of_wp_marks Try.func4 rfl trivial ?_ rfl)
  refine wpIn_wide.2 ?_
  simp only [Try.ntmps4, List.size_toArray, List.length_cons, List.length_nil, Nat.reduceAdd, Nat.reduceSub, Array.replicate_succ, Array.replicate_zero, List.push_toArray, List.append_toArray, List.nil_append, List.cons_append]
  have hl3 : l3.length ≤ 1048576 := Nat.le_trans (T9.len_tot l3) hb3
  have HB0 := Aside0.mk (Below.refl w.heap.size w)
  go_wp2_with (first
    | ((with_reducible refine gate_dst (N := 6) rfl ?_); refine box_event ?hg (N := 6) ?hd (cs := #[.bool false]) (t := 4) ?hr ?_; (case hd => rfl); (case hg => rfl); (case hr => first | (go_simp; done) | (go_simp; rfl)); intro g6 hg w1 hbox6 hb1; have hle6 := Aside0.mk (Nat.le_of_eq hg.symm); clear hg; have HB1 := Aside0.mk (below_step HB0.out hb1))
    | (go_at_call 8; refine (lanyardlaw12_begun.calls 200 true _ (T.begun_f 200 (Nat.le_refl _))).mono ?_; rintro e w2 ⟨rfl, hb2⟩; have HB2 := Aside0.mk (below_step HB1.out hb2); have hbox6' := blk_below hbox6 hb2)
    | ((with_reducible refine gate_dst (N := 7) rfl ?_); refine box_event ?hg (N := 7) ?hd (cs := #[.slice none 0 0]) (t := 30) ?hr ?_; (case hd => rfl); (case hg => rfl); (case hr => first | (go_simp; done) | (go_simp; rfl)); intro g7 hg w3 hbox7 hb3'; have hle7 := Aside0.mk (Nat.le_of_eq hg.symm); clear hg; have HB3 := Aside0.mk (below_step HB2.out hb3'); have hbox6'' := blk_below hbox6' hb3'))
  have hne67 : g6 ≠ g7 := by have := hle7.out; have := blk_lt hbox6'; omega
  have hg7w : w.heap.size ≤ g7 := by have := hle7.out; have := HB2.out.size; omega
  have hg6w := hle6.out
  clear hb1 hb2 hb3' hbox6 hbox6' hle6 hle7
  go_loopw [19] (fun i wr => ∃ (j : Nat) (v : Value), i = .int .i64 (j : Int) ∧ j ≤ l3.length ∧ wr.heap[g7]? = some (.cells #[v] 30 (0, 0)) ∧ wr.heap[g6]? = some (.cells #[.bool false] 4 (0, 0)) ∧
      OwnRow (RinW w) 22 1 wr w.heap.size v ((l3.take j).filter T.aloneB) ∧ Below w.heap.size w wr)
    (fun i wr => l3.length - (intOf i).toNat)
  case atStart => exact ⟨0, _, rfl, Nat.zero_le _, hbox7, hbox6'', OwnRow.none_ _ _ _ _ _, HB3.out⟩
  case round =>
    obtain ⟨j, v, rfl, hj, hb7, hb6, hO, hbel⟩ := hrel
    by_cases hlt : j < l3.length
    · obtain ⟨ad, A0, c0, e7, hcellw, hle0, hC0⟩ := at_L4 R3.reads (j : Int) (by omega) (by omega)
      cases e7
      have hcell := (hbel.cell (World.block_lt_of_cell? w _ hcellw)).trans hcellw
      have ht : rd_L4 l3 (j : Int) = l3[j] := by simp [rd_L4, List.getD, List.getElem?_eq_getElem hlt]
      rw [Int.toNat_natCast, ht] at hcell
      rw [ht] at hle0 hC0
      have htk : l3.take (j + 1) = l3.take j ++ [l3[j]] := by rw [List.take_succ_eq_append_getElem hlt]
      have hlk : l3[j].length ≤ 1048576 := by
        have h1 := T9.tot_drop hlt
        have h2 := T9.tot_drop_le l3 j
        have h3 : T9.tot l3 ≤ 1048576 := hb3
        omega
      generalize l3[j] = t at hcell hle0 hC0 htk hlk
      clear hcellw ht
      have hal := T9.alone_f t (by omega) 10000000 (by omega)
      by_cases hA : T.aloneB t = true
      · rw [hA] at hal
        have hk7 : wr.cell? ⟨g7, 0, none⟩ = some v := (blk_cell hb7 0).trans rfl
        have hfl : ((l3.take j).filter T.aloneB).length ≤ 1048576 := Nat.le_trans (List.length_filter_le _ _) (by rw [List.length_take]; omega)
        have hfs : (l3.take (j + 1)).filter T.aloneB = (l3.take j).filter T.aloneB ++ [t] := by rw [htk, List.filter_append]; simp [hA]
        have hfn : ((l3.take j).filter T.aloneB ++ [t]).length = ((l3.take j).filter T.aloneB).length + 1 := by simp
        generalize (l3.take j).filter T.aloneB = fl at hO hfl hfs hfn
        go_wp2_with (first
          | (go_at_call 11; refine (lanyardlaw12_alone.calls 10000000 A0 c0 t true _ (Kd.C_below hC0 hbel) hle0 hal).mono ?_; rintro e w4 ⟨rfl, hb4⟩; have hb7' := blk_below hb7 hb4; have hb6'' := blk_below hb6 hb4; have hO' := hO.below hb4; have hbel' := Aside0.mk (below_step hbel hb4); have hk7' : w4.cell? ⟨g7, 0, none⟩ = some _ := (blk_cell hb7' 0).trans rfl)
          | ((with_reducible refine gate_builtin (b := .append) (xs := #[.tmp 25, .tmp 27]) rfl ?_); at_builtin; refine OwnRow.append (w0 := w) w.heap.size rfl (.tmp 25) (.tmp 27) 30 22 (.slice none 0 0) 1 24 rfl Try.underlying30 info22 rfl (by decide) (by omega) v fl t [.slice A0 t.length c0] rfl rfl ⟨A0, c0, rfl, hle0, hC0⟩ rfl (by simp [Value.oneCell']) hO' hbel'.out hbel'.out.size (by omega) ?_; intro v1 w6 hO6 hb6' hg6' hat6; obtain ⟨A6, c6, rfl, _⟩ := OwnRow.slice_ hO6; rw [hfn] at hO6; have hb7a := blk_grown hb7' hg6' (OwnRow.ne_block hO' hb7' (by decide)); have hb6a := blk_grown hb6'' hg6' (OwnRow.ne_block hO' hb6'' (by decide)); have hk6 : w6.cell? ⟨g7, 0, none⟩ = some v := (blk_cell hb7a 0).trans rfl; have hf6 := blk_frozen hb7a 0))
        go_roundw
        case rel => exact ⟨j + 1, _, by simp, by omega, blk_put hb7a 0 _ rfl, blk_far hb6a (p := ⟨g7, 0, none⟩) hne67 _, by rw [hfs]; exact OwnRow.set_ hO6 hb7a (by decide) 0 _, hb6'.setCell (p := ⟨g7, 0, none⟩) hg7w _⟩
        case measure => simp [intOf]; omega
      · have hA' : T.aloneB t = false := by simpa using hA
        rw [hA'] at hal
        have hfs : (l3.take (j + 1)).filter T.aloneB = (l3.take j).filter T.aloneB := by rw [htk, List.filter_append]; simp [hA']
        go_wp2_with (go_at_call 11; refine (lanyardlaw12_alone.calls 10000000 A0 c0 t false _ (Kd.C_below hC0 hbel) hle0 hal).mono ?_; rintro e w4 ⟨rfl, hb4⟩)
        go_roundw
        case rel => exact ⟨j + 1, v, by simp, by omega, blk_below hb7 hb4, blk_below hb6 hb4, by rw [hfs]; exact hO.below hb4, below_step hbel hb4⟩
        case measure => simp [intOf]; omega
    · obtain rfl : j = l3.length := by omega
      rw [List.take_of_length_le (Nat.le_refl _)] at hO
      have hS : ∀ x ∈ l3.filter T.aloneB, T.aloneB x = true := fun x hx => (List.mem_filter.1 hx).2
      have hStot : T9.tot (l3.filter T.aloneB) ≤ 1048576 := Nat.le_trans (T9.tot_filter T.aloneB l3) hb3
      have hSlen := Nat.le_trans (T9.len_tot (l3.filter T.aloneB)) hStot
      have hSj := Nat.le_trans (T9.joined_len (l3.filter T.aloneB)) hStot
      have hSt := T9.texts_joined _ hS
      have hSb : ∀ t ∈ l3.filter T.aloneB, t.length ≤ 1000000000000 := fun t ht => Nat.le_trans (Nat.le_trans (T9.mem_tot ht) hStot) (by decide)
      generalize l3.filter T.aloneB = S at hO hS hStot hSlen hSj hSt hSb
      obtain ⟨Av, cv, rfl, hcv, hrow⟩ := OwnRow.reads hO
      have hwJ := T.words_f (T9.joined S) (by omega) 10000000 (by omega)
      have hwb : ∀ s ∈ T.wordsL (T9.joined S), 0 ≤ s.f1 ∧ s.f1 < s.f2 ∧ s.f2 ≤ (T9.joined S).length := fun s hs => by
        have := T.wordsZ_bounds _ _ 0 (Nat.le_refl _) s hs
        rw [T.zs_length] at this
        omega
      have hwl : (T.wordsL (T9.joined S)).length ≤ 1048576 := Nat.le_trans (T.wordsL_len _) hSj
      go_wp2_with (first
        | ((with_reducible refine gate_dst (N := 10) rfl ?_); refine box_event ?hg (N := 10) ?hd (cs := #[.int .i64 0]) (t := 3) ?hr ?_; (case hd => rfl); (case hg => rfl); (case hr => first | (go_simp; done) | (go_simp; rfl)); intro g10 hg w4 hbox10 hb4; have hle10 := Aside0.mk (Nat.le_of_eq hg.symm); clear hg; have HB4 := Aside0.mk (below_step hbel hb4); have hne7 : g7 ≠ g10 := (by have := hle10.out; have := blk_lt hb7; omega); have hne6 : g6 ≠ g10 := (by have := hle10.out; have := blk_lt hb6; omega); have hO5 := OwnRow.set_ (hO.below hb4) hbox10 (by decide) 0 (.int .i64 0); have h57 := blk_far (blk_below hb7 hb4) (p := ⟨g10, 0, none⟩) hne7 (.int .i64 0); have h56 := blk_far (blk_below hb6 hb4) (p := ⟨g10, 0, none⟩) hne6 (.int .i64 0); have h510 := blk_put hbox10 0 (.int .i64 0) rfl; have HB5 := Aside0.mk (HB4.out.setCell (p := ⟨g10, 0, none⟩) (by have := hle10.out; have := hbel.size; show w.heap.size ≤ g10; omega) (.int .i64 0)); have hk5 : (w4.setCell ⟨g10, 0, none⟩ (.int .i64 0)).cell? ⟨g7, 0, none⟩ = some (.slice Av S.length cv) := (blk_cell h57 0).trans rfl; have hk10 : w4.cell? ⟨g10, 0, none⟩ = some (.int .i64 0) := (blk_cell hbox10 0).trans rfl; have hf10 := blk_frozen hbox10 0)
        | (go_at_call 13; refine (shwords_Join.calls 2000000 Av cv S (T9.joined S) _ (reads_texts hO5 HB5.out) hcv (T9.join_f S (by omega) 2000000 (by omega))).mono ?_; rintro e w6 ⟨v31, rfl, hJ, hb6w⟩; obtain ⟨AJ, cJ, rfl⟩ := Kd.R_slice hJ; have hJr := Kd.R_reads' hJ)
        | (go_at_call 12; refine (texts_calls AJ cJ (T9.joined S) (T.wordsL (T9.joined S)) _ hJr.2.2 hJr.2.1 hSj 10000000 hwJ hwb hwl).mono ?_; rintro e w7 ⟨B, vt, rfl, hBge, hbt, hRt, hb7w⟩))
      have h77 := blk_below (blk_below h57 hb6w) hb7w
      have h76 := blk_below (blk_below h56 hb6w) hb7w
      have h710 := blk_below (blk_below h510 hb6w) hb7w
      have HB7 := below_step (below_step HB5.out hb6w) hb7w
      have hO7 := (hO5.below hb6w).below hb7w
      have hSt' : (T.wordsL (T9.joined S)).map (cutW (T9.joined S)) = S := hSt
      rw [hSt'] at hRt
      have hRK : Kd.R DT 22 w7 w6.heap.size (fun k => w6.heap.size ≤ k ∧ k < w7.heap.size) vt S := Kd.R_mono (Kd.R_bound hRt) (fun k hk => ⟨hk.2.1, hk.2.2.1⟩)
      have hl10 : g10 < w6.heap.size := Nat.lt_of_lt_of_le (blk_lt h510) hb6w.size
      have hne10 := OwnRow.ne_block hO7 h710 (by decide)
      obtain ⟨Av', cv', ev, _, hrow7⟩ := OwnRow.reads hO7
      injection ev with e1 e2 e3
      subst e1 e3
      clear e2
      have hg10w : w.heap.size ≤ g10 := by have := hle10.out; have := hbel.size; omega
      clear h57 h56 h510 HB5 hO5 hJ hJr hb6w hO hrow hbox10 hb4 hk10 hf10 hk5 HB4
      refine (wpIn_wide (n := 4)).1 ?_
      refine range_law (F := Fence.wide) rfl (by omega) (gf := 32) (lb := #[.pointer (some ⟨B, 0, none⟩)]) rfl trivial (enters_of Try.func32 (by kernel_rfl) rfl)
        (texts_stops 3 (by omega) B w6.heap.size vt S w7 (fun k => w6.heap.size ≤ k ∧ k < w7.heap.size) (fun k hk => hk.2) ⟨hBge, blk_lt hbt⟩ hbt hRK hSb (by omega))
        (fun x => told_own _ _ x _) (fun h k => h.trans k) (fun W l o o' hl ho _ _ => ⟨by simp, fun k hk hlt => World.putObj_heap_other (by have := hk.2; omega)⟩) (fun _ => rfl)
        (fun pre W => W.heap[g10]? = some (.cells #[.int .i64 (cnt pre.length)] 3 (0, 0)) ∧ (∀ k, k < w7.heap.size → k ≠ g10 → W.heap[k]? = w7.heap[k]?) ∧ Below w.heap.size w W)
        (fun _ _ _ => False) ?hI (fun _ _ _ _ _ hs _ _ => hs) ⟨h710.trans (by rw [show cnt ([] : List Item).length = 0 from cnt_small 0 (by omega)]; rfl), fun _ _ _ => rfl, HB7⟩ (fun x => { tmps := #[(.slice A3 l3.length c3), (.slice A l.length c), (.int .i64 cut), undef, undef, undef, (.pointer (some ⟨g6, 0, none⟩)), (.pointer (some ⟨g7, 0, none⟩)), undef, u9, (.pointer (some ⟨g10, 0, none⟩)), (.int .i64 (x.i : Int)), (.slice x.A x.t.length x.c), undef, undef, (.bool true), (.bool false), (.slice A3 l3.length c3), (.int .i64 (l3.length : Int)), (.int .i64 (l3.length : Int)), (.bool false), u21, u22, u23, u24, u25, u26, u27, u28, u29, (.slice Av S.length cv), (.slice AJ (T9.joined S).length cJ), (.func (.func 32) #[] #[.pointer (some ⟨B, 0, none⟩)]), (.int .i64 (x.i : Int)), (.slice x.A x.t.length x.c), undef, undef, undef, undef, undef, undef, undef, undef, undef, undef, undef, undef, undef, undef, undef, undef, undef, undef, undef, undef, undef, undef, undef, undef, undef, undef, undef, undef, undef, undef, undef, undef, undef, undef, undef, undef, undef, undef, undef, undef, undef, undef, undef, undef, undef, undef, undef, undef, undef, undef, undef, undef, undef, undef, undef, undef, undef, undef, undef, undef, undef, undef, undef, undef, undef, undef, undef, undef, undef, undef, undef, undef, undef, undef, undef, undef], defers := [] }) ?assign ?body ?done ?stop
      case assign =>
        intro l' x W K hK
        simp only [Item.encs]
        gi_wp2
        exact hK
      case hI =>
        intro pre X Y row hs hg hr
        obtain ⟨h1, h2, h3⟩ := hs
        have hX10 := h1
        refine ⟨(hg.block g10 (blk_lt h1) (fun e => ?_)).trans h1, fun k hk hne => ?_, h3.grown hg h3.size (fun k e => by have := (hr k e).1; have := HB7.size; omega)⟩
        · have := (hr g10 e.symm).1
          have := hb7w.size
          omega
        · have hlt : k < X.heap.size := by
            have hw : (w7.heap[k]?) = some w7.heap[k] := Array.getElem?_eq_getElem hk
            have := (h2 k hk hne).trans hw
            exact (Array.getElem?_eq_some_iff.1 this).1
          exact (hg.block k hlt (fun e => by have := (hr k e.symm).1; omega)).trans (h2 k hk hne)
      case body =>
        rintro l' pre x W ⟨hi10, hsame, hBW⟩ ⟨hget, hcx, hRx⟩
        obtain ⟨hxi, hxt⟩ := List.getElem?_eq_some_iff.1 hget
        have hw67 := hb7w.size
        have g7lt : g7 < w7.heap.size := blk_lt h77
        have hw7 : W.heap[g7]? = some (.cells #[.slice Av S.length cv] 30 (0, 0)) := (hsame g7 g7lt (fun e => by rw [e, h710] at h77; simp at h77)).trans h77
        have hk7 : W.cell? ⟨g7, 0, none⟩ = some (.slice Av S.length cv) := (blk_cell hw7 0).trans rfl
        have hk10 : W.cell? ⟨g10, 0, none⟩ = some (.int .i64 (cnt pre.length)) := (blk_cell hi10 0).trans rfl
        have hf10 := blk_frozen hi10 0
        obtain ⟨ad, cs, eA, hcs, ⟨Ai, ci, rfl, hci, hCi⟩, hci7⟩ := hrow7.get_ [] (x.i : Int) (by omega) (by omega)
        subst eA
        have hSi : S.getD ((x.i : Int)).toNat [] = x.t := by rw [Int.toNat_natCast, List.getD, hget]; rfl
        rw [hSi] at hci hCi hci7
        have hci8 := hci7 0 _ rfl
        rw [Int.toNat_natCast, Nat.mul_one, Nat.add_zero] at hci8
        have hne : ad.block ≠ g10 := fun e => hne10 (by rw [← e]; simp [Value.ownBlock])
        have hcell : W.cell? (ad.add x.i) = some (.slice Ai x.t.length ci) := by
          have hl := World.block_lt_of_cell? w7 _ hci8
          rw [← hci8]
          unfold World.cell?
          rw [hsame _ hl (fun e => hne (by rw [← e]; unfold Addr.add; split <;> rfl))]
        have hsm := T9.same_f x.t x.t (by have := hSb x.t (List.mem_of_getElem? hget); omega) 1000000000002 (by have := hSb x.t (List.mem_of_getElem? hget); omega)
        have hxl : (x.i : Int) < (S.length : Int) := by omega
        have hCt := (Kd.R_reads' hRx).2.2
        gi_wp2_with (refine ⟨trivial, ?_⟩; gi_at_call 14; refine (CallsIn.inRound l' (callsIn_wide.2 (lanyardref12_SameRunes.calls 1000000000002 x.A x.c x.t Ai ci x.t true _ hCt hcx (Kd.C_below hCi hBW) hci (by rw [hsm]; simp)))).mono ?_; rintro e W2 ⟨rfl, ⟨nd, rfl⟩⟩; have hk10' : (W.drewN nd).cell? ⟨g10, 0, none⟩ = some (.int .i64 (cnt pre.length)) := hk10; have hf10' : (W.drewN nd).frozen? ⟨g10, 0, none⟩ = false := hf10)
        have hko := KeepsOthers.setCell (W.drewN nd) ⟨g10, 0, none⟩ (.int .i64 (wrap64 (cnt pre.length + 1)))
        have hput := blk_put (w := W.drewN nd) hi10 0 (.int .i64 (wrap64 (cnt pre.length + 1))) rfl
        rw [cnt_succ] at hput hko ⊢
        refine ⟨⟨hko.size, fun k o _ hk ho => hko.same k o hk ho⟩, ⟨hko.size, fun k hk hl => Below.heap_setCell (W.drewN nd) ⟨g10, 0, none⟩ _ k (by have := hk.1; show k ≠ g10; omega)⟩, ?_, fun k hk hn => (Below.heap_setCell (W.drewN nd) ⟨g10, 0, none⟩ _ k hn).trans (hsame k hk hn), (pw_below_drewN hBW nd).setCell (p := ⟨g10, 0, none⟩) hg10w _⟩
        rw [List.length_append]
        exact hput
      case done =>
        rintro D xs W hD hxs ⟨hi10, hsame, hBW⟩ hK
        rw [hxs, cnt_small _ (by omega)] at hi10
        have hw67 := hb7w.size
        have hw7 : W.heap[g7]? = some (.cells #[.slice Av S.length cv] 30 (0, 0)) := (hsame g7 (blk_lt h77) (fun e => by rw [e, h710] at h77; simp at h77)).trans h77
        have hw6 : W.heap[g6]? = some (.cells #[.bool false] 4 (0, 0)) := (hsame g6 (blk_lt h76) (fun e => by rw [e, h710] at h76; simp at h76)).trans h76
        have hk7 : W.cell? ⟨g7, 0, none⟩ = some (.slice Av S.length cv) := (blk_cell hw7 0).trans rfl
        have hk10 : W.cell? ⟨g10, 0, none⟩ = some (.int .i64 (S.length : Int)) := (blk_cell hi10 0).trans rfl
        have hk6 : W.cell? ⟨g6, 0, none⟩ = some (.bool false) := (blk_cell hw6 0).trans rfl
        have hf6 := blk_frozen hw6 0
        have hCl := Kd.C_below R.reads hBW
        by_cases c1 : cut < 0
        · go_wp2
          have hK2 := (KeepsOthers.setCell W ⟨g6, 0, none⟩ (.bool true)).same D _ hK rfl
          have hb6t := blk_put hw6 0 (.bool true) rfl
          refine ⟨by simp, .inl ⟨_, _, rfl, run_takeDeferred hK2, ?_⟩⟩
          have hc5 := cell_kept ((blk_cell hb6t 0).trans rfl : _ = some (Value.bool true)) (grownBy_putObj' _ D (.deferred none)) (fun r e => by cases e; exact ⟨_, hK2, rfl⟩)
          refine ⟨.bool true, ?_, rfl, (hBW.setCell (p := ⟨g6, 0, none⟩) hg6w _).trans (belowK_b (w := w) (Nat.le_refl _) _ D _ _ (by have := HB7.size; omega) hK2 rfl rfl)⟩
          simp [results, Try.f4, go_sem, hc5]
        by_cases c2 : (l.length : Int) ≤ cut
        · go_wp2
          have hK2 := (KeepsOthers.setCell W ⟨g6, 0, none⟩ (.bool true)).same D _ hK rfl
          have hb6t := blk_put hw6 0 (.bool true) rfl
          refine ⟨by simp, .inl ⟨_, _, rfl, run_takeDeferred hK2, ?_⟩⟩
          have hc5 := cell_kept ((blk_cell hb6t 0).trans rfl : _ = some (Value.bool true)) (grownBy_putObj' _ D (.deferred none)) (fun r e => by cases e; exact ⟨_, hK2, rfl⟩)
          refine ⟨.bool true, ?_, rfl, (hBW.setCell (p := ⟨g6, 0, none⟩) hg6w _).trans (belowK_b (w := w) (Nat.le_refl _) _ D _ _ (by have := HB7.size; omega) hK2 rfl rfl)⟩
          simp [results, Try.f4, go_sem, hc5]
        obtain ⟨n, rfl⟩ := Int.eq_ofNat_of_zero_le (show 0 ≤ cut by omega)
        have hnl : n < l.length := by omega
        obtain ⟨al, el, hxl⟩ := Kd.at_int hCl (n : Int) (by omega) (by omega)
        subst el
        rw [T.rd_nat l n hnl, Int.toNat_natCast] at hxl
        by_cases c3 : l[n] = 32
        · have c3' := c3
          rw [c3] at hxl
          have hqf := T.quoted_f l (by omega) 10000000 (by omega) n hnl
          have hqn : n < (T.ql (0, false) l).length := by rw [T.ql_length]; exact hnl
          rw [T.rd_nat _ n hqn] at hqf
          by_cases c4 : (T.ql (0, false) l)[n] = 0
          · rw [c4] at hqf
            obtain ⟨rest, hall, hrest⟩ := T.words_cut l n hnl c3' c4
            have hnc : n ≤ c := Nat.le_trans (Nat.le_of_lt hnl) R.cap_le
            have hta : (l.take n).length = n := by rw [List.length_take]; omega
            have hw1 := T.words_f l (by omega) 10000000 (by omega)
            have hw2 := T.words_f (l.take n) (by omega) 10000000 (by omega)
            have hCt0 := Kd.C_take hCl (Nat.le_of_lt hnl)
            rw [hta] at hCt0
            have hhl : (T.wordsL (l.take n)).length ≤ 1048576 := Nat.le_trans (T.wordsL_len _) (by omega)
            have hal2 : (T.wordsL l).length ≤ 1048576 := Nat.le_trans (T.wordsL_len _) hb
            generalize T.wordsL (l.take n) = head at hw2 hall hhl
            generalize T.wordsL l = all at hw1 hall hal2
            have hahl : head.length ≤ 1048576 := hhl
            have hsame2 := T9.samew_f head (by omega) 1000000000002 (by omega)
            cases rest with
            | nil =>
              go_wp2_with (first
                | (go_at_call 10; refine (shwords_Quoted.calls 10000000 (some al) c l (n : Int) 0 _ hCl R.cap_le hqf).mono ?_; rintro e W2 ⟨rfl, hbq⟩; have hw6q := blk_below hw6 hbq; have hBWq := below_step hBW hbq; have hKq := blk_below hK hbq; have hClq := Kd.C_below hCl hbq; have hCtq := Kd.C_below hCt0 hbq)
                | (go_at_call 9; refine (words_at 10000000 (some al) n c (l.take n) head _ hta hCt3 hnc hw2).mono ?_; rintro e W4 ⟨vh, rfl, hRh, hb4a⟩; obtain ⟨Ah, ch, rfl⟩ := Kd.R_slice hRh; have hw64 := blk_below hw63 hb4a; have hBW4 := below_step hBW3 hb4a; have hK4 := blk_below hK3 hb4a; have hRa4 := Kd.R_below hRa hb4a; have hCa4 := take_k27 hall (Kd.R_reads' hRa4).2.2)
                | (go_at_call 9; refine (shwords_Words.calls 10000000 (some al) c l all _ hClq R.cap_le hw1).mono ?_; rintro e W3 ⟨va, rfl, hRa, hb3a⟩; obtain ⟨Aa, ca, rfl⟩ := Kd.R_slice hRa; have hca : head.length ≤ ca := (by have := (Kd.R_reads' hRa).2.1; rw [hall, List.length_append] at this; omega); have hw63 := blk_below hw6q hb3a; have hBW3 := below_step hBWq hb3a; have hK3 := blk_below hKq hb3a; have hCt3 := Kd.C_below hCtq hb3a)
                | (go_at_call 15; refine (lanyardlaw12_same.calls 1000000000002 Ah ch head Aa ca head true _ (Kd.R_reads' hRh).2.2 (Kd.R_reads' hRh).2.1 hCa4 hca (hsame2)).mono ?_; rintro e W5 ⟨rfl, ⟨nd, rfl⟩⟩; have hk6d : (W4.drewN nd).cell? ⟨g6, 0, none⟩ = some (.bool false) := (blk_cell hw64 0).trans rfl; have hf6d : (W4.drewN nd).frozen? ⟨g6, 0, none⟩ = false := blk_frozen hw64 0))
              have hK2 := (KeepsOthers.setCell (W4.drewN nd) ⟨g6, 0, none⟩ (.bool true)).same D _ hK4 rfl
              have hb6t := blk_put (w := W4.drewN nd) hw64 0 (.bool true) rfl
              refine ⟨by simp, .inl ⟨_, _, rfl, run_takeDeferred hK2, ?_⟩⟩
              have hc5 := cell_kept ((blk_cell hb6t 0).trans rfl : _ = some (Value.bool true)) (grownBy_putObj' _ D (.deferred none)) (fun r e => by cases e; exact ⟨_, hK2, rfl⟩)
              refine ⟨.bool true, ?_, rfl, ((pw_below_drewN hBW4 nd).setCell (p := ⟨g6, 0, none⟩) hg6w _).trans (belowK_b (w := w) (Nat.le_refl _) _ D _ _ (by have := HB7.size; omega) hK2 rfl rfl)⟩
              simp [results, Try.f4, go_sem, hc5]
            | cons r0 rt =>
              have hr0 := hrest r0 (List.mem_cons_self ..)
              have hlt0 : (n : Int) < r0.f1 := hr0
              have hgetr : all[head.length]'(by rw [hall]; simp) = r0 := by simp [hall]
              go_wp2_with (first
                | (go_at_call 10; refine (shwords_Quoted.calls 10000000 (some al) c l (n : Int) 0 _ hCl R.cap_le hqf).mono ?_; rintro e W2 ⟨rfl, hbq⟩; have hw6q := blk_below hw6 hbq; have hBWq := below_step hBW hbq; have hKq := blk_below hK hbq; have hClq := Kd.C_below hCl hbq; have hCtq := Kd.C_below hCt0 hbq)
                | (go_at_call 9; refine (words_at 10000000 (some al) n c (l.take n) head _ hta hCt3 hnc hw2).mono ?_; rintro e W4 ⟨vh, rfl, hRh, hb4a⟩; obtain ⟨Ah, ch, rfl⟩ := Kd.R_slice hRh; have hw64 := blk_below hw63 hb4a; have hBW4 := below_step hBW3 hb4a; have hK4 := blk_below hK3 hb4a; have hRa4 := Kd.R_below hRa hb4a; have hCa4 := take_k27 hall (Kd.R_reads' hRa4).2.2)
                | (go_at_call 9; refine (shwords_Words.calls 10000000 (some al) c l all _ hClq R.cap_le hw1).mono ?_; rintro e W3 ⟨va, rfl, hRa, hb3a⟩; obtain ⟨Aa, ca, rfl⟩ := Kd.R_slice hRa; have hca : head.length ≤ ca := (by have := (Kd.R_reads' hRa).2.1; rw [hall, List.length_append] at this; omega); have hw63 := blk_below hw6q hb3a; have hBW3 := below_step hBWq hb3a; have hK3 := blk_below hKq hb3a; have hCt3 := Kd.C_below hCtq hb3a)
                | (go_at_call 15; refine (lanyardlaw12_same.calls 1000000000002 Ah ch head Aa ca head true _ (Kd.R_reads' hRh).2.2 (Kd.R_reads' hRh).2.1 hCa4 hca (hsame2)).mono ?_; rintro e W5 ⟨rfl, ⟨nd, rfl⟩⟩; have hk6d : (W4.drewN nd).cell? ⟨g6, 0, none⟩ = some (.bool false) := (blk_cell hw64 0).trans rfl; have hf6d : (W4.drewN nd).frozen? ⟨g6, 0, none⟩ = false := blk_frozen hw64 0; obtain ⟨aa, eaa, hy0, hy1, hy2⟩ := at_T27 (Kd.R_reads' hRa4).2.2 (head.length : Int) (by omega) (by rw [hall]; simp only [List.length_append, List.length_cons]; omega); subst eaa; rw [Int.toNat_natCast, rd_T27_nat all head.length (by rw [hall]; simp), hgetr] at hy1; have hy1d : (W4.drewN nd).cell? ⟨(aa.add (head.length * 3)).block, (aa.add (head.length * 3)).off + 1, none⟩ = some (.int .i64 r0.f1) := hy1))
              have hK2 := (KeepsOthers.setCell (W4.drewN nd) ⟨g6, 0, none⟩ (.bool true)).same D _ hK4 rfl
              have hb6t := blk_put (w := W4.drewN nd) hw64 0 (.bool true) rfl
              refine ⟨by simp, .inl ⟨_, _, rfl, run_takeDeferred hK2, ?_⟩⟩
              have hc5 := cell_kept ((blk_cell hb6t 0).trans rfl : _ = some (Value.bool true)) (grownBy_putObj' _ D (.deferred none)) (fun r e => by cases e; exact ⟨_, hK2, rfl⟩)
              refine ⟨.bool true, ?_, rfl, ((pw_below_drewN hBW4 nd).setCell (p := ⟨g6, 0, none⟩) hg6w _).trans (belowK_b (w := w) (Nat.le_refl _) _ D _ _ (by have := HB7.size; omega) hK2 rfl rfl)⟩
              simp [results, Try.f4, go_sem, hc5]
          · generalize (T.ql (0, false) l)[n] = qn at hqf c4
            go_wp2_with (go_at_call 10; refine (shwords_Quoted.calls 10000000 (some al) c l (n : Int) qn _ hCl R.cap_le hqf).mono ?_; rintro e W2 ⟨rfl, hbq⟩; have hw6q := blk_below hw6 hbq; have hBWq := below_step hBW hbq; have hKq := blk_below hK hbq; have hk6q : W2.cell? ⟨g6, 0, none⟩ = some (.bool false) := (blk_cell hw6q 0).trans rfl; have hf6q := blk_frozen hw6q 0)
            have hK2 := (KeepsOthers.setCell W2 ⟨g6, 0, none⟩ (.bool true)).same D _ hKq rfl
            have hb6t := blk_put hw6q 0 (.bool true) rfl
            refine ⟨by simp, .inl ⟨_, _, rfl, run_takeDeferred hK2, ?_⟩⟩
            have hc5 := cell_kept ((blk_cell hb6t 0).trans rfl : _ = some (Value.bool true)) (grownBy_putObj' _ D (.deferred none)) (fun r e => by cases e; exact ⟨_, hK2, rfl⟩)
            refine ⟨.bool true, ?_, rfl, (hBWq.setCell (p := ⟨g6, 0, none⟩) hg6w _).trans (belowK_b (w := w) (Nat.le_refl _) _ D _ _ (by have := HB7.size; omega) hK2 rfl rfl)⟩
            simp [results, Try.f4, go_sem, hc5]
        · generalize l[n] = rn at hxl c3
          go_wp2
          have hK2 := (KeepsOthers.setCell W ⟨g6, 0, none⟩ (.bool true)).same D _ hK rfl
          have hb6t := blk_put hw6 0 (.bool true) rfl
          refine ⟨by simp, .inl ⟨_, _, rfl, run_takeDeferred hK2, ?_⟩⟩
          have hc5 := cell_kept ((blk_cell hb6t 0).trans rfl : _ = some (Value.bool true)) (grownBy_putObj' _ D (.deferred none)) (fun r e => by cases e; exact ⟨_, hK2, rfl⟩)
          refine ⟨.bool true, ?_, rfl, (hBW.setCell (p := ⟨g6, 0, none⟩) hg6w _).trans (belowK_b (w := w) (Nat.le_refl _) _ D _ _ (by have := HB7.size; omega) hK2 rfl rfl)⟩
          simp [results, Try.f4, go_sem, hc5]
      case stop =>
        rintro D c pre W _ _ h _
        exact h.elim
end Go.Proofs.Ytpebdkchdgaeoaa
