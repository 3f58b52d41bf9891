/-
  A reader in memory: what a timeout tells.
-/
import Derived.Test.YtcnkgodooignpaaRQ
namespace Go.Proofs.Ytcnkgodooignpaa
open Go.RowKit Go.WideShapes Go.Proofs.YtcnkgodooignpaaW.PrintWords Go.Proofs.YtcnkgodooignpaaW.PrintLast Go.Proofs.YtcnkgodooignpaaW.PrintMore Go.Proofs.Ytcnkgodooignpaa.PAll
set_option linter.unusedVariables false
set_option linter.unusedSimpArgs false
attribute [local go_sem] max2_int min2_int max_two min_two max_three min_three max_four min_four
/-- How many bytes of what waits the next hit of a timeout has, and what is bound there. -/
noncomputable def tN (F : Key) (s : ByteArray) : Nat := if kindOf F s.data.toList = 2 ∨ kindOf F s.data.toList = 3 then s.size else if longN F s.data.toList s.size = 0 then s.size else longN F s.data.toList s.size
noncomputable def tB (F : Key) (s : ByteArray) : Bd := if kindOf F s.data.toList = 2 ∨ kindOf F s.data.toList = 3 then (F s.data.toList).getD Bd.no else if longN F s.data.toList s.size = 0 then Bd.no else bdAt F s
theorem tN_pos {F : Key} {s : ByteArray} (h : 0 < s.size) : 0 < tN F s := by
  unfold tN
  split
  · exact h
  · split
    · exact h
    · omega
theorem tN_le (F : Key) (s : ByteArray) : tN F s ≤ s.size := by
  unfold tN
  split
  · exact Nat.le_refl _
  · split
    · exact Nat.le_refl _
    · exact longN_le _ _ _
inductive Times (F : Key) : ByteArray → List S46 → ByteArray → Prop
  | stop {s : ByteArray} (h : s.size = 0) : Times F s [] s
  | step {s : ByteArray} {h1 ht : List S46} {s1 s' : ByteArray} (h0 : 0 < s.size) (hr : Reads F (s.extract (tN F s) s.size) h1 s1) (h : Times F s1 ht s') : Times F s (mkHit s (tN F s) (tB F s) :: (h1 ++ ht)) s'
theorem Times.det {F : Key} {s : ByteArray} {a b : List S46} {s1 s2 : ByteArray} (h : Times F s a s1) (k : Times F s b s2) : a = b ∧ s1 = s2 := by
  induction h generalizing b s2 with
  | stop h =>
    cases k with
    | stop _ => exact ⟨rfl, rfl⟩
    | step h0 _ _ => omega
  | step h0 hr _ ih =>
    cases k with
    | stop h => omega
    | step _ kr k =>
      obtain ⟨e1, e2⟩ := hr.det kr
      subst e1 e2
      obtain ⟨e3, e4⟩ := ih k
      exact ⟨by rw [e3], e4⟩
theorem Times.len {F : Key} {s : ByteArray} {a : List S46} {s' : ByteArray} (h : Times F s a s') : a.length ≤ s.size ∧ s'.size = 0 := by
  induction h with
  | stop h => exact ⟨Nat.zero_le _, h⟩
  | step h0 hr _ ih =>
    rename_i s _ _ _ _
    have h1 := hr.len
    rw [tail_size] at h1
    have := tN_pos (F := F) h0
    simp only [List.length_cons, List.length_append]
    exact ⟨by omega, ih.2⟩
/-- What is behind a round. -/
structure TimeSt (w wr : World) (own : Nat → Prop) (g gm : Nat) (F : Key) (c : Nat) (mt : Bool) (s : ByteArray) (v : Value) (hs : List S46) (sk : ByteArray) : Prop where
  go : ∀ hs' s', Times F sk hs' s' → Times F s (hs ++ hs') s'
  row : Kd.R k46 46 wr w.heap.size (fun _ => True) v hs
  rd : RD wr own g gm F c mt sk
  fr : Fr (fun k => k = g) w wr
  len : hs.length + sk.size ≤ s.size
theorem TimeSt.step {w wr w1 : World} {own : Nat → Prop} {g gm : Nat} {F : Key} {c : Nat} {mt : Bool} {s : ByteArray} {v v1 : Value} {hs hq : List S46} {sk s1 : ByteArray} (h : TimeSt w wr own g gm F c mt s v hs sk) (h0 : 0 < sk.size) (hr : Reads F (sk.extract (tN F sk) sk.size) hq s1)
    (hrow : Kd.R k46 46 w1 w.heap.size (fun _ => True) v1 ((hs ++ [mkHit sk (tN F sk) (tB F sk)]) ++ hq)) (hrd : RD w1 own g gm F c mt s1) (hfr : Fr (fun k => k = g) w w1) :
    TimeSt w w1 own g gm F c mt s v1 ((hs ++ [mkHit sk (tN F sk) (tB F sk)]) ++ hq) s1 ∧ s1.size < sk.size := by
  have h1 := hr.len
  rw [tail_size] at h1
  have h2 := tN_pos (F := F) h0
  have h3 := tN_le F sk
  have h4 := h.len
  refine ⟨⟨fun hs' s' ht => ?_, hrow, hrd, hfr, ?_⟩, by omega⟩
  · rw [List.append_assoc, List.append_assoc]
    have h5 := Times.step h0 hr ht
    exact h.go _ _ h5
  · simp only [List.length_append, List.length_cons, List.length_nil]
    omega
set_option maxRecDepth 100000 in
set_option maxHeartbeats 2000000 in
theorem times_calls {w : World} {own : Nat → Prop} {g gm : Nat} {F : Key} {c : Nat} {mt : Bool} {s : ByteArray} (h : RD w own g gm F c mt s) (hs : s.size ≤ 1000000000) :
    Calls Try.prog 41 #[.pointer (some ⟨g, 0, none⟩)] w (HitsPost (Times F) w own g gm F c mt s) := by
  have HOL := Aside0.mk h.km.olt
  have HGL := Aside0.mk h.lt
  have HG := Aside0.mk h.km.good
  have HS0 : Aside0 (TimeSt w w own g gm F c mt s (.slice none 0 0) [] s) := ⟨⟨fun _ _ h => h, Kd.R_nil _ _ _ _ _, h, Fr.refl _ _, by simp⟩⟩
  clear h
  go_enter Try.func41, Try.ntmps41
  go_wp2
  go_loopw [3] (fun v wr => ∃ hs sk, Aside0 (TimeSt w wr own g gm F c mt s v hs sk)) (fun v wr => waitOf g wr)
  case atStart => exact ⟨[], s, HS0⟩
  case round =>
    obtain ⟨hl, sk, HS⟩ := hrel
    obtain ⟨A, cp, rfl⟩ := Kd.R_slice HS.out.row
    have c2 := HS.out.rd.c2
    have hlen := HS.out.len
    by_cases h0 : sk.size = 0
    · have hem := em_true h0
      have H0 := Aside0.mk h0
      clear h0 hlen
      go_wp2
      go_ret
      exact ⟨_, hl, sk, rfl, by have h := HS.out.go [] sk (.stop H0.out); rwa [List.append_nil] at h, HS.out.row, HS.out.rd, HS.out.fr⟩
    · have hem := em_false (Nat.pos_of_ne_zero h0)
      have H0 := Aside0.mk (Nat.pos_of_ne_zero h0)
      have HLEN := Aside0.mk hlen
      clear h0 hlen
      go_wp2
      clear c2
      have HR := Aside0.mk HS.out.rd
      have HL := Aside0.mk (fun (W : World) (hb : Below wr.heap.size wr W) => lookup_calls (HR.out.below hb).km sk (by have := HLEN.out; omega))
      obtain ⟨x, hx⟩ : ∃ x, x = (F sk.data.toList).getD Bd.no := ⟨_, rfl⟩
      rw [← hx] at HL
      simp only [Bd.v] at HL
      have HX := Aside0.mk hx
      clear hx
      have CS' := Aside0.mk (fun (w' : World) (hb : Below wr.heap.size wr w') => (⟨(HR.out.below hb).c0, (HR.out.below hb).c2, hb⟩ : w'.cell? ⟨g, 0, none⟩ = some (.pointer (some ⟨gm, 0, none⟩)) ∧ w'.cell? ⟨g, 2, none⟩ = some (.string sk) ∧ Below wr.heap.size wr w'))
      have hV0 := Aside0.mk (below_drew (Below.refl wr.heap.size wr))
      go_cut [4, 5] from 12 to 23 (fun v4 v5 w' => ∃ gB, v4 = .pointer (some ⟨gB, 0, none⟩) ∧ v5 = .int .i64 (kindOf F sk.data.toList) ∧ w'.heap[gB]? = some (.cells #[.int .i64 x.kind, .string x.name, .string x.keys] 44 (0, 0)) ∧ wr.heap.size ≤ gB ∧ Below wr.heap.size wr w')
      case first =>
        refine wp_region_noPanic ?_
        go_region_held3 (fun w' => w'.cell? ⟨g, 0, none⟩ = some (.pointer (some ⟨gm, 0, none⟩)) ∧ w'.cell? ⟨g, 2, none⟩ = some (.string sk) ∧ Below wr.heap.size wr w')
          (first | exact CS'.out _ hV0.out | exact CS'.out _ hv1 | exact CS'.out _ (below_alloc hV0.out _) | exact CS'.out _ (below_alloc hv1 _) | exact CS'.out _ (below_set (below_set (below_set hv1 (Nat.le_refl _)) (Nat.le_refl _)) (Nat.le_refl _)))
          (first
            | (go_at_call 16; go_loud (refine (HL.out _ (by first | exact hV0.out | exact below_alloc hV0.out _)).mono ?_; rintro e v1 ⟨rfl, hbv1⟩; have hv1 : Below wr.heap.size wr v1 := below_step (by first | exact hV0.out | exact below_alloc hV0.out _) hbv1; first | (have hq1 : v1.heap[wr.heap.size]? = some (.cells #[.int .i64 0, .string ⟨#[]⟩, .string ⟨#[]⟩] 44 (0, 0)) := blk_below (blk_new wr.drew (.cells #[.int .i64 0, .string ⟨#[]⟩, .string ⟨#[]⟩] 44)) hbv1; have q0 : v1.cell? ⟨wr.heap.size, 0, none⟩ = some (.int .i64 0) := (blk_cell hq1 0).trans rfl; have q1 : v1.cell? ⟨wr.heap.size, 1, none⟩ = some (.string ⟨#[]⟩) := (blk_cell hq1 1).trans rfl; have q2 : v1.cell? ⟨wr.heap.size, 2, none⟩ = some (.string ⟨#[]⟩) := (blk_cell hq1 2).trans rfl; have q4 := blk_frozen hq1 0; have q5 := blk_frozen hq1 1; have q6 := blk_frozen hq1 2) | skip)))
        · refine NoPanic.normal ?_
          go_wp2
          go_meet
          case rel => exact ⟨v1.heap.size, rfl, rfl, blk_new v1 _, hv1.size, below_alloc hv1 _⟩
        · refine NoPanic.normal ?_
          go_wp2
          go_meet
          case rel => exact ⟨wr.heap.size, rfl, rfl, blk_put (blk_put (blk_put hq1 0 _ rfl) 1 _ rfl) 2 _ rfl, Nat.le_refl _, below_set (below_set (below_set hv1 (Nat.le_refl _)) (Nat.le_refl _)) (Nat.le_refl _)⟩
      case rest =>
        obtain ⟨gB, rfl, rfl, hB, hgB, hbc⟩ := hcut
        have HRC := Aside0.mk (HR.out.below hbc)
        have HBC := Aside0.mk hbc
        have HBW := Aside0.mk hB
        have HGB := Aside0.mk hgB
        have c2 := HRC.out.c2
        clear hB hgB hbc
        by_cases hk : kindOf F sk.data.toList = 2 ∨ kindOf F sk.data.toList = 3
        · have e2 : Aside0 (tN F sk = sk.size ∧ tB F sk = x) := ⟨if_pos hk, (if_pos hk).trans HX.out.symm⟩
          have b0 : wc.cell? ⟨gB, 0, none⟩ = some (.int .i64 x.kind) := (blk_cell HBW.out 0).trans rfl
          have b1 : wc.cell? ⟨gB, 1, none⟩ = some (.string x.name) := (blk_cell HBW.out 1).trans rfl
          have b2 : wc.cell? ⟨gB, 2, none⟩ = some (.string x.keys) := (blk_cell HBW.out 2).trans rfl
          rcases hk with hk | hk
          · rw [hk]
            clear hk
            have HVW := Aside0.mk (Kd.R_below HS.out.row HBC.out)
            have HFW := Aside0.mk (HS.out.fr.trans (Fr.of_below (N := fun k => k = g) HBC.out) (fun _ _ h => h))
            have HHT := Aside0.mk (hit_calls HRC.out sk.size (Nat.le_refl _) (by have := HLEN.out; omega) x)
            unfold Bd.v at HHT
            go_wp2_with (first
              | ((with_reducible refine gate_builtin (b := .append) (xs := #[.tmp 62, .tmp 64]) rfl ?_); at_builtin; go_loud (refine Kd.R_append_rows k46 (w0 := w8) w.heap.size rfl (.tmp 62) (.tmp 64) 33 46 (.agg #[.string ⟨#[]⟩, .int .i64 0, .string ⟨#[]⟩, .string ⟨#[]⟩]) 56 rfl Try.underlying33 info46 rfl (by decide) (by omega) v6 (hl ++ [⟨sk, ⟨x.kind, x.name, x.keys⟩⟩]) hs8 _ _ _ (fun _ => True) (fun _ => False) rfl rfl HV8.out (Kd.R_reads' HN8.out).2.2 (fun x cs h => M_of_K46 _ _ x cs h) (fun _ h => h.elim) (fun _ _ => trivial) (Below.refl _ _) HF8.out.size (by have := HL8.out; omega) ?_); intro v9 w9 hR9 hb9 hg9 hat9)
              | (go_at_call 40; go_loud (refine (reads_calls HR6.out HS6.out).mono ?_; rintro e w8 ⟨v8, hs8, s8, rfl, hp8, hv8, hr8, hf8⟩; obtain ⟨A8, c8, rfl⟩ := Kd.R_slice hv8; have HP8 := Aside0.mk hp8; have HN8 := Aside0.mk hv8; have HR8 := Aside0.mk hr8; have HV8 := Aside0.mk (R46_new HW6.out hf8 HGL.out); have HF8 := Aside0.mk (HF6.out.trans hf8 (fun _ _ h => h)); have HL8 : Aside0 ((hl ++ [(⟨sk, ⟨x.kind, x.name, x.keys⟩⟩ : S46)]).length + hs8.length ≤ 3000000000) := ⟨by have h1 := hp8.len; have h2 := HS6.out; have h3 := HLEN.out; rw [List.length_append, List.length_singleton]; omega⟩; clear hp8 hv8 hr8 hf8))
              | (go_at_call 57; go_loud (refine HHT.out.mono ?_; rintro e w5 ⟨rfl, hR5, hF5⟩; have HR5 := Aside0.mk hR5; have HF5 := Aside0.mk (HFW.out.trans hF5 (fun _ _ h => h)); have HV5 := Aside0.mk (R46_new HVW.out hF5 HGL.out); clear hR5 hF5))
              | ((with_reducible refine gate_builtin (b := .append) (xs := #[.tmp 55, .tmp 60]) rfl ?_); at_builtin; go_loud (refine Kd.R_append_rows k46 (w0 := w5.alloc (.cells #[.string sk, .int .i64 x.kind, .string x.name, .string x.keys] 46)) w.heap.size rfl (.tmp 55) (.tmp 60) 33 46 (.agg #[.string ⟨#[]⟩, .int .i64 0, .string ⟨#[]⟩, .string ⟨#[]⟩]) 56 rfl Try.underlying33 info46 rfl (by decide) (by omega) (.slice A hl.length cp) hl [⟨sk, ⟨x.kind, x.name, x.keys⟩⟩] _ _ _ (fun _ => True) (fun _ => False) rfl rfl (Kd.R_alloc HV5.out _) (lit46 w5 ⟨sk, ⟨x.kind, x.name, x.keys⟩⟩) (fun x cs h => M_of_K46 _ _ x cs h) (fun _ h => h.elim) (fun _ _ => trivial) (Below.refl _ _) (by have := HF5.out.size; simp; omega) (by have := HLEN.out; omega) ?_); intro v6 w6 hR6 hb6 hg6 hat6; obtain ⟨hR7, hF7⟩ := grown_RD (HR5.out.below (below_alloc (Below.refl _ _) _)) (HF5.out.alloc _) (Kd.R_alloc HV5.out _) HOL.out HGL.out hg6; have HR6 := Aside0.mk hR7; have HF6 := Aside0.mk hF7; have HW6 := Aside0.mk hR6; have HS6 : Aside0 ((sk.extract sk.size sk.size).size ≤ 1000000000) := ⟨by rw [tail_size]; have := HLEN.out; omega⟩; clear hR6 hb6 hg6 hat6 hR7 hF7))
            obtain ⟨hR10, hF10⟩ := grown_RD HR8.out HF8.out HV8.out HOL.out HGL.out hg9
            have HN : Aside0 (TimeSt w w9 own g gm F c mt s v9 ((hl ++ [mkHit sk (tN F sk) (tB F sk)]) ++ hs8) s8 ∧ s8.size < sk.size) := ⟨by
              have e : mkHit sk (tN F sk) (tB F sk) = ⟨sk, ⟨x.kind, x.name, x.keys⟩⟩ := by rw [e2.out.1, e2.out.2]; exact mkHit_whole _ _
              refine HS.out.step H0.out (by rw [e2.out.1]; exact HP8.out) ?_ hR10 hF10
              rw [e]; exact hR9⟩
            clear hR9 hb9 hg9 hat9 hR10 hF10
            go_roundw
            case rel => exact ⟨_, _, ⟨HN.out.1⟩⟩
            case measure =>
              rw [HN.out.1.rd.wait, HS.out.rd.wait]
              exact HN.out.2
          · rw [hk]
            clear hk
            have HVW := Aside0.mk (Kd.R_below HS.out.row HBC.out)
            have HFW := Aside0.mk (HS.out.fr.trans (Fr.of_below (N := fun k => k = g) HBC.out) (fun _ _ h => h))
            have HHT := Aside0.mk (hit_calls HRC.out sk.size (Nat.le_refl _) (by have := HLEN.out; omega) x)
            unfold Bd.v at HHT
            go_wp2_with (first
              | ((with_reducible refine gate_builtin (b := .append) (xs := #[.tmp 62, .tmp 64]) rfl ?_); at_builtin; go_loud (refine Kd.R_append_rows k46 (w0 := w8) w.heap.size rfl (.tmp 62) (.tmp 64) 33 46 (.agg #[.string ⟨#[]⟩, .int .i64 0, .string ⟨#[]⟩, .string ⟨#[]⟩]) 56 rfl Try.underlying33 info46 rfl (by decide) (by omega) v6 (hl ++ [⟨sk, ⟨x.kind, x.name, x.keys⟩⟩]) hs8 _ _ _ (fun _ => True) (fun _ => False) rfl rfl HV8.out (Kd.R_reads' HN8.out).2.2 (fun x cs h => M_of_K46 _ _ x cs h) (fun _ h => h.elim) (fun _ _ => trivial) (Below.refl _ _) HF8.out.size (by have := HL8.out; omega) ?_); intro v9 w9 hR9 hb9 hg9 hat9)
              | (go_at_call 40; go_loud (refine (reads_calls HR6.out HS6.out).mono ?_; rintro e w8 ⟨v8, hs8, s8, rfl, hp8, hv8, hr8, hf8⟩; obtain ⟨A8, c8, rfl⟩ := Kd.R_slice hv8; have HP8 := Aside0.mk hp8; have HN8 := Aside0.mk hv8; have HR8 := Aside0.mk hr8; have HV8 := Aside0.mk (R46_new HW6.out hf8 HGL.out); have HF8 := Aside0.mk (HF6.out.trans hf8 (fun _ _ h => h)); have HL8 : Aside0 ((hl ++ [(⟨sk, ⟨x.kind, x.name, x.keys⟩⟩ : S46)]).length + hs8.length ≤ 3000000000) := ⟨by have h1 := hp8.len; have h2 := HS6.out; have h3 := HLEN.out; rw [List.length_append, List.length_singleton]; omega⟩; clear hp8 hv8 hr8 hf8))
              | (go_at_call 57; go_loud (refine HHT.out.mono ?_; rintro e w5 ⟨rfl, hR5, hF5⟩; have HR5 := Aside0.mk hR5; have HF5 := Aside0.mk (HFW.out.trans hF5 (fun _ _ h => h)); have HV5 := Aside0.mk (R46_new HVW.out hF5 HGL.out); clear hR5 hF5))
              | ((with_reducible refine gate_builtin (b := .append) (xs := #[.tmp 55, .tmp 60]) rfl ?_); at_builtin; go_loud (refine Kd.R_append_rows k46 (w0 := w5.alloc (.cells #[.string sk, .int .i64 x.kind, .string x.name, .string x.keys] 46)) w.heap.size rfl (.tmp 55) (.tmp 60) 33 46 (.agg #[.string ⟨#[]⟩, .int .i64 0, .string ⟨#[]⟩, .string ⟨#[]⟩]) 56 rfl Try.underlying33 info46 rfl (by decide) (by omega) (.slice A hl.length cp) hl [⟨sk, ⟨x.kind, x.name, x.keys⟩⟩] _ _ _ (fun _ => True) (fun _ => False) rfl rfl (Kd.R_alloc HV5.out _) (lit46 w5 ⟨sk, ⟨x.kind, x.name, x.keys⟩⟩) (fun x cs h => M_of_K46 _ _ x cs h) (fun _ h => h.elim) (fun _ _ => trivial) (Below.refl _ _) (by have := HF5.out.size; simp; omega) (by have := HLEN.out; omega) ?_); intro v6 w6 hR6 hb6 hg6 hat6; obtain ⟨hR7, hF7⟩ := grown_RD (HR5.out.below (below_alloc (Below.refl _ _) _)) (HF5.out.alloc _) (Kd.R_alloc HV5.out _) HOL.out HGL.out hg6; have HR6 := Aside0.mk hR7; have HF6 := Aside0.mk hF7; have HW6 := Aside0.mk hR6; have HS6 : Aside0 ((sk.extract sk.size sk.size).size ≤ 1000000000) := ⟨by rw [tail_size]; have := HLEN.out; omega⟩; clear hR6 hb6 hg6 hat6 hR7 hF7))
            obtain ⟨hR10, hF10⟩ := grown_RD HR8.out HF8.out HV8.out HOL.out HGL.out hg9
            have HN : Aside0 (TimeSt w w9 own g gm F c mt s v9 ((hl ++ [mkHit sk (tN F sk) (tB F sk)]) ++ hs8) s8 ∧ s8.size < sk.size) := ⟨by
              have e : mkHit sk (tN F sk) (tB F sk) = ⟨sk, ⟨x.kind, x.name, x.keys⟩⟩ := by rw [e2.out.1, e2.out.2]; exact mkHit_whole _ _
              refine HS.out.step H0.out (by rw [e2.out.1]; exact HP8.out) ?_ hR10 hF10
              rw [e]; exact hR9⟩
            clear hR9 hb9 hg9 hat9 hR10 hF10
            go_roundw
            case rel => exact ⟨_, _, ⟨HN.out.1⟩⟩
            case measure =>
              rw [HN.out.1.rd.wait, HS.out.rd.wait]
              exact HN.out.2
        · have h2 : ¬ kindOf F sk.data.toList = 2 := fun e => hk (.inl e)
          have h3 : ¬ kindOf F sk.data.toList = 3 := fun e => hk (.inr e)
          have h2b : (kindOf F sk.data.toList != 2) = true := by simpa using h2
          have h3b : (kindOf F sk.data.toList != 3) = true := by simpa using h3
          have htN : tN F sk = if longN F sk.data.toList sk.size = 0 then sk.size else longN F sk.data.toList sk.size := if_neg hk
          have htB : tB F sk = if longN F sk.data.toList sk.size = 0 then Bd.no else bdAt F sk := if_neg hk
          have HTN := Aside0.mk htN
          have HTB := Aside0.mk htB
          clear hk htN htB
          have HLL := Aside0.mk (fun (W : World) (hb : Below wr.heap.size wr W) => (by
            have h := longest_calls (HR.out.below hb).km sk (by have := HLEN.out; omega)
            exact h : Calls Try.prog 24 #[.pointer (some ⟨gm, 0, none⟩), .string sk] W fun e w' => e = .returned (.tuple #[(bdAt F sk).v, .int .i64 ((longN F sk.data.toList sk.size : Nat) : Int)]) ∧ Below W.heap.size W w'))
          obtain ⟨y, hy⟩ : ∃ y, y = bdAt F sk := ⟨_, rfl⟩
          rw [← hy] at HLL HTB
          simp only [Bd.v] at HLL
          clear hy
          have hC0 := Aside0.mk (below_drew HBC.out)
          go_upto_region 6 with (fail)
          clear c2
          go_cut [6] from 35 to 46 (fun v6 w' => v6 = .int .i64 ((longN F sk.data.toList sk.size : Nat) : Int) ∧ w'.heap[gB]? = some (.cells #[.int .i64 y.kind, .string y.name, .string y.keys] 44 (0, 0)) ∧ Below wr.heap.size wr w')
          case first =>
            refine wp_region_noPanic ?_
            go_region_held3 (fun w' => w'.cell? ⟨g, 0, none⟩ = some (.pointer (some ⟨gm, 0, none⟩)) ∧ w'.cell? ⟨g, 2, none⟩ = some (.string sk) ∧ Below wr.heap.size wr w')
              (first | exact CS'.out _ hC0.out | exact CS'.out _ hv1 | exact CS'.out _ (below_set (below_set (below_set hv1 HGB.out) HGB.out) HGB.out))
              (first
                | (go_at_call 24; go_loud (refine (HLL.out _ hC0.out).mono ?_; rintro e v1 ⟨rfl, hbv1⟩; have hv1 : Below wr.heap.size wr v1 := below_step hC0.out hbv1; have hq1 : v1.heap[gB]? = some (.cells #[.int .i64 x.kind, .string x.name, .string x.keys] 44 (0, 0)) := blk_below (w := wc.drew) HBW.out hbv1; have q0 : v1.cell? ⟨gB, 0, none⟩ = some (.int .i64 x.kind) := (blk_cell hq1 0).trans rfl; have q1 : v1.cell? ⟨gB, 1, none⟩ = some (.string x.name) := (blk_cell hq1 1).trans rfl; have q2 : v1.cell? ⟨gB, 2, none⟩ = some (.string x.keys) := (blk_cell hq1 2).trans rfl; have q4 := blk_frozen hq1 0; have q5 := blk_frozen hq1 1; have q6 := blk_frozen hq1 2)))
            all_goals
              refine NoPanic.normal ?_
              go_wp2
              go_meet
              case rel => exact ⟨rfl, blk_put (blk_put (blk_put hq1 0 _ rfl) 1 _ rfl) 2 _ rfl, below_set (below_set (below_set hv1 HGB.out) HGB.out) HGB.out⟩
          case rest =>
            obtain ⟨wd, rfl⟩ : ∃ wd : World, wd = wc := ⟨_, rfl⟩
            obtain ⟨rfl, hD, hbd⟩ := hcut
            have HRD := Aside0.mk (HR.out.below hbd)
            have HDW := Aside0.mk hD
            have HBD := Aside0.mk hbd
            clear hD hbd
            by_cases hz : longN F sk.data.toList sk.size = 0
            · have e2 : Aside0 (tN F sk = sk.size ∧ tB F sk = Bd.no) := ⟨HTN.out.trans (if_pos hz), HTB.out.trans (if_pos hz)⟩
              rw [hz]
              clear hz
              have c2 := HRD.out.c2
              go_upto_region 8 with (fail)
              have hC1 := Aside0.mk (below_drew HBD.out)
              have d0 : wd.cell? ⟨gB, 0, none⟩ = some (.int .i64 y.kind) := (blk_cell HDW.out 0).trans rfl
              have d1 : wd.cell? ⟨gB, 1, none⟩ = some (.string y.name) := (blk_cell HDW.out 1).trans rfl
              have d2 : wd.cell? ⟨gB, 2, none⟩ = some (.string y.keys) := (blk_cell HDW.out 2).trans rfl
              have d4 := blk_frozen HDW.out 0
              have d5 := blk_frozen HDW.out 1
              have d6 := blk_frozen HDW.out 2
              have hgne : g ≠ gB := by have := HS.out.rd.lt; have := HGB.out; omega
              have hgne' := hgne.symm
              go_cut [6] from 49 to 54 (fun v6 w' => v6 = .int .i64 (sk.size : Int) ∧ w'.heap[gB]? = some (.cells #[.int .i64 0, .string ⟨#[]⟩, .string ⟨#[]⟩] 44 (0, 0)) ∧ Below wr.heap.size wr w')
              case first =>
                go_region
                all_goals
                  go_wp2
                  go_meet
                  case rel => exact ⟨rfl, blk_put (blk_put (blk_put HDW.out 0 _ rfl) 1 _ rfl) 2 _ rfl, below_set (below_set (below_set hC1.out HGB.out) HGB.out) HGB.out⟩
              case rest =>
                obtain ⟨we, rfl⟩ : ∃ we : World, we = wc := ⟨_, rfl⟩
                obtain ⟨rfl, hE, hbe⟩ := hcut
                have HRE := Aside0.mk (HR.out.below hbe)
                have HEW := Aside0.mk hE
                have HBE := Aside0.mk hbe
                clear hE hbe c2 d0 d1 d2 d4 d5 d6
                have b0 : we.cell? ⟨gB, 0, none⟩ = some (.int .i64 0) := (blk_cell HEW.out 0).trans rfl
                have b1 : we.cell? ⟨gB, 1, none⟩ = some (.string ⟨#[]⟩) := (blk_cell HEW.out 1).trans rfl
                have b2 : we.cell? ⟨gB, 2, none⟩ = some (.string ⟨#[]⟩) := (blk_cell HEW.out 2).trans rfl
                have HVW := Aside0.mk (Kd.R_below HS.out.row HBE.out)
                have HFW := Aside0.mk (HS.out.fr.trans (Fr.of_below (N := fun k => k = g) HBE.out) (fun _ _ h => h))
                have HHT := Aside0.mk (hit_calls HRE.out sk.size (Nat.le_refl _) (by have := HLEN.out; omega) Bd.no)
                unfold Bd.v at HHT
                go_wp2_with (first
                  | ((with_reducible refine gate_builtin (b := .append) (xs := #[.tmp 62, .tmp 64]) rfl ?_); at_builtin; go_loud (refine Kd.R_append_rows k46 (w0 := w8) w.heap.size rfl (.tmp 62) (.tmp 64) 33 46 (.agg #[.string ⟨#[]⟩, .int .i64 0, .string ⟨#[]⟩, .string ⟨#[]⟩]) 56 rfl Try.underlying33 info46 rfl (by decide) (by omega) v6 (hl ++ [⟨sk, ⟨0, ⟨#[]⟩, ⟨#[]⟩⟩⟩]) hs8 _ _ _ (fun _ => True) (fun _ => False) rfl rfl HV8.out (Kd.R_reads' HN8.out).2.2 (fun x cs h => M_of_K46 _ _ x cs h) (fun _ h => h.elim) (fun _ _ => trivial) (Below.refl _ _) HF8.out.size (by have := HL8.out; omega) ?_); intro v9 w9 hR9 hb9 hg9 hat9)
                  | (go_at_call 40; go_loud (refine (reads_calls HR6.out HS6.out).mono ?_; rintro e w8 ⟨v8, hs8, s8, rfl, hp8, hv8, hr8, hf8⟩; obtain ⟨A8, c8, rfl⟩ := Kd.R_slice hv8; have HP8 := Aside0.mk hp8; have HN8 := Aside0.mk hv8; have HR8 := Aside0.mk hr8; have HV8 := Aside0.mk (R46_new HW6.out hf8 HGL.out); have HF8 := Aside0.mk (HF6.out.trans hf8 (fun _ _ h => h)); have HL8 : Aside0 ((hl ++ [(⟨sk, ⟨0, ⟨#[]⟩, ⟨#[]⟩⟩⟩ : S46)]).length + hs8.length ≤ 3000000000) := ⟨by have h1 := hp8.len; have h2 := HS6.out; have h3 := HLEN.out; rw [List.length_append, List.length_singleton]; omega⟩; clear hp8 hv8 hr8 hf8))
                  | (go_at_call 57; go_loud (refine HHT.out.mono ?_; rintro e w5 ⟨rfl, hR5, hF5⟩; have HR5 := Aside0.mk hR5; have HF5 := Aside0.mk (HFW.out.trans hF5 (fun _ _ h => h)); have HV5 := Aside0.mk (R46_new HVW.out hF5 HGL.out); clear hR5 hF5))
                  | ((with_reducible refine gate_builtin (b := .append) (xs := #[.tmp 55, .tmp 60]) rfl ?_); at_builtin; go_loud (refine Kd.R_append_rows k46 (w0 := w5.alloc (.cells #[.string sk, .int .i64 0, .string ⟨#[]⟩, .string ⟨#[]⟩] 46)) w.heap.size rfl (.tmp 55) (.tmp 60) 33 46 (.agg #[.string ⟨#[]⟩, .int .i64 0, .string ⟨#[]⟩, .string ⟨#[]⟩]) 56 rfl Try.underlying33 info46 rfl (by decide) (by omega) (.slice A hl.length cp) hl [⟨sk, ⟨0, ⟨#[]⟩, ⟨#[]⟩⟩⟩] _ _ _ (fun _ => True) (fun _ => False) rfl rfl (Kd.R_alloc HV5.out _) (lit46 w5 ⟨sk, ⟨0, ⟨#[]⟩, ⟨#[]⟩⟩⟩) (fun x cs h => M_of_K46 _ _ x cs h) (fun _ h => h.elim) (fun _ _ => trivial) (Below.refl _ _) (by have := HF5.out.size; simp; omega) (by have := HLEN.out; omega) ?_); intro v6 w6 hR6 hb6 hg6 hat6; obtain ⟨hR7, hF7⟩ := grown_RD (HR5.out.below (below_alloc (Below.refl _ _) _)) (HF5.out.alloc _) (Kd.R_alloc HV5.out _) HOL.out HGL.out hg6; have HR6 := Aside0.mk hR7; have HF6 := Aside0.mk hF7; have HW6 := Aside0.mk hR6; have HS6 : Aside0 ((sk.extract sk.size sk.size).size ≤ 1000000000) := ⟨by rw [tail_size]; have := HLEN.out; omega⟩; clear hR6 hb6 hg6 hat6 hR7 hF7))
                obtain ⟨hR10, hF10⟩ := grown_RD HR8.out HF8.out HV8.out HOL.out HGL.out hg9
                have HN : Aside0 (TimeSt w w9 own g gm F c mt s v9 ((hl ++ [mkHit sk (tN F sk) (tB F sk)]) ++ hs8) s8 ∧ s8.size < sk.size) := ⟨by
                  have e : mkHit sk (tN F sk) (tB F sk) = ⟨sk, ⟨0, ⟨#[]⟩, ⟨#[]⟩⟩⟩ := by rw [e2.out.1, e2.out.2]; exact mkHit_whole _ _
                  refine HS.out.step H0.out (by rw [e2.out.1]; exact HP8.out) ?_ hR10 hF10
                  rw [e]; exact hR9⟩
                clear hR9 hb9 hg9 hat9 hR10 hF10
                go_roundw
                case rel => exact ⟨_, _, ⟨HN.out.1⟩⟩
                case measure =>
                  rw [HN.out.1.rd.wait, HS.out.rd.wait]
                  exact HN.out.2
            · have e2 : Aside0 (tN F sk = longN F sk.data.toList sk.size ∧ tB F sk = y) := ⟨HTN.out.trans (if_neg hz), HTB.out.trans (if_neg hz)⟩
              have hle := longN_le F sk.data.toList sk.size
              obtain ⟨m, hm⟩ : ∃ m, m = longN F sk.data.toList sk.size := ⟨_, rfl⟩
              rw [← hm] at e2 hle hz ⊢
              have hle' := Aside0.mk hle
              have hgt : (0 : Int) < (m : Int) := by omega
              have hne : ¬ (m : Int) = 0 := by omega
              have b0 : wd.cell? ⟨gB, 0, none⟩ = some (.int .i64 y.kind) := (blk_cell HDW.out 0).trans rfl
              have b1 : wd.cell? ⟨gB, 1, none⟩ = some (.string y.name) := (blk_cell HDW.out 1).trans rfl
              have b2 : wd.cell? ⟨gB, 2, none⟩ = some (.string y.keys) := (blk_cell HDW.out 2).trans rfl
              clear hm hle hz
              have HVW := Aside0.mk (Kd.R_below HS.out.row HBD.out)
              have HFW := Aside0.mk (HS.out.fr.trans (Fr.of_below (N := fun k => k = g) HBD.out) (fun _ _ h => h))
              have HHT := Aside0.mk (hit_calls HRD.out m hle'.out (by have := HLEN.out; omega) y)
              unfold Bd.v at HHT
              go_wp2_with (first
                | ((with_reducible refine gate_builtin (b := .append) (xs := #[.tmp 62, .tmp 64]) rfl ?_); at_builtin; go_loud (refine Kd.R_append_rows k46 (w0 := w8) w.heap.size rfl (.tmp 62) (.tmp 64) 33 46 (.agg #[.string ⟨#[]⟩, .int .i64 0, .string ⟨#[]⟩, .string ⟨#[]⟩]) 56 rfl Try.underlying33 info46 rfl (by decide) (by omega) v6 (hl ++ [⟨sk.extract 0 m, ⟨y.kind, y.name, y.keys⟩⟩]) hs8 _ _ _ (fun _ => True) (fun _ => False) rfl rfl HV8.out (Kd.R_reads' HN8.out).2.2 (fun x cs h => M_of_K46 _ _ x cs h) (fun _ h => h.elim) (fun _ _ => trivial) (Below.refl _ _) HF8.out.size (by have := HL8.out; omega) ?_); intro v9 w9 hR9 hb9 hg9 hat9)
                | (go_at_call 40; go_loud (refine (reads_calls HR6.out HS6.out).mono ?_; rintro e w8 ⟨v8, hs8, s8, rfl, hp8, hv8, hr8, hf8⟩; obtain ⟨A8, c8, rfl⟩ := Kd.R_slice hv8; have HP8 := Aside0.mk hp8; have HN8 := Aside0.mk hv8; have HR8 := Aside0.mk hr8; have HV8 := Aside0.mk (R46_new HW6.out hf8 HGL.out); have HF8 := Aside0.mk (HF6.out.trans hf8 (fun _ _ h => h)); have HL8 : Aside0 ((hl ++ [(⟨sk.extract 0 m, ⟨y.kind, y.name, y.keys⟩⟩ : S46)]).length + hs8.length ≤ 3000000000) := ⟨by have h1 := hp8.len; have h2 := HS6.out; have h3 := HLEN.out; rw [List.length_append, List.length_singleton]; omega⟩; clear hp8 hv8 hr8 hf8))
                | (go_at_call 57; go_loud (refine HHT.out.mono ?_; rintro e w5 ⟨rfl, hR5, hF5⟩; have HR5 := Aside0.mk hR5; have HF5 := Aside0.mk (HFW.out.trans hF5 (fun _ _ h => h)); have HV5 := Aside0.mk (R46_new HVW.out hF5 HGL.out); clear hR5 hF5))
                | ((with_reducible refine gate_builtin (b := .append) (xs := #[.tmp 55, .tmp 60]) rfl ?_); at_builtin; go_loud (refine Kd.R_append_rows k46 (w0 := w5.alloc (.cells #[.string (sk.extract 0 m), .int .i64 y.kind, .string y.name, .string y.keys] 46)) w.heap.size rfl (.tmp 55) (.tmp 60) 33 46 (.agg #[.string ⟨#[]⟩, .int .i64 0, .string ⟨#[]⟩, .string ⟨#[]⟩]) 56 rfl Try.underlying33 info46 rfl (by decide) (by omega) (.slice A hl.length cp) hl [⟨sk.extract 0 m, ⟨y.kind, y.name, y.keys⟩⟩] _ _ _ (fun _ => True) (fun _ => False) rfl rfl (Kd.R_alloc HV5.out _) (lit46 w5 ⟨sk.extract 0 m, ⟨y.kind, y.name, y.keys⟩⟩) (fun x cs h => M_of_K46 _ _ x cs h) (fun _ h => h.elim) (fun _ _ => trivial) (Below.refl _ _) (by have := HF5.out.size; simp; omega) (by have := HLEN.out; omega) ?_); intro v6 w6 hR6 hb6 hg6 hat6; obtain ⟨hR7, hF7⟩ := grown_RD (HR5.out.below (below_alloc (Below.refl _ _) _)) (HF5.out.alloc _) (Kd.R_alloc HV5.out _) HOL.out HGL.out hg6; have HR6 := Aside0.mk hR7; have HF6 := Aside0.mk hF7; have HW6 := Aside0.mk hR6; have HS6 : Aside0 ((sk.extract m sk.size).size ≤ 1000000000) := ⟨by rw [tail_size]; have := HLEN.out; omega⟩; clear hR6 hb6 hg6 hat6 hR7 hF7))
              obtain ⟨hR10, hF10⟩ := grown_RD HR8.out HF8.out HV8.out HOL.out HGL.out hg9
              have HN : Aside0 (TimeSt w w9 own g gm F c mt s v9 ((hl ++ [mkHit sk (tN F sk) (tB F sk)]) ++ hs8) s8 ∧ s8.size < sk.size) := ⟨by
                have e : mkHit sk (tN F sk) (tB F sk) = ⟨sk.extract 0 m, ⟨y.kind, y.name, y.keys⟩⟩ := by rw [e2.out.1, e2.out.2]; rfl
                refine HS.out.step H0.out (by rw [e2.out.1]; exact HP8.out) ?_ hR10 hF10
                rw [e]; exact hR9⟩
              clear hR9 hb9 hg9 hat9 hR10 hF10
              go_roundw
              case rel => exact ⟨_, _, ⟨HN.out.1⟩⟩
              case measure =>
                rw [HN.out.1.rd.wait, HS.out.rd.wait]
                exact HN.out.2
end Go.Proofs.Ytcnkgodooignpaa
