/-
  A reader in memory: reads.
-/
import Derived.Test.YtcnkgodooignpaaRJ
import Derived.Deep.RegionLaw
namespace Go.Proofs.Ytcnkgodooignpaa
open Go.RowKit Go.WideShapes Go.Proofs.YtcnkgodooignpaaW.PrintWords Go.Proofs.YtcnkgodooignpaaW.PrintLast Go.Proofs.YtcnkgodooignpaaW.PrintMore Go.Proofs.Ytcnkgodooignpaa.PAll
set_option linter.unusedVariables false
set_option linter.unusedSimpArgs false
attribute [local go_sem] max2_int min2_int max_two min_two max_three min_three max_four min_four
theorem grown_RD {w W w1 : World} {own : Nat → Prop} {g gm : Nat} {F : Key} {c : Nat} {mt : Bool} {s : ByteArray} {ok : Nat → Prop} {v : Value} {hs : List S46} (hR : RD W own g gm F c mt s) (hF : Fr (fun k => k = g) w W) (HV : Kd.R k46 46 W w.heap.size ok v hs) (hown : ∀ k, own k → k < w.heap.size) (hgl : g < w.heap.size) (hg : W.grownBy w1 v.ownBlock) :
    RD w1 own g gm F c mt s ∧ Fr (fun k => k = g) w w1 := by
  have hb : ∀ k, some k = v.ownBlock → w.heap.size ≤ k := fun k hk => by
    obtain ⟨_, inner, ho, _⟩ := HV
    exact own_base ho k hk.symm
  have hf : Fr (fun k => some k = v.ownBlock) W w1 := Fr.of_grown hg (fun k hk => hk.symm)
  refine ⟨hR.fr hf (fun e => ?_) (fun k hk e => ?_), hF.trans hf (fun i hi e => ?_)⟩
  · have := hb g e; omega
  · have := hb k e; have := hown k hk; omega
  · have := hb i e; omega
/-- How long what waits is. -/
def waitOf (g : Nat) (w : World) : Nat := match w.cell? ⟨g, 2, none⟩ with | some (.string b) => b.size | _ => 0
theorem RD.wait {w : World} {own : Nat → Prop} {g gm : Nat} {F : Key} {c : Nat} {mt : Bool} {s : ByteArray} (h : RD w own g gm F c mt s) : waitOf g w = s.size := by
  unfold waitOf
  rw [h.c2]
/-- What is behind a round of reads. -/
structure ReadSt (w wr : World) (own : Nat → Prop) (g gm : Nat) (F : Key) (c : Nat) (mt : Bool) (s : ByteArray) (v : Value) (hs : List S46) (sk : ByteArray) : Prop where
  go : ∀ hs' s', Reads F sk hs' s' → Reads F s (hs ++ hs') s'
  row : Kd.R k46 46 wr w.heap.size (fun _ => True) v hs
  rd : RD wr own g gm F c mt sk
  fr : Fr (fun k => k = g) w wr
  len : hs.length + sk.size ≤ s.size
theorem ReadSt.step {w wr w1 : World} {own : Nat → Prop} {g gm : Nat} {F : Key} {c : Nat} {mt : Bool} {s : ByteArray} {v v1 : Value} {hs : List S46} {sk : ByteArray} (h : ReadSt w wr own g gm F c mt s v hs sk) (h0 : 0 < sk.size) (h1 : kindOf F sk.data.toList ≠ 1) (h3 : kindOf F sk.data.toList ≠ 3)
    (hrow : Kd.R k46 46 w1 w.heap.size (fun _ => True) v1 (hs ++ [mkHit sk (cutN F sk) (bdAt F sk)])) (hrd : RD w1 own g gm F c mt (sk.extract (cutN F sk) sk.size)) (hfr : Fr (fun k => k = g) w w1) :
    ReadSt w w1 own g gm F c mt s v1 (hs ++ [mkHit sk (cutN F sk) (bdAt F sk)]) (sk.extract (cutN F sk) sk.size) := by
  refine ⟨fun hs' s' hr => ?_, hrow, hrd, hfr, ?_⟩
  · rw [List.append_assoc]
    exact h.go _ _ (.step h0 h1 h3 hr)
  · have := h.len
    have := cutN_pos F sk
    have := cutN_le h0 h1
    rw [tail_size, List.length_append]
    simp only [List.length_cons, List.length_nil]
    omega
/-- What a call that hands over hits leaves. -/
def HitsPost (R : ByteArray → List S46 → ByteArray → Prop) (w : World) (own : Nat → Prop) (g gm : Nat) (F : Key) (c : Nat) (mt : Bool) (s : ByteArray) (e : Ending) (w' : World) : Prop :=
  ∃ v hs s', e = .returned v ∧ R s hs s' ∧ Kd.R k46 46 w' w.heap.size (fun _ => True) v hs ∧ RD w' own g gm F c mt s' ∧ Fr (fun k => k = g) w w'
theorem whole_extract (s : ByteArray) : s.extract 0 s.size = s := bytes_inj (by rw [head_toList, take_all])
theorem mkHit_whole (s : ByteArray) (x : Bd) : mkHit s s.size x = ⟨s, ⟨x.kind, x.name, x.keys⟩⟩ := by
  unfold mkHit
  rw [whole_extract]
set_option maxRecDepth 100000 in
set_option maxHeartbeats 4000000 in
theorem reads_calls {w : World} {own : Nat → Prop} {g gm : Nat} {F : Key} {c : Nat} {mt : Bool} {s : ByteArray} (h : RD w own g gm F c mt s) (hs : s.size ≤ 1000000000) :
    Calls Try.prog 40 #[.pointer (some ⟨g, 0, none⟩)] w (HitsPost (Reads F) w own g gm F c mt s) := by
  have HOL := Aside0.mk h.km.olt
  have HGL := Aside0.mk h.lt
  have HG := Aside0.mk h.km.good
  have HS0 : Aside0 (ReadSt w w own g gm F c mt s (.slice none 0 0) [] s) := ⟨⟨fun _ _ h => h, Kd.R_nil _ _ _ _ _, h, Fr.refl _ _, by simp⟩⟩
  clear h
  go_enter Try.func40, Try.ntmps40
  go_wp2
  go_loopw [3] (fun v wr => ∃ hs sk, Aside0 (ReadSt w wr own g gm F c mt s v hs sk)) (fun v wr => waitOf g wr)
  case atStart => exact ⟨[], s, HS0⟩
  case round =>
    obtain ⟨hl, sk, HS⟩ := hrel
    obtain ⟨A, cp, rfl⟩ := Kd.R_slice HS.out.row
    have c2 := HS.out.rd.c2
    have hlen := HS.out.len
    by_cases h0 : sk.size = 0
    · have hem := em_true h0
      have H0 := Aside0.mk h0
      clear h0 hlen
      go_wp2
      go_ret
      exact ⟨_, hl, sk, rfl, by have h := HS.out.go [] sk (.stop (.inl H0.out)); rwa [List.append_nil] at h, HS.out.row, HS.out.rd, HS.out.fr⟩
    · have hem := em_false (Nat.pos_of_ne_zero h0)
      have H0 := Aside0.mk (Nat.pos_of_ne_zero h0)
      have HLEN := Aside0.mk hlen
      clear h0 hlen
      go_wp2
      clear c2
      have HR := Aside0.mk HS.out.rd
      have HL := Aside0.mk (fun (W : World) (hb : Below wr.heap.size wr W) => lookup_calls (HR.out.below hb).km sk (by have := HLEN.out; omega))
      have HFB := Aside0.mk (rfl : (F sk.data.toList).getD Bd.no = (F sk.data.toList).getD Bd.no)
      obtain ⟨x, hx⟩ : ∃ x, x = (F sk.data.toList).getD Bd.no := ⟨_, rfl⟩
      rw [← hx] at HL
      simp only [Bd.v] at HL
      have HX := Aside0.mk hx
      clear hx
      have CS' := Aside0.mk (fun (w' : World) (hb : Below wr.heap.size wr w') => (⟨(HR.out.below hb).c0, (HR.out.below hb).c2, hb⟩ : w'.cell? ⟨g, 0, none⟩ = some (.pointer (some ⟨gm, 0, none⟩)) ∧ w'.cell? ⟨g, 2, none⟩ = some (.string sk) ∧ Below wr.heap.size wr w'))
      have hV0 := Aside0.mk (below_drew (Below.refl wr.heap.size wr))
      go_cut [4, 5] from 13 to 24 (fun v4 v5 w' => ∃ gB, v4 = .pointer (some ⟨gB, 0, none⟩) ∧ v5 = .int .i64 (kindOf F sk.data.toList) ∧ w'.heap[gB]? = some (.cells #[.int .i64 x.kind, .string x.name, .string x.keys] 44 (0, 0)) ∧ wr.heap.size ≤ gB ∧ Below wr.heap.size wr w')
      case first =>
        refine wp_region_noPanic ?_
        go_region_held3 (fun w' => w'.cell? ⟨g, 0, none⟩ = some (.pointer (some ⟨gm, 0, none⟩)) ∧ w'.cell? ⟨g, 2, none⟩ = some (.string sk) ∧ Below wr.heap.size wr w')
          (first | exact CS'.out _ hV0.out | exact CS'.out _ hv1 | exact CS'.out _ (below_alloc hV0.out _) | exact CS'.out _ (below_alloc hv1 _) | exact CS'.out _ (below_set (below_set (below_set hv1 (Nat.le_refl _)) (Nat.le_refl _)) (Nat.le_refl _)))
          (first
            | (go_at_call 16; go_loud (refine (HL.out _ (by first | exact hV0.out | exact below_alloc hV0.out _)).mono ?_; rintro e v1 ⟨rfl, hbv1⟩; have hv1 : Below wr.heap.size wr v1 := below_step (by first | exact hV0.out | exact below_alloc hV0.out _) hbv1; first | (have hq1 : v1.heap[wr.heap.size]? = some (.cells #[.int .i64 0, .string ⟨#[]⟩, .string ⟨#[]⟩] 44 (0, 0)) := blk_below (blk_new wr.drew (.cells #[.int .i64 0, .string ⟨#[]⟩, .string ⟨#[]⟩] 44)) hbv1; have q0 : v1.cell? ⟨wr.heap.size, 0, none⟩ = some (.int .i64 0) := (blk_cell hq1 0).trans rfl; have q1 : v1.cell? ⟨wr.heap.size, 1, none⟩ = some (.string ⟨#[]⟩) := (blk_cell hq1 1).trans rfl; have q2 : v1.cell? ⟨wr.heap.size, 2, none⟩ = some (.string ⟨#[]⟩) := (blk_cell hq1 2).trans rfl; have q4 := blk_frozen hq1 0; have q5 := blk_frozen hq1 1; have q6 := blk_frozen hq1 2) | skip)))
        · refine NoPanic.normal ?_
          go_wp2
          go_meet
          case rel => exact ⟨v1.heap.size, rfl, rfl, blk_new v1 _, hv1.size, below_alloc hv1 _⟩
        · refine NoPanic.normal ?_
          go_wp2
          go_meet
          case rel => exact ⟨wr.heap.size, rfl, rfl, blk_put (blk_put (blk_put hq1 0 _ rfl) 1 _ rfl) 2 _ rfl, Nat.le_refl _, below_set (below_set (below_set hv1 (Nat.le_refl _)) (Nat.le_refl _)) (Nat.le_refl _)⟩
      case rest =>
        obtain ⟨gB, rfl, rfl, hB, hgB, hbc⟩ := hcut
        have HRC := Aside0.mk (HR.out.below hbc)
        have HVC := Aside0.mk (Kd.R_below HS.out.row hbc)
        have HFC := Aside0.mk (HS.out.fr.trans (Fr.of_below (N := fun k => k = g) hbc) (fun _ _ h => h))
        have c2 := HRC.out.c2
        have hBW := Aside0.mk hB
        have HGB := Aside0.mk hgB
        have b0 : wc.cell? ⟨gB, 0, none⟩ = some (.int .i64 x.kind) := (blk_cell hB 0).trans rfl
        have b1 : wc.cell? ⟨gB, 1, none⟩ = some (.string x.name) := (blk_cell hB 1).trans rfl
        have b2 : wc.cell? ⟨gB, 2, none⟩ = some (.string x.keys) := (blk_cell hB 2).trans rfl
        have HBC := Aside0.mk hbc
        clear hB hgB hbc
        rcases kind_cases F sk.data.toList with hk | hk | hk | hk
        · rw [hk]
          have HK := Aside0.mk hk
          clear hk
          obtain ⟨wk, rfl⟩ : ∃ wk : World, wk = wc := ⟨_, rfl⟩
          have c0 := HRC.out.c0
          clear b0 b1 b2 c2
          go_wp2
          have HLL := Aside0.mk (fun (W : World) (hb : Below wk.heap.size wk W) => (by
            have h := longest_calls (HRC.out.below hb).km sk (by have := HLEN.out; omega)
            exact h : Calls Try.prog 24 #[.pointer (some ⟨gm, 0, none⟩), .string sk] W fun e w' => e = .returned (.tuple #[(bdAt F sk).v, .int .i64 ((longN F sk.data.toList sk.size : Nat) : Int)]) ∧ Below W.heap.size W w'))
          obtain ⟨y, hy⟩ : ∃ y, y = bdAt F sk := ⟨_, rfl⟩
          rw [← hy] at HLL
          simp only [Bd.v] at HLL
          have HY := Aside0.mk hy
          clear hy c0
          have CSC' := Aside0.mk (fun (w' : World) (hb : Below wk.heap.size wk w') => (⟨(HRC.out.below hb).c0, (HRC.out.below hb).c2, hb⟩ : w'.cell? ⟨g, 0, none⟩ = some (.pointer (some ⟨gm, 0, none⟩)) ∧ w'.cell? ⟨g, 2, none⟩ = some (.string sk) ∧ Below wk.heap.size wk w'))
          have hC0 := Aside0.mk (below_drew (Below.refl wk.heap.size wk))
          go_cut [6, 7] from 26 to 37 (fun v6 v7 w' => ∃ gC, v6 = .pointer (some ⟨gC, 0, none⟩) ∧ v7 = .int .i64 ((longN F sk.data.toList sk.size : Nat) : Int) ∧ w'.heap[gC]? = some (.cells #[.int .i64 y.kind, .string y.name, .string y.keys] 44 (0, 0)) ∧ wk.heap.size ≤ gC ∧ Below wk.heap.size wk w')
          case first =>
            refine wp_region_noPanic ?_
            go_region_held3 (fun w' => w'.cell? ⟨g, 0, none⟩ = some (.pointer (some ⟨gm, 0, none⟩)) ∧ w'.cell? ⟨g, 2, none⟩ = some (.string sk) ∧ Below wk.heap.size wk w')
              (first | exact CSC'.out _ hC0.out | exact CSC'.out _ hv1 | exact CSC'.out _ (below_alloc hC0.out _) | exact CSC'.out _ (below_alloc hv1 _) | exact CSC'.out _ (below_set (below_set (below_set hv1 (Nat.le_refl _)) (Nat.le_refl _)) (Nat.le_refl _)))
              (first
                | (go_at_call 24; go_loud (refine (HLL.out _ (by first | exact hC0.out | exact below_alloc hC0.out _)).mono ?_; rintro e v1 ⟨rfl, hbv1⟩; have hv1 : Below wk.heap.size wk v1 := below_step (by first | exact hC0.out | exact below_alloc hC0.out _) hbv1; first | (have hq1 : v1.heap[wk.heap.size]? = some (.cells #[.int .i64 0, .string ⟨#[]⟩, .string ⟨#[]⟩] 44 (0, 0)) := blk_below (blk_new wk.drew (.cells #[.int .i64 0, .string ⟨#[]⟩, .string ⟨#[]⟩] 44)) hbv1; have q0 : v1.cell? ⟨wk.heap.size, 0, none⟩ = some (.int .i64 0) := (blk_cell hq1 0).trans rfl; have q1 : v1.cell? ⟨wk.heap.size, 1, none⟩ = some (.string ⟨#[]⟩) := (blk_cell hq1 1).trans rfl; have q2 : v1.cell? ⟨wk.heap.size, 2, none⟩ = some (.string ⟨#[]⟩) := (blk_cell hq1 2).trans rfl; have q4 := blk_frozen hq1 0; have q5 := blk_frozen hq1 1; have q6 := blk_frozen hq1 2) | skip)))
            · refine NoPanic.normal ?_
              go_wp2
              go_meet
              case rel => exact ⟨v1.heap.size, rfl, rfl, blk_new v1 _, hv1.size, below_alloc hv1 _⟩
            · refine NoPanic.normal ?_
              go_wp2
              go_meet
              case rel => exact ⟨wk.heap.size, rfl, rfl, blk_put (blk_put (blk_put hq1 0 _ rfl) 1 _ rfl) 2 _ rfl, Nat.le_refl _, below_set (below_set (below_set hv1 (Nat.le_refl _)) (Nat.le_refl _)) (Nat.le_refl _)⟩
          case rest =>
            obtain ⟨gC, rfl, rfl, hC, hgC, hbd⟩ := hcut
            have HRD := Aside0.mk (HRC.out.below hbd)
            have HVD := Aside0.mk (Kd.R_below HVC.out hbd)
            have HFD := Aside0.mk (HFC.out.trans (Fr.of_below (N := fun k => k = g) hbd) (fun _ _ h => h))
            have hno : (F []).getD Bd.no = Bd.no := by
              cases hF : F [] with
              | none => rfl
              | some z => exact absurd rfl (HG.out.ne [] z hF)
            have HNO := Aside0.mk hno
            have HC := Aside0.mk hC
            clear hno hC hgC hbd
            have HCL := Aside0.mk (cutN_le H0.out (by rw [HK.out]; decide))
            by_cases hz : longN F sk.data.toList sk.size = 0
            · have e2 : Aside0 (cutN F sk = lpN F sk.data.toList sk.size + 1 ∧ bdAt F sk = Bd.no) := ⟨by
                refine ⟨if_pos hz, ?_⟩
                unfold bdAt
                rw [hz, List.take_zero, HNO.out]⟩
              rw [hz]
              clear hz
              have HLP := Aside0.mk (rlongest_calls HRD.out (by have := HLEN.out; omega))
              have hle := e2.out.1 ▸ HCL.out
              obtain ⟨m, hm⟩ : ∃ m, m = lpN F sk.data.toList sk.size := ⟨_, rfl⟩
              rw [← hm] at HLP e2 hle
              have hle' := Aside0.mk hle
              have hmb : (m : Int) ≤ 1000000000 := by have := HLEN.out; omega
              clear hm hle
              go_wp2_with (first
                | (go_at_call 58; go_loud (refine HLP.out.mono ?_; rintro e w4 ⟨rfl, hb4⟩; have HRE := Aside0.mk (HRD.out.below hb4); have HVE := Aside0.mk (Kd.R_below HVD.out hb4); have HFE := Aside0.mk (HFD.out.trans (Fr.of_below (N := fun k => k = g) hb4) (fun _ _ h => h)); clear hb4))
                | (go_at_call 57; go_loud (refine (hit_calls HRE.out (m + 1) hle'.out (by have := HLEN.out; omega) Bd.no).mono ?_; rintro e w5 ⟨rfl, hR5, hF5⟩; have HR5 := Aside0.mk hR5; have HF5 := Aside0.mk (HFE.out.trans hF5 (fun _ _ h => h)); have HV5 := Aside0.mk (R46_fr HVE.out hF5 (fun k hk e => Kd.R_ne HVE.out HRE.out.box (by decide) (e ▸ hk))); clear hR5 hF5))
                | ((with_reducible refine gate_builtin (b := .append) (xs := #[.tmp 47, .tmp 54]) rfl ?_); at_builtin; go_loud (refine Kd.R_append_rows k46 (w0 := w5.alloc (.cells #[.string (sk.extract 0 (m + 1)), .int .i64 0, .string ⟨#[]⟩, .string ⟨#[]⟩] 46)) w.heap.size rfl (.tmp 47) (.tmp 54) 33 46 (.agg #[.string ⟨#[]⟩, .int .i64 0, .string ⟨#[]⟩, .string ⟨#[]⟩]) 56 rfl Try.underlying33 info46 rfl (by decide) (by omega) (.slice A hl.length cp) hl [⟨sk.extract 0 (m + 1), ⟨0, ⟨#[]⟩, ⟨#[]⟩⟩⟩] _ _ _ (fun _ => True) (fun _ => False) rfl rfl (Kd.R_alloc HV5.out _) (lit46 w5 ⟨sk.extract 0 (m + 1), ⟨0, ⟨#[]⟩, ⟨#[]⟩⟩⟩) (fun x cs h => M_of_K46 _ _ x cs h) (fun _ h => h.elim) (fun _ _ => trivial) (Below.refl _ _) (by have := HF5.out.size; simp; omega) (by have := HLEN.out; omega) ?_); intro v6 w6 hR6 hb6 hg6 hat6))
              obtain ⟨hR7, hF7⟩ := grown_RD (HR5.out.below (below_alloc (Below.refl _ _) _)) (HF5.out.alloc _) (Kd.R_alloc HV5.out _) HOL.out HGL.out hg6
              have HN : Aside0 (ReadSt w w6 own g gm F c mt s v6 (hl ++ [mkHit sk (cutN F sk) (bdAt F sk)]) (sk.extract (cutN F sk) sk.size)) := ⟨by
                have e : (mkHit sk (cutN F sk) (bdAt F sk)) = ⟨sk.extract 0 (m + 1), ⟨0, ⟨#[]⟩, ⟨#[]⟩⟩⟩ ∧ cutN F sk = (m + 1) := ⟨by rw [e2.out.1, e2.out.2]; rfl, e2.out.1⟩
                refine HS.out.step H0.out (by rw [HK.out]; decide) (by rw [HK.out]; decide) ?_ ?_ hF7
                · rw [e.1]; exact hR6
                · rw [e.2]; exact hR7⟩
              clear hR6 hb6 hg6 hat6 hR7 hF7
              go_roundw
              case rel => exact ⟨_, _, HN⟩
              case measure =>
                rw [HN.out.rd.wait, HS.out.rd.wait, tail_size]
                have := H0.out
                have := cutN_pos F sk
                omega
            · have e2 : Aside0 (cutN F sk = longN F sk.data.toList sk.size ∧ bdAt F sk = y) := ⟨if_neg hz, HY.out.symm⟩
              have hle := e2.out.1 ▸ HCL.out
              have HHT := Aside0.mk (hit_calls HRD.out (longN F sk.data.toList sk.size) hle (by have := HLEN.out; omega) y)
              unfold Bd.v at HHT
              obtain ⟨m, hm⟩ : ∃ m, m = longN F sk.data.toList sk.size := ⟨_, rfl⟩
              rw [← hm] at e2 hle HHT hz ⊢
              have hgt : (0 : Int) < (m : Int) := by omega
              have r0 : wc.cell? ⟨gC, 0, none⟩ = some (.int .i64 y.kind) := (blk_cell HC.out 0).trans rfl
              have r1 : wc.cell? ⟨gC, 1, none⟩ = some (.string y.name) := (blk_cell HC.out 1).trans rfl
              have r2 : wc.cell? ⟨gC, 2, none⟩ = some (.string y.keys) := (blk_cell HC.out 2).trans rfl
              have hle' := Aside0.mk hle
              clear hm hle hz
              go_wp2_with (first
                | (go_at_call 57; go_loud (refine (HHT.out).mono ?_; rintro e w5 ⟨rfl, hR5, hF5⟩; have HR5 := Aside0.mk hR5; have HF5 := Aside0.mk (HFD.out.trans hF5 (fun _ _ h => h)); have HV5 := Aside0.mk (R46_fr HVD.out hF5 (fun k hk e => Kd.R_ne HVD.out HRD.out.box (by decide) (e ▸ hk))); clear hR5 hF5))
                | ((with_reducible refine gate_builtin (b := .append) (xs := #[.tmp 40, .tmp 45]) rfl ?_); at_builtin; go_loud (refine Kd.R_append_rows k46 (w0 := w5.alloc (.cells #[.string (sk.extract 0 m), .int .i64 y.kind, .string y.name, .string y.keys] 46)) w.heap.size rfl (.tmp 40) (.tmp 45) 33 46 (.agg #[.string ⟨#[]⟩, .int .i64 0, .string ⟨#[]⟩, .string ⟨#[]⟩]) 56 rfl Try.underlying33 info46 rfl (by decide) (by omega) (.slice A hl.length cp) hl [⟨sk.extract 0 m, ⟨y.kind, y.name, y.keys⟩⟩] _ _ _ (fun _ => True) (fun _ => False) rfl rfl (Kd.R_alloc HV5.out _) (lit46 w5 ⟨sk.extract 0 m, ⟨y.kind, y.name, y.keys⟩⟩) (fun x cs h => M_of_K46 _ _ x cs h) (fun _ h => h.elim) (fun _ _ => trivial) (Below.refl _ _) (by have := HF5.out.size; simp; omega) (by have := HLEN.out; omega) ?_); intro v6 w6 hR6 hb6 hg6 hat6))
              obtain ⟨hR7, hF7⟩ := grown_RD (HR5.out.below (below_alloc (Below.refl _ _) _)) (HF5.out.alloc _) (Kd.R_alloc HV5.out _) HOL.out HGL.out hg6
              have HN : Aside0 (ReadSt w w6 own g gm F c mt s v6 (hl ++ [mkHit sk (cutN F sk) (bdAt F sk)]) (sk.extract (cutN F sk) sk.size)) := ⟨by
                have e : (mkHit sk (cutN F sk) (bdAt F sk)) = ⟨sk.extract 0 m, ⟨y.kind, y.name, y.keys⟩⟩ ∧ cutN F sk = m := ⟨by rw [e2.out.1, e2.out.2]; rfl, e2.out.1⟩
                refine HS.out.step H0.out (by rw [HK.out]; decide) (by rw [HK.out]; decide) ?_ ?_ hF7
                · rw [e.1]; exact hR6
                · rw [e.2]; exact hR7⟩
              clear hR6 hb6 hg6 hat6 hR7 hF7
              go_roundw
              case rel => exact ⟨_, _, HN⟩
              case measure =>
                rw [HN.out.rd.wait, HS.out.rd.wait, tail_size]
                have := H0.out
                have := cutN_pos F sk
                omega

        · have hlt := ext_lt HG.out (kind_one hk).2
          rw [data_len] at hlt
          have hlt' : ¬ (64 : Int) ≤ (sk.size : Int) := by omega
          rw [hk]
          have HK := Aside0.mk hk
          clear hk hlt b0 b1 b2
          go_wp2
          go_ret
          exact ⟨_, hl, sk, rfl, by have h := HS.out.go [] sk (.stop (.inr (.inl HK.out))); rwa [List.append_nil] at h, HVC.out, HRC.out, HFC.out⟩
        · rw [hk]
          have HK := Aside0.mk hk
          clear hk
          have e2 : Aside0 (cutN F sk = sk.size ∧ bdAt F sk = x) := ⟨by
            obtain ⟨h1, _⟩ := kind_two HK.out
            cases hF : F sk.data.toList with
            | none => rw [hF] at h1; cases h1
            | some y =>
              have hl := longN_all H0.out hF
              refine ⟨?_, ?_⟩
              · unfold cutN
                rw [hl, if_neg (by have := H0.out; omega)]
              · unfold bdAt
                rw [hl, take_all, HX.out]⟩
          go_wp2
          have HRD := Aside0.mk (HRC.out.below (below_drew (Below.refl _ _)))
          have HVD := Aside0.mk (Kd.R_drew HVC.out)
          have HFD : Aside0 (Fr (fun k => k = g) w wc.drew) := ⟨HFC.out.drewN 1⟩
          have HHT := Aside0.mk (hit_calls HRD.out sk.size (Nat.le_refl _) (by have := HLEN.out; omega) x)
          unfold Bd.v at HHT
          go_region_law
            (first
              | (refine Kd.R_append_rows_step k46 (w0 := w5.alloc (.cells #[.string sk, .int .i64 x.kind, .string x.name, .string x.keys] 46)) w.heap.size (by rfl) (.tmp 72) (.tmp 81) 33 46 (.agg #[.string ⟨#[]⟩, .int .i64 0, .string ⟨#[]⟩, .string ⟨#[]⟩]) 56 (by rfl) Try.underlying33 info46 rfl (by decide) (by omega) (.slice A hl.length cp) hl [⟨sk, ⟨x.kind, x.name, x.keys⟩⟩] _ _ _ (fun _ => True) (fun _ => False) (by rfl) (by rfl) (Kd.R_alloc HV5.out _) (lit46 w5 ⟨sk, ⟨x.kind, x.name, x.keys⟩⟩) (fun x cs h => M_of_K46 _ _ x cs h) (fun _ h => h.elim) (fun _ _ => trivial) (Below.refl _ _) HSZ5.out (by have := HLEN.out; omega) ?_; intro v6 w6 hR6 hb6 hg6 hat6)
              | (go_simp; go_at_call 57; refine HHT.out.mono ?_; rintro e w5 ⟨rfl, hR5, hF5⟩; have HR5 := Aside0.mk hR5; have HF5 := Aside0.mk (HFD.out.trans hF5 (fun _ _ h => h)); have HV5 := Aside0.mk (R46_fr HVD.out hF5 (fun k hk e => Kd.R_ne HVD.out HRD.out.box (by decide) (e ▸ hk))); have HSZ5 : Aside0 (w.heap.size ≤ (w5.alloc (.cells #[.string sk, .int .i64 x.kind, .string x.name, .string x.keys] 46)).heap.size) := ⟨by have := HF5.out.size; simp; omega⟩; clear hR5 hF5))
          all_goals simp only [List.getElem_toArray, List.getElem_cons_succ, List.getElem_cons_zero, Act.put, List.setIfInBounds_toArray, List.set_cons_succ, List.set_cons_zero]
          all_goals go_wp2
          all_goals
            obtain ⟨hR7, hF7⟩ := grown_RD (HR5.out.below (below_alloc (Below.refl _ _) _)) (HF5.out.alloc _) (Kd.R_alloc HV5.out _) HOL.out HGL.out hg6
            have HN : Aside0 (ReadSt w w6 own g gm F c mt s v6 (hl ++ [mkHit sk (cutN F sk) (bdAt F sk)]) (sk.extract (cutN F sk) sk.size)) := ⟨by
              have e : (mkHit sk (cutN F sk) (bdAt F sk)) = ⟨sk, ⟨x.kind, x.name, x.keys⟩⟩ ∧ cutN F sk = sk.size := ⟨by rw [e2.out.1, e2.out.2, mkHit_whole], e2.out.1⟩
              refine HS.out.step H0.out (by rw [HK.out]; decide) (by rw [HK.out]; decide) ?_ ?_ hF7
              · rw [e.1]; exact hR6
              · rw [e.2]; exact hR7⟩
            clear hR6 hb6 hg6 hat6 hR7 hF7
            go_roundw
            case rel => exact ⟨_, _, HN⟩
            case measure =>
              rw [HN.out.rd.wait, HS.out.rd.wait, tail_size]
              have := H0.out
              have := cutN_pos F sk
              omega
        · have hlt := ext_lt HG.out (kind_three hk).2
          rw [data_len] at hlt
          have hlt' : ¬ (64 : Int) ≤ (sk.size : Int) := by omega
          rw [hk]
          have HK := Aside0.mk hk
          clear hk hlt b0 b1 b2
          go_wp2
          go_ret
          exact ⟨_, hl, sk, rfl, by have h := HS.out.go [] sk (.stop (.inr (.inr HK.out))); rwa [List.append_nil] at h, HVC.out, HRC.out, HFC.out⟩
end Go.Proofs.Ytcnkgodooignpaa
