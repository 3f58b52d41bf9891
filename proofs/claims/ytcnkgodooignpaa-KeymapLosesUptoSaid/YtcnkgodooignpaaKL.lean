/-
  KeymapLoses' walk.
-/
import Derived.Test.YtcnkgodooignpaaRU
namespace Go.Proofs.Ytcnkgodooignpaa
open Go.RowKit Go.WideShapes Go.Proofs.YtcnkgodooignpaaW.PrintWords Go.Proofs.YtcnkgodooignpaaW.PrintLast Go.Proofs.YtcnkgodooignpaaW.PrintMore Go.Proofs.Ytcnkgodooignpaa.PAll
set_option linter.unusedVariables false
set_option linter.unusedSimpArgs false
attribute [local go_sem] max2_int min2_int max_two min_two max_three min_three max_four min_four
attribute [local go_sem high] eqA44 eqA46
theorem at40_in {w W : World} {A : Option Addr} {xs : List S40} (h : Kd.C k40 w A xs.length xs) (hb : Below w.heap.size w W) (i : Nat) (h1 : i < xs.length) : ∃ ad a c, A = some ad ∧ W.cell? (ad.add (i * 3)) = some (.slice a xs[i].f0.length c) ∧ W.cell? ⟨(ad.add (i * 3)).block, (ad.add (i * 3)).off + 1, none⟩ = some (.bool xs[i].f1) ∧ W.cell? ⟨(ad.add (i * 3)).block, (ad.add (i * 3)).off + 2, none⟩ = some (.bool xs[i].f2) ∧ xs[i].f0.length ≤ c ∧ Kd.C (Kd.int .u8) w a xs[i].f0.length xs[i].f0 := by
  obtain ⟨ad, a, c, e, h0, h1, h2, hc, hC⟩ := at_T40 h i h1
  exact ⟨ad, a, c, e, pw_cell_below hb h0, pw_cell_below hb h1, pw_cell_below hb h2, hc, hC⟩
theorem strOfNums_size (l : List Int) : (strOfNums l).size = l.length := by simp [strOfNums, ByteArray.size]
theorem catK_take_le (l : List S46) (k : Nat) : (catK (l.take k)).size ≤ (catK l).size := by
  have h : catK l = catK (l.take k) ++ catK (l.drop k) := by rw [← catK_append, List.take_append_drop]
  rw [h, ByteArray.size_append]
  omega
theorem catK_snoc (l : List S46) (k : Nat) (h : k < l.length) : catK (l.take (k + 1)) = catK (l.take k) ++ l[k].f0 := by
  rw [List.take_add_one, List.getElem?_eq_getElem h, Option.toList_some, catK_append]
  show _ ++ (l[k].f0 ++ ⟨#[]⟩) = _
  rw [add_nil]
theorem rd46_nat (xs : List S46) (i : Nat) (h : i < xs.length) : rd_T46 xs (i : Int) = xs[i] := by
  simp [rd_T46, List.getD, List.getElem?_eq_getElem h]
/-- Behind a piece: what came has been told, or waits. -/
structure LoseSt (w0 wr : World) (own : Nat → Prop) (g gm : Nat) (om : Nat → Prop) (gk : Nat) (F : Key) (c : Nat) (mt : Bool) (l : List S40) (k : Nat) (came told sk : ByteArray) : Prop where
  rd : RD wr own g gm F c mt sk
  km : KM wr om gk F c
  below : Below w0.heap.size w0 wr
  eq : came = told ++ sk
  size : came.size ≤ 2 * bytesUp l k
  short : sk.size < 64
/-- Behind Put, or Timeout: what was got. -/
structure GotSt (w0 wi : World) (B : Nat) (own : Nat → Prop) (g gm : Nat) (om : Nat → Prop) (gk : Nat) (F : Key) (c : Nat) (mt : Bool) (came told sk : ByteArray) (v : Value) (hg : List S46) : Prop where
  row : Kd.R k46 46 wi B (fun _ => True) v hg
  rd : RD wi own g gm F c mt sk
  km : KM wi om gk F c
  below : Below w0.heap.size w0 wi
  eq : came = told ++ (catK hg ++ sk)
  ok : ∀ h ∈ hg, HitOk F h
  short : sk.size < 64
  gB : g < B
  oB : ∀ k, own k → k < B
  kB : ∀ k, om k → k < B
  lo : w0.heap.size ≤ B
  ng : ¬ om g
theorem GotSt.put {w0 W w' : World} {own om : Nat → Prop} {g gm gk : Nat} {F : Key} {c : Nat} {mt : Bool} {l : List Int} {came told sk : ByteArray} {e : Ending} (hrd : RD W own g gm F c mt sk) (hkm : KM W om gk F c) (hb : Below w0.heap.size w0 W) (hg : w0.heap.size ≤ g) (hng : ¬ om g) (heq : came = told ++ sk) (hsh : sk.size < 64)
    (hp : HitsPost (fun s hs s' => Puts F s (putB mt l) hs s') W own g gm F c mt sk e w') :
    ∃ v hs s', e = .returned v ∧ GotSt w0 w' W.heap.size own g gm om gk F c mt (came ++ strOfNums (putB mt l)) told s' v hs ∧ hs.length + s'.size ≤ sk.size + 2 * l.length ∧ Fr (fun k => k = g) W w' := by
  obtain ⟨v, hs, s', rfl, hq, hv, hr, hf⟩ := hp
  have hG := hkm.good
  refine ⟨v, hs, s', rfl, ⟨hv, hr, hkm.fr hf (fun k hk e => hng (e ▸ hk)), hb.trans (hf.below (fun k e => e ▸ hg) hb.size), ?_, hq.ok hG, hq.short hG hsh, hrd.lt, hrd.km.olt, hkm.olt, hb.size, hng⟩, ?_, hf⟩
  · rw [heq, add_assoc', hq.cat]
  · have h1 := hq.len
    have h2 := putB_len mt l
    omega
theorem GotSt.time {w0 wi w6 w7 : World} {B : Nat} {own om : Nat → Prop} {g gm gk : Nat} {F : Key} {c : Nat} {mt : Bool} {came told s5 s6 : ByteArray} {v5 v7 : Value} {hs5 hs6 : List S46} (h : GotSt w0 wi B own g gm om gk F c mt came told s5 v5 hs5) (hg : w0.heap.size ≤ g)
    (hp : Times F s5 hs6 s6) (hr : RD w6 own g gm F c mt s6) (hf : Fr (fun k => k = g) wi w6) (hR : Kd.R k46 46 w7 B (fun _ => True) v7 (hs5 ++ hs6)) (hgr : w6.grownBy w7 v5.ownBlock) :
    GotSt w0 w7 B own g gm om gk F c mt came told ⟨#[]⟩ v7 (hs5 ++ hs6) := by
  have hG := h.km.good
  have h6 : s6 = ⟨#[]⟩ := bytes_inj (by
    have h1 := hp.len.2
    rw [← data_len] at h1
    exact List.length_eq_zero_iff.1 h1)
  subst h6
  have hN : ∀ k, some k = v5.ownBlock → B ≤ k := R46_base h.row
  have hf2 := grown_Fr hgr
  have hb6 : Below w0.heap.size w0 w6 := h.below.trans (hf.below (fun k e => e ▸ hg) h.below.size)
  refine ⟨hR, hr.fr hf2 (fun e => by have := hN _ e; have := h.gB; omega) (fun k hk e => by have := hN _ e; have := h.oB k hk; omega), (h.km.fr hf (fun k hk e => h.ng (e ▸ hk))).fr hf2 (fun k hk e => by have := hN _ e; have := h.kB k hk; omega),
    hb6.trans (hf2.below (fun k e => by have := hN _ e; have := h.lo; omega) hb6.size), ?_, ?_, by decide, h.gB, h.oB, h.kB, h.lo, h.ng⟩
  · rw [h.eq, catK_append, hp.cat, add_assoc']
  · intro x hx
    rcases List.mem_append.1 hx with hx | hx
    · exact h.ok x hx
    · exact hp.ok hG x hx
set_option maxRecDepth 100000 in
set_option maxHeartbeats 2000000 in
theorem walkLoses (A0 : Option Addr) (c0 : Nat) (l0 : List S84) (mt : Bool) (A2 : Option Addr) (c2 : Nat) (l2 : List S40) {w : World} (R0 : Kd.C k84 w A0 l0.length l0) (hn0 : l0.length ≤ 100000000) (hs0 : ∀ x ∈ l0, x.f0.size ≤ 100000000) (R2 : Kd.C k40 w A2 l2.length l2) (hn2 : piecesM l2 ≤ 100000000) :
    Calls Try.prog 4 #[.slice A0 l0.length c0, .bool mt, .slice A2 l2.length c2] w fun e w' => e = .returned (.bool true) ∧ Below w.heap.size w w' := by
  have HC0 := Aside0.mk R0
  have HC2 := Aside0.mk R2
  have HS0 := Aside0.mk (fun x hx => Nat.le_trans (hs0 x hx) (show 100000000 ≤ 1000000000000 by omega))
  have HPL := Aside0.mk hn2
  have hlen := Nat.le_trans (piecesM_len l2) hn2
  have hcn := mapF_le l0 l0.length
  rw [List.take_length] at hcn
  have HCN : Aside0 ((mapF l0).2 ≤ 1000000000) := ⟨by omega⟩
  clear hcn R0 R2 hs0 hn2
  go_enter Try.func4, Try.ntmps4
  go_wp2_with (first
    | (go_at_call 10; go_loud (refine (newReader_calls HK2.out HCN.out mt).mono ?_; rintro e w3 ⟨g1, m1, o1, rfl, hg1, hR1, ho1, hb3⟩; have ST0 : Aside0 (LoseSt w w3 o1 g1 m1 own g (mapF l0).1 (mapF l0).2 mt l2 0 ⟨#[]⟩ ⟨#[]⟩ ⟨#[]⟩) := ⟨⟨hR1, HK2.out.below hb3, below_step HB2.out hb3, (nil_add _).symm, Nat.zero_le _, by decide⟩⟩; have HG1 : Aside0 (w.heap.size ≤ g1) := ⟨Nat.le_trans HB2.out.size hg1⟩; have HNG : Aside0 (¬ own g1) := ⟨fun e => by have := HK2.out.olt _ e; omega⟩; clear hR1 ho1 hg1 hb3 HK2 HB2))
    | (go_at_call 9; go_loud (refine (begun_calls _).mono ?_; rintro e w2 ⟨rfl, hb2⟩; have HK2 := Aside0.mk (HST.out.km.below hb2); have HB2 := Aside0.mk (below_step HST.out.below hb2); clear HST hb2))
    | (go_at_call 8; go_loud (refine (mapped_calls HC0.out (by omega) HS0.out).mono ?_; rintro e w1 ⟨g, gr, own, v, rfl, hst⟩; have HST := Aside0.mk hst; clear hst)))
  obtain ⟨F, hF⟩ : ∃ F, F = (mapF l0).1 := ⟨_, rfl⟩
  obtain ⟨c, hc⟩ : ∃ c, c = (mapF l0).2 := ⟨_, rfl⟩
  rw [← hF, ← hc] at ST0
  clear hF hc HCN
  go_loopw [46, 11, 12] (fun i cm td wr => ∃ (k : Nat) (came told sk : ByteArray), k ≤ l2.length ∧ i = .int .i64 (k : Int) ∧ cm = .string came ∧ td = .string told ∧ Aside0 (LoseSt w wr o1 g1 m1 own g F c mt l2 k came told sk)) (fun i cm td wr => l2.length - (intOf i).toNat)
  case atStart => exact ⟨0, _, _, _, Nat.zero_le _, rfl, rfl, rfl, ST0⟩
  case round =>
    obtain ⟨k, came, told, sk, hk, rfl, rfl, rfl, HS⟩ := hrel
    by_cases hlt : k < l2.length
    · have hup := bytesUp_succ l2 k hlt
      have hul := bytesUp_le l2 (k + 1)
      obtain ⟨ad, a, cx, e7, hx0, hx1, hx2, hcx, hCx⟩ := at40_in HC2.out HS.out.below k hlt
      cases e7
      have HLT := Aside0.mk hlt
      generalize l2[k] = x at hx0 hx1 hx2 hcx hCx hup
      have hcs := HS.out.size
      have HCX := Aside0.mk hCx
      have hxl : x.f0.length ≤ 100000000 := by have := HPL.out; omega
      have hcl : came.size + 2 * x.f0.length ≤ 200000000 := by have := HPL.out; omega
      have HCSZ : Aside0 (came.size + 2 * x.f0.length ≤ 2 * bytesUp l2 (k + 1)) := ⟨by omega⟩
      have HCL := Aside0.mk hcl
      have HXL := Aside0.mk hxl
      clear hup hul hcs hCx
      obtain ⟨bs, tm, us⟩ := x
      dsimp only at hx0 hx1 hx2 hcx HCX HXL HCL HCSZ hcl hxl
      have hnw := Aside0.mk (blk_new wr (.cells #[.slice a bs.length cx, .bool tm, .bool us] 40))
      have hal := below_alloc (Below.refl wr.heap.size wr) (.cells #[.slice a bs.length cx, .bool tm, .bool us] 40)
      have e0 : (wr.alloc (.cells #[.slice a bs.length cx, .bool tm, .bool us] 40)).cell? ⟨wr.heap.size, 0, none⟩ = some (.slice a bs.length cx) := (blk_cell hnw.out 0).trans rfl
      have e1 : (wr.alloc (.cells #[.slice a bs.length cx, .bool tm, .bool us] 40)).cell? ⟨wr.heap.size, 1, none⟩ = some (.bool tm) := (blk_cell hnw.out 1).trans rfl
      have HBA := Aside0.mk (below_step HS.out.below hal)
      have HRA := Aside0.mk (HS.out.rd.below hal)
      have HKA := Aside0.mk (HS.out.km.below hal)
      have HSK : Aside0 (sk.size ≤ 300000000) := ⟨by have := HS.out.short; omega⟩
      have hcv : (convert 23 9 (.slice a bs.length cx)).run Try.prog (wr.alloc (.cells #[.slice a bs.length cx, .bool tm, .bool us] 40)) = .ok (.string (strOfNums bs)) (wr.alloc (.cells #[.slice a bs.length cx, .bool tm, .bool us] 40)) := Kd.C_string Try.underlying23 Try.underlying5 Try.underlying9 (Kd.C_below HCX.out HBA.out)
      have hsz : (strOfNums bs).size = bs.length := strOfNums_size bs
      have hb1 : came.size + bs.length ≤ 140737488355328 := by omega
      clear hal
      cases mt
      · skip
        have HPU := Aside0.mk (put_all (g := g1) HCX.out hcx HXL.out HBA.out HG1.out HRA.out HSK.out)
        have HGP := Aside0.mk (fun e w' hp => GotSt.put (l := bs) (w' := w') (e := e) HRA.out HKA.out HBA.out HG1.out HNG.out HS.out.eq HS.out.short hp)
        have HNW := hnw
        cases tm with
        | true =>
          go_upto_region 20 with (first
            | ((with_reducible refine gate_builtin (b := .append) (xs := #[.tmp 65, .tmp 67]) rfl ?_); at_builtin; go_loud (refine Kd.R_append_rows k46 (w0 := w6) (wr.alloc (.cells #[.slice a bs.length cx, .bool true, .bool us] 40)).heap.size rfl (.tmp 65) (.tmp 67) 33 46 (.agg #[.string ⟨#[]⟩, .int .i64 0, .string ⟨#[]⟩, .string ⟨#[]⟩]) 56 rfl Try.underlying33 info46 rfl (by decide) (by omega) v5 hs5 hs6 _ _ _ (fun _ => True) (fun _ => False) rfl rfl HV5.out (Kd.R_reads' HV6.out).2.2 (fun x cs h => M_of_K46 _ _ x cs h) (fun _ h => h.elim) (fun _ _ => trivial) (Below.refl _ _) HS6.out (by have := HN6.out; have := HN5.out; omega) ?_); intro v7 w7 hR7 hb7 hg7 hat7; have HGI := Aside0.mk (HG5.out.time HG1.out HP6.out HR6.out HF6.out hR7 hg7); have HNI : Aside0 ((hs5 ++ hs6).length ≤ 1800000000) := ⟨by rw [List.length_append]; have := HN6.out; have := HN5.out; omega⟩; have HRI := Aside0.mk HGI.out.rd; clear hR7 hb7 hg7 hat7)
            | (go_at_call 15; go_loud (refine (timeout_calls HG5.out.rd (by have := HN5.out; omega)).mono ?_; rintro e w6 ⟨v6, hs6, s6, rfl, hp6, hv6, hr6, hf6⟩; obtain ⟨A6, c6, rfl⟩ := Kd.R_slice hv6; have HP6 := Aside0.mk hp6; have HV6 := Aside0.mk hv6; have HR6 := Aside0.mk hr6; have HF6 := Aside0.mk hf6; have HV5 := Aside0.mk (R46_new HG5.out.row hf6 HG5.out.gB); have HS6 := Aside0.mk (Nat.le_trans HF5.out.size hf6.size); have HN6 : Aside0 (hs6.length ≤ 900000000) := ⟨by have := hp6.len.1; have := HN5.out; omega⟩; clear hp6 hv6 hr6 hf6))
            | (go_at_call 13; go_loud (refine (waiting_calls HRI.out).mono ?_; rintro e w' ⟨rfl, rfl⟩))
            | (go_at_call 11; go_loud (refine HPU.out.mono ?_; intro e w5 hp5; obtain ⟨v5, hs5, s5, rfl, hg5, hn5, hf5⟩ := HGP.out _ _ hp5; have hlt5 := Nat.lt_of_lt_of_le HS.out.rd.lt (Nat.le_refl _); have HG5 := Aside0.mk hg5; have HF5 := Aside0.mk hf5; have HN5 : Aside0 (hs5.length + s5.size ≤ 900000000) := ⟨by have := HSK.out; have := HXL.out; omega⟩; have e51 : w5.cell? ⟨wr.heap.size, 1, none⟩ = some (.bool true) := (blk_cell (hf5.blk HNW.out (fun e => by have := HS.out.rd.lt; omega)) 1).trans rfl; clear hp5 hg5 hn5 hf5)))
          generalize hs5 ++ hs6 = hgi at HGI HNI
          obtain ⟨A7, c7, rfl⟩ := Kd.R_slice HGI.out.row
          have HIC := Aside0.mk (Kd.R_reads' HGI.out.row).2.2
          have hni := HNI.out
          have HTS : Aside0 (told.size + (catK hgi).size ≤ 300000000) := ⟨by have h1 := congrArg ByteArray.size HGI.out.eq; simp only [ByteArray.size_append] at h1; rw [strOfNums_size] at h1; have h2 := putB_len false bs; have := HCL.out; omega⟩
          go_wp2
          obtain ⟨wo, rfl⟩ : ∃ wo : World, wo = wr := ⟨_, rfl⟩
          go_loopw [74, 12] (fun i td wj => ∃ j : Nat, j ≤ hgi.length ∧ i = .int .i64 (j : Int) ∧ td = .string (told ++ catK (hgi.take j)) ∧ Aside0 (Below w7.heap.size w7 wj)) (fun i td wj => hgi.length - (intOf i).toNat)
          case atStart => exact ⟨0, Nat.zero_le _, rfl, by rw [List.take_zero]; exact congrArg _ (add_nil told).symm, ⟨Below.refl _ _⟩⟩
          case round =>
            obtain ⟨j, hj, rfl, rfl, HJ⟩ := hrel
            by_cases hjl : j < hgi.length
            · obtain ⟨ah, e8, hy0, hy1, hy2, hy3⟩ := at_T46 (Kd.C_below HIC.out HJ.out) (j : Int) (by omega) (by omega)
              cases e8
              rw [rd46_nat _ _ hjl, Int.toNat_natCast] at hy0 hy1 hy2 hy3
              have HOK := Aside0.mk (HGI.out.ok hgi[j] (List.getElem_mem hjl))
              have hsn := catK_snoc hgi j hjl
              have hts := catK_take_le hgi (j + 1)
              rw [hsn, ByteArray.size_append] at hts
              have HSN := Aside0.mk hsn
              have HJL := Aside0.mk hjl
              clear hsn
              generalize hgi[j] = h at hy0 hy1 hy2 hy3 HOK hts HSN
              have hsz2 : (told ++ catK (hgi.take j)).size + h.f0.size ≤ 140737488355328 := by rw [ByteArray.size_append]; have := HTS.out; omega
              have hks : h.f0.size ≤ 1000000000000 := by have := HTS.out; omega
              clear hts
              have hem := em_false HOK.out.1
              have HKJ := Aside0.mk (HGI.out.km.below HJ.out)
              have HGO := Aside0.mk HGI.out.km.good
              have HLK := Aside0.mk (fun (W : World) (hb : Below wr.heap.size wr W) => lookup_calls (HKJ.out.below hb) h.f0 hks)
              have hB0 := blk_new wr (.cells #[.string h.f0, .int .i64 h.f1.f0, .string h.f1.f1, .string h.f1.f2] 46)
              have hBA := below_alloc (Below.refl wr.heap.size wr) (.cells #[.string h.f0, .int .i64 h.f1.f0, .string h.f1.f1, .string h.f1.f2] 46)
              have b0 : (wr.alloc (.cells #[.string h.f0, .int .i64 h.f1.f0, .string h.f1.f1, .string h.f1.f2] 46)).cell? ⟨wr.heap.size, 0, none⟩ = some (.string h.f0) := (blk_cell hB0 0).trans rfl
              have HB0 := Aside0.mk hB0
              have HBA46 := Aside0.mk hBA
              clear hB0 hBA hks
              rcases HOK.out.2 with ⟨x, hFx, hf1⟩ | ⟨hFx, hf1⟩
              · obtain ⟨hk0, hkb⟩ := h
                dsimp only at hf1 hFx hy0 hy1 hy2 hy3 b0 hem hsz2 HLK HB0 HBA46 HSN
                subst hf1
                dsimp only at hy0 hy1 hy2 hy3 b0 HB0 HBA46
                rw [hFx] at HLK
                have hkn : (x.kind != 0) = true := by simpa using HGO.out.kind _ _ hFx
                have hkn' : (x.kind == 0) = false := by simpa using HGO.out.kind _ _ hFx
                simp only [Option.getD_some, Option.getD_none, Bd.v, Bd.no] at HLK
                have HLL := Aside0.mk (fun (v1 : World) (hb : Below wr.heap.size wr v1) (hq : v1.heap[wr.heap.size]? = some (.cells #[.string hk0, .int .i64 x.kind, .string x.name, .string x.keys] 46 (0, 0))) => (⟨(blk_cell (blk_alloc hq (.cells #[.int .i64 x.kind, .string x.name, .string x.keys] 44)) 0).trans rfl, (blk_cell (blk_alloc hq (.cells #[.int .i64 x.kind, .string x.name, .string x.keys] 44)) 1).trans rfl, (blk_cell (blk_alloc hq (.cells #[.int .i64 x.kind, .string x.name, .string x.keys] 44)) 2).trans rfl, (blk_cell (blk_alloc hq (.cells #[.int .i64 x.kind, .string x.name, .string x.keys] 44)) 3).trans rfl, (blk_cell (blk_new v1 (.cells #[.int .i64 x.kind, .string x.name, .string x.keys] 44)) 0).trans rfl, (blk_cell (blk_new v1 (.cells #[.int .i64 x.kind, .string x.name, .string x.keys] 44)) 1).trans rfl, (blk_cell (blk_new v1 (.cells #[.int .i64 x.kind, .string x.name, .string x.keys] 44)) 2).trans rfl⟩ : (v1.alloc (.cells #[.int .i64 x.kind, .string x.name, .string x.keys] 44)).cell? ⟨wr.heap.size, 0, none⟩ = some (.string hk0) ∧ (v1.alloc (.cells #[.int .i64 x.kind, .string x.name, .string x.keys] 44)).cell? ⟨wr.heap.size, 1, none⟩ = some (.int .i64 x.kind) ∧ (v1.alloc (.cells #[.int .i64 x.kind, .string x.name, .string x.keys] 44)).cell? ⟨wr.heap.size, 2, none⟩ = some (.string x.name) ∧ (v1.alloc (.cells #[.int .i64 x.kind, .string x.name, .string x.keys] 44)).cell? ⟨wr.heap.size, 3, none⟩ = some (.string x.keys) ∧ (v1.alloc (.cells #[.int .i64 x.kind, .string x.name, .string x.keys] 44)).cell? ⟨v1.heap.size, 0, none⟩ = some (.int .i64 x.kind) ∧ (v1.alloc (.cells #[.int .i64 x.kind, .string x.name, .string x.keys] 44)).cell? ⟨v1.heap.size, 1, none⟩ = some (.string x.name) ∧ (v1.alloc (.cells #[.int .i64 x.kind, .string x.name, .string x.keys] 44)).cell? ⟨v1.heap.size, 2, none⟩ = some (.string x.keys)))
                rcases kind_cases F hk0.data.toList with hkk | hkk | hkk | hkk
                · exact absurd (kind_zero hkk).1 (by rw [hFx]; simp)
                · exact absurd (kind_one hkk).1 (by rw [hFx]; simp)
                · rw [hkk] at HLK
                  clear hkk
                  go_wp2_with (go_at_call 16; go_loud (refine (HLK.out _ HBA46.out).mono ?_; rintro e v1 ⟨rfl, hbv⟩; have hq := blk_below HB0.out hbv; have HBV := Aside0.mk (below_step HBA46.out hbv); obtain ⟨l0_, l1_, l2_, l3_, l4_, l5_, l6_⟩ := HLL.out v1 HBV.out hq; have HQ := Aside0.mk hq; clear hq hbv))
                  go_roundw
                  case rel => first | exact ⟨j + 1, HJL.out, by simp, by rw [HSN.out, add_assoc'], ⟨below_alloc (below_step HJ.out HBV.out) _⟩⟩ | ((repeat apply Exists.intro); exact ⟨⟨j + 1, HJL.out, by simp, by rw [HSN.out, add_assoc'], ⟨below_alloc (below_step HJ.out HBV.out) _⟩⟩, rfl⟩)
                  case measure => simp [intOf]; omega
                · rw [hkk] at HLK
                  clear hkk
                  go_wp2_with (go_at_call 16; go_loud (refine (HLK.out _ HBA46.out).mono ?_; rintro e v1 ⟨rfl, hbv⟩; have hq := blk_below HB0.out hbv; have HBV := Aside0.mk (below_step HBA46.out hbv); obtain ⟨l0_, l1_, l2_, l3_, l4_, l5_, l6_⟩ := HLL.out v1 HBV.out hq; have HQ := Aside0.mk hq; clear hq hbv))
                  go_roundw
                  case rel => first | exact ⟨j + 1, HJL.out, by simp, by rw [HSN.out, add_assoc'], ⟨below_alloc (below_step HJ.out HBV.out) _⟩⟩ | ((repeat apply Exists.intro); exact ⟨⟨j + 1, HJL.out, by simp, by rw [HSN.out, add_assoc'], ⟨below_alloc (below_step HJ.out HBV.out) _⟩⟩, rfl⟩)
                  case measure => simp [intOf]; omega
              · obtain ⟨hk0, hkb⟩ := h
                dsimp only at hf1 hFx hy0 hy1 hy2 hy3 b0 hem hsz2 HLK HB0 HBA46 HSN
                subst hf1
                dsimp only at hy0 hy1 hy2 hy3 b0 HB0 HBA46
                rw [hFx] at HLK
                simp only [Option.getD_some, Option.getD_none, Bd.v, Bd.no] at HLK
                have HLL := Aside0.mk (fun (v1 : World) (hb : Below wr.heap.size wr v1) (hq : v1.heap[wr.heap.size]? = some (.cells #[.string hk0, .int .i64 0, .string ⟨#[]⟩, .string ⟨#[]⟩] 46 (0, 0))) => (⟨(blk_cell (blk_alloc hq (.cells #[.int .i64 0, .string ⟨#[]⟩, .string ⟨#[]⟩] 44)) 0).trans rfl, (blk_cell (blk_alloc hq (.cells #[.int .i64 0, .string ⟨#[]⟩, .string ⟨#[]⟩] 44)) 1).trans rfl, (blk_cell (blk_alloc hq (.cells #[.int .i64 0, .string ⟨#[]⟩, .string ⟨#[]⟩] 44)) 2).trans rfl, (blk_cell (blk_alloc hq (.cells #[.int .i64 0, .string ⟨#[]⟩, .string ⟨#[]⟩] 44)) 3).trans rfl, (blk_cell (blk_new v1 (.cells #[.int .i64 0, .string ⟨#[]⟩, .string ⟨#[]⟩] 44)) 0).trans rfl, (blk_cell (blk_new v1 (.cells #[.int .i64 0, .string ⟨#[]⟩, .string ⟨#[]⟩] 44)) 1).trans rfl, (blk_cell (blk_new v1 (.cells #[.int .i64 0, .string ⟨#[]⟩, .string ⟨#[]⟩] 44)) 2).trans rfl⟩ : (v1.alloc (.cells #[.int .i64 0, .string ⟨#[]⟩, .string ⟨#[]⟩] 44)).cell? ⟨wr.heap.size, 0, none⟩ = some (.string hk0) ∧ (v1.alloc (.cells #[.int .i64 0, .string ⟨#[]⟩, .string ⟨#[]⟩] 44)).cell? ⟨wr.heap.size, 1, none⟩ = some (.int .i64 0) ∧ (v1.alloc (.cells #[.int .i64 0, .string ⟨#[]⟩, .string ⟨#[]⟩] 44)).cell? ⟨wr.heap.size, 2, none⟩ = some (.string ⟨#[]⟩) ∧ (v1.alloc (.cells #[.int .i64 0, .string ⟨#[]⟩, .string ⟨#[]⟩] 44)).cell? ⟨wr.heap.size, 3, none⟩ = some (.string ⟨#[]⟩) ∧ (v1.alloc (.cells #[.int .i64 0, .string ⟨#[]⟩, .string ⟨#[]⟩] 44)).cell? ⟨v1.heap.size, 0, none⟩ = some (.int .i64 0) ∧ (v1.alloc (.cells #[.int .i64 0, .string ⟨#[]⟩, .string ⟨#[]⟩] 44)).cell? ⟨v1.heap.size, 1, none⟩ = some (.string ⟨#[]⟩) ∧ (v1.alloc (.cells #[.int .i64 0, .string ⟨#[]⟩, .string ⟨#[]⟩] 44)).cell? ⟨v1.heap.size, 2, none⟩ = some (.string ⟨#[]⟩)))
                rcases kind_cases F hk0.data.toList with hkk | hkk | hkk | hkk
                · rw [hkk] at HLK
                  clear hkk
                  go_wp2_with (go_at_call 16; go_loud (refine (HLK.out _ HBA46.out).mono ?_; rintro e v1 ⟨rfl, hbv⟩; have hq := blk_below HB0.out hbv; have HBV := Aside0.mk (below_step HBA46.out hbv); obtain ⟨l0_, l1_, l2_, l3_, l4_, l5_, l6_⟩ := HLL.out v1 HBV.out hq; have HQ := Aside0.mk hq; clear hq hbv))
                  go_roundw
                  case rel => first | exact ⟨j + 1, HJL.out, by simp, by rw [HSN.out, add_assoc'], ⟨below_alloc (below_step HJ.out HBV.out) _⟩⟩ | ((repeat apply Exists.intro); exact ⟨⟨j + 1, HJL.out, by simp, by rw [HSN.out, add_assoc'], ⟨below_alloc (below_step HJ.out HBV.out) _⟩⟩, rfl⟩)
                  case measure => simp [intOf]; omega
                · rw [hkk] at HLK
                  clear hkk
                  go_wp2_with (go_at_call 16; go_loud (refine (HLK.out _ HBA46.out).mono ?_; rintro e v1 ⟨rfl, hbv⟩; have hq := blk_below HB0.out hbv; have HBV := Aside0.mk (below_step HBA46.out hbv); obtain ⟨l0_, l1_, l2_, l3_, l4_, l5_, l6_⟩ := HLL.out v1 HBV.out hq; have HQ := Aside0.mk hq; clear hq hbv))
                  go_roundw
                  case rel => first | exact ⟨j + 1, HJL.out, by simp, by rw [HSN.out, add_assoc'], ⟨below_alloc (below_step HJ.out HBV.out) _⟩⟩ | ((repeat apply Exists.intro); exact ⟨⟨j + 1, HJL.out, by simp, by rw [HSN.out, add_assoc'], ⟨below_alloc (below_step HJ.out HBV.out) _⟩⟩, rfl⟩)
                  case measure => simp [intOf]; omega
                · exact absurd (kind_two hkk).1 (by rw [hFx]; simp)
                · exact absurd (kind_three hkk).1 (by rw [hFx]; simp)
            · obtain rfl : j = hgi.length := by omega
              rw [List.take_length]
              have heq : came ++ strOfNums bs = told ++ catK hgi ++ (ByteArray.mk #[]) := by rw [add_assoc']; exact HGI.out.eq
              have hcz : (told ++ catK hgi ++ (ByteArray.mk #[])).size ≤ 2 * bytesUp l2 (k + 1) := by rw [← heq, ByteArray.size_append, strOfNums_size]; have h2 := putB_len false bs; have h3 := HCSZ.out; (first | (have h4 : (metaL bs).length ≤ 2 * bs.length := h2; omega) | omega)
              have hsz3 : (told ++ catK hgi).size + ((ByteArray.mk #[])).size ≤ 140737488355328 := by rw [ByteArray.size_append] at hcz; have h5 := bytesUp_le l2 (k + 1); have := HPL.out; omega
              rw [heq]
              have HCZ := Aside0.mk hcz
              have HRJ := Aside0.mk (HGI.out.rd.below HJ.out)
              have HKJ := Aside0.mk (HGI.out.km.below HJ.out)
              have HBJ := Aside0.mk (below_step HGI.out.below HJ.out)
              have hsh : ¬ (64 : Int) ≤ (((ByteArray.mk #[])).size : Int) := by have := HGI.out.short; omega
              clear hcz heq hjl
              generalize told ++ catK hgi = td at hsz3 HCZ ⊢
              go_wp2_with (go_at_call 13; go_loud (refine (waiting_calls HRJ.out).mono ?_; rintro e w' ⟨rfl, rfl⟩))
              go_roundw
              case rel => first | exact ⟨k + 1, _, td, (ByteArray.mk #[]), HLT.out, by simp, rfl, rfl, ⟨⟨HRJ.out, HKJ.out, HBJ.out, rfl, HCZ.out, HGI.out.short⟩⟩⟩ | ((repeat apply Exists.intro); exact ⟨⟨k + 1, _, td, (ByteArray.mk #[]), HLT.out, by simp, rfl, rfl, ⟨⟨HRJ.out, HKJ.out, HBJ.out, rfl, HCZ.out, HGI.out.short⟩⟩⟩, rfl⟩) | (trace_state; sorry)
              case measure => simp [intOf]; have := HLT.out; omega
        | false =>
          go_upto_region 20 with (first
            | (go_at_call 11; go_loud (refine HPU.out.mono ?_; intro e w5 hp5; obtain ⟨v5, hs5, s5, rfl, hg5, hn5, hf5⟩ := HGP.out _ _ hp5; have hlt5 := Nat.lt_of_lt_of_le HS.out.rd.lt (Nat.le_refl _); have HG5 := Aside0.mk hg5; have HF5 := Aside0.mk hf5; have HN5 : Aside0 (hs5.length + s5.size ≤ 900000000) := ⟨by have := HSK.out; have := HXL.out; omega⟩; have e51 : w5.cell? ⟨wr.heap.size, 1, none⟩ = some (.bool false) := (blk_cell (hf5.blk HNW.out (fun e => by have := HS.out.rd.lt; omega)) 1).trans rfl; clear hp5 hg5 hn5 hf5)))
          have HGI := HG5
          have HNI : Aside0 (hs5.length ≤ 1800000000) := ⟨by have := HN5.out; omega⟩
          clear HG5
          generalize hs5 = hgi at HGI HNI
          obtain ⟨A7, c7, rfl⟩ := Kd.R_slice HGI.out.row
          have HIC := Aside0.mk (Kd.R_reads' HGI.out.row).2.2
          have hni := HNI.out
          have HTS : Aside0 (told.size + (catK hgi).size ≤ 300000000) := ⟨by have h1 := congrArg ByteArray.size HGI.out.eq; simp only [ByteArray.size_append] at h1; rw [strOfNums_size] at h1; have h2 := putB_len false bs; have := HCL.out; omega⟩
          go_wp2
          obtain ⟨wo, rfl⟩ : ∃ wo : World, wo = wr := ⟨_, rfl⟩
          go_loopw [74, 12] (fun i td wj => ∃ j : Nat, j ≤ hgi.length ∧ i = .int .i64 (j : Int) ∧ td = .string (told ++ catK (hgi.take j)) ∧ Aside0 (Below w5.heap.size w5 wj)) (fun i td wj => hgi.length - (intOf i).toNat)
          case atStart => exact ⟨0, Nat.zero_le _, rfl, by rw [List.take_zero]; exact congrArg _ (add_nil told).symm, ⟨Below.refl _ _⟩⟩
          case round =>
            obtain ⟨j, hj, rfl, rfl, HJ⟩ := hrel
            by_cases hjl : j < hgi.length
            · obtain ⟨ah, e8, hy0, hy1, hy2, hy3⟩ := at_T46 (Kd.C_below HIC.out HJ.out) (j : Int) (by omega) (by omega)
              cases e8
              rw [rd46_nat _ _ hjl, Int.toNat_natCast] at hy0 hy1 hy2 hy3
              have HOK := Aside0.mk (HGI.out.ok hgi[j] (List.getElem_mem hjl))
              have hsn := catK_snoc hgi j hjl
              have hts := catK_take_le hgi (j + 1)
              rw [hsn, ByteArray.size_append] at hts
              have HSN := Aside0.mk hsn
              have HJL := Aside0.mk hjl
              clear hsn
              generalize hgi[j] = h at hy0 hy1 hy2 hy3 HOK hts HSN
              have hsz2 : (told ++ catK (hgi.take j)).size + h.f0.size ≤ 140737488355328 := by rw [ByteArray.size_append]; have := HTS.out; omega
              have hks : h.f0.size ≤ 1000000000000 := by have := HTS.out; omega
              clear hts
              have hem := em_false HOK.out.1
              have HKJ := Aside0.mk (HGI.out.km.below HJ.out)
              have HGO := Aside0.mk HGI.out.km.good
              have HLK := Aside0.mk (fun (W : World) (hb : Below wr.heap.size wr W) => lookup_calls (HKJ.out.below hb) h.f0 hks)
              have hB0 := blk_new wr (.cells #[.string h.f0, .int .i64 h.f1.f0, .string h.f1.f1, .string h.f1.f2] 46)
              have hBA := below_alloc (Below.refl wr.heap.size wr) (.cells #[.string h.f0, .int .i64 h.f1.f0, .string h.f1.f1, .string h.f1.f2] 46)
              have b0 : (wr.alloc (.cells #[.string h.f0, .int .i64 h.f1.f0, .string h.f1.f1, .string h.f1.f2] 46)).cell? ⟨wr.heap.size, 0, none⟩ = some (.string h.f0) := (blk_cell hB0 0).trans rfl
              have HB0 := Aside0.mk hB0
              have HBA46 := Aside0.mk hBA
              clear hB0 hBA hks
              rcases HOK.out.2 with ⟨x, hFx, hf1⟩ | ⟨hFx, hf1⟩
              · obtain ⟨hk0, hkb⟩ := h
                dsimp only at hf1 hFx hy0 hy1 hy2 hy3 b0 hem hsz2 HLK HB0 HBA46 HSN
                subst hf1
                dsimp only at hy0 hy1 hy2 hy3 b0 HB0 HBA46
                rw [hFx] at HLK
                have hkn : (x.kind != 0) = true := by simpa using HGO.out.kind _ _ hFx
                have hkn' : (x.kind == 0) = false := by simpa using HGO.out.kind _ _ hFx
                simp only [Option.getD_some, Option.getD_none, Bd.v, Bd.no] at HLK
                have HLL := Aside0.mk (fun (v1 : World) (hb : Below wr.heap.size wr v1) (hq : v1.heap[wr.heap.size]? = some (.cells #[.string hk0, .int .i64 x.kind, .string x.name, .string x.keys] 46 (0, 0))) => (⟨(blk_cell (blk_alloc hq (.cells #[.int .i64 x.kind, .string x.name, .string x.keys] 44)) 0).trans rfl, (blk_cell (blk_alloc hq (.cells #[.int .i64 x.kind, .string x.name, .string x.keys] 44)) 1).trans rfl, (blk_cell (blk_alloc hq (.cells #[.int .i64 x.kind, .string x.name, .string x.keys] 44)) 2).trans rfl, (blk_cell (blk_alloc hq (.cells #[.int .i64 x.kind, .string x.name, .string x.keys] 44)) 3).trans rfl, (blk_cell (blk_new v1 (.cells #[.int .i64 x.kind, .string x.name, .string x.keys] 44)) 0).trans rfl, (blk_cell (blk_new v1 (.cells #[.int .i64 x.kind, .string x.name, .string x.keys] 44)) 1).trans rfl, (blk_cell (blk_new v1 (.cells #[.int .i64 x.kind, .string x.name, .string x.keys] 44)) 2).trans rfl⟩ : (v1.alloc (.cells #[.int .i64 x.kind, .string x.name, .string x.keys] 44)).cell? ⟨wr.heap.size, 0, none⟩ = some (.string hk0) ∧ (v1.alloc (.cells #[.int .i64 x.kind, .string x.name, .string x.keys] 44)).cell? ⟨wr.heap.size, 1, none⟩ = some (.int .i64 x.kind) ∧ (v1.alloc (.cells #[.int .i64 x.kind, .string x.name, .string x.keys] 44)).cell? ⟨wr.heap.size, 2, none⟩ = some (.string x.name) ∧ (v1.alloc (.cells #[.int .i64 x.kind, .string x.name, .string x.keys] 44)).cell? ⟨wr.heap.size, 3, none⟩ = some (.string x.keys) ∧ (v1.alloc (.cells #[.int .i64 x.kind, .string x.name, .string x.keys] 44)).cell? ⟨v1.heap.size, 0, none⟩ = some (.int .i64 x.kind) ∧ (v1.alloc (.cells #[.int .i64 x.kind, .string x.name, .string x.keys] 44)).cell? ⟨v1.heap.size, 1, none⟩ = some (.string x.name) ∧ (v1.alloc (.cells #[.int .i64 x.kind, .string x.name, .string x.keys] 44)).cell? ⟨v1.heap.size, 2, none⟩ = some (.string x.keys)))
                rcases kind_cases F hk0.data.toList with hkk | hkk | hkk | hkk
                · exact absurd (kind_zero hkk).1 (by rw [hFx]; simp)
                · exact absurd (kind_one hkk).1 (by rw [hFx]; simp)
                · rw [hkk] at HLK
                  clear hkk
                  go_wp2_with (go_at_call 16; go_loud (refine (HLK.out _ HBA46.out).mono ?_; rintro e v1 ⟨rfl, hbv⟩; have hq := blk_below HB0.out hbv; have HBV := Aside0.mk (below_step HBA46.out hbv); obtain ⟨l0_, l1_, l2_, l3_, l4_, l5_, l6_⟩ := HLL.out v1 HBV.out hq; have HQ := Aside0.mk hq; clear hq hbv))
                  go_roundw
                  case rel => first | exact ⟨j + 1, HJL.out, by simp, by rw [HSN.out, add_assoc'], ⟨below_alloc (below_step HJ.out HBV.out) _⟩⟩ | ((repeat apply Exists.intro); exact ⟨⟨j + 1, HJL.out, by simp, by rw [HSN.out, add_assoc'], ⟨below_alloc (below_step HJ.out HBV.out) _⟩⟩, rfl⟩)
                  case measure => simp [intOf]; omega
                · rw [hkk] at HLK
                  clear hkk
                  go_wp2_with (go_at_call 16; go_loud (refine (HLK.out _ HBA46.out).mono ?_; rintro e v1 ⟨rfl, hbv⟩; have hq := blk_below HB0.out hbv; have HBV := Aside0.mk (below_step HBA46.out hbv); obtain ⟨l0_, l1_, l2_, l3_, l4_, l5_, l6_⟩ := HLL.out v1 HBV.out hq; have HQ := Aside0.mk hq; clear hq hbv))
                  go_roundw
                  case rel => first | exact ⟨j + 1, HJL.out, by simp, by rw [HSN.out, add_assoc'], ⟨below_alloc (below_step HJ.out HBV.out) _⟩⟩ | ((repeat apply Exists.intro); exact ⟨⟨j + 1, HJL.out, by simp, by rw [HSN.out, add_assoc'], ⟨below_alloc (below_step HJ.out HBV.out) _⟩⟩, rfl⟩)
                  case measure => simp [intOf]; omega
              · obtain ⟨hk0, hkb⟩ := h
                dsimp only at hf1 hFx hy0 hy1 hy2 hy3 b0 hem hsz2 HLK HB0 HBA46 HSN
                subst hf1
                dsimp only at hy0 hy1 hy2 hy3 b0 HB0 HBA46
                rw [hFx] at HLK
                simp only [Option.getD_some, Option.getD_none, Bd.v, Bd.no] at HLK
                have HLL := Aside0.mk (fun (v1 : World) (hb : Below wr.heap.size wr v1) (hq : v1.heap[wr.heap.size]? = some (.cells #[.string hk0, .int .i64 0, .string ⟨#[]⟩, .string ⟨#[]⟩] 46 (0, 0))) => (⟨(blk_cell (blk_alloc hq (.cells #[.int .i64 0, .string ⟨#[]⟩, .string ⟨#[]⟩] 44)) 0).trans rfl, (blk_cell (blk_alloc hq (.cells #[.int .i64 0, .string ⟨#[]⟩, .string ⟨#[]⟩] 44)) 1).trans rfl, (blk_cell (blk_alloc hq (.cells #[.int .i64 0, .string ⟨#[]⟩, .string ⟨#[]⟩] 44)) 2).trans rfl, (blk_cell (blk_alloc hq (.cells #[.int .i64 0, .string ⟨#[]⟩, .string ⟨#[]⟩] 44)) 3).trans rfl, (blk_cell (blk_new v1 (.cells #[.int .i64 0, .string ⟨#[]⟩, .string ⟨#[]⟩] 44)) 0).trans rfl, (blk_cell (blk_new v1 (.cells #[.int .i64 0, .string ⟨#[]⟩, .string ⟨#[]⟩] 44)) 1).trans rfl, (blk_cell (blk_new v1 (.cells #[.int .i64 0, .string ⟨#[]⟩, .string ⟨#[]⟩] 44)) 2).trans rfl⟩ : (v1.alloc (.cells #[.int .i64 0, .string ⟨#[]⟩, .string ⟨#[]⟩] 44)).cell? ⟨wr.heap.size, 0, none⟩ = some (.string hk0) ∧ (v1.alloc (.cells #[.int .i64 0, .string ⟨#[]⟩, .string ⟨#[]⟩] 44)).cell? ⟨wr.heap.size, 1, none⟩ = some (.int .i64 0) ∧ (v1.alloc (.cells #[.int .i64 0, .string ⟨#[]⟩, .string ⟨#[]⟩] 44)).cell? ⟨wr.heap.size, 2, none⟩ = some (.string ⟨#[]⟩) ∧ (v1.alloc (.cells #[.int .i64 0, .string ⟨#[]⟩, .string ⟨#[]⟩] 44)).cell? ⟨wr.heap.size, 3, none⟩ = some (.string ⟨#[]⟩) ∧ (v1.alloc (.cells #[.int .i64 0, .string ⟨#[]⟩, .string ⟨#[]⟩] 44)).cell? ⟨v1.heap.size, 0, none⟩ = some (.int .i64 0) ∧ (v1.alloc (.cells #[.int .i64 0, .string ⟨#[]⟩, .string ⟨#[]⟩] 44)).cell? ⟨v1.heap.size, 1, none⟩ = some (.string ⟨#[]⟩) ∧ (v1.alloc (.cells #[.int .i64 0, .string ⟨#[]⟩, .string ⟨#[]⟩] 44)).cell? ⟨v1.heap.size, 2, none⟩ = some (.string ⟨#[]⟩)))
                rcases kind_cases F hk0.data.toList with hkk | hkk | hkk | hkk
                · rw [hkk] at HLK
                  clear hkk
                  go_wp2_with (go_at_call 16; go_loud (refine (HLK.out _ HBA46.out).mono ?_; rintro e v1 ⟨rfl, hbv⟩; have hq := blk_below HB0.out hbv; have HBV := Aside0.mk (below_step HBA46.out hbv); obtain ⟨l0_, l1_, l2_, l3_, l4_, l5_, l6_⟩ := HLL.out v1 HBV.out hq; have HQ := Aside0.mk hq; clear hq hbv))
                  go_roundw
                  case rel => first | exact ⟨j + 1, HJL.out, by simp, by rw [HSN.out, add_assoc'], ⟨below_alloc (below_step HJ.out HBV.out) _⟩⟩ | ((repeat apply Exists.intro); exact ⟨⟨j + 1, HJL.out, by simp, by rw [HSN.out, add_assoc'], ⟨below_alloc (below_step HJ.out HBV.out) _⟩⟩, rfl⟩)
                  case measure => simp [intOf]; omega
                · rw [hkk] at HLK
                  clear hkk
                  go_wp2_with (go_at_call 16; go_loud (refine (HLK.out _ HBA46.out).mono ?_; rintro e v1 ⟨rfl, hbv⟩; have hq := blk_below HB0.out hbv; have HBV := Aside0.mk (below_step HBA46.out hbv); obtain ⟨l0_, l1_, l2_, l3_, l4_, l5_, l6_⟩ := HLL.out v1 HBV.out hq; have HQ := Aside0.mk hq; clear hq hbv))
                  go_roundw
                  case rel => first | exact ⟨j + 1, HJL.out, by simp, by rw [HSN.out, add_assoc'], ⟨below_alloc (below_step HJ.out HBV.out) _⟩⟩ | ((repeat apply Exists.intro); exact ⟨⟨j + 1, HJL.out, by simp, by rw [HSN.out, add_assoc'], ⟨below_alloc (below_step HJ.out HBV.out) _⟩⟩, rfl⟩)
                  case measure => simp [intOf]; omega
                · exact absurd (kind_two hkk).1 (by rw [hFx]; simp)
                · exact absurd (kind_three hkk).1 (by rw [hFx]; simp)
            · obtain rfl : j = hgi.length := by omega
              rw [List.take_length]
              have heq : came ++ strOfNums bs = told ++ catK hgi ++ s5 := by rw [add_assoc']; exact HGI.out.eq
              have hcz : (told ++ catK hgi ++ s5).size ≤ 2 * bytesUp l2 (k + 1) := by rw [← heq, ByteArray.size_append, strOfNums_size]; have h2 := putB_len false bs; have h3 := HCSZ.out; (first | (have h4 : (metaL bs).length ≤ 2 * bs.length := h2; omega) | omega)
              have hsz3 : (told ++ catK hgi).size + (s5).size ≤ 140737488355328 := by rw [ByteArray.size_append] at hcz; have h5 := bytesUp_le l2 (k + 1); have := HPL.out; omega
              rw [heq]
              have HCZ := Aside0.mk hcz
              have HRJ := Aside0.mk (HGI.out.rd.below HJ.out)
              have HKJ := Aside0.mk (HGI.out.km.below HJ.out)
              have HBJ := Aside0.mk (below_step HGI.out.below HJ.out)
              have hsh : ¬ (64 : Int) ≤ ((s5).size : Int) := by have := HGI.out.short; omega
              clear hcz heq hjl
              generalize told ++ catK hgi = td at hsz3 HCZ ⊢
              go_wp2_with (go_at_call 13; go_loud (refine (waiting_calls HRJ.out).mono ?_; rintro e w' ⟨rfl, rfl⟩))
              go_roundw
              case rel => first | exact ⟨k + 1, _, td, s5, HLT.out, by simp, rfl, rfl, ⟨⟨HRJ.out, HKJ.out, HBJ.out, rfl, HCZ.out, HGI.out.short⟩⟩⟩ | ((repeat apply Exists.intro); exact ⟨⟨k + 1, _, td, s5, HLT.out, by simp, rfl, rfl, ⟨⟨HRJ.out, HKJ.out, HBJ.out, rfl, HCZ.out, HGI.out.short⟩⟩⟩, rfl⟩) | (trace_state; sorry)
              case measure => simp [intOf]; have := HLT.out; omega
      · skip
        have hmsz : (strOfNums (metaL bs)).size = (metaL bs).length := strOfNums_size _
        have hmb : came.size + (metaL bs).length ≤ 140737488355328 := by have := metaL_len bs; omega
        have HME := Aside0.mk (meta_calls a cx bs _ (Kd.C_below HCX.out HBA.out) hcx (by have := HXL.out; omega))
        cases tm with
        | true =>
          go_upto_region 20 with (first
            | ((with_reducible refine gate_builtin (b := .append) (xs := #[.tmp 65, .tmp 67]) rfl ?_); at_builtin; go_loud (refine Kd.R_append_rows k46 (w0 := w6) wm.heap.size rfl (.tmp 65) (.tmp 67) 33 46 (.agg #[.string ⟨#[]⟩, .int .i64 0, .string ⟨#[]⟩, .string ⟨#[]⟩]) 56 rfl Try.underlying33 info46 rfl (by decide) (by omega) v5 hs5 hs6 _ _ _ (fun _ => True) (fun _ => False) rfl rfl HV5.out (Kd.R_reads' HV6.out).2.2 (fun x cs h => M_of_K46 _ _ x cs h) (fun _ h => h.elim) (fun _ _ => trivial) (Below.refl _ _) HS6.out (by have := HN6.out; have := HN5.out; omega) ?_); intro v7 w7 hR7 hb7 hg7 hat7; have HGI := Aside0.mk (HG5.out.time HG1.out HP6.out HR6.out HF6.out hR7 hg7); have HNI : Aside0 ((hs5 ++ hs6).length ≤ 1800000000) := ⟨by rw [List.length_append]; have := HN6.out; have := HN5.out; omega⟩; have HRI := Aside0.mk HGI.out.rd; clear hR7 hb7 hg7 hat7)
            | (go_at_call 15; go_loud (refine (timeout_calls HG5.out.rd (by have := HN5.out; omega)).mono ?_; rintro e w6 ⟨v6, hs6, s6, rfl, hp6, hv6, hr6, hf6⟩; obtain ⟨A6, c6, rfl⟩ := Kd.R_slice hv6; have HP6 := Aside0.mk hp6; have HV6 := Aside0.mk hv6; have HR6 := Aside0.mk hr6; have HF6 := Aside0.mk hf6; have HV5 := Aside0.mk (R46_new HG5.out.row hf6 HG5.out.gB); have HS6 := Aside0.mk (Nat.le_trans HF5.out.size hf6.size); have HN6 : Aside0 (hs6.length ≤ 900000000) := ⟨by have := hp6.len.1; have := HN5.out; omega⟩; clear hp6 hv6 hr6 hf6))
            | (go_at_call 13; go_loud (refine (waiting_calls HRI.out).mono ?_; rintro e w' ⟨rfl, rfl⟩))
            | (go_at_call 11; go_loud (refine HPU.out.mono ?_; intro e w5 hp5; obtain ⟨v5, hs5, s5, rfl, hg5, hn5, hf5⟩ := HGP.out _ _ hp5; have hlt5 := Nat.lt_of_lt_of_le HS.out.rd.lt (Nat.le_refl _); have HG5 := Aside0.mk hg5; have HF5 := Aside0.mk hf5; have HN5 : Aside0 (hs5.length + s5.size ≤ 900000000) := ⟨by have := HSK.out; have := HXL.out; omega⟩; have e51 : w5.cell? ⟨wr.heap.size, 1, none⟩ = some (.bool true) := (blk_cell (hf5.blk HNW.out (fun e => by have := HS.out.rd.lt; omega)) 1).trans rfl; clear hp5 hg5 hn5 hf5))
            | (go_at_call 14; go_loud (refine HME.out.mono ?_; rintro e wm ⟨vm, rfl, hvm, hbm⟩; obtain ⟨Am, cm, rfl⟩ := Kd.R_slice hvm; have hcvm : (convert 23 9 (.slice Am (metaL bs).length cm)).run Try.prog wm = .ok (.string (strOfNums (metaL bs))) wm := Kd.C_string Try.underlying23 Try.underlying5 Try.underlying9 (Kd.R_reads' hvm).2.2; have HNW := Aside0.mk (blk_below hnw.out hbm); have em0 : wm.cell? ⟨wr.heap.size, 0, none⟩ = some (.slice a bs.length cx) := (blk_cell HNW.out 0).trans rfl; have HBM := Aside0.mk (below_step HBA.out hbm); have HPU := Aside0.mk (put_all (g := g1) HCX.out hcx HXL.out HBM.out HG1.out (HRA.out.below hbm) HSK.out); have HGP := Aside0.mk (fun e w' hp => GotSt.put (l := bs) (w' := w') (e := e) (HRA.out.below hbm) (HKA.out.below hbm) HBM.out HG1.out HNG.out HS.out.eq HS.out.short hp); clear hvm hbm)))
          generalize hs5 ++ hs6 = hgi at HGI HNI
          obtain ⟨A7, c7, rfl⟩ := Kd.R_slice HGI.out.row
          have HIC := Aside0.mk (Kd.R_reads' HGI.out.row).2.2
          have hni := HNI.out
          have HTS : Aside0 (told.size + (catK hgi).size ≤ 300000000) := ⟨by have h1 := congrArg ByteArray.size HGI.out.eq; simp only [ByteArray.size_append] at h1; rw [strOfNums_size] at h1; have h2 := putB_len true bs; have := HCL.out; omega⟩
          go_wp2
          obtain ⟨wo, rfl⟩ : ∃ wo : World, wo = wr := ⟨_, rfl⟩
          go_loopw [74, 12] (fun i td wj => ∃ j : Nat, j ≤ hgi.length ∧ i = .int .i64 (j : Int) ∧ td = .string (told ++ catK (hgi.take j)) ∧ Aside0 (Below w7.heap.size w7 wj)) (fun i td wj => hgi.length - (intOf i).toNat)
          case atStart => exact ⟨0, Nat.zero_le _, rfl, by rw [List.take_zero]; exact congrArg _ (add_nil told).symm, ⟨Below.refl _ _⟩⟩
          case round =>
            obtain ⟨j, hj, rfl, rfl, HJ⟩ := hrel
            by_cases hjl : j < hgi.length
            · obtain ⟨ah, e8, hy0, hy1, hy2, hy3⟩ := at_T46 (Kd.C_below HIC.out HJ.out) (j : Int) (by omega) (by omega)
              cases e8
              rw [rd46_nat _ _ hjl, Int.toNat_natCast] at hy0 hy1 hy2 hy3
              have HOK := Aside0.mk (HGI.out.ok hgi[j] (List.getElem_mem hjl))
              have hsn := catK_snoc hgi j hjl
              have hts := catK_take_le hgi (j + 1)
              rw [hsn, ByteArray.size_append] at hts
              have HSN := Aside0.mk hsn
              have HJL := Aside0.mk hjl
              clear hsn
              generalize hgi[j] = h at hy0 hy1 hy2 hy3 HOK hts HSN
              have hsz2 : (told ++ catK (hgi.take j)).size + h.f0.size ≤ 140737488355328 := by rw [ByteArray.size_append]; have := HTS.out; omega
              have hks : h.f0.size ≤ 1000000000000 := by have := HTS.out; omega
              clear hts
              have hem := em_false HOK.out.1
              have HKJ := Aside0.mk (HGI.out.km.below HJ.out)
              have HGO := Aside0.mk HGI.out.km.good
              have HLK := Aside0.mk (fun (W : World) (hb : Below wr.heap.size wr W) => lookup_calls (HKJ.out.below hb) h.f0 hks)
              have hB0 := blk_new wr (.cells #[.string h.f0, .int .i64 h.f1.f0, .string h.f1.f1, .string h.f1.f2] 46)
              have hBA := below_alloc (Below.refl wr.heap.size wr) (.cells #[.string h.f0, .int .i64 h.f1.f0, .string h.f1.f1, .string h.f1.f2] 46)
              have b0 : (wr.alloc (.cells #[.string h.f0, .int .i64 h.f1.f0, .string h.f1.f1, .string h.f1.f2] 46)).cell? ⟨wr.heap.size, 0, none⟩ = some (.string h.f0) := (blk_cell hB0 0).trans rfl
              have HB0 := Aside0.mk hB0
              have HBA46 := Aside0.mk hBA
              clear hB0 hBA hks
              rcases HOK.out.2 with ⟨x, hFx, hf1⟩ | ⟨hFx, hf1⟩
              · obtain ⟨hk0, hkb⟩ := h
                dsimp only at hf1 hFx hy0 hy1 hy2 hy3 b0 hem hsz2 HLK HB0 HBA46 HSN
                subst hf1
                dsimp only at hy0 hy1 hy2 hy3 b0 HB0 HBA46
                rw [hFx] at HLK
                have hkn : (x.kind != 0) = true := by simpa using HGO.out.kind _ _ hFx
                have hkn' : (x.kind == 0) = false := by simpa using HGO.out.kind _ _ hFx
                simp only [Option.getD_some, Option.getD_none, Bd.v, Bd.no] at HLK
                have HLL := Aside0.mk (fun (v1 : World) (hb : Below wr.heap.size wr v1) (hq : v1.heap[wr.heap.size]? = some (.cells #[.string hk0, .int .i64 x.kind, .string x.name, .string x.keys] 46 (0, 0))) => (⟨(blk_cell (blk_alloc hq (.cells #[.int .i64 x.kind, .string x.name, .string x.keys] 44)) 0).trans rfl, (blk_cell (blk_alloc hq (.cells #[.int .i64 x.kind, .string x.name, .string x.keys] 44)) 1).trans rfl, (blk_cell (blk_alloc hq (.cells #[.int .i64 x.kind, .string x.name, .string x.keys] 44)) 2).trans rfl, (blk_cell (blk_alloc hq (.cells #[.int .i64 x.kind, .string x.name, .string x.keys] 44)) 3).trans rfl, (blk_cell (blk_new v1 (.cells #[.int .i64 x.kind, .string x.name, .string x.keys] 44)) 0).trans rfl, (blk_cell (blk_new v1 (.cells #[.int .i64 x.kind, .string x.name, .string x.keys] 44)) 1).trans rfl, (blk_cell (blk_new v1 (.cells #[.int .i64 x.kind, .string x.name, .string x.keys] 44)) 2).trans rfl⟩ : (v1.alloc (.cells #[.int .i64 x.kind, .string x.name, .string x.keys] 44)).cell? ⟨wr.heap.size, 0, none⟩ = some (.string hk0) ∧ (v1.alloc (.cells #[.int .i64 x.kind, .string x.name, .string x.keys] 44)).cell? ⟨wr.heap.size, 1, none⟩ = some (.int .i64 x.kind) ∧ (v1.alloc (.cells #[.int .i64 x.kind, .string x.name, .string x.keys] 44)).cell? ⟨wr.heap.size, 2, none⟩ = some (.string x.name) ∧ (v1.alloc (.cells #[.int .i64 x.kind, .string x.name, .string x.keys] 44)).cell? ⟨wr.heap.size, 3, none⟩ = some (.string x.keys) ∧ (v1.alloc (.cells #[.int .i64 x.kind, .string x.name, .string x.keys] 44)).cell? ⟨v1.heap.size, 0, none⟩ = some (.int .i64 x.kind) ∧ (v1.alloc (.cells #[.int .i64 x.kind, .string x.name, .string x.keys] 44)).cell? ⟨v1.heap.size, 1, none⟩ = some (.string x.name) ∧ (v1.alloc (.cells #[.int .i64 x.kind, .string x.name, .string x.keys] 44)).cell? ⟨v1.heap.size, 2, none⟩ = some (.string x.keys)))
                rcases kind_cases F hk0.data.toList with hkk | hkk | hkk | hkk
                · exact absurd (kind_zero hkk).1 (by rw [hFx]; simp)
                · exact absurd (kind_one hkk).1 (by rw [hFx]; simp)
                · rw [hkk] at HLK
                  clear hkk
                  go_wp2_with (go_at_call 16; go_loud (refine (HLK.out _ HBA46.out).mono ?_; rintro e v1 ⟨rfl, hbv⟩; have hq := blk_below HB0.out hbv; have HBV := Aside0.mk (below_step HBA46.out hbv); obtain ⟨l0_, l1_, l2_, l3_, l4_, l5_, l6_⟩ := HLL.out v1 HBV.out hq; have HQ := Aside0.mk hq; clear hq hbv))
                  go_roundw
                  case rel => first | exact ⟨j + 1, HJL.out, by simp, by rw [HSN.out, add_assoc'], ⟨below_alloc (below_step HJ.out HBV.out) _⟩⟩ | ((repeat apply Exists.intro); exact ⟨⟨j + 1, HJL.out, by simp, by rw [HSN.out, add_assoc'], ⟨below_alloc (below_step HJ.out HBV.out) _⟩⟩, rfl⟩)
                  case measure => simp [intOf]; omega
                · rw [hkk] at HLK
                  clear hkk
                  go_wp2_with (go_at_call 16; go_loud (refine (HLK.out _ HBA46.out).mono ?_; rintro e v1 ⟨rfl, hbv⟩; have hq := blk_below HB0.out hbv; have HBV := Aside0.mk (below_step HBA46.out hbv); obtain ⟨l0_, l1_, l2_, l3_, l4_, l5_, l6_⟩ := HLL.out v1 HBV.out hq; have HQ := Aside0.mk hq; clear hq hbv))
                  go_roundw
                  case rel => first | exact ⟨j + 1, HJL.out, by simp, by rw [HSN.out, add_assoc'], ⟨below_alloc (below_step HJ.out HBV.out) _⟩⟩ | ((repeat apply Exists.intro); exact ⟨⟨j + 1, HJL.out, by simp, by rw [HSN.out, add_assoc'], ⟨below_alloc (below_step HJ.out HBV.out) _⟩⟩, rfl⟩)
                  case measure => simp [intOf]; omega
              · obtain ⟨hk0, hkb⟩ := h
                dsimp only at hf1 hFx hy0 hy1 hy2 hy3 b0 hem hsz2 HLK HB0 HBA46 HSN
                subst hf1
                dsimp only at hy0 hy1 hy2 hy3 b0 HB0 HBA46
                rw [hFx] at HLK
                simp only [Option.getD_some, Option.getD_none, Bd.v, Bd.no] at HLK
                have HLL := Aside0.mk (fun (v1 : World) (hb : Below wr.heap.size wr v1) (hq : v1.heap[wr.heap.size]? = some (.cells #[.string hk0, .int .i64 0, .string ⟨#[]⟩, .string ⟨#[]⟩] 46 (0, 0))) => (⟨(blk_cell (blk_alloc hq (.cells #[.int .i64 0, .string ⟨#[]⟩, .string ⟨#[]⟩] 44)) 0).trans rfl, (blk_cell (blk_alloc hq (.cells #[.int .i64 0, .string ⟨#[]⟩, .string ⟨#[]⟩] 44)) 1).trans rfl, (blk_cell (blk_alloc hq (.cells #[.int .i64 0, .string ⟨#[]⟩, .string ⟨#[]⟩] 44)) 2).trans rfl, (blk_cell (blk_alloc hq (.cells #[.int .i64 0, .string ⟨#[]⟩, .string ⟨#[]⟩] 44)) 3).trans rfl, (blk_cell (blk_new v1 (.cells #[.int .i64 0, .string ⟨#[]⟩, .string ⟨#[]⟩] 44)) 0).trans rfl, (blk_cell (blk_new v1 (.cells #[.int .i64 0, .string ⟨#[]⟩, .string ⟨#[]⟩] 44)) 1).trans rfl, (blk_cell (blk_new v1 (.cells #[.int .i64 0, .string ⟨#[]⟩, .string ⟨#[]⟩] 44)) 2).trans rfl⟩ : (v1.alloc (.cells #[.int .i64 0, .string ⟨#[]⟩, .string ⟨#[]⟩] 44)).cell? ⟨wr.heap.size, 0, none⟩ = some (.string hk0) ∧ (v1.alloc (.cells #[.int .i64 0, .string ⟨#[]⟩, .string ⟨#[]⟩] 44)).cell? ⟨wr.heap.size, 1, none⟩ = some (.int .i64 0) ∧ (v1.alloc (.cells #[.int .i64 0, .string ⟨#[]⟩, .string ⟨#[]⟩] 44)).cell? ⟨wr.heap.size, 2, none⟩ = some (.string ⟨#[]⟩) ∧ (v1.alloc (.cells #[.int .i64 0, .string ⟨#[]⟩, .string ⟨#[]⟩] 44)).cell? ⟨wr.heap.size, 3, none⟩ = some (.string ⟨#[]⟩) ∧ (v1.alloc (.cells #[.int .i64 0, .string ⟨#[]⟩, .string ⟨#[]⟩] 44)).cell? ⟨v1.heap.size, 0, none⟩ = some (.int .i64 0) ∧ (v1.alloc (.cells #[.int .i64 0, .string ⟨#[]⟩, .string ⟨#[]⟩] 44)).cell? ⟨v1.heap.size, 1, none⟩ = some (.string ⟨#[]⟩) ∧ (v1.alloc (.cells #[.int .i64 0, .string ⟨#[]⟩, .string ⟨#[]⟩] 44)).cell? ⟨v1.heap.size, 2, none⟩ = some (.string ⟨#[]⟩)))
                rcases kind_cases F hk0.data.toList with hkk | hkk | hkk | hkk
                · rw [hkk] at HLK
                  clear hkk
                  go_wp2_with (go_at_call 16; go_loud (refine (HLK.out _ HBA46.out).mono ?_; rintro e v1 ⟨rfl, hbv⟩; have hq := blk_below HB0.out hbv; have HBV := Aside0.mk (below_step HBA46.out hbv); obtain ⟨l0_, l1_, l2_, l3_, l4_, l5_, l6_⟩ := HLL.out v1 HBV.out hq; have HQ := Aside0.mk hq; clear hq hbv))
                  go_roundw
                  case rel => first | exact ⟨j + 1, HJL.out, by simp, by rw [HSN.out, add_assoc'], ⟨below_alloc (below_step HJ.out HBV.out) _⟩⟩ | ((repeat apply Exists.intro); exact ⟨⟨j + 1, HJL.out, by simp, by rw [HSN.out, add_assoc'], ⟨below_alloc (below_step HJ.out HBV.out) _⟩⟩, rfl⟩)
                  case measure => simp [intOf]; omega
                · rw [hkk] at HLK
                  clear hkk
                  go_wp2_with (go_at_call 16; go_loud (refine (HLK.out _ HBA46.out).mono ?_; rintro e v1 ⟨rfl, hbv⟩; have hq := blk_below HB0.out hbv; have HBV := Aside0.mk (below_step HBA46.out hbv); obtain ⟨l0_, l1_, l2_, l3_, l4_, l5_, l6_⟩ := HLL.out v1 HBV.out hq; have HQ := Aside0.mk hq; clear hq hbv))
                  go_roundw
                  case rel => first | exact ⟨j + 1, HJL.out, by simp, by rw [HSN.out, add_assoc'], ⟨below_alloc (below_step HJ.out HBV.out) _⟩⟩ | ((repeat apply Exists.intro); exact ⟨⟨j + 1, HJL.out, by simp, by rw [HSN.out, add_assoc'], ⟨below_alloc (below_step HJ.out HBV.out) _⟩⟩, rfl⟩)
                  case measure => simp [intOf]; omega
                · exact absurd (kind_two hkk).1 (by rw [hFx]; simp)
                · exact absurd (kind_three hkk).1 (by rw [hFx]; simp)
            · obtain rfl : j = hgi.length := by omega
              rw [List.take_length]
              have heq : came ++ strOfNums (metaL bs) = told ++ catK hgi ++ (ByteArray.mk #[]) := by rw [add_assoc']; exact HGI.out.eq
              have hcz : (told ++ catK hgi ++ (ByteArray.mk #[])).size ≤ 2 * bytesUp l2 (k + 1) := by rw [← heq, ByteArray.size_append, strOfNums_size]; have h2 := putB_len true bs; have h3 := HCSZ.out; (first | (have h4 : (metaL bs).length ≤ 2 * bs.length := h2; omega) | omega)
              have hsz3 : (told ++ catK hgi).size + ((ByteArray.mk #[])).size ≤ 140737488355328 := by rw [ByteArray.size_append] at hcz; have h5 := bytesUp_le l2 (k + 1); have := HPL.out; omega
              rw [heq]
              have HCZ := Aside0.mk hcz
              have HRJ := Aside0.mk (HGI.out.rd.below HJ.out)
              have HKJ := Aside0.mk (HGI.out.km.below HJ.out)
              have HBJ := Aside0.mk (below_step HGI.out.below HJ.out)
              have hsh : ¬ (64 : Int) ≤ (((ByteArray.mk #[])).size : Int) := by have := HGI.out.short; omega
              clear hcz heq hjl
              generalize told ++ catK hgi = td at hsz3 HCZ ⊢
              go_wp2_with (go_at_call 13; go_loud (refine (waiting_calls HRJ.out).mono ?_; rintro e w' ⟨rfl, rfl⟩))
              go_roundw
              case rel => first | exact ⟨k + 1, _, td, (ByteArray.mk #[]), HLT.out, by simp, rfl, rfl, ⟨⟨HRJ.out, HKJ.out, HBJ.out, rfl, HCZ.out, HGI.out.short⟩⟩⟩ | ((repeat apply Exists.intro); exact ⟨⟨k + 1, _, td, (ByteArray.mk #[]), HLT.out, by simp, rfl, rfl, ⟨⟨HRJ.out, HKJ.out, HBJ.out, rfl, HCZ.out, HGI.out.short⟩⟩⟩, rfl⟩) | (trace_state; sorry)
              case measure => simp [intOf]; have := HLT.out; omega
        | false =>
          go_upto_region 20 with (first
            | (go_at_call 11; go_loud (refine HPU.out.mono ?_; intro e w5 hp5; obtain ⟨v5, hs5, s5, rfl, hg5, hn5, hf5⟩ := HGP.out _ _ hp5; have hlt5 := Nat.lt_of_lt_of_le HS.out.rd.lt (Nat.le_refl _); have HG5 := Aside0.mk hg5; have HF5 := Aside0.mk hf5; have HN5 : Aside0 (hs5.length + s5.size ≤ 900000000) := ⟨by have := HSK.out; have := HXL.out; omega⟩; have e51 : w5.cell? ⟨wr.heap.size, 1, none⟩ = some (.bool false) := (blk_cell (hf5.blk HNW.out (fun e => by have := HS.out.rd.lt; omega)) 1).trans rfl; clear hp5 hg5 hn5 hf5))
            | (go_at_call 14; go_loud (refine HME.out.mono ?_; rintro e wm ⟨vm, rfl, hvm, hbm⟩; obtain ⟨Am, cm, rfl⟩ := Kd.R_slice hvm; have hcvm : (convert 23 9 (.slice Am (metaL bs).length cm)).run Try.prog wm = .ok (.string (strOfNums (metaL bs))) wm := Kd.C_string Try.underlying23 Try.underlying5 Try.underlying9 (Kd.R_reads' hvm).2.2; have HNW := Aside0.mk (blk_below hnw.out hbm); have em0 : wm.cell? ⟨wr.heap.size, 0, none⟩ = some (.slice a bs.length cx) := (blk_cell HNW.out 0).trans rfl; have HBM := Aside0.mk (below_step HBA.out hbm); have HPU := Aside0.mk (put_all (g := g1) HCX.out hcx HXL.out HBM.out HG1.out (HRA.out.below hbm) HSK.out); have HGP := Aside0.mk (fun e w' hp => GotSt.put (l := bs) (w' := w') (e := e) (HRA.out.below hbm) (HKA.out.below hbm) HBM.out HG1.out HNG.out HS.out.eq HS.out.short hp); clear hvm hbm)))
          have HGI := HG5
          have HNI : Aside0 (hs5.length ≤ 1800000000) := ⟨by have := HN5.out; omega⟩
          clear HG5
          generalize hs5 = hgi at HGI HNI
          obtain ⟨A7, c7, rfl⟩ := Kd.R_slice HGI.out.row
          have HIC := Aside0.mk (Kd.R_reads' HGI.out.row).2.2
          have hni := HNI.out
          have HTS : Aside0 (told.size + (catK hgi).size ≤ 300000000) := ⟨by have h1 := congrArg ByteArray.size HGI.out.eq; simp only [ByteArray.size_append] at h1; rw [strOfNums_size] at h1; have h2 := putB_len true bs; have := HCL.out; omega⟩
          go_wp2
          obtain ⟨wo, rfl⟩ : ∃ wo : World, wo = wr := ⟨_, rfl⟩
          go_loopw [74, 12] (fun i td wj => ∃ j : Nat, j ≤ hgi.length ∧ i = .int .i64 (j : Int) ∧ td = .string (told ++ catK (hgi.take j)) ∧ Aside0 (Below w5.heap.size w5 wj)) (fun i td wj => hgi.length - (intOf i).toNat)
          case atStart => exact ⟨0, Nat.zero_le _, rfl, by rw [List.take_zero]; exact congrArg _ (add_nil told).symm, ⟨Below.refl _ _⟩⟩
          case round =>
            obtain ⟨j, hj, rfl, rfl, HJ⟩ := hrel
            by_cases hjl : j < hgi.length
            · obtain ⟨ah, e8, hy0, hy1, hy2, hy3⟩ := at_T46 (Kd.C_below HIC.out HJ.out) (j : Int) (by omega) (by omega)
              cases e8
              rw [rd46_nat _ _ hjl, Int.toNat_natCast] at hy0 hy1 hy2 hy3
              have HOK := Aside0.mk (HGI.out.ok hgi[j] (List.getElem_mem hjl))
              have hsn := catK_snoc hgi j hjl
              have hts := catK_take_le hgi (j + 1)
              rw [hsn, ByteArray.size_append] at hts
              have HSN := Aside0.mk hsn
              have HJL := Aside0.mk hjl
              clear hsn
              generalize hgi[j] = h at hy0 hy1 hy2 hy3 HOK hts HSN
              have hsz2 : (told ++ catK (hgi.take j)).size + h.f0.size ≤ 140737488355328 := by rw [ByteArray.size_append]; have := HTS.out; omega
              have hks : h.f0.size ≤ 1000000000000 := by have := HTS.out; omega
              clear hts
              have hem := em_false HOK.out.1
              have HKJ := Aside0.mk (HGI.out.km.below HJ.out)
              have HGO := Aside0.mk HGI.out.km.good
              have HLK := Aside0.mk (fun (W : World) (hb : Below wr.heap.size wr W) => lookup_calls (HKJ.out.below hb) h.f0 hks)
              have hB0 := blk_new wr (.cells #[.string h.f0, .int .i64 h.f1.f0, .string h.f1.f1, .string h.f1.f2] 46)
              have hBA := below_alloc (Below.refl wr.heap.size wr) (.cells #[.string h.f0, .int .i64 h.f1.f0, .string h.f1.f1, .string h.f1.f2] 46)
              have b0 : (wr.alloc (.cells #[.string h.f0, .int .i64 h.f1.f0, .string h.f1.f1, .string h.f1.f2] 46)).cell? ⟨wr.heap.size, 0, none⟩ = some (.string h.f0) := (blk_cell hB0 0).trans rfl
              have HB0 := Aside0.mk hB0
              have HBA46 := Aside0.mk hBA
              clear hB0 hBA hks
              rcases HOK.out.2 with ⟨x, hFx, hf1⟩ | ⟨hFx, hf1⟩
              · obtain ⟨hk0, hkb⟩ := h
                dsimp only at hf1 hFx hy0 hy1 hy2 hy3 b0 hem hsz2 HLK HB0 HBA46 HSN
                subst hf1
                dsimp only at hy0 hy1 hy2 hy3 b0 HB0 HBA46
                rw [hFx] at HLK
                have hkn : (x.kind != 0) = true := by simpa using HGO.out.kind _ _ hFx
                have hkn' : (x.kind == 0) = false := by simpa using HGO.out.kind _ _ hFx
                simp only [Option.getD_some, Option.getD_none, Bd.v, Bd.no] at HLK
                have HLL := Aside0.mk (fun (v1 : World) (hb : Below wr.heap.size wr v1) (hq : v1.heap[wr.heap.size]? = some (.cells #[.string hk0, .int .i64 x.kind, .string x.name, .string x.keys] 46 (0, 0))) => (⟨(blk_cell (blk_alloc hq (.cells #[.int .i64 x.kind, .string x.name, .string x.keys] 44)) 0).trans rfl, (blk_cell (blk_alloc hq (.cells #[.int .i64 x.kind, .string x.name, .string x.keys] 44)) 1).trans rfl, (blk_cell (blk_alloc hq (.cells #[.int .i64 x.kind, .string x.name, .string x.keys] 44)) 2).trans rfl, (blk_cell (blk_alloc hq (.cells #[.int .i64 x.kind, .string x.name, .string x.keys] 44)) 3).trans rfl, (blk_cell (blk_new v1 (.cells #[.int .i64 x.kind, .string x.name, .string x.keys] 44)) 0).trans rfl, (blk_cell (blk_new v1 (.cells #[.int .i64 x.kind, .string x.name, .string x.keys] 44)) 1).trans rfl, (blk_cell (blk_new v1 (.cells #[.int .i64 x.kind, .string x.name, .string x.keys] 44)) 2).trans rfl⟩ : (v1.alloc (.cells #[.int .i64 x.kind, .string x.name, .string x.keys] 44)).cell? ⟨wr.heap.size, 0, none⟩ = some (.string hk0) ∧ (v1.alloc (.cells #[.int .i64 x.kind, .string x.name, .string x.keys] 44)).cell? ⟨wr.heap.size, 1, none⟩ = some (.int .i64 x.kind) ∧ (v1.alloc (.cells #[.int .i64 x.kind, .string x.name, .string x.keys] 44)).cell? ⟨wr.heap.size, 2, none⟩ = some (.string x.name) ∧ (v1.alloc (.cells #[.int .i64 x.kind, .string x.name, .string x.keys] 44)).cell? ⟨wr.heap.size, 3, none⟩ = some (.string x.keys) ∧ (v1.alloc (.cells #[.int .i64 x.kind, .string x.name, .string x.keys] 44)).cell? ⟨v1.heap.size, 0, none⟩ = some (.int .i64 x.kind) ∧ (v1.alloc (.cells #[.int .i64 x.kind, .string x.name, .string x.keys] 44)).cell? ⟨v1.heap.size, 1, none⟩ = some (.string x.name) ∧ (v1.alloc (.cells #[.int .i64 x.kind, .string x.name, .string x.keys] 44)).cell? ⟨v1.heap.size, 2, none⟩ = some (.string x.keys)))
                rcases kind_cases F hk0.data.toList with hkk | hkk | hkk | hkk
                · exact absurd (kind_zero hkk).1 (by rw [hFx]; simp)
                · exact absurd (kind_one hkk).1 (by rw [hFx]; simp)
                · rw [hkk] at HLK
                  clear hkk
                  go_wp2_with (go_at_call 16; go_loud (refine (HLK.out _ HBA46.out).mono ?_; rintro e v1 ⟨rfl, hbv⟩; have hq := blk_below HB0.out hbv; have HBV := Aside0.mk (below_step HBA46.out hbv); obtain ⟨l0_, l1_, l2_, l3_, l4_, l5_, l6_⟩ := HLL.out v1 HBV.out hq; have HQ := Aside0.mk hq; clear hq hbv))
                  go_roundw
                  case rel => first | exact ⟨j + 1, HJL.out, by simp, by rw [HSN.out, add_assoc'], ⟨below_alloc (below_step HJ.out HBV.out) _⟩⟩ | ((repeat apply Exists.intro); exact ⟨⟨j + 1, HJL.out, by simp, by rw [HSN.out, add_assoc'], ⟨below_alloc (below_step HJ.out HBV.out) _⟩⟩, rfl⟩)
                  case measure => simp [intOf]; omega
                · rw [hkk] at HLK
                  clear hkk
                  go_wp2_with (go_at_call 16; go_loud (refine (HLK.out _ HBA46.out).mono ?_; rintro e v1 ⟨rfl, hbv⟩; have hq := blk_below HB0.out hbv; have HBV := Aside0.mk (below_step HBA46.out hbv); obtain ⟨l0_, l1_, l2_, l3_, l4_, l5_, l6_⟩ := HLL.out v1 HBV.out hq; have HQ := Aside0.mk hq; clear hq hbv))
                  go_roundw
                  case rel => first | exact ⟨j + 1, HJL.out, by simp, by rw [HSN.out, add_assoc'], ⟨below_alloc (below_step HJ.out HBV.out) _⟩⟩ | ((repeat apply Exists.intro); exact ⟨⟨j + 1, HJL.out, by simp, by rw [HSN.out, add_assoc'], ⟨below_alloc (below_step HJ.out HBV.out) _⟩⟩, rfl⟩)
                  case measure => simp [intOf]; omega
              · obtain ⟨hk0, hkb⟩ := h
                dsimp only at hf1 hFx hy0 hy1 hy2 hy3 b0 hem hsz2 HLK HB0 HBA46 HSN
                subst hf1
                dsimp only at hy0 hy1 hy2 hy3 b0 HB0 HBA46
                rw [hFx] at HLK
                simp only [Option.getD_some, Option.getD_none, Bd.v, Bd.no] at HLK
                have HLL := Aside0.mk (fun (v1 : World) (hb : Below wr.heap.size wr v1) (hq : v1.heap[wr.heap.size]? = some (.cells #[.string hk0, .int .i64 0, .string ⟨#[]⟩, .string ⟨#[]⟩] 46 (0, 0))) => (⟨(blk_cell (blk_alloc hq (.cells #[.int .i64 0, .string ⟨#[]⟩, .string ⟨#[]⟩] 44)) 0).trans rfl, (blk_cell (blk_alloc hq (.cells #[.int .i64 0, .string ⟨#[]⟩, .string ⟨#[]⟩] 44)) 1).trans rfl, (blk_cell (blk_alloc hq (.cells #[.int .i64 0, .string ⟨#[]⟩, .string ⟨#[]⟩] 44)) 2).trans rfl, (blk_cell (blk_alloc hq (.cells #[.int .i64 0, .string ⟨#[]⟩, .string ⟨#[]⟩] 44)) 3).trans rfl, (blk_cell (blk_new v1 (.cells #[.int .i64 0, .string ⟨#[]⟩, .string ⟨#[]⟩] 44)) 0).trans rfl, (blk_cell (blk_new v1 (.cells #[.int .i64 0, .string ⟨#[]⟩, .string ⟨#[]⟩] 44)) 1).trans rfl, (blk_cell (blk_new v1 (.cells #[.int .i64 0, .string ⟨#[]⟩, .string ⟨#[]⟩] 44)) 2).trans rfl⟩ : (v1.alloc (.cells #[.int .i64 0, .string ⟨#[]⟩, .string ⟨#[]⟩] 44)).cell? ⟨wr.heap.size, 0, none⟩ = some (.string hk0) ∧ (v1.alloc (.cells #[.int .i64 0, .string ⟨#[]⟩, .string ⟨#[]⟩] 44)).cell? ⟨wr.heap.size, 1, none⟩ = some (.int .i64 0) ∧ (v1.alloc (.cells #[.int .i64 0, .string ⟨#[]⟩, .string ⟨#[]⟩] 44)).cell? ⟨wr.heap.size, 2, none⟩ = some (.string ⟨#[]⟩) ∧ (v1.alloc (.cells #[.int .i64 0, .string ⟨#[]⟩, .string ⟨#[]⟩] 44)).cell? ⟨wr.heap.size, 3, none⟩ = some (.string ⟨#[]⟩) ∧ (v1.alloc (.cells #[.int .i64 0, .string ⟨#[]⟩, .string ⟨#[]⟩] 44)).cell? ⟨v1.heap.size, 0, none⟩ = some (.int .i64 0) ∧ (v1.alloc (.cells #[.int .i64 0, .string ⟨#[]⟩, .string ⟨#[]⟩] 44)).cell? ⟨v1.heap.size, 1, none⟩ = some (.string ⟨#[]⟩) ∧ (v1.alloc (.cells #[.int .i64 0, .string ⟨#[]⟩, .string ⟨#[]⟩] 44)).cell? ⟨v1.heap.size, 2, none⟩ = some (.string ⟨#[]⟩)))
                rcases kind_cases F hk0.data.toList with hkk | hkk | hkk | hkk
                · rw [hkk] at HLK
                  clear hkk
                  go_wp2_with (go_at_call 16; go_loud (refine (HLK.out _ HBA46.out).mono ?_; rintro e v1 ⟨rfl, hbv⟩; have hq := blk_below HB0.out hbv; have HBV := Aside0.mk (below_step HBA46.out hbv); obtain ⟨l0_, l1_, l2_, l3_, l4_, l5_, l6_⟩ := HLL.out v1 HBV.out hq; have HQ := Aside0.mk hq; clear hq hbv))
                  go_roundw
                  case rel => first | exact ⟨j + 1, HJL.out, by simp, by rw [HSN.out, add_assoc'], ⟨below_alloc (below_step HJ.out HBV.out) _⟩⟩ | ((repeat apply Exists.intro); exact ⟨⟨j + 1, HJL.out, by simp, by rw [HSN.out, add_assoc'], ⟨below_alloc (below_step HJ.out HBV.out) _⟩⟩, rfl⟩)
                  case measure => simp [intOf]; omega
                · rw [hkk] at HLK
                  clear hkk
                  go_wp2_with (go_at_call 16; go_loud (refine (HLK.out _ HBA46.out).mono ?_; rintro e v1 ⟨rfl, hbv⟩; have hq := blk_below HB0.out hbv; have HBV := Aside0.mk (below_step HBA46.out hbv); obtain ⟨l0_, l1_, l2_, l3_, l4_, l5_, l6_⟩ := HLL.out v1 HBV.out hq; have HQ := Aside0.mk hq; clear hq hbv))
                  go_roundw
                  case rel => first | exact ⟨j + 1, HJL.out, by simp, by rw [HSN.out, add_assoc'], ⟨below_alloc (below_step HJ.out HBV.out) _⟩⟩ | ((repeat apply Exists.intro); exact ⟨⟨j + 1, HJL.out, by simp, by rw [HSN.out, add_assoc'], ⟨below_alloc (below_step HJ.out HBV.out) _⟩⟩, rfl⟩)
                  case measure => simp [intOf]; omega
                · exact absurd (kind_two hkk).1 (by rw [hFx]; simp)
                · exact absurd (kind_three hkk).1 (by rw [hFx]; simp)
            · obtain rfl : j = hgi.length := by omega
              rw [List.take_length]
              have heq : came ++ strOfNums (metaL bs) = told ++ catK hgi ++ s5 := by rw [add_assoc']; exact HGI.out.eq
              have hcz : (told ++ catK hgi ++ s5).size ≤ 2 * bytesUp l2 (k + 1) := by rw [← heq, ByteArray.size_append, strOfNums_size]; have h2 := putB_len true bs; have h3 := HCSZ.out; (first | (have h4 : (metaL bs).length ≤ 2 * bs.length := h2; omega) | omega)
              have hsz3 : (told ++ catK hgi).size + (s5).size ≤ 140737488355328 := by rw [ByteArray.size_append] at hcz; have h5 := bytesUp_le l2 (k + 1); have := HPL.out; omega
              rw [heq]
              have HCZ := Aside0.mk hcz
              have HRJ := Aside0.mk (HGI.out.rd.below HJ.out)
              have HKJ := Aside0.mk (HGI.out.km.below HJ.out)
              have HBJ := Aside0.mk (below_step HGI.out.below HJ.out)
              have hsh : ¬ (64 : Int) ≤ ((s5).size : Int) := by have := HGI.out.short; omega
              clear hcz heq hjl
              generalize told ++ catK hgi = td at hsz3 HCZ ⊢
              go_wp2_with (go_at_call 13; go_loud (refine (waiting_calls HRJ.out).mono ?_; rintro e w' ⟨rfl, rfl⟩))
              go_roundw
              case rel => first | exact ⟨k + 1, _, td, s5, HLT.out, by simp, rfl, rfl, ⟨⟨HRJ.out, HKJ.out, HBJ.out, rfl, HCZ.out, HGI.out.short⟩⟩⟩ | ((repeat apply Exists.intro); exact ⟨⟨k + 1, _, td, s5, HLT.out, by simp, rfl, rfl, ⟨⟨HRJ.out, HKJ.out, HBJ.out, rfl, HCZ.out, HGI.out.short⟩⟩⟩, rfl⟩) | (trace_state; sorry)
              case measure => simp [intOf]; have := HLT.out; omega
    · obtain rfl : k = l2.length := by omega
      clear hlt
      go_wp2
      go_ret
      exact ⟨rfl, HS.out.below⟩
end Go.Proofs.Ytcnkgodooignpaa
