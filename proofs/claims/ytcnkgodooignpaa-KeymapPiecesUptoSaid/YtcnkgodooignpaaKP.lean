/-
  KeymapPieces' walk.
-/
import Derived.Test.YtcnkgodooignpaaRQ
namespace Go.Proofs.Ytcnkgodooignpaa
open Go.RowKit Go.WideShapes Go.Proofs.YtcnkgodooignpaaW.PrintWords Go.Proofs.YtcnkgodooignpaaW.PrintLast Go.Proofs.YtcnkgodooignpaaW.PrintMore Go.Proofs.Ytcnkgodooignpaa.PAll
set_option linter.unusedVariables false
set_option linter.unusedSimpArgs false
attribute [local go_sem] max2_int min2_int max_two min_two max_three min_three max_four min_four
/-- Behind a round of the loop over single bytes. -/
structure EachSt (w wr : World) (own : Nat → Prop) (g gm : Nat) (F : Key) (c : Nat) (mt : Bool) (l : List Int) (k : Nat) (v : Value) (hs : List S46) (sk : ByteArray) : Prop where
  go : Puts F ⟨#[]⟩ (putB mt (l.take k)) hs sk
  row : Kd.R k46 46 wr w.heap.size (fun _ => True) v hs
  rd : RD wr own g gm F c mt sk
  fr : Fr (fun k => k = g) w wr
theorem EachSt.len {w wr : World} {own : Nat → Prop} {g gm : Nat} {F : Key} {c : Nat} {mt : Bool} {l : List Int} {k : Nat} {v : Value} {hs : List S46} {sk : ByteArray} (h : EachSt w wr own g gm F c mt l k v hs sk) (hk : k ≤ l.length) : hs.length + sk.size ≤ 2 * k := by
  have h1 := h.go.len
  have h2 := putB_len mt (l.take k)
  rw [List.length_take] at h2
  have : (ByteArray.mk #[]).size = 0 := rfl
  omega
theorem EachSt.step {w wr w1 : World} {own : Nat → Prop} {g gm : Nat} {F : Key} {c : Nat} {mt : Bool} {l : List Int} {k : Nat} {v v1 : Value} {hs h1 : List S46} {sk s1 : ByteArray} (h : EachSt w wr own g gm F c mt l k v hs sk) (hk : k < l.length)
    (hr : Puts F sk (putB mt [l[k]]) h1 s1) (hrow : Kd.R k46 46 w1 w.heap.size (fun _ => True) v1 (hs ++ h1)) (hrd : RD w1 own g gm F c mt s1) (hfr : Fr (fun k => k = g) w w1) : EachSt w w1 own g gm F c mt l (k + 1) v1 (hs ++ h1) s1 := by
  refine ⟨?_, hrow, hrd, hfr⟩
  rw [List.take_add_one, List.getElem?_eq_getElem hk, Option.toList_some, putB_append]
  exact h.go.append hr
set_option maxRecDepth 100000 in
set_option maxHeartbeats 1000000 in
theorem walkPieces (A0 : Option Addr) (c0 : Nat) (l0 : List S84) (mt : Bool) (A2 : Option Addr) (c2 : Nat) (l2 : List Int) (cut : Int) {w : World} (R0 : Kd.C k84 w A0 l0.length l0) (hn0 : l0.length ≤ 100000000) (hs0 : ∀ x ∈ l0, x.f0.size ≤ 100000000) (R2 : Kd.C (Kd.int .u8) w A2 l2.length l2) (hc2 : l2.length ≤ c2) (hn2 : l2.length ≤ 100000000) (hcut : cut ≤ 9223372036854775807) :
    Calls Try.prog 3 #[.slice A0 l0.length c0, .bool mt, .slice A2 l2.length c2, .int .i64 cut] w fun e w' => e = .returned (.bool true) ∧ Below w.heap.size w w' := by
  have HC0 := Aside0.mk R0
  have HC2 := Aside0.mk R2
  have HS0 := Aside0.mk (fun x hx => Nat.le_trans (hs0 x hx) (show 100000000 ≤ 1000000000000 by omega))
  have hcn := mapF_le l0 l0.length
  rw [List.take_length] at hcn
  have HCN : Aside0 ((mapF l0).2 ≤ 1000000000) := ⟨by omega⟩
  clear hcn
  clear R0 R2 hs0
  go_enter Try.func3, Try.ntmps3
  go_upto_region 10 with (first
    | (go_at_call 10; go_loud (refine (newReader_calls HN2.out HCN.out mt).mono ?_; rintro e w5 ⟨g3, m3, o3, rfl, hg3, hR3, ho3, hb5⟩; have HP13 := Aside0.mk (Apart.of (HR1.out.below hb4) hg3 ho3); have HP23 := Aside0.mk (Apart.of HR2.out hg3 ho3); have HR1 := Aside0.mk ((HR1.out.below hb4).below hb5); have HR2 := Aside0.mk (HR2.out.below hb5); have HR3 := Aside0.mk hR3; have HG3 : Aside0 (w.heap.size ≤ g3) := ⟨Nat.le_trans HB4.out.size hg3⟩; have HB5 := Aside0.mk (below_step HB4.out hb5); clear hR3 ho3 hg3 hb4 hb5 HN2 HB4))
    | (go_at_call 10; go_loud (refine (newReader_calls HN1.out HCN.out mt).mono ?_; rintro e w4 ⟨g2, m2, o2, rfl, hg2, hR2, ho2, hb4⟩; have HP12 := Aside0.mk (Apart.of HR1.out hg2 ho2); have HR2 := Aside0.mk hR2; have HN2 := Aside0.mk (HN1.out.below hb4); have HG2 : Aside0 (w.heap.size ≤ g2) := ⟨Nat.le_trans HB3.out.size hg2⟩; have HB4 := Aside0.mk (below_step HB3.out hb4); clear hR2 ho2 hg2 HN1 HB3))
    | (go_at_call 10; go_loud (refine (newReader_calls HK2.out HCN.out mt).mono ?_; rintro e w3 ⟨g1, m1, o1, rfl, hg1, hR1, ho1, hb3⟩; have HR1 := Aside0.mk hR1; have HN1 := Aside0.mk (HK2.out.below hb3); have HG1 : Aside0 (w.heap.size ≤ g1) := ⟨Nat.le_trans HB2.out.size hg1⟩; have HB3 := Aside0.mk (below_step HB2.out hb3); clear hR1 ho1 hg1 hb3 HK2 HB2))
    | (go_at_call 9; go_loud (refine (begun_calls _).mono ?_; rintro e w2 ⟨rfl, hb2⟩; have HK2 := Aside0.mk (HST.out.km.below hb2); have HB2 := Aside0.mk (below_step HST.out.below hb2); clear HST hb2))
    | (go_at_call 8; go_loud (refine (mapped_calls HC0.out (by omega) HS0.out).mono ?_; rintro e w1 ⟨g, gr, own, v, rfl, hst⟩; have HST := Aside0.mk hst; clear hst)))
  by_cases hcp : 0 < cut
  · by_cases hlp : 0 < l2.length
    · have hlp' : (0 : Int) < (l2.length : Int) := by omega
      have hnz : (l2.length : Int) ≠ 0 := by omega
      go_upto_region 13 with (fail)
      have hm0 := Int.emod_nonneg cut hnz
      have hm1 := Int.emod_lt_of_pos cut hlp'
      generalize cut % (l2.length : Int) = q at hm0 hm1 ⊢
      obtain ⟨k, rfl⟩ := Int.eq_ofNat_of_zero_le hm0
      have HKL : Aside0 (k ≤ l2.length) := ⟨by omega⟩
      have hk1 : (k : Int) ≤ (l2.length : Int) := by omega
      have hk2 : (k : Int) ≤ (c2 : Int) := by omega
      have hcm : ¬ c2 = k := by omega
      clear hm1
      go_upto_region 13 with (first | (go_at_call 11; go_loud (refine (put_all HC2.out hc2 hn2 HB5.out HG1.out HR1.out (Nat.zero_le _)).mono ?_; rintro e w6 ⟨v6, hs6, s6, rfl, hp6, hv6, hr6, hf6⟩; have HP6 := Aside0.mk hp6; have HV6 := Aside0.mk hv6; have HR1' := Aside0.mk hr6; have HR2' := Aside0.mk (HR2.out.apart HP12.out hf6); have HR3' := Aside0.mk (HR3.out.apart HP13.out hf6); have HB6 := Aside0.mk (HB5.out.trans (hf6.below (fun k e => e ▸ HG1.out) HB5.out.size)); have HS6 := Aside0.mk (show w5.heap.size ≤ w6.heap.size from hf6.size); clear hp6 hv6 hr6 hf6)))
      have HPT := Aside0.mk (fun {W : World} {s : ByteArray} hb h hs => put_take (k := k) (W := W) (own := o2) (gm := m2) (F := (mapF l0).1) (c := (mapF l0).2) (mt := mt) (s := s) HC2.out hc2 hn2 HKL.out hb HG2.out h hs)
      have HPD := Aside0.mk (fun {W : World} {s : ByteArray} hb h hs => put_drop (k := k) (W := W) (own := o2) (gm := m2) (F := (mapF l0).1) (c := (mapF l0).2) (mt := mt) (s := s) HC2.out hc2 hn2 HKL.out hb HG2.out h hs)
      rw [if_neg hcm] at HPD
      try simp only [Nat.sub_self, Nat.sub_zero, Nat.mul_one, Nat.zero_mul] at HPD HPT
      go_region_law (first
        | (refine Kd.R_append_rows_step k46 (w0 := w8) w6.heap.size (by rfl) (.tmp 80) (.tmp 85) 33 46 (.agg #[.string ⟨#[]⟩, .int .i64 0, .string ⟨#[]⟩, .string ⟨#[]⟩]) 56 (by rfl) Try.underlying33 info46 rfl (by decide) (by omega) v7 hs7 hs8 _ _ _ (fun _ => True) (fun _ => False) (by rfl) (by rfl) HV7'.out (Kd.R_reads' HV8.out).2.2 (fun x cs h => M_of_K46 _ _ x cs h) (fun _ h => h.elim) (fun _ _ => trivial) (Below.refl _ _) HS8.out (by have := HN8.out; omega) ?_; intro v9 w9 hR9 hb9 hg9 hat9)
        | (go_simp; go_at_call 11; refine (HPD.out HB7.out HR7.out (by have := HN7.out; omega)).mono ?_; rintro e w8 ⟨v8, hs8, s8, rfl, hp8, hv8, hr8, hf8⟩; obtain ⟨A8, c8, rfl⟩ := Kd.R_slice hv8; have HP8 := Aside0.mk hp8; have HV8 := Aside0.mk hv8; have HV7' := Aside0.mk (R46_new HV7.out hf8 HG26.out); have HF8 := Aside0.mk hf8; have HS8 := Aside0.mk (show w6.heap.size ≤ w8.heap.size from Nat.le_trans HS7.out hf8.size); have HN8 : Aside0 (hs7.length + hs8.length ≤ 200000000) := ⟨by have h1 := HP7.out.len; have h2 := hp8.len; have h3 := putB_len mt (l2.take k); have h4 := putB_len mt (l2.drop k); rw [List.length_take] at h3; rw [List.length_drop] at h4; have : (ByteArray.mk #[]).size = 0 := rfl; omega⟩; clear hp8 hv8 hf8)
        | (go_simp; go_at_call 11; refine (HPT.out (below_drew HB6.out) (HR2'.out.drewN 1) (Nat.zero_le _)).mono ?_; rintro e w7 ⟨v7, hs7, s7, rfl, hp7, hv7, hr7, hf7⟩; have HP7 := Aside0.mk hp7; have HV7 := Aside0.mk hv7; have HR7 := Aside0.mk hr7; have HF7 := Aside0.mk hf7; have HB7 := Aside0.mk ((below_drew HB6.out).trans (hf7.below (fun k e => e ▸ HG2.out) (below_drew HB6.out).size)); have HS7 := Aside0.mk (show w6.heap.size ≤ w7.heap.size from hf7.size); have HG26 := Aside0.mk (show g2 < w6.heap.size from HR2'.out.lt); have HN7 : Aside0 (s7.size ≤ 200000000) := ⟨by have h1 := hp7.len; have h3 := putB_len mt (l2.take k); rw [List.length_take] at h3; have : (ByteArray.mk #[]).size = 0 := rfl; omega⟩; clear hp7 hv7 hr7 hf7))
      all_goals simp only [List.getElem_toArray, List.getElem_cons_succ, List.getElem_cons_zero, Act.put, List.setIfInBounds_toArray, List.set_cons_succ, List.set_cons_zero]
      all_goals go_wp2
      have hdet := (HP7.out.append HP8.out)
      rw [← putB_append, List.take_append_drop] at hdet
      obtain ⟨he1, he2⟩ := hdet.det HP6.out
      rw [he1] at hR9
      subst he2
      have hf9 := grown_Fr hg9
      have hN9 : ∀ k, some k = v7.ownBlock → w6.heap.size ≤ k := fun k hk => R46_base HV7.out k hk
      have hf68 : Fr (fun k => k = g2) w6 w8 := ((Fr.refl (fun k => k = g2) w6).drewN 1).trans (HF7.out.trans HF8.out (fun _ _ h => h)) (fun _ _ h => h)
      have hR1 : RD w9 o1 g1 m1 (mapF l0).1 (mapF l0).2 mt s8 := HR1'.out.far (HR1'.out.apart HP12.out.symm hf68) hf9 hN9
      have hR2 : RD w9 o2 g2 m2 (mapF l0).1 (mapF l0).2 mt s8 := HR2'.out.far hr8 hf9 hN9
      have hR3 : RD w9 o3 g3 m3 (mapF l0).1 (mapF l0).2 mt ⟨#[]⟩ := HR3'.out.far (HR3'.out.apart HP23.out hf68) hf9 hN9
      have hV6 : Kd.R k46 46 w9 w5.heap.size (fun _ => True) v6 hs6 := R46_fr (R46_new HV6.out hf68 HR2.out.lt) hf9 (fun k hk e => by have := hN9 k e; have := R46_lt HV6.out k hk; omega)
      have HB9 := Aside0.mk ((HB6.out.trans (hf68.below (fun k e => e ▸ HG2.out) HB6.out.size)).trans (hf9.below (B := w.heap.size) (fun k hk => Nat.le_trans HB6.out.size (hN9 k hk)) (Nat.le_trans HB6.out.size HS8.out)))
      have HV6' := Aside0.mk hV6
      have HV9 := Aside0.mk hR9
      have HQ1 := Aside0.mk hR1
      have HQ2 := Aside0.mk hR2
      have HOL3 := Aside0.mk hR3.km.olt
      have HGL3 := Aside0.mk hR3.lt
      have HLB := Aside0.mk (show hs6.length ≤ 200000000 by have h1 := HP6.out.len; have h2 := putB_len mt l2; have : (ByteArray.mk #[]).size = 0 := rfl; omega)
      have ST0 : Aside0 (EachSt w9 w9 o3 g3 m3 (mapF l0).1 (mapF l0).2 mt l2 0 (.slice none 0 0) [] ⟨#[]⟩) := ⟨⟨by cases mt <;> exact .nil, Kd.R_nil _ _ _ _ _, hR3, Fr.refl _ _⟩⟩
      clear hR9 hb9 hg9 hat9 hdet he1 hf9 hN9 hf68 hR1 hR2 hR3 hV6 hr8 HPT HPD HV7 HV7' HR7 HF7 HF8 HV8
      go_loopw [89, 20, 22] (fun i v _ wr => ∃ (k : Nat) (hs : List S46) (sk : ByteArray), k ≤ l2.length ∧ i = .int .i64 (k : Int) ∧ Aside0 (EachSt w9 wr o3 g3 m3 (mapF l0).1 (mapF l0).2 mt l2 k v hs sk)) (fun i v _ wr => l2.length - (intOf i).toNat)
      case atStart => exact ⟨0, [], _, Nat.zero_le _, rfl, ST0⟩
      case round =>
        obtain ⟨j, hl, sk, hj, rfl, HS⟩ := hrel
        obtain ⟨A, cp, rfl⟩ := Kd.R_slice HS.out.row
        have HLEN := Aside0.mk (HS.out.len hj)
        by_cases hlt : j < l2.length
        · obtain ⟨ad, e7, hx0⟩ := Kd.at_int (row_in HC2.out HB9.out HG3.out HS.out.fr) (j : Int) (by omega) (by omega)
          cases e7
          rw [rd_nat l2 j hlt, Int.toNat_natCast] at hx0
          have HLT := Aside0.mk hlt
          have hlt' : (j : Int) < (l2.length : Int) := by omega
          have hstep := fun v1 w1 h1 s1 => HS.out.step (v1 := v1) (w1 := w1) (h1 := h1) (s1 := s1) hlt
          generalize l2[j] = x at hx0 hstep
          have HST := Aside0.mk hstep
          clear hstep
          have hal := below_alloc (Below.refl wr.heap.size wr) (.cells #[.int .u8 x] 5)
          have HRA := Aside0.mk (HS.out.rd.below hal)
          have HVA := Aside0.mk (Kd.R_alloc HS.out.row (.cells #[.int .u8 x] 5))
          have HFA := Aside0.mk (HS.out.fr.alloc (.cells #[.int .u8 x] 5))
          have HGA := Aside0.mk HS.out.rd.lt
          clear hal
          go_wp2_with (first
            | ((with_reducible refine gate_builtin (b := .append) (xs := #[.tmp 93, .tmp 97]) rfl ?_); at_builtin; go_loud (refine Kd.R_append_rows k46 (w0 := w10) w9.heap.size rfl (.tmp 93) (.tmp 97) 33 46 (.agg #[.string ⟨#[]⟩, .int .i64 0, .string ⟨#[]⟩, .string ⟨#[]⟩]) 56 rfl Try.underlying33 info46 rfl (by decide) (by omega) (.slice A hl.length cp) hl hs10 _ _ _ (fun _ => True) (fun _ => False) rfl rfl HVB.out (Kd.R_reads' HV10.out).2.2 (fun x cs h => M_of_K46 _ _ x cs h) (fun _ h => h.elim) (fun _ _ => trivial) (Below.refl _ _) HF10.out.size (by have := HLEN.out; have := HN10.out; omega) ?_); intro v11 w11 hR11 hb11 hg11 hat11)
            | (go_at_call 11; go_loud (refine (put_calls' HRA.out (some ⟨wr.heap.size, 0, none⟩) 1 [x] (lit5C wr x HGA.out) (Nat.le_refl _) (by have := HLEN.out; simp; omega)).mono ?_; rintro e w10 ⟨v10, hs10, s10, rfl, hp10, hv10, hr10, hf10⟩; obtain ⟨A10, c10, rfl⟩ := Kd.R_slice hv10; have HP10 := Aside0.mk hp10; have HV10 := Aside0.mk hv10; have HR10 := Aside0.mk hr10; have HVB := Aside0.mk (R46_new HVA.out hf10 HGL3.out); have HF10 := Aside0.mk (HFA.out.trans hf10 (fun _ _ h => h)); have HN10 : Aside0 (hs10.length ≤ 300000000) := ⟨by have h1 := hp10.len; have h2 := putB_len mt [x]; have h3 := HLEN.out; simp only [List.length_singleton] at h2; omega⟩; clear hp10 hv10 hr10 hf10)))
          obtain ⟨hR12, hF12⟩ := grown_RD HR10.out HF10.out HVB.out HOL3.out HGL3.out hg11
          have HN := Aside0.mk (HST.out _ _ _ _ HP10.out hR11 hR12 hF12)
          clear hR11 hb11 hg11 hat11 hR12 hF12
          go_roundw
          case rel => first | exact ⟨j + 1, _, _, HLT.out, by simp, HN⟩ | ((repeat apply Exists.intro); exact ⟨⟨j + 1, _, _, HLT.out, by simp, HN⟩, rfl⟩)
          case measure => simp [intOf]; omega
        · obtain rfl : j = l2.length := by omega
          have hgo := HS.out.go
          rw [List.take_length] at hgo
          obtain ⟨rfl, rfl⟩ := hgo.det HP6.out
          have HW1 := Aside0.mk (HQ1.out.apart HP13.out.symm HS.out.fr)
          have HW2 := Aside0.mk (HQ2.out.apart HP23.out.symm HS.out.fr)
          have HW3 := Aside0.mk HS.out.rd
          have HX6 := Aside0.mk (R46_fr HV6'.out HS.out.fr (fun k hk e => by have := R46_base HV6'.out k hk; have := HR3.out.lt; omega))
          have HX9 := Aside0.mk (R46_fr HV9.out HS.out.fr (fun k hk e => by have := R46_base HV9.out k hk; have := HR3'.out.lt; omega))
          have HXE := Aside0.mk HS.out.row
          have HBE := Aside0.mk (HB9.out.trans (HS.out.fr.below (fun k e => e ▸ HG3.out) HB9.out.size))
          clear hgo hlt HS
          go_wp2_with (first
            | (go_at_call 12; go_loud (refine (hits_calls (Kd.R_drewN HX6.out nA) (Kd.R_drewN HXE.out nA) (by have := HLB.out; omega)).mono ?_; rintro e wB ⟨rfl, ⟨nB, rfl⟩⟩; have HE1 := Aside0.mk (HW1.out.drewN (nA + nB)); have HE2 := Aside0.mk (HW2.out.drewN (nA + nB)); have HE3 := Aside0.mk (HW3.out.drewN (nA + nB))))
            | (go_at_call 12; go_loud (refine (hits_calls HX6.out HX9.out (by have := HLB.out; omega)).mono ?_; rintro e wA ⟨rfl, ⟨nA, rfl⟩⟩))
            | (go_at_call 13; (with_reducible refine (waiting_calls HE1.out).mono ?_); rintro e w' ⟨rfl, rfl⟩)
            | (go_at_call 13; (with_reducible refine (waiting_calls HE2.out).mono ?_); rintro e w' ⟨rfl, rfl⟩)
            | (go_at_call 13; (with_reducible refine (waiting_calls HE3.out).mono ?_); rintro e w' ⟨rfl, rfl⟩))
          go_ret
          exact ⟨rfl, pw_below_drewN HBE.out _⟩
    · have hlp' : ¬ (0 : Int) < (l2.length : Int) := by omega
      have HKL : Aside0 (0 ≤ l2.length) := ⟨Nat.zero_le _⟩
      go_upto_region 13 with (first | (go_at_call 11; go_loud (refine (put_all HC2.out hc2 hn2 HB5.out HG1.out HR1.out (Nat.zero_le _)).mono ?_; rintro e w6 ⟨v6, hs6, s6, rfl, hp6, hv6, hr6, hf6⟩; have HP6 := Aside0.mk hp6; have HV6 := Aside0.mk hv6; have HR1' := Aside0.mk hr6; have HR2' := Aside0.mk (HR2.out.apart HP12.out hf6); have HR3' := Aside0.mk (HR3.out.apart HP13.out hf6); have HB6 := Aside0.mk (HB5.out.trans (hf6.below (fun k e => e ▸ HG1.out) HB5.out.size)); have HS6 := Aside0.mk (show w5.heap.size ≤ w6.heap.size from hf6.size); clear hp6 hv6 hr6 hf6)))
      by_cases hcm : c2 = 0
      · skip
        have HPT := Aside0.mk (fun {W : World} {s : ByteArray} hb h hs => put_take (k := 0) (W := W) (own := o2) (gm := m2) (F := (mapF l0).1) (c := (mapF l0).2) (mt := mt) (s := s) HC2.out hc2 hn2 HKL.out hb HG2.out h hs)
        have HPD := Aside0.mk (fun {W : World} {s : ByteArray} hb h hs => put_drop (k := 0) (W := W) (own := o2) (gm := m2) (F := (mapF l0).1) (c := (mapF l0).2) (mt := mt) (s := s) HC2.out hc2 hn2 HKL.out hb HG2.out h hs)
        rw [if_pos hcm] at HPD
        try simp only [Nat.sub_self, Nat.sub_zero, Nat.mul_one, Nat.zero_mul] at HPD HPT
        have hcm' := hcm.symm
        subst hcm'
        try simp only [Nat.sub_self] at HPD
        have hz : l2.length = 0 := by omega
        rw [hz] at HPD
        clear hz
        go_region_law (first
          | (refine Kd.R_append_rows_step k46 (w0 := w8) w6.heap.size (by rfl) (.tmp 80) (.tmp 85) 33 46 (.agg #[.string ⟨#[]⟩, .int .i64 0, .string ⟨#[]⟩, .string ⟨#[]⟩]) 56 (by rfl) Try.underlying33 info46 rfl (by decide) (by omega) v7 hs7 hs8 _ _ _ (fun _ => True) (fun _ => False) (by rfl) (by rfl) HV7'.out (Kd.R_reads' HV8.out).2.2 (fun x cs h => M_of_K46 _ _ x cs h) (fun _ h => h.elim) (fun _ _ => trivial) (Below.refl _ _) HS8.out (by have := HN8.out; omega) ?_; intro v9 w9 hR9 hb9 hg9 hat9)
          | (go_simp; go_at_call 11; refine (HPD.out HB7.out HR7.out (by have := HN7.out; omega)).mono ?_; rintro e w8 ⟨v8, hs8, s8, rfl, hp8, hv8, hr8, hf8⟩; obtain ⟨A8, c8, rfl⟩ := Kd.R_slice hv8; have HP8 := Aside0.mk hp8; have HV8 := Aside0.mk hv8; have HV7' := Aside0.mk (R46_new HV7.out hf8 HG26.out); have HF8 := Aside0.mk hf8; have HS8 := Aside0.mk (show w6.heap.size ≤ w8.heap.size from Nat.le_trans HS7.out hf8.size); have HN8 : Aside0 (hs7.length + hs8.length ≤ 200000000) := ⟨by have h1 := HP7.out.len; have h2 := hp8.len; have h3 := putB_len mt (l2.take 0); have h4 := putB_len mt (l2.drop 0); rw [List.length_take] at h3; rw [List.length_drop] at h4; have : (ByteArray.mk #[]).size = 0 := rfl; omega⟩; clear hp8 hv8 hf8)
          | (go_simp; go_at_call 11; refine (HPT.out (below_drew HB6.out) (HR2'.out.drewN 1) (Nat.zero_le _)).mono ?_; rintro e w7 ⟨v7, hs7, s7, rfl, hp7, hv7, hr7, hf7⟩; have HP7 := Aside0.mk hp7; have HV7 := Aside0.mk hv7; have HR7 := Aside0.mk hr7; have HF7 := Aside0.mk hf7; have HB7 := Aside0.mk ((below_drew HB6.out).trans (hf7.below (fun k e => e ▸ HG2.out) (below_drew HB6.out).size)); have HS7 := Aside0.mk (show w6.heap.size ≤ w7.heap.size from hf7.size); have HG26 := Aside0.mk (show g2 < w6.heap.size from HR2'.out.lt); have HN7 : Aside0 (s7.size ≤ 200000000) := ⟨by have h1 := hp7.len; have h3 := putB_len mt (l2.take 0); rw [List.length_take] at h3; have : (ByteArray.mk #[]).size = 0 := rfl; omega⟩; clear hp7 hv7 hr7 hf7))
        all_goals simp only [List.getElem_toArray, List.getElem_cons_succ, List.getElem_cons_zero, Act.put, List.setIfInBounds_toArray, List.set_cons_succ, List.set_cons_zero]
        all_goals go_wp2
        have hdet := (HP7.out.append HP8.out)
        rw [← putB_append, List.take_append_drop] at hdet
        obtain ⟨he1, he2⟩ := hdet.det HP6.out
        rw [he1] at hR9
        subst he2
        have hf9 := grown_Fr hg9
        have hN9 : ∀ k, some k = v7.ownBlock → w6.heap.size ≤ k := fun k hk => R46_base HV7.out k hk
        have hf68 : Fr (fun k => k = g2) w6 w8 := ((Fr.refl (fun k => k = g2) w6).drewN 1).trans (HF7.out.trans HF8.out (fun _ _ h => h)) (fun _ _ h => h)
        have hR1 : RD w9 o1 g1 m1 (mapF l0).1 (mapF l0).2 mt s8 := HR1'.out.far (HR1'.out.apart HP12.out.symm hf68) hf9 hN9
        have hR2 : RD w9 o2 g2 m2 (mapF l0).1 (mapF l0).2 mt s8 := HR2'.out.far hr8 hf9 hN9
        have hR3 : RD w9 o3 g3 m3 (mapF l0).1 (mapF l0).2 mt ⟨#[]⟩ := HR3'.out.far (HR3'.out.apart HP23.out hf68) hf9 hN9
        have hV6 : Kd.R k46 46 w9 w5.heap.size (fun _ => True) v6 hs6 := R46_fr (R46_new HV6.out hf68 HR2.out.lt) hf9 (fun k hk e => by have := hN9 k e; have := R46_lt HV6.out k hk; omega)
        have HB9 := Aside0.mk ((HB6.out.trans (hf68.below (fun k e => e ▸ HG2.out) HB6.out.size)).trans (hf9.below (B := w.heap.size) (fun k hk => Nat.le_trans HB6.out.size (hN9 k hk)) (Nat.le_trans HB6.out.size HS8.out)))
        have HV6' := Aside0.mk hV6
        have HV9 := Aside0.mk hR9
        have HQ1 := Aside0.mk hR1
        have HQ2 := Aside0.mk hR2
        have HOL3 := Aside0.mk hR3.km.olt
        have HGL3 := Aside0.mk hR3.lt
        have HLB := Aside0.mk (show hs6.length ≤ 200000000 by have h1 := HP6.out.len; have h2 := putB_len mt l2; have : (ByteArray.mk #[]).size = 0 := rfl; omega)
        have ST0 : Aside0 (EachSt w9 w9 o3 g3 m3 (mapF l0).1 (mapF l0).2 mt l2 0 (.slice none 0 0) [] ⟨#[]⟩) := ⟨⟨by cases mt <;> exact .nil, Kd.R_nil _ _ _ _ _, hR3, Fr.refl _ _⟩⟩
        clear hR9 hb9 hg9 hat9 hdet he1 hf9 hN9 hf68 hR1 hR2 hR3 hV6 hr8 HPT HPD HV7 HV7' HR7 HF7 HF8 HV8
        go_loopw [89, 20, 22] (fun i v _ wr => ∃ (k : Nat) (hs : List S46) (sk : ByteArray), k ≤ l2.length ∧ i = .int .i64 (k : Int) ∧ Aside0 (EachSt w9 wr o3 g3 m3 (mapF l0).1 (mapF l0).2 mt l2 k v hs sk)) (fun i v _ wr => l2.length - (intOf i).toNat)
        case atStart => exact ⟨0, [], _, Nat.zero_le _, rfl, ST0⟩
        case round =>
          obtain ⟨j, hl, sk, hj, rfl, HS⟩ := hrel
          obtain ⟨A, cp, rfl⟩ := Kd.R_slice HS.out.row
          have HLEN := Aside0.mk (HS.out.len hj)
          by_cases hlt : j < l2.length
          · exact absurd hlt (by omega)
          · obtain rfl : j = l2.length := by omega
            have hgo := HS.out.go
            rw [List.take_length] at hgo
            obtain ⟨rfl, rfl⟩ := hgo.det HP6.out
            have HW1 := Aside0.mk (HQ1.out.apart HP13.out.symm HS.out.fr)
            have HW2 := Aside0.mk (HQ2.out.apart HP23.out.symm HS.out.fr)
            have HW3 := Aside0.mk HS.out.rd
            have HX6 := Aside0.mk (R46_fr HV6'.out HS.out.fr (fun k hk e => by have := R46_base HV6'.out k hk; have := HR3.out.lt; omega))
            have HX9 := Aside0.mk (R46_fr HV9.out HS.out.fr (fun k hk e => by have := R46_base HV9.out k hk; have := HR3'.out.lt; omega))
            have HXE := Aside0.mk HS.out.row
            have HBE := Aside0.mk (HB9.out.trans (HS.out.fr.below (fun k e => e ▸ HG3.out) HB9.out.size))
            clear hgo hlt HS
            go_wp2_with (first
              | (go_at_call 12; go_loud (refine (hits_calls (Kd.R_drewN HX6.out nA) (Kd.R_drewN HXE.out nA) (by have := HLB.out; omega)).mono ?_; rintro e wB ⟨rfl, ⟨nB, rfl⟩⟩; have HE1 := Aside0.mk (HW1.out.drewN (nA + nB)); have HE2 := Aside0.mk (HW2.out.drewN (nA + nB)); have HE3 := Aside0.mk (HW3.out.drewN (nA + nB))))
              | (go_at_call 12; go_loud (refine (hits_calls HX6.out HX9.out (by have := HLB.out; omega)).mono ?_; rintro e wA ⟨rfl, ⟨nA, rfl⟩⟩))
              | (go_at_call 13; (with_reducible refine (waiting_calls HE1.out).mono ?_); rintro e w' ⟨rfl, rfl⟩)
              | (go_at_call 13; (with_reducible refine (waiting_calls HE2.out).mono ?_); rintro e w' ⟨rfl, rfl⟩)
              | (go_at_call 13; (with_reducible refine (waiting_calls HE3.out).mono ?_); rintro e w' ⟨rfl, rfl⟩))
            go_ret
            exact ⟨rfl, pw_below_drewN HBE.out _⟩
      · skip
        have HPT := Aside0.mk (fun {W : World} {s : ByteArray} hb h hs => put_take (k := 0) (W := W) (own := o2) (gm := m2) (F := (mapF l0).1) (c := (mapF l0).2) (mt := mt) (s := s) HC2.out hc2 hn2 HKL.out hb HG2.out h hs)
        have HPD := Aside0.mk (fun {W : World} {s : ByteArray} hb h hs => put_drop (k := 0) (W := W) (own := o2) (gm := m2) (F := (mapF l0).1) (c := (mapF l0).2) (mt := mt) (s := s) HC2.out hc2 hn2 HKL.out hb HG2.out h hs)
        rw [if_neg hcm] at HPD
        try simp only [Nat.sub_self, Nat.sub_zero, Nat.mul_one, Nat.zero_mul] at HPD HPT
        rw [show Option.map (fun x : Addr => x.add 0) A2 = A2 by cases A2 <;> rfl] at HPD
        go_region_law (first
          | (refine Kd.R_append_rows_step k46 (w0 := w8) w6.heap.size (by rfl) (.tmp 80) (.tmp 85) 33 46 (.agg #[.string ⟨#[]⟩, .int .i64 0, .string ⟨#[]⟩, .string ⟨#[]⟩]) 56 (by rfl) Try.underlying33 info46 rfl (by decide) (by omega) v7 hs7 hs8 _ _ _ (fun _ => True) (fun _ => False) (by rfl) (by rfl) HV7'.out (Kd.R_reads' HV8.out).2.2 (fun x cs h => M_of_K46 _ _ x cs h) (fun _ h => h.elim) (fun _ _ => trivial) (Below.refl _ _) HS8.out (by have := HN8.out; omega) ?_; intro v9 w9 hR9 hb9 hg9 hat9)
          | (go_simp; go_at_call 11; refine (HPD.out HB7.out HR7.out (by have := HN7.out; omega)).mono ?_; rintro e w8 ⟨v8, hs8, s8, rfl, hp8, hv8, hr8, hf8⟩; obtain ⟨A8, c8, rfl⟩ := Kd.R_slice hv8; have HP8 := Aside0.mk hp8; have HV8 := Aside0.mk hv8; have HV7' := Aside0.mk (R46_new HV7.out hf8 HG26.out); have HF8 := Aside0.mk hf8; have HS8 := Aside0.mk (show w6.heap.size ≤ w8.heap.size from Nat.le_trans HS7.out hf8.size); have HN8 : Aside0 (hs7.length + hs8.length ≤ 200000000) := ⟨by have h1 := HP7.out.len; have h2 := hp8.len; have h3 := putB_len mt (l2.take 0); have h4 := putB_len mt (l2.drop 0); rw [List.length_take] at h3; rw [List.length_drop] at h4; have : (ByteArray.mk #[]).size = 0 := rfl; omega⟩; clear hp8 hv8 hf8)
          | (go_simp; go_at_call 11; refine (HPT.out (below_drew HB6.out) (HR2'.out.drewN 1) (Nat.zero_le _)).mono ?_; rintro e w7 ⟨v7, hs7, s7, rfl, hp7, hv7, hr7, hf7⟩; have HP7 := Aside0.mk hp7; have HV7 := Aside0.mk hv7; have HR7 := Aside0.mk hr7; have HF7 := Aside0.mk hf7; have HB7 := Aside0.mk ((below_drew HB6.out).trans (hf7.below (fun k e => e ▸ HG2.out) (below_drew HB6.out).size)); have HS7 := Aside0.mk (show w6.heap.size ≤ w7.heap.size from hf7.size); have HG26 := Aside0.mk (show g2 < w6.heap.size from HR2'.out.lt); have HN7 : Aside0 (s7.size ≤ 200000000) := ⟨by have h1 := hp7.len; have h3 := putB_len mt (l2.take 0); rw [List.length_take] at h3; have : (ByteArray.mk #[]).size = 0 := rfl; omega⟩; clear hp7 hv7 hr7 hf7))
        all_goals simp only [List.getElem_toArray, List.getElem_cons_succ, List.getElem_cons_zero, Act.put, List.setIfInBounds_toArray, List.set_cons_succ, List.set_cons_zero]
        all_goals go_wp2
        have hdet := (HP7.out.append HP8.out)
        rw [← putB_append, List.take_append_drop] at hdet
        obtain ⟨he1, he2⟩ := hdet.det HP6.out
        rw [he1] at hR9
        subst he2
        have hf9 := grown_Fr hg9
        have hN9 : ∀ k, some k = v7.ownBlock → w6.heap.size ≤ k := fun k hk => R46_base HV7.out k hk
        have hf68 : Fr (fun k => k = g2) w6 w8 := ((Fr.refl (fun k => k = g2) w6).drewN 1).trans (HF7.out.trans HF8.out (fun _ _ h => h)) (fun _ _ h => h)
        have hR1 : RD w9 o1 g1 m1 (mapF l0).1 (mapF l0).2 mt s8 := HR1'.out.far (HR1'.out.apart HP12.out.symm hf68) hf9 hN9
        have hR2 : RD w9 o2 g2 m2 (mapF l0).1 (mapF l0).2 mt s8 := HR2'.out.far hr8 hf9 hN9
        have hR3 : RD w9 o3 g3 m3 (mapF l0).1 (mapF l0).2 mt ⟨#[]⟩ := HR3'.out.far (HR3'.out.apart HP23.out hf68) hf9 hN9
        have hV6 : Kd.R k46 46 w9 w5.heap.size (fun _ => True) v6 hs6 := R46_fr (R46_new HV6.out hf68 HR2.out.lt) hf9 (fun k hk e => by have := hN9 k e; have := R46_lt HV6.out k hk; omega)
        have HB9 := Aside0.mk ((HB6.out.trans (hf68.below (fun k e => e ▸ HG2.out) HB6.out.size)).trans (hf9.below (B := w.heap.size) (fun k hk => Nat.le_trans HB6.out.size (hN9 k hk)) (Nat.le_trans HB6.out.size HS8.out)))
        have HV6' := Aside0.mk hV6
        have HV9 := Aside0.mk hR9
        have HQ1 := Aside0.mk hR1
        have HQ2 := Aside0.mk hR2
        have HOL3 := Aside0.mk hR3.km.olt
        have HGL3 := Aside0.mk hR3.lt
        have HLB := Aside0.mk (show hs6.length ≤ 200000000 by have h1 := HP6.out.len; have h2 := putB_len mt l2; have : (ByteArray.mk #[]).size = 0 := rfl; omega)
        have ST0 : Aside0 (EachSt w9 w9 o3 g3 m3 (mapF l0).1 (mapF l0).2 mt l2 0 (.slice none 0 0) [] ⟨#[]⟩) := ⟨⟨by cases mt <;> exact .nil, Kd.R_nil _ _ _ _ _, hR3, Fr.refl _ _⟩⟩
        clear hR9 hb9 hg9 hat9 hdet he1 hf9 hN9 hf68 hR1 hR2 hR3 hV6 hr8 HPT HPD HV7 HV7' HR7 HF7 HF8 HV8
        go_loopw [89, 20, 22] (fun i v _ wr => ∃ (k : Nat) (hs : List S46) (sk : ByteArray), k ≤ l2.length ∧ i = .int .i64 (k : Int) ∧ Aside0 (EachSt w9 wr o3 g3 m3 (mapF l0).1 (mapF l0).2 mt l2 k v hs sk)) (fun i v _ wr => l2.length - (intOf i).toNat)
        case atStart => exact ⟨0, [], _, Nat.zero_le _, rfl, ST0⟩
        case round =>
          obtain ⟨j, hl, sk, hj, rfl, HS⟩ := hrel
          obtain ⟨A, cp, rfl⟩ := Kd.R_slice HS.out.row
          have HLEN := Aside0.mk (HS.out.len hj)
          by_cases hlt : j < l2.length
          · exact absurd hlt (by omega)
          · obtain rfl : j = l2.length := by omega
            have hgo := HS.out.go
            rw [List.take_length] at hgo
            obtain ⟨rfl, rfl⟩ := hgo.det HP6.out
            have HW1 := Aside0.mk (HQ1.out.apart HP13.out.symm HS.out.fr)
            have HW2 := Aside0.mk (HQ2.out.apart HP23.out.symm HS.out.fr)
            have HW3 := Aside0.mk HS.out.rd
            have HX6 := Aside0.mk (R46_fr HV6'.out HS.out.fr (fun k hk e => by have := R46_base HV6'.out k hk; have := HR3.out.lt; omega))
            have HX9 := Aside0.mk (R46_fr HV9.out HS.out.fr (fun k hk e => by have := R46_base HV9.out k hk; have := HR3'.out.lt; omega))
            have HXE := Aside0.mk HS.out.row
            have HBE := Aside0.mk (HB9.out.trans (HS.out.fr.below (fun k e => e ▸ HG3.out) HB9.out.size))
            clear hgo hlt HS
            go_wp2_with (first
              | (go_at_call 12; go_loud (refine (hits_calls (Kd.R_drewN HX6.out nA) (Kd.R_drewN HXE.out nA) (by have := HLB.out; omega)).mono ?_; rintro e wB ⟨rfl, ⟨nB, rfl⟩⟩; have HE1 := Aside0.mk (HW1.out.drewN (nA + nB)); have HE2 := Aside0.mk (HW2.out.drewN (nA + nB)); have HE3 := Aside0.mk (HW3.out.drewN (nA + nB))))
              | (go_at_call 12; go_loud (refine (hits_calls HX6.out HX9.out (by have := HLB.out; omega)).mono ?_; rintro e wA ⟨rfl, ⟨nA, rfl⟩⟩))
              | (go_at_call 13; (with_reducible refine (waiting_calls HE1.out).mono ?_); rintro e w' ⟨rfl, rfl⟩)
              | (go_at_call 13; (with_reducible refine (waiting_calls HE2.out).mono ?_); rintro e w' ⟨rfl, rfl⟩)
              | (go_at_call 13; (with_reducible refine (waiting_calls HE3.out).mono ?_); rintro e w' ⟨rfl, rfl⟩))
            go_ret
            exact ⟨rfl, pw_below_drewN HBE.out _⟩
  · have HKL : Aside0 (0 ≤ l2.length) := ⟨Nat.zero_le _⟩
    go_upto_region 13 with (first | (go_at_call 11; go_loud (refine (put_all HC2.out hc2 hn2 HB5.out HG1.out HR1.out (Nat.zero_le _)).mono ?_; rintro e w6 ⟨v6, hs6, s6, rfl, hp6, hv6, hr6, hf6⟩; have HP6 := Aside0.mk hp6; have HV6 := Aside0.mk hv6; have HR1' := Aside0.mk hr6; have HR2' := Aside0.mk (HR2.out.apart HP12.out hf6); have HR3' := Aside0.mk (HR3.out.apart HP13.out hf6); have HB6 := Aside0.mk (HB5.out.trans (hf6.below (fun k e => e ▸ HG1.out) HB5.out.size)); have HS6 := Aside0.mk (show w5.heap.size ≤ w6.heap.size from hf6.size); clear hp6 hv6 hr6 hf6)))
    by_cases hcm : c2 = 0
    · skip
      have HPT := Aside0.mk (fun {W : World} {s : ByteArray} hb h hs => put_take (k := 0) (W := W) (own := o2) (gm := m2) (F := (mapF l0).1) (c := (mapF l0).2) (mt := mt) (s := s) HC2.out hc2 hn2 HKL.out hb HG2.out h hs)
      have HPD := Aside0.mk (fun {W : World} {s : ByteArray} hb h hs => put_drop (k := 0) (W := W) (own := o2) (gm := m2) (F := (mapF l0).1) (c := (mapF l0).2) (mt := mt) (s := s) HC2.out hc2 hn2 HKL.out hb HG2.out h hs)
      rw [if_pos hcm] at HPD
      try simp only [Nat.sub_self, Nat.sub_zero, Nat.mul_one, Nat.zero_mul] at HPD HPT
      have hcm' := hcm.symm
      subst hcm'
      try simp only [Nat.sub_self] at HPD
      have hz : l2.length = 0 := by omega
      rw [hz] at HPD
      clear hz
      go_region_law (first
        | (refine Kd.R_append_rows_step k46 (w0 := w8) w6.heap.size (by rfl) (.tmp 80) (.tmp 85) 33 46 (.agg #[.string ⟨#[]⟩, .int .i64 0, .string ⟨#[]⟩, .string ⟨#[]⟩]) 56 (by rfl) Try.underlying33 info46 rfl (by decide) (by omega) v7 hs7 hs8 _ _ _ (fun _ => True) (fun _ => False) (by rfl) (by rfl) HV7'.out (Kd.R_reads' HV8.out).2.2 (fun x cs h => M_of_K46 _ _ x cs h) (fun _ h => h.elim) (fun _ _ => trivial) (Below.refl _ _) HS8.out (by have := HN8.out; omega) ?_; intro v9 w9 hR9 hb9 hg9 hat9)
        | (go_simp; go_at_call 11; refine (HPD.out HB7.out HR7.out (by have := HN7.out; omega)).mono ?_; rintro e w8 ⟨v8, hs8, s8, rfl, hp8, hv8, hr8, hf8⟩; obtain ⟨A8, c8, rfl⟩ := Kd.R_slice hv8; have HP8 := Aside0.mk hp8; have HV8 := Aside0.mk hv8; have HV7' := Aside0.mk (R46_new HV7.out hf8 HG26.out); have HF8 := Aside0.mk hf8; have HS8 := Aside0.mk (show w6.heap.size ≤ w8.heap.size from Nat.le_trans HS7.out hf8.size); have HN8 : Aside0 (hs7.length + hs8.length ≤ 200000000) := ⟨by have h1 := HP7.out.len; have h2 := hp8.len; have h3 := putB_len mt (l2.take 0); have h4 := putB_len mt (l2.drop 0); rw [List.length_take] at h3; rw [List.length_drop] at h4; have : (ByteArray.mk #[]).size = 0 := rfl; omega⟩; clear hp8 hv8 hf8)
        | (go_simp; go_at_call 11; refine (HPT.out (below_drew HB6.out) (HR2'.out.drewN 1) (Nat.zero_le _)).mono ?_; rintro e w7 ⟨v7, hs7, s7, rfl, hp7, hv7, hr7, hf7⟩; have HP7 := Aside0.mk hp7; have HV7 := Aside0.mk hv7; have HR7 := Aside0.mk hr7; have HF7 := Aside0.mk hf7; have HB7 := Aside0.mk ((below_drew HB6.out).trans (hf7.below (fun k e => e ▸ HG2.out) (below_drew HB6.out).size)); have HS7 := Aside0.mk (show w6.heap.size ≤ w7.heap.size from hf7.size); have HG26 := Aside0.mk (show g2 < w6.heap.size from HR2'.out.lt); have HN7 : Aside0 (s7.size ≤ 200000000) := ⟨by have h1 := hp7.len; have h3 := putB_len mt (l2.take 0); rw [List.length_take] at h3; have : (ByteArray.mk #[]).size = 0 := rfl; omega⟩; clear hp7 hv7 hr7 hf7))
      all_goals simp only [List.getElem_toArray, List.getElem_cons_succ, List.getElem_cons_zero, Act.put, List.setIfInBounds_toArray, List.set_cons_succ, List.set_cons_zero]
      all_goals go_wp2
      have hdet := (HP7.out.append HP8.out)
      rw [← putB_append, List.take_append_drop] at hdet
      obtain ⟨he1, he2⟩ := hdet.det HP6.out
      rw [he1] at hR9
      subst he2
      have hf9 := grown_Fr hg9
      have hN9 : ∀ k, some k = v7.ownBlock → w6.heap.size ≤ k := fun k hk => R46_base HV7.out k hk
      have hf68 : Fr (fun k => k = g2) w6 w8 := ((Fr.refl (fun k => k = g2) w6).drewN 1).trans (HF7.out.trans HF8.out (fun _ _ h => h)) (fun _ _ h => h)
      have hR1 : RD w9 o1 g1 m1 (mapF l0).1 (mapF l0).2 mt s8 := HR1'.out.far (HR1'.out.apart HP12.out.symm hf68) hf9 hN9
      have hR2 : RD w9 o2 g2 m2 (mapF l0).1 (mapF l0).2 mt s8 := HR2'.out.far hr8 hf9 hN9
      have hR3 : RD w9 o3 g3 m3 (mapF l0).1 (mapF l0).2 mt ⟨#[]⟩ := HR3'.out.far (HR3'.out.apart HP23.out hf68) hf9 hN9
      have hV6 : Kd.R k46 46 w9 w5.heap.size (fun _ => True) v6 hs6 := R46_fr (R46_new HV6.out hf68 HR2.out.lt) hf9 (fun k hk e => by have := hN9 k e; have := R46_lt HV6.out k hk; omega)
      have HB9 := Aside0.mk ((HB6.out.trans (hf68.below (fun k e => e ▸ HG2.out) HB6.out.size)).trans (hf9.below (B := w.heap.size) (fun k hk => Nat.le_trans HB6.out.size (hN9 k hk)) (Nat.le_trans HB6.out.size HS8.out)))
      have HV6' := Aside0.mk hV6
      have HV9 := Aside0.mk hR9
      have HQ1 := Aside0.mk hR1
      have HQ2 := Aside0.mk hR2
      have HOL3 := Aside0.mk hR3.km.olt
      have HGL3 := Aside0.mk hR3.lt
      have HLB := Aside0.mk (show hs6.length ≤ 200000000 by have h1 := HP6.out.len; have h2 := putB_len mt l2; have : (ByteArray.mk #[]).size = 0 := rfl; omega)
      have ST0 : Aside0 (EachSt w9 w9 o3 g3 m3 (mapF l0).1 (mapF l0).2 mt l2 0 (.slice none 0 0) [] ⟨#[]⟩) := ⟨⟨by cases mt <;> exact .nil, Kd.R_nil _ _ _ _ _, hR3, Fr.refl _ _⟩⟩
      clear hR9 hb9 hg9 hat9 hdet he1 hf9 hN9 hf68 hR1 hR2 hR3 hV6 hr8 HPT HPD HV7 HV7' HR7 HF7 HF8 HV8
      go_loopw [89, 20, 22] (fun i v _ wr => ∃ (k : Nat) (hs : List S46) (sk : ByteArray), k ≤ l2.length ∧ i = .int .i64 (k : Int) ∧ Aside0 (EachSt w9 wr o3 g3 m3 (mapF l0).1 (mapF l0).2 mt l2 k v hs sk)) (fun i v _ wr => l2.length - (intOf i).toNat)
      case atStart => exact ⟨0, [], _, Nat.zero_le _, rfl, ST0⟩
      case round =>
        obtain ⟨j, hl, sk, hj, rfl, HS⟩ := hrel
        obtain ⟨A, cp, rfl⟩ := Kd.R_slice HS.out.row
        have HLEN := Aside0.mk (HS.out.len hj)
        by_cases hlt : j < l2.length
        · exact absurd hlt (by omega)
        · obtain rfl : j = l2.length := by omega
          have hgo := HS.out.go
          rw [List.take_length] at hgo
          obtain ⟨rfl, rfl⟩ := hgo.det HP6.out
          have HW1 := Aside0.mk (HQ1.out.apart HP13.out.symm HS.out.fr)
          have HW2 := Aside0.mk (HQ2.out.apart HP23.out.symm HS.out.fr)
          have HW3 := Aside0.mk HS.out.rd
          have HX6 := Aside0.mk (R46_fr HV6'.out HS.out.fr (fun k hk e => by have := R46_base HV6'.out k hk; have := HR3.out.lt; omega))
          have HX9 := Aside0.mk (R46_fr HV9.out HS.out.fr (fun k hk e => by have := R46_base HV9.out k hk; have := HR3'.out.lt; omega))
          have HXE := Aside0.mk HS.out.row
          have HBE := Aside0.mk (HB9.out.trans (HS.out.fr.below (fun k e => e ▸ HG3.out) HB9.out.size))
          clear hgo hlt HS
          go_wp2_with (first
            | (go_at_call 12; go_loud (refine (hits_calls (Kd.R_drewN HX6.out nA) (Kd.R_drewN HXE.out nA) (by have := HLB.out; omega)).mono ?_; rintro e wB ⟨rfl, ⟨nB, rfl⟩⟩; have HE1 := Aside0.mk (HW1.out.drewN (nA + nB)); have HE2 := Aside0.mk (HW2.out.drewN (nA + nB)); have HE3 := Aside0.mk (HW3.out.drewN (nA + nB))))
            | (go_at_call 12; go_loud (refine (hits_calls HX6.out HX9.out (by have := HLB.out; omega)).mono ?_; rintro e wA ⟨rfl, ⟨nA, rfl⟩⟩))
            | (go_at_call 13; (with_reducible refine (waiting_calls HE1.out).mono ?_); rintro e w' ⟨rfl, rfl⟩)
            | (go_at_call 13; (with_reducible refine (waiting_calls HE2.out).mono ?_); rintro e w' ⟨rfl, rfl⟩)
            | (go_at_call 13; (with_reducible refine (waiting_calls HE3.out).mono ?_); rintro e w' ⟨rfl, rfl⟩))
          go_ret
          exact ⟨rfl, pw_below_drewN HBE.out _⟩
    · skip
      have HPT := Aside0.mk (fun {W : World} {s : ByteArray} hb h hs => put_take (k := 0) (W := W) (own := o2) (gm := m2) (F := (mapF l0).1) (c := (mapF l0).2) (mt := mt) (s := s) HC2.out hc2 hn2 HKL.out hb HG2.out h hs)
      have HPD := Aside0.mk (fun {W : World} {s : ByteArray} hb h hs => put_drop (k := 0) (W := W) (own := o2) (gm := m2) (F := (mapF l0).1) (c := (mapF l0).2) (mt := mt) (s := s) HC2.out hc2 hn2 HKL.out hb HG2.out h hs)
      rw [if_neg hcm] at HPD
      try simp only [Nat.sub_self, Nat.sub_zero, Nat.mul_one, Nat.zero_mul] at HPD HPT
      rw [show Option.map (fun x : Addr => x.add 0) A2 = A2 by cases A2 <;> rfl] at HPD
      go_region_law (first
        | (refine Kd.R_append_rows_step k46 (w0 := w8) w6.heap.size (by rfl) (.tmp 80) (.tmp 85) 33 46 (.agg #[.string ⟨#[]⟩, .int .i64 0, .string ⟨#[]⟩, .string ⟨#[]⟩]) 56 (by rfl) Try.underlying33 info46 rfl (by decide) (by omega) v7 hs7 hs8 _ _ _ (fun _ => True) (fun _ => False) (by rfl) (by rfl) HV7'.out (Kd.R_reads' HV8.out).2.2 (fun x cs h => M_of_K46 _ _ x cs h) (fun _ h => h.elim) (fun _ _ => trivial) (Below.refl _ _) HS8.out (by have := HN8.out; omega) ?_; intro v9 w9 hR9 hb9 hg9 hat9)
        | (go_simp; go_at_call 11; refine (HPD.out HB7.out HR7.out (by have := HN7.out; omega)).mono ?_; rintro e w8 ⟨v8, hs8, s8, rfl, hp8, hv8, hr8, hf8⟩; obtain ⟨A8, c8, rfl⟩ := Kd.R_slice hv8; have HP8 := Aside0.mk hp8; have HV8 := Aside0.mk hv8; have HV7' := Aside0.mk (R46_new HV7.out hf8 HG26.out); have HF8 := Aside0.mk hf8; have HS8 := Aside0.mk (show w6.heap.size ≤ w8.heap.size from Nat.le_trans HS7.out hf8.size); have HN8 : Aside0 (hs7.length + hs8.length ≤ 200000000) := ⟨by have h1 := HP7.out.len; have h2 := hp8.len; have h3 := putB_len mt (l2.take 0); have h4 := putB_len mt (l2.drop 0); rw [List.length_take] at h3; rw [List.length_drop] at h4; have : (ByteArray.mk #[]).size = 0 := rfl; omega⟩; clear hp8 hv8 hf8)
        | (go_simp; go_at_call 11; refine (HPT.out (below_drew HB6.out) (HR2'.out.drewN 1) (Nat.zero_le _)).mono ?_; rintro e w7 ⟨v7, hs7, s7, rfl, hp7, hv7, hr7, hf7⟩; have HP7 := Aside0.mk hp7; have HV7 := Aside0.mk hv7; have HR7 := Aside0.mk hr7; have HF7 := Aside0.mk hf7; have HB7 := Aside0.mk ((below_drew HB6.out).trans (hf7.below (fun k e => e ▸ HG2.out) (below_drew HB6.out).size)); have HS7 := Aside0.mk (show w6.heap.size ≤ w7.heap.size from hf7.size); have HG26 := Aside0.mk (show g2 < w6.heap.size from HR2'.out.lt); have HN7 : Aside0 (s7.size ≤ 200000000) := ⟨by have h1 := hp7.len; have h3 := putB_len mt (l2.take 0); rw [List.length_take] at h3; have : (ByteArray.mk #[]).size = 0 := rfl; omega⟩; clear hp7 hv7 hr7 hf7))
      all_goals simp only [List.getElem_toArray, List.getElem_cons_succ, List.getElem_cons_zero, Act.put, List.setIfInBounds_toArray, List.set_cons_succ, List.set_cons_zero]
      all_goals go_wp2
      have hdet := (HP7.out.append HP8.out)
      rw [← putB_append, List.take_append_drop] at hdet
      obtain ⟨he1, he2⟩ := hdet.det HP6.out
      rw [he1] at hR9
      subst he2
      have hf9 := grown_Fr hg9
      have hN9 : ∀ k, some k = v7.ownBlock → w6.heap.size ≤ k := fun k hk => R46_base HV7.out k hk
      have hf68 : Fr (fun k => k = g2) w6 w8 := ((Fr.refl (fun k => k = g2) w6).drewN 1).trans (HF7.out.trans HF8.out (fun _ _ h => h)) (fun _ _ h => h)
      have hR1 : RD w9 o1 g1 m1 (mapF l0).1 (mapF l0).2 mt s8 := HR1'.out.far (HR1'.out.apart HP12.out.symm hf68) hf9 hN9
      have hR2 : RD w9 o2 g2 m2 (mapF l0).1 (mapF l0).2 mt s8 := HR2'.out.far hr8 hf9 hN9
      have hR3 : RD w9 o3 g3 m3 (mapF l0).1 (mapF l0).2 mt ⟨#[]⟩ := HR3'.out.far (HR3'.out.apart HP23.out hf68) hf9 hN9
      have hV6 : Kd.R k46 46 w9 w5.heap.size (fun _ => True) v6 hs6 := R46_fr (R46_new HV6.out hf68 HR2.out.lt) hf9 (fun k hk e => by have := hN9 k e; have := R46_lt HV6.out k hk; omega)
      have HB9 := Aside0.mk ((HB6.out.trans (hf68.below (fun k e => e ▸ HG2.out) HB6.out.size)).trans (hf9.below (B := w.heap.size) (fun k hk => Nat.le_trans HB6.out.size (hN9 k hk)) (Nat.le_trans HB6.out.size HS8.out)))
      have HV6' := Aside0.mk hV6
      have HV9 := Aside0.mk hR9
      have HQ1 := Aside0.mk hR1
      have HQ2 := Aside0.mk hR2
      have HOL3 := Aside0.mk hR3.km.olt
      have HGL3 := Aside0.mk hR3.lt
      have HLB := Aside0.mk (show hs6.length ≤ 200000000 by have h1 := HP6.out.len; have h2 := putB_len mt l2; have : (ByteArray.mk #[]).size = 0 := rfl; omega)
      have ST0 : Aside0 (EachSt w9 w9 o3 g3 m3 (mapF l0).1 (mapF l0).2 mt l2 0 (.slice none 0 0) [] ⟨#[]⟩) := ⟨⟨by cases mt <;> exact .nil, Kd.R_nil _ _ _ _ _, hR3, Fr.refl _ _⟩⟩
      clear hR9 hb9 hg9 hat9 hdet he1 hf9 hN9 hf68 hR1 hR2 hR3 hV6 hr8 HPT HPD HV7 HV7' HR7 HF7 HF8 HV8
      go_loopw [89, 20, 22] (fun i v _ wr => ∃ (k : Nat) (hs : List S46) (sk : ByteArray), k ≤ l2.length ∧ i = .int .i64 (k : Int) ∧ Aside0 (EachSt w9 wr o3 g3 m3 (mapF l0).1 (mapF l0).2 mt l2 k v hs sk)) (fun i v _ wr => l2.length - (intOf i).toNat)
      case atStart => exact ⟨0, [], _, Nat.zero_le _, rfl, ST0⟩
      case round =>
        obtain ⟨j, hl, sk, hj, rfl, HS⟩ := hrel
        obtain ⟨A, cp, rfl⟩ := Kd.R_slice HS.out.row
        have HLEN := Aside0.mk (HS.out.len hj)
        by_cases hlt : j < l2.length
        · obtain ⟨ad, e7, hx0⟩ := Kd.at_int (row_in HC2.out HB9.out HG3.out HS.out.fr) (j : Int) (by omega) (by omega)
          cases e7
          rw [rd_nat l2 j hlt, Int.toNat_natCast] at hx0
          have HLT := Aside0.mk hlt
          have hlt' : (j : Int) < (l2.length : Int) := by omega
          have hstep := fun v1 w1 h1 s1 => HS.out.step (v1 := v1) (w1 := w1) (h1 := h1) (s1 := s1) hlt
          generalize l2[j] = x at hx0 hstep
          have HST := Aside0.mk hstep
          clear hstep
          have hal := below_alloc (Below.refl wr.heap.size wr) (.cells #[.int .u8 x] 5)
          have HRA := Aside0.mk (HS.out.rd.below hal)
          have HVA := Aside0.mk (Kd.R_alloc HS.out.row (.cells #[.int .u8 x] 5))
          have HFA := Aside0.mk (HS.out.fr.alloc (.cells #[.int .u8 x] 5))
          have HGA := Aside0.mk HS.out.rd.lt
          clear hal
          go_wp2_with (first
            | ((with_reducible refine gate_builtin (b := .append) (xs := #[.tmp 93, .tmp 97]) rfl ?_); at_builtin; go_loud (refine Kd.R_append_rows k46 (w0 := w10) w9.heap.size rfl (.tmp 93) (.tmp 97) 33 46 (.agg #[.string ⟨#[]⟩, .int .i64 0, .string ⟨#[]⟩, .string ⟨#[]⟩]) 56 rfl Try.underlying33 info46 rfl (by decide) (by omega) (.slice A hl.length cp) hl hs10 _ _ _ (fun _ => True) (fun _ => False) rfl rfl HVB.out (Kd.R_reads' HV10.out).2.2 (fun x cs h => M_of_K46 _ _ x cs h) (fun _ h => h.elim) (fun _ _ => trivial) (Below.refl _ _) HF10.out.size (by have := HLEN.out; have := HN10.out; omega) ?_); intro v11 w11 hR11 hb11 hg11 hat11)
            | (go_at_call 11; go_loud (refine (put_calls' HRA.out (some ⟨wr.heap.size, 0, none⟩) 1 [x] (lit5C wr x HGA.out) (Nat.le_refl _) (by have := HLEN.out; simp; omega)).mono ?_; rintro e w10 ⟨v10, hs10, s10, rfl, hp10, hv10, hr10, hf10⟩; obtain ⟨A10, c10, rfl⟩ := Kd.R_slice hv10; have HP10 := Aside0.mk hp10; have HV10 := Aside0.mk hv10; have HR10 := Aside0.mk hr10; have HVB := Aside0.mk (R46_new HVA.out hf10 HGL3.out); have HF10 := Aside0.mk (HFA.out.trans hf10 (fun _ _ h => h)); have HN10 : Aside0 (hs10.length ≤ 300000000) := ⟨by have h1 := hp10.len; have h2 := putB_len mt [x]; have h3 := HLEN.out; simp only [List.length_singleton] at h2; omega⟩; clear hp10 hv10 hr10 hf10)))
          obtain ⟨hR12, hF12⟩ := grown_RD HR10.out HF10.out HVB.out HOL3.out HGL3.out hg11
          have HN := Aside0.mk (HST.out _ _ _ _ HP10.out hR11 hR12 hF12)
          clear hR11 hb11 hg11 hat11 hR12 hF12
          go_roundw
          case rel => first | exact ⟨j + 1, _, _, HLT.out, by simp, HN⟩ | ((repeat apply Exists.intro); exact ⟨⟨j + 1, _, _, HLT.out, by simp, HN⟩, rfl⟩)
          case measure => simp [intOf]; omega
        · obtain rfl : j = l2.length := by omega
          have hgo := HS.out.go
          rw [List.take_length] at hgo
          obtain ⟨rfl, rfl⟩ := hgo.det HP6.out
          have HW1 := Aside0.mk (HQ1.out.apart HP13.out.symm HS.out.fr)
          have HW2 := Aside0.mk (HQ2.out.apart HP23.out.symm HS.out.fr)
          have HW3 := Aside0.mk HS.out.rd
          have HX6 := Aside0.mk (R46_fr HV6'.out HS.out.fr (fun k hk e => by have := R46_base HV6'.out k hk; have := HR3.out.lt; omega))
          have HX9 := Aside0.mk (R46_fr HV9.out HS.out.fr (fun k hk e => by have := R46_base HV9.out k hk; have := HR3'.out.lt; omega))
          have HXE := Aside0.mk HS.out.row
          have HBE := Aside0.mk (HB9.out.trans (HS.out.fr.below (fun k e => e ▸ HG3.out) HB9.out.size))
          clear hgo hlt HS
          go_wp2_with (first
            | (go_at_call 12; go_loud (refine (hits_calls (Kd.R_drewN HX6.out nA) (Kd.R_drewN HXE.out nA) (by have := HLB.out; omega)).mono ?_; rintro e wB ⟨rfl, ⟨nB, rfl⟩⟩; have HE1 := Aside0.mk (HW1.out.drewN (nA + nB)); have HE2 := Aside0.mk (HW2.out.drewN (nA + nB)); have HE3 := Aside0.mk (HW3.out.drewN (nA + nB))))
            | (go_at_call 12; go_loud (refine (hits_calls HX6.out HX9.out (by have := HLB.out; omega)).mono ?_; rintro e wA ⟨rfl, ⟨nA, rfl⟩⟩))
            | (go_at_call 13; (with_reducible refine (waiting_calls HE1.out).mono ?_); rintro e w' ⟨rfl, rfl⟩)
            | (go_at_call 13; (with_reducible refine (waiting_calls HE2.out).mono ?_); rintro e w' ⟨rfl, rfl⟩)
            | (go_at_call 13; (with_reducible refine (waiting_calls HE3.out).mono ?_); rintro e w' ⟨rfl, rfl⟩))
          go_ret
          exact ⟨rfl, pw_below_drewN HBE.out _⟩
end Go.Proofs.Ytcnkgodooignpaa
