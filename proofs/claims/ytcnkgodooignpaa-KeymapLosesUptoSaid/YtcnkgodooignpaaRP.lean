/-
  begun: of two sequences the longer is read.
-/
import Derived.Test.YtcnkgodooignpaaRO
namespace Go.Proofs.Ytcnkgodooignpaa
open Go.RowKit Go.WideShapes Go.Proofs.YtcnkgodooignpaaW.PrintWords Go.Proofs.YtcnkgodooignpaaW.PrintLast Go.Proofs.YtcnkgodooignpaaW.PrintMore Go.Proofs.Ytcnkgodooignpaa.PAll
set_option linter.unusedVariables false
set_option linter.unusedSimpArgs false
attribute [local go_sem] max2_int min2_int max_two min_two max_three min_three max_four min_four
def bdx : Bd := ⟨1, ⟨#[120]⟩, ⟨#[]⟩⟩
def bdy : Bd := ⟨1, ⟨#[121]⟩, ⟨#[]⟩⟩
def Fx : Key := upd (fun _ => none) [97] (some bdx)
def Fxy : Key := upd Fx [97, 98] (some bdy)
theorem may_x : mayB bdx = true := by kernel_rfl
theorem may_y : mayB bdy = true := by kernel_rfl
theorem bindE_x : bindE (fun _ => none) 0 ⟨#[97]⟩ bdx = 0 := by
  unfold bindE
  rw [may_x]
  rfl
theorem bindF_x : bindF (fun _ => none) 0 ⟨#[97]⟩ bdx = Fx := by
  unfold bindF
  rw [bindE_x]
  rfl
theorem bindC_x : bindC (fun _ => none) 0 ⟨#[97]⟩ bdx = 1 := by
  unfold bindC
  rw [bindE_x]
  rfl
theorem Fx_ab : Fx [97, 98] = none := rfl
theorem bindE_y : bindE Fx 1 ⟨#[97, 98]⟩ bdy = 0 := by
  unfold bindE
  rw [may_y]
  rfl
theorem bindF_y : bindF Fx 1 ⟨#[97, 98]⟩ bdy = Fxy := by
  unfold bindF
  rw [bindE_y]
  rfl
theorem bindC_y : bindC Fx 1 ⟨#[97, 98]⟩ bdy = 2 := by
  unfold bindC
  rw [bindE_y]
  rfl
theorem Fxy_a : Fxy [97] = some bdx := rfl
theorem Fxy_ab : Fxy [97, 98] = some bdy := rfl
theorem kind_a : kindOf Fxy [97] = 3 := by
  unfold kindOf
  rw [if_pos (by rw [Fxy_a]; rfl), if_pos ⟨98, [], by show (Fxy [97, 98]).isSome = true; rw [Fxy_ab]; rfl⟩]
  rfl
theorem kind_ab : kindOf Fxy [97, 98] = 2 := by
  unfold kindOf
  rw [if_pos (by rw [Fxy_ab]; rfl), if_neg ?_]
  · rfl
  · rintro ⟨u, r, h⟩
    have h1 : Fxy ([97, 98] ++ u :: r) = none := by
      unfold Fxy Fx
      rw [upd_other _ _ (by simp), upd_other _ _ (by simp)]
    rw [h1] at h
    cases h
theorem puts_a : Puts Fxy ⟨#[]⟩ [97] [] ⟨#[97]⟩ := by
  have h : Reads Fxy (⟨#[]⟩ ++ strOfNums [97]) [] ⟨#[97]⟩ := Reads.stop (s := ⟨#[97]⟩) (.inr (.inr kind_a))
  exact Puts.cons h Puts.nil
theorem cut_ab : cutN Fxy ⟨#[97, 98]⟩ = 2 := by
  have h : longN Fxy (ByteArray.mk #[97, 98]).data.toList (ByteArray.mk #[97, 98]).size = 2 := longN_all (by decide) Fxy_ab
  unfold cutN
  rw [h]
  rfl
theorem bdAt_ab : bdAt Fxy ⟨#[97, 98]⟩ = bdy := by
  have h : longN Fxy (ByteArray.mk #[97, 98]).data.toList (ByteArray.mk #[97, 98]).size = 2 := longN_all (by decide) Fxy_ab
  unfold bdAt
  rw [h]
  rfl
theorem puts_ab : Puts Fxy ⟨#[97]⟩ [98] [⟨⟨#[97, 98]⟩, ⟨1, ⟨#[121]⟩, ⟨#[]⟩⟩⟩] ⟨#[]⟩ := by
  have h : Reads Fxy ⟨#[97, 98]⟩ [mkHit ⟨#[97, 98]⟩ (cutN Fxy ⟨#[97, 98]⟩) (bdAt Fxy ⟨#[97, 98]⟩)] ⟨#[]⟩ := by
    refine Reads.step (by decide) (fun h => ?_) (fun h => ?_) ?_
    · have := kind_ab.symm.trans h
      omega
    · have := kind_ab.symm.trans h
      omega
    · rw [cut_ab]
      exact Reads.stop (s := ⟨#[]⟩) (.inl rfl)
  rw [cut_ab, bdAt_ab] at h
  exact Puts.cons (s := ⟨#[97]⟩) (b := 98) (h1 := [mkHit ⟨#[97, 98]⟩ 2 bdy]) h Puts.nil
theorem litR5 (w : World) (x : Int) : Kd.R (Kd.int .u8) 5 (w.alloc (.cells #[.int .u8 x] 5)) w.heap.size (fun k => k = w.heap.size) (.slice (some ⟨w.heap.size, 0, none⟩) 1 1) [x] :=
  ⟨fun k hk => by have : w.heap.size = k := by simpa [Value.ownBlock] using hk
                  exact this.symm, OwnRow.lit (ps := [x]) (inner := [.int .u8 x]) w _ (Reps.one (show Kd.M (Kd.int .u8) _ _ _ x [.int .u8 x] from rfl) (Reps.none _ _)) (Nat.le_refl _) (by simp)⟩
theorem lit5C (w : World) (x : Int) {g : Nat} (hg : g < w.heap.size) : ∀ W, Fr (fun k => k = g) (w.alloc (.cells #[.int .u8 x] 5)) W → Kd.C (Kd.int .u8) W (some ⟨w.heap.size, 0, none⟩) 1 [x] := fun W hf =>
  (Kd.R_reads' (R_fr (litR5 w x) hf (fun k hk e => by omega))).2.2
theorem sz_a : (ByteArray.mk #[97]).size ≤ 1000000000000 := Nat.le_of_ble_eq_true rfl
theorem sz_ab : (ByteArray.mk #[97, 98]).size ≤ 1000000000000 := Nat.le_of_ble_eq_true rfl
theorem sz_p : (ByteArray.mk #[]).size + [(97 : Int)].length ≤ 1000000000 := Nat.le_of_ble_eq_true rfl
theorem sz_q : (ByteArray.mk #[97]).size + [(98 : Int)].length ≤ 1000000000 := Nat.le_of_ble_eq_true rfl
theorem at46 {W : World} {base : Nat} {v : Value} {x : S46} (h : Kd.R k46 46 W base (fun _ => True) v [x]) : ∃ ad c, v = .slice (some ad) 1 c ∧ W.cell? ad = some (.string x.f0) ∧ W.cell? ⟨ad.block, ad.off + 2, none⟩ = some (.string x.f1.f1) := by
  obtain ⟨A, c, rfl, _, hC⟩ := Kd.R_reads h
  obtain ⟨ad, rfl, h0, h1, h2, h3⟩ := at_T46 hC 0 (by omega) (by simp)
  exact ⟨ad, c, rfl, by simpa [rd_T46, Addr.add] using h0, by simpa [rd_T46, Addr.add] using h2⟩
set_option maxRecDepth 100000 in
set_option maxHeartbeats 1000000 in
theorem begun_calls (w : World) : Calls Try.prog 9 #[] w fun e w' => e = .returned (.bool true) ∧ Below w.heap.size w w' := by
  go_enter Try.func9, Try.ntmps9
  go_wp2_with (first
    | (go_at_call 11; go_loud (refine (put_plain (HR5.out.below (below_alloc (Below.refl _ _) _)) (some ⟨w5.heap.size, 0, none⟩) 1 [98] (lit5C w5 98 HL5.out) (Nat.le_refl _) sz_q).mono ?_; rintro e w6 ⟨v6, hs6, s6, rfl, hp6, hv6, hr6, hf6⟩; obtain ⟨rfl, rfl⟩ := hp6.det puts_ab; obtain ⟨A6, c6, rfl, hx0, hx2⟩ := at46 hv6; have HB6 := Aside0.mk ((HB5.out.alloc HB5.out.size _).trans (hf6.below (B := w.heap.size) (fun k e => e ▸ HG4.out) (HB5.out.alloc HB5.out.size _).size)); clear hp6 hv6 hr6 hf6))
    | (go_at_call 13; go_loud (refine (waiting_calls HR5.out).mono ?_; rintro e w' ⟨rfl, rfl⟩))
    | (go_at_call 11; go_loud (refine (put_plain (HR4.out.below (below_alloc (Below.refl _ _) _)) (some ⟨w4.heap.size, 0, none⟩) 1 [97] (lit5C w4 97 HL4.out) (Nat.le_refl _) sz_p).mono ?_; rintro e w5 ⟨v5, hs5, s5, rfl, hp5, hv5, hr5, hf5⟩; obtain ⟨rfl, rfl⟩ := hp5.det puts_a; obtain ⟨A5, c5, rfl⟩ := Kd.R_slice hv5; have HR5 := Aside0.mk hr5; have HB5 := Aside0.mk ((HB4.out.alloc HB4.out.size _).trans (hf5.below (B := w.heap.size) (fun k e => e ▸ HG4.out) (HB4.out.alloc HB4.out.size _).size)); have HL5 := Aside0.mk hr5.lt; clear hp5 hv5 hr5 hf5))
    | (go_at_call 10; go_loud (refine (newReader_calls HK3.out (Nat.le_of_ble_eq_true rfl) false).mono ?_; rintro e w4 ⟨gr, gm, own4, rfl, hgr, hR, ho4, hb4⟩; have HR4 := Aside0.mk hR; have HB4 := Aside0.mk (below_step HB3.out hb4); have HG4 : Aside0 (w.heap.size ≤ gr) := ⟨Nat.le_trans HB3.out.size hgr⟩; have HL4 := Aside0.mk hR.lt; clear hR hgr ho4 hb4))
    | (go_at_call 18; go_loud (refine (bind_calls HK2.out (Nat.le_of_ble_eq_true rfl) ⟨#[97, 98]⟩ sz_ab bdy).mono ?_; rintro e w3 hp3; obtain ⟨rfl, own3, hK3, ho3, hf3⟩ := hp3; rw [bindE_y]; rw [bindF_y, bindC_y] at hK3; have HK3 := Aside0.mk hK3; have HB3 := Aside0.mk (HB2.out.trans (hf3.below (B := w.heap.size) (fun k hk => (HO2.out k hk).elim (HO1.out k) (fun h => Nat.le_trans HB1.out.size h)) HB2.out.size)); clear hK3 ho3 hf3))
    | (go_at_call 18; go_loud (refine (bind_calls HK1.out (Nat.zero_le _) ⟨#[97]⟩ sz_a bdx).mono ?_; rintro e w2 hp2; obtain ⟨rfl, own2, hK2, ho2, hf2⟩ := hp2; rw [bindE_x]; rw [bindF_x, bindC_x] at hK2; have HK2 := Aside0.mk hK2; have HO2 := Aside0.mk ho2; have HF2 := Aside0.mk hf2; have HB2 := Aside0.mk (HB1.out.trans (hf2.below HO1.out HB1.out.size)); clear hK2 ho2 hf2))
    | (go_at_call 29; go_loud (refine (new_calls _).mono ?_; rintro e w1 ⟨g, own, rfl, hg, hK, ho, hb⟩; have HK1 := Aside0.mk hK; have HO1 := Aside0.mk ho; have HB1 := Aside0.mk hb; clear hK ho hb)))
  go_ret
  exact ⟨rfl, HB6.out⟩
end Go.Proofs.Ytcnkgodooignpaa
