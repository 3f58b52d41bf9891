/-
  A reader in memory: hit, longest.
-/
import Derived.Test.YtcnkgodooignpaaRH
namespace Go.Proofs.Ytcnkgodooignpaa
open Go.RowKit Go.WideShapes Go.Proofs.YtcnkgodooignpaaW.PrintWords Go.Proofs.YtcnkgodooignpaaW.PrintLast Go.Proofs.YtcnkgodooignpaaW.PrintMore Go.Proofs.Ytcnkgodooignpaa.PAll
set_option linter.unusedVariables false
set_option linter.unusedSimpArgs false
attribute [local go_sem] max2_int min2_int max_two min_two max_three min_three max_four min_four
theorem head_toList (s : ByteArray) (n : Nat) : (s.extract 0 n).data.toList = s.data.toList.take n := by
  rw [Lib.extract_data]
  simp
theorem head_size (s : ByteArray) (n : Nat) (hn : n ≤ s.size) : (s.extract 0 n).size = n := by
  rw [← data_len, head_toList, List.length_take, data_len]
  omega
theorem tail_size (s : ByteArray) (n : Nat) : (s.extract n s.size).size = s.size - n := by
  rw [← data_len, Lib.extract_to_end, List.length_drop, data_len]
set_option maxRecDepth 100000 in
set_option maxHeartbeats 2000000 in
theorem hit_calls {w : World} {own : Nat → Prop} {g gm : Nat} {F : Key} {c : Nat} {mt : Bool} {s : ByteArray} (h : RD w own g gm F c mt s) (n : Nat) (hn : n ≤ s.size) (hs : s.size ≤ 1000000000000) (x : Bd) :
    Calls Try.prog 57 #[.pointer (some ⟨g, 0, none⟩), .int .i64 (n : Int), x.v] w fun e w' => e = .returned (.agg #[.string (s.extract 0 n), .int .i64 x.kind, .string x.name, .string x.keys]) ∧ RD w' own g gm F c mt (s.extract n s.size) ∧ Fr (fun k => k = g) w w' := by
  have hbV := below_alloc (below_alloc (Below.refl w.heap.size w) (.cells #[.int .i64 x.kind, .string x.name, .string x.keys] 44)) (.cells #[.string ⟨#[]⟩, .int .i64 0, .string ⟨#[]⟩, .string ⟨#[]⟩] 46)
  have hR := Aside0.mk (h.below hbV)
  have hx := blk_alloc (blk_new w (.cells #[.int .i64 x.kind, .string x.name, .string x.keys] 44)) (.cells #[.string ⟨#[]⟩, .int .i64 0, .string ⟨#[]⟩, .string ⟨#[]⟩] 46)
  have hr := blk_new (w.alloc (.cells #[.int .i64 x.kind, .string x.name, .string x.keys] 44)) (.cells #[.string ⟨#[]⟩, .int .i64 0, .string ⟨#[]⟩, .string ⟨#[]⟩] 46)
  rw [World.size_alloc] at hr
  have HX := Aside0.mk hx
  have HR := Aside0.mk hr
  have HBV := Aside0.mk hbV
  have hn0 : (0 : Int) ≤ (n : Int) := by omega
  have hn1 : (n : Int) ≤ (s.size : Int) := by omega
  have HSZ : Aside0 ((s.extract 0 n).size ≤ 281474976710656) := ⟨by rw [head_size s n hn]; omega⟩
  have HGW := Aside0.mk h.lt
  have HOL := Aside0.mk h.km.olt
  clear h hx hr hbV
  unfold Bd.v
  go_enter Try.func57, Try.ntmps57
  go_wp2
  generalize (w.alloc (.cells #[.int .i64 x.kind, .string x.name, .string x.keys] 44)).alloc (.cells #[.string ⟨#[]⟩, .int .i64 0, .string ⟨#[]⟩, .string ⟨#[]⟩] 46) = V at hR HX HR HBV ⊢
  have CS' := Aside0.mk (fun (w' : World) (hb : Below V.heap.size V w') => (by
    have h := blk_below HX.out hb
    exact ⟨(hR.out.below hb).c2, (blk_cell h 0).trans rfl, (blk_cell h 1).trans rfl, (blk_cell h 2).trans rfl, hb⟩ : w'.cell? ⟨g, 2, none⟩ = some (.string s) ∧ w'.cell? ⟨w.heap.size, 0, none⟩ = some (.int .i64 x.kind) ∧ w'.cell? ⟨w.heap.size, 1, none⟩ = some (.string x.name) ∧ w'.cell? ⟨w.heap.size, 2, none⟩ = some (.string x.keys) ∧ Below V.heap.size V w'))
  have hV0 := Aside0.mk (below_drew (Below.refl V.heap.size V))
  go_cut [7] from 8 to 16 (fun v7 w' => ∃ gB, v7 = .pointer (some ⟨gB, 0, none⟩) ∧ w'.heap[gB]? = some (.cells #[.string (s.extract 0 n), .int .i64 x.kind, .string x.name, .string x.keys] 46 (0, 0)) ∧ V.heap.size ≤ gB ∧ Below V.heap.size V w')
  case first =>
    refine wp_region_noPanic ?_
    go_region_held3 (fun w' => w'.cell? ⟨g, 2, none⟩ = some (.string s) ∧ w'.cell? ⟨w.heap.size, 0, none⟩ = some (.int .i64 x.kind) ∧ w'.cell? ⟨w.heap.size, 1, none⟩ = some (.string x.name) ∧ w'.cell? ⟨w.heap.size, 2, none⟩ = some (.string x.keys) ∧ Below V.heap.size V w')
      (first | exact CS'.out _ hV0.out | exact CS'.out _ hv1 | exact CS'.out _ (below_alloc hV0.out _) | exact CS'.out _ (below_alloc hv1 _) | exact CS'.out _ (below_set (below_set (below_set (below_set hv1 (Nat.le_refl _)) (Nat.le_refl _)) (Nat.le_refl _)) (Nat.le_refl _)))
      (first
        | (go_at_call 66; go_loud (refine (strClone_calls _ _ HSZ.out).mono ?_; rintro e v1 ⟨rfl, hbv1⟩; have hv1 : Below V.heap.size V v1 := below_step (by first | exact hV0.out | exact below_alloc hV0.out _) hbv1; first | (have hq1 : v1.heap[V.heap.size]? = some (.cells #[.string ⟨#[]⟩, .int .i64 0, .string ⟨#[]⟩, .string ⟨#[]⟩] 46 (0, 0)) := blk_below (blk_new V.drew (.cells #[.string ⟨#[]⟩, .int .i64 0, .string ⟨#[]⟩, .string ⟨#[]⟩] 46)) hbv1; have q0 : v1.cell? ⟨V.heap.size, 0, none⟩ = some (.string ⟨#[]⟩) := (blk_cell hq1 0).trans rfl; have q1 : v1.cell? ⟨V.heap.size, 1, none⟩ = some (.int .i64 0) := (blk_cell hq1 1).trans rfl; have q2 : v1.cell? ⟨V.heap.size, 2, none⟩ = some (.string ⟨#[]⟩) := (blk_cell hq1 2).trans rfl; have q3 : v1.cell? ⟨V.heap.size, 3, none⟩ = some (.string ⟨#[]⟩) := (blk_cell hq1 3).trans rfl; have q4 := blk_frozen hq1 0; have q5 := blk_frozen hq1 1; have q6 := blk_frozen hq1 2; have q7 := blk_frozen hq1 3) | skip)))
    · refine NoPanic.normal ?_
      go_wp2
      go_meet
      case rel => exact ⟨v1.heap.size, rfl, blk_new v1 _, hv1.size, below_alloc hv1 _⟩
    · refine NoPanic.normal ?_
      go_wp2
      go_meet
      case rel => exact ⟨V.heap.size, rfl, blk_put (blk_put (blk_put (blk_put hq1 0 _ rfl) 1 _ rfl) 2 _ rfl) 3 _ rfl, Nat.le_refl _, below_set (below_set (below_set (below_set hv1 (Nat.le_refl _)) (Nat.le_refl _)) (Nat.le_refl _)) (Nat.le_refl _)⟩
  case rest =>
    obtain ⟨gB, rfl, hB, hgB, hbc⟩ := hcut
    have hRc := hR.out.below hbc
    have hc2 := hRc.c2
    have hf2 := hRc.fz 2
    have hrr := blk_below HR.out hbc
    have hgl := hR.out.lt
    have hBg := blk_far hB (p := ⟨g, 2, none⟩) (by show gB ≠ g; omega) (.string (s.extract n s.size))
    have hrg := blk_far hrr (p := ⟨g, 2, none⟩) (by show w.heap.size + 1 ≠ g; exact fun e => by have := hRc.box; rw [← e, hrr] at this; cases this) (.string (s.extract n s.size))
    have b0 : (wc.setCell ⟨g, 2, none⟩ (.string (s.extract n s.size))).cell? ⟨gB, 0, none⟩ = some (.string (s.extract 0 n)) := (blk_cell hBg 0).trans rfl
    have b1 : (wc.setCell ⟨g, 2, none⟩ (.string (s.extract n s.size))).cell? ⟨gB, 1, none⟩ = some (.int .i64 x.kind) := (blk_cell hBg 1).trans rfl
    have b2 : (wc.setCell ⟨g, 2, none⟩ (.string (s.extract n s.size))).cell? ⟨gB, 2, none⟩ = some (.string x.name) := (blk_cell hBg 2).trans rfl
    have b3 : (wc.setCell ⟨g, 2, none⟩ (.string (s.extract n s.size))).cell? ⟨gB, 3, none⟩ = some (.string x.keys) := (blk_cell hBg 3).trans rfl
    have r0 : (wc.setCell ⟨g, 2, none⟩ (.string (s.extract n s.size))).cell? ⟨w.heap.size + 1, 0, none⟩ = some (.string ⟨#[]⟩) := (blk_cell hrg 0).trans rfl
    have r1 : (wc.setCell ⟨g, 2, none⟩ (.string (s.extract n s.size))).cell? ⟨w.heap.size + 1, 1, none⟩ = some (.int .i64 0) := (blk_cell hrg 1).trans rfl
    have r2 : (wc.setCell ⟨g, 2, none⟩ (.string (s.extract n s.size))).cell? ⟨w.heap.size + 1, 2, none⟩ = some (.string ⟨#[]⟩) := (blk_cell hrg 2).trans rfl
    have r3 : (wc.setCell ⟨g, 2, none⟩ (.string (s.extract n s.size))).cell? ⟨w.heap.size + 1, 3, none⟩ = some (.string ⟨#[]⟩) := (blk_cell hrg 3).trans rfl
    have f0 := blk_frozen hrg 0
    have f1 := blk_frozen hrg 1
    have f2 := blk_frozen hrg 2
    have f3 := blk_frozen hrg 3
    have HRP := Aside0.mk (hRc.put (s.extract n s.size))
    have HFR : Aside0 (Fr (fun k => k = g) w (wc.setCell ⟨g, 2, none⟩ (.string (s.extract n s.size)))) := ⟨(Fr.of_below (N := fun k => k = g) (below_step HBV.out hbc)).set (p := ⟨g, 2, none⟩) (.inl rfl) _⟩
    have HRG := Aside0.mk hrg
    have HWS : Aside0 (w.heap.size + 1 < (wc.setCell ⟨g, 2, none⟩ (.string (s.extract n s.size))).heap.size) := ⟨blk_lt hrg⟩
    have HGL := Aside0.mk hgl
    clear hRc hrr hB hgB hbc hBg hrg hgl
    go_wp2
    refine bodyPost_ret (results_single rfl (.cell (w.heap.size + 1) 46 #[.string (s.extract 0 n), .int .i64 x.kind, .string x.name, .string x.keys] (0, 0) _ rfl (blk_put (blk_put (blk_put (blk_put HRG.out 0 _ rfl) 1 _ rfl) 2 _ rfl) 3 _ rfl) Try.underlying46 rfl (by kernel_rfl) .nil)) rfl ⟨rfl, ?_, ?_⟩
    · refine HRP.out.fr (N := fun k => k = w.heap.size + 1) ?_ (fun e => by have := HGW.out; omega) (fun k hk e => by have := HOL.out k hk; omega)
      exact ((((Fr.refl (fun k => k = w.heap.size + 1) _).set (p := ⟨w.heap.size + 1, 0, none⟩) (.inl rfl) _).set (p := ⟨w.heap.size + 1, 1, none⟩) (.inl rfl) _).set (p := ⟨w.heap.size + 1, 2, none⟩) (.inl rfl) _).set (p := ⟨w.heap.size + 1, 3, none⟩) (.inl rfl) _
    · exact (((HFR.out.set (p := ⟨w.heap.size + 1, 0, none⟩) (.inr (by simp)) _).set (p := ⟨w.heap.size + 1, 1, none⟩) (.inr (by simp)) _).set (p := ⟨w.heap.size + 1, 2, none⟩) (.inr (by simp)) _).set (p := ⟨w.heap.size + 1, 3, none⟩) (.inr (by simp)) _

/-! ### longest -/
/-- How long the longest beginning is, of at most k bytes, that is a beginning of others and no more. -/
noncomputable def lpN (F : Key) (s : Path) : Nat → Nat
  | 0 => 0
  | k + 1 => if kindOf F (s.take (k + 1)) = 1 then k + 1 else lpN F s k
theorem lpN_le (F : Key) (s : Path) : ∀ k, lpN F s k ≤ k
  | 0 => Nat.le_refl _
  | k + 1 => by
    have := lpN_le F s k
    unfold lpN
    split <;> omega
theorem kind_cases (F : Key) (s : Path) : kindOf F s = 0 ∨ kindOf F s = 1 ∨ kindOf F s = 2 ∨ kindOf F s = 3 := by
  unfold kindOf
  split <;> split <;> simp
set_option maxRecDepth 100000 in
set_option maxHeartbeats 2000000 in
theorem rlongest_calls {w : World} {own : Nat → Prop} {g gm : Nat} {F : Key} {c : Nat} {mt : Bool} {s : ByteArray} (h : RD w own g gm F c mt s) (hs : s.size ≤ 1000000000000) :
    Calls Try.prog 58 #[.pointer (some ⟨g, 0, none⟩)] w fun e w' => e = .returned (.int .i64 ((lpN F s.data.toList s.size : Nat) : Int)) ∧ Below w.heap.size w w' := by
  have h2 := h.c2
  have H := Aside0.mk h
  clear h
  go_enter Try.func58, Try.ntmps58
  go_wp2
  clear h2
  go_loopw [3] (fun n wr => ∃ k : Nat, k ≤ s.size ∧ n = .int .i64 (k : Int) ∧ Aside0 (lpN F s.data.toList s.size = lpN F s.data.toList k) ∧ Aside0 (Below w.heap.size w wr)) (fun n wr => (intOf n).toNat)
  case atStart => exact ⟨s.size, Nat.le_refl _, rfl, ⟨rfl⟩, ⟨Below.refl _ _⟩⟩
  case round =>
    obtain ⟨k, hk, rfl, HE, HBW⟩ := hrel
    cases k with
    | zero =>
      go_wp2
      go_ret
      exact ⟨by rw [HE.out]; rfl, HBW.out⟩
    | succ k =>
      have hR := Aside0.mk (H.out.below HBW.out)
      have hn0 : (0 : Int) ≤ ((k + 1 : Nat) : Int) := by omega
      have hn1 : ((k + 1 : Nat) : Int) ≤ (s.size : Int) := by omega
      have hn2 : (0 : Int) < ((k + 1 : Nat) : Int) := by omega
      have HL := Aside0.mk (fun (W : World) (hb : Below wr.heap.size wr W) => (by
        have h := lookup_calls (hR.out.below hb).km (s.extract 0 (k + 1)) (by rw [head_size s _ hk]; omega)
        rw [head_toList] at h
        exact h))
      obtain ⟨n, hn⟩ : ∃ n : Nat, n = k + 1 := ⟨_, rfl⟩
      rw [← hn] at HE hn0 hn1 hn2 HL ⊢
      have hn4 : decide (0 < n) = true := by rw [hn]; simp
      have HN := Aside0.mk hn
      clear hn
      generalize (F (s.data.toList.take n)).getD Bd.no = x at HL
      simp only [Bd.v] at HL
      go_wp2
      have CS' := Aside0.mk (fun (w' : World) (hb : Below wr.heap.size wr w') => (⟨(hR.out.below hb).c0, (hR.out.below hb).c2, hb⟩ : w'.cell? ⟨g, 0, none⟩ = some (.pointer (some ⟨gm, 0, none⟩)) ∧ w'.cell? ⟨g, 2, none⟩ = some (.string s) ∧ Below wr.heap.size wr w'))
      have hV0 := Aside0.mk (below_drew (Below.refl wr.heap.size wr))
      go_cut [4, 5] from 15 to 28 (fun _ v5 w' => v5 = .int .i64 (kindOf F (s.data.toList.take n)) ∧ Below wr.heap.size wr w')
      case first =>
        refine wp_region_noPanic ?_
        go_region_held3 (fun w' => w'.cell? ⟨g, 0, none⟩ = some (.pointer (some ⟨gm, 0, none⟩)) ∧ w'.cell? ⟨g, 2, none⟩ = some (.string s) ∧ Below wr.heap.size wr w')
          (first | exact CS'.out _ hV0.out | exact CS'.out _ hv1 | exact CS'.out _ (below_alloc hV0.out _) | exact CS'.out _ (below_alloc hv1 _) | exact CS'.out _ (below_set (below_set (below_set hv1 (Nat.le_refl _)) (Nat.le_refl _)) (Nat.le_refl _)))
          (first
            | (go_at_call 16; go_loud (refine (HL.out _ (by first | exact hV0.out | exact below_alloc hV0.out _)).mono ?_; rintro e v1 ⟨rfl, hbv1⟩; have hv1 : Below wr.heap.size wr v1 := below_step (by first | exact hV0.out | exact below_alloc hV0.out _) hbv1; first | (have hq1 : v1.heap[wr.heap.size]? = some (.cells #[.int .i64 0, .string ⟨#[]⟩, .string ⟨#[]⟩] 44 (0, 0)) := blk_below (blk_new wr.drew (.cells #[.int .i64 0, .string ⟨#[]⟩, .string ⟨#[]⟩] 44)) hbv1; have q0 : v1.cell? ⟨wr.heap.size, 0, none⟩ = some (.int .i64 0) := (blk_cell hq1 0).trans rfl; have q1 : v1.cell? ⟨wr.heap.size, 1, none⟩ = some (.string ⟨#[]⟩) := (blk_cell hq1 1).trans rfl; have q2 : v1.cell? ⟨wr.heap.size, 2, none⟩ = some (.string ⟨#[]⟩) := (blk_cell hq1 2).trans rfl; have q4 := blk_frozen hq1 0; have q5 := blk_frozen hq1 1; have q6 := blk_frozen hq1 2) | skip)))
        · refine NoPanic.normal ?_
          go_wp2
          go_meet
          case rel => exact ⟨rfl, below_alloc hv1 _⟩
        · refine NoPanic.normal ?_
          go_wp2
          go_meet
          case rel => exact ⟨rfl, below_set (below_set (below_set hv1 (Nat.le_refl _)) (Nat.le_refl _)) (Nat.le_refl _)⟩
      case rest =>
        obtain ⟨rfl, hbc⟩ := hcut
        have HBC := Aside0.mk hbc
        clear hbc
        by_cases hk1 : kindOf F (s.data.toList.take n) = 1
        · have HK := Aside0.mk hk1
          rw [hk1]
          clear hk1
          go_wp2
          go_ret
          refine ⟨?_, below_step HBW.out HBC.out⟩
          have e : lpN F s.data.toList s.size = n := by
            rw [HE.out, HN.out]
            exact if_pos (by rw [← HN.out]; exact HK.out)
          rw [e]
          rfl
        · have HK2 : Aside0 (¬ kindOf F (s.data.toList.take (k + 1)) = 1) := ⟨by rw [← HN.out]; exact hk1⟩
          have hk2 : (kindOf F (s.data.toList.take n) == 1) = false := by simpa using hk1
          clear hk1
          generalize kindOf F (s.data.toList.take n) = kd at hk2 ⊢
          go_wp2
          go_roundw
          case rel =>
            refine ⟨k, by omega, by rw [HN.out]; simp, ⟨?_⟩, ⟨below_step HBW.out HBC.out⟩⟩
            rw [HE.out, HN.out]
            exact if_neg HK2.out
          case measure => simp [intOf]; omega
end Go.Proofs.Ytcnkgodooignpaa
