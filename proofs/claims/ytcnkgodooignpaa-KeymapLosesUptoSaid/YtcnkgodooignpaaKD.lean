/-
  A keymap in memory: Longest, Len.
-/
import Derived.Test.YtcnkgodooignpaaKC
namespace Go.Proofs.Ytcnkgodooignpaa
open Go.RowKit Go.Proofs.YtcnkgodooignpaaW.PrintWords Go.Proofs.YtcnkgodooignpaaW.PrintLast Go.Proofs.YtcnkgodooignpaaW.PrintMore Go.Proofs.Ytcnkgodooignpaa.PAll
set_option linter.unusedVariables false
set_option linter.unusedSimpArgs false
attribute [local go_sem] max2_int min2_int max_two min_two max_three min_three max_four min_four
theorem len_calls {w : World} {own : Nat → Prop} {g : Nat} {F : Key} {c : Nat} (h : KM w own g F c) : Calls Try.prog 26 #[.pointer (some ⟨g, 0, none⟩)] w fun e w' => e = .returned (.int .i64 (c : Int)) ∧ w = w' := by
  obtain ⟨ν0, b, hx, hM⟩ := h.cells
  have h1 : w.cell? ⟨g, 1, none⟩ = some (.map (some b)) := (blk_cell hx 1).trans rfl
  have hln := fun ty => hM.len Try.underlying62 ty
  clear hx hM
  go_enter Try.func26, Try.ntmps26
  go_wp2_with (go_at_call 38; go_loud (refine (none_calls h).mono ?_; rintro e w' ⟨rfl, rfl⟩))
  go_ret
  exact ⟨rfl, rfl⟩
/-- How long the longest beginning is, of at most k bytes, that is bound. -/
def longN (F : Key) (s : Path) : Nat → Nat
  | 0 => 0
  | k + 1 => if (F (s.take (k + 1))).isSome then k + 1 else longN F s k
theorem longN_none {F : Key} {s : Path} {k : Nat} (h : F (s.take (k + 1)) = none) : longN F s (k + 1) = longN F s k := by
  show (if (F (s.take (k + 1))).isSome then k + 1 else longN F s k) = _
  rw [h]
  rfl
theorem longN_some {F : Key} {s : Path} {k : Nat} {x : Bd} (h : F (s.take (k + 1)) = some x) : longN F s (k + 1) = k + 1 := by
  show (if (F (s.take (k + 1))).isSome then k + 1 else longN F s k) = _
  rw [h]
  rfl
theorem longN_le (F : Key) (s : Path) : ∀ k, longN F s k ≤ k
  | 0 => Nat.le_refl _
  | k + 1 => by
    have := longN_le F s k
    unfold longN
    split <;> omega
/-- Nothing longer is bound. -/
theorem longN_end {F : Key} {s : Path} {k : Nat} : ∀ d, (∀ j, k < j → j ≤ k + d → F (s.take j) = none) → longN F s (k + d) = longN F s k
  | 0, _ => rfl
  | d + 1, h => by
    rw [← Nat.add_assoc, longN_none (h (k + d + 1) (by omega) (by omega))]
    exact longN_end d (fun j h1 h2 => h j h1 (by omega))
set_option maxRecDepth 100000 in
set_option maxHeartbeats 1000000 in
theorem longest_calls {w : World} {own : Nat → Prop} {g : Nat} {F : Key} {c : Nat} (h : KM w own g F c) (s : ByteArray) (hs : s.size ≤ 1000000000000) :
    Calls Try.prog 24 #[.pointer (some ⟨g, 0, none⟩), .string s] w fun e w' => e = .returned (.tuple #[((F (s.data.toList.take (longN F s.data.toList s.size))).getD Bd.no).v, .int .i64 ((longN F s.data.toList s.size : Nat) : Int)]) ∧ Below w.heap.size w w' := by
  obtain ⟨town, L, ν, μ, f, b, hK0⟩ := h.ex
  have hal := below_alloc (below_alloc (Below.refl w.heap.size w) (.cells #[.int .i64 0, .string ⟨#[]⟩, .string ⟨#[]⟩] 44)) (.cells #[.int .i64 0, .string ⟨#[]⟩, .string ⟨#[]⟩] 44)
  have hK := hK0.same (fun k _ hk => hal.block k hk)
  have hn4 := blk_alloc (blk_new w (.cells #[.int .i64 0, .string ⟨#[]⟩, .string ⟨#[]⟩] 44)) (.cells #[.int .i64 0, .string ⟨#[]⟩, .string ⟨#[]⟩] 44)
  have hn6 := blk_new (w.alloc (.cells #[.int .i64 0, .string ⟨#[]⟩, .string ⟨#[]⟩] 44)) (.cells #[.int .i64 0, .string ⟨#[]⟩, .string ⟨#[]⟩] 44)
  rw [World.size_alloc] at hn6
  have HN4 := Aside0.mk hn4
  have HN6 := Aside0.mk hn6
  have HAL := Aside0.mk hal
  have HK := Aside0.mk hK
  have HK0 := Aside0.mk hK0
  have hKM : Aside0 (KM ((w.alloc (.cells #[.int .i64 0, .string ⟨#[]⟩, .string ⟨#[]⟩] 44)).alloc (.cells #[.int .i64 0, .string ⟨#[]⟩, .string ⟨#[]⟩] 44)) own g F c) := ⟨⟨_, _, _, _, _, _, hK⟩⟩
  have hg0 : ((w.alloc (.cells #[.int .i64 0, .string ⟨#[]⟩, .string ⟨#[]⟩] 44)).alloc (.cells #[.int .i64 0, .string ⟨#[]⟩, .string ⟨#[]⟩] 44)).cell? ⟨g, 0, none⟩ = some (.pointer (some ⟨ν [], 0, none⟩)) := (blk_cell hK.box 0).trans rfl
  have hFn : (F []).getD Bd.no = Bd.no := by
    cases hF : F [] with
    | none => rfl
    | some x => exact absurd rfl (hK.good.ne [] x hF)
  have HFN := Aside0.mk hFn
  clear hFn hn4 hn6 hal hK h hK0
  go_enter Try.func24, Try.ntmps24
  go_wp2_with (go_at_call 38; go_loud (refine (none_calls hKM.out).mono ?_; rintro e w' ⟨rfl, rfl⟩))
  go_loopw [7, 8, 9] (fun m n i wr => ∃ k : Nat, k ≤ s.size ∧ i = .int .i64 (k : Int) ∧ m = .int .i64 ((longN F s.data.toList k : Nat) : Int) ∧ n = .pointer (some ⟨ν (s.data.toList.take k), 0, none⟩) ∧ Aside0 (L (s.data.toList.take k) = true) ∧ Aside0 (Below w.heap.size w wr) ∧
    Aside0 (wr.heap[w.heap.size]? = some (.cells #[.int .i64 0, .string ⟨#[]⟩, .string ⟨#[]⟩] 44 (0, 0))) ∧
    Aside0 (wr.heap[w.heap.size + 1]? = some (.cells #[.int .i64 ((F (s.data.toList.take (longN F s.data.toList k))).getD Bd.no).kind, .string ((F (s.data.toList.take (longN F s.data.toList k))).getD Bd.no).name, .string ((F (s.data.toList.take (longN F s.data.toList k))).getD Bd.no).keys] 44 (0, 0)))) (fun _ _ i wr => s.size - (intOf i).toNat)
  case atStart => exact ⟨0, Nat.zero_le _, rfl, rfl, by rw [List.take_zero], ⟨by rw [List.take_zero]; exact HK.out.tr.root⟩, HAL, HN4, ⟨by show _ = some (Obj.cells #[.int .i64 ((F (s.data.toList.take 0)).getD Bd.no).kind, .string ((F (s.data.toList.take 0)).getD Bd.no).name, .string ((F (s.data.toList.take 0)).getD Bd.no).keys] 44 (0, 0)); rw [List.take_zero, HFN.out]; exact HN6.out⟩⟩
  case round =>
    obtain ⟨k, hk, rfl, rfl, rfl, HL, HBW, HB4, HB6⟩ := hrel
    clear hg0
    have HTr : Aside0 (Tr wr town L ν μ f) := ⟨(HK0.out.same (fun j _ hj => HBW.out.block j hj)).tr⟩
    have hc3 : wr.cell? ⟨ν (s.data.toList.take k), 3, none⟩ = some (.map (μ (s.data.toList.take k))) := HTr.out.c3 HL.out
    by_cases hlt : k < s.size
    · have hts := take_snoc s k hlt
      have HTS := Aside0.mk hts
      have hlook := HTr.out.look HL.out s[k]
      have hln := longN_le F s.data.toList k
      cases hLu : L (s.data.toList.take k ++ [s[k]]) with
      | false =>
        have HE : Aside0 (longN F s.data.toList s.size = longN F s.data.toList k) := ⟨by
          have hd := dead_on HK0.out.tr.down s (k := k + 1) (by rw [hts]; exact hLu)
          have := longN_end (F := F) (s := s.data.toList) (k := k) (s.size - k) (fun j h1 h2 => not_lives_none (fun hl => by
            have := (HK0.out.live _).2 hl
            rw [hd j (by omega) (by omega)] at this
            cases this))
          rwa [show k + (s.size - k) = s.size by omega] at this⟩
        have HLK := Aside0.mk (fun n => by have h := hlook n; rw [hLu, if_neg (by decide)] at h; exact h : ∀ n, (Instr.lookup 86 (.map (μ (s.data.toList.take k))) (.int .u8 (s[k].toNat : Int)) false).run Try.prog (wr.drewN n) = .ok (.pointer none) (wr.drewN n))
        clear hlook hts hLu
        go_wp2
        have hlk := HLK.out
        go_quiet (fail)
        clear hlk hc3
        have hq0 := blk_drewN HB6.out 0
        have r0 : (wr.drewN nq).cell? ⟨w.heap.size + 1, 0, none⟩ = some (.int .i64 ((F (s.data.toList.take (longN F s.data.toList k))).getD Bd.no).kind) := (blk_cell HB6.out 0).trans rfl
        have r1 : (wr.drewN nq).cell? ⟨w.heap.size + 1, 1, none⟩ = some (.string ((F (s.data.toList.take (longN F s.data.toList k))).getD Bd.no).name) := (blk_cell HB6.out 1).trans rfl
        have r2 : (wr.drewN nq).cell? ⟨w.heap.size + 1, 2, none⟩ = some (.string ((F (s.data.toList.take (longN F s.data.toList k))).getD Bd.no).keys) := (blk_cell HB6.out 2).trans rfl
        have p0 : (wr.drewN nq).cell? ⟨w.heap.size, 0, none⟩ = some (.int .i64 0) := (blk_cell HB4.out 0).trans rfl
        have p1 : (wr.drewN nq).cell? ⟨w.heap.size, 1, none⟩ = some (.string ⟨#[]⟩) := (blk_cell HB4.out 1).trans rfl
        have p2 : (wr.drewN nq).cell? ⟨w.heap.size, 2, none⟩ = some (.string ⟨#[]⟩) := (blk_cell HB4.out 2).trans rfl
        have q0 := blk_frozen HB4.out 0
        have q1 := blk_frozen HB4.out 1
        have q2 := blk_frozen HB4.out 2
        clear hq0
        go_wp2
        refine bodyPost_ret (results_ct rfl _ _ w.heap.size 44 #[.int .i64 ((F (s.data.toList.take (longN F s.data.toList k))).getD Bd.no).kind, .string ((F (s.data.toList.take (longN F s.data.toList k))).getD Bd.no).name, .string ((F (s.data.toList.take (longN F s.data.toList k))).getD Bd.no).keys] (0, 0) _ rfl (blk_put (blk_put (blk_put (blk_drewN HB4.out nq) 0 _ rfl) 1 _ rfl) 2 _ rfl) Try.underlying44 rfl (by kernel_rfl)) rfl ⟨?_, below_set (below_set (below_set (pw_below_drewN HBW.out nq) (Nat.le_refl _)) (Nat.le_refl _)) (Nat.le_refl _)⟩
        show Ending.returned (.tuple #[((F (s.data.toList.take (longN F s.data.toList k))).getD Bd.no).v, .int .i64 ((longN F s.data.toList k : Nat) : Int)]) = _
        rw [HE.out]
      | true =>
        have HLu := Aside0.mk hLu
        have HLK := Aside0.mk (fun n => by have h := hlook n; rw [hLu, if_pos rfl] at h; exact h : ∀ n, (Instr.lookup 86 (.map (μ (s.data.toList.take k))) (.int .u8 (s[k].toNat : Int)) false).run Try.prog (wr.drewN n) = .ok (.pointer (some ⟨ν (s.data.toList.take k ++ [s[k]]), 0, none⟩)) (wr.drewN n))
        have hva := HK0.out.val _ hLu
        have HVA := Aside0.mk hva
        have HGD := Aside0.mk (HK0.out.good.kind (s.data.toList.take k ++ [s[k]]))
        cases hF : F (s.data.toList.take k ++ [s[k]]) with
        | none =>
          have HNX := Aside0.mk (longN_none (F := F) (s := s.data.toList) (k := k) (by rw [hts]; exact hF))
          have HFX : Aside0 (f (s.data.toList.take k ++ [s[k]]) = Bd.no) := ⟨by rw [hva, hF]; rfl⟩
          have HN0 := Aside0.mk (fun n : Nat => ((HTr.out.c0 hLu).trans (congrArg (fun z : Bd => some (Value.int .i64 z.kind)) HFX.out) : (wr.drewN n).cell? ⟨ν (s.data.toList.take k ++ [s[k]]), 0, none⟩ = some (.int .i64 0)))
          clear hlook hts hLu hva hF
          go_wp2
          have hlk := HLK.out
          go_quiet (fail)
          have hn0 := HN0.out nq
          clear hlk hc3
          go_wp2
          go_roundw
          case rel => exact ⟨k + 1, by omega, by simp, by rw [HNX.out], by rw [HTS.out], ⟨by rw [HTS.out]; exact HLu.out⟩, ⟨pw_below_drewN HBW.out nq⟩, ⟨HB4.out⟩, ⟨by rw [HNX.out]; exact HB6.out⟩⟩
          case measure => simp [intOf]; omega
        | some x =>
          have hNX := longN_some (F := F) (s := s.data.toList) (k := k) (by rw [hts]; exact hF)
          have HNX := Aside0.mk hNX
          have HFF := Aside0.mk hF
          have hk0 : (x.kind != 0) = true := by simpa using HGD.out x hF
          have HFX : Aside0 (f (s.data.toList.take k ++ [s[k]]) = x) := ⟨by rw [hva, hF]; rfl⟩
          have HN0 := Aside0.mk (fun n : Nat => ((HTr.out.c0 hLu).trans (congrArg (fun z : Bd => some (Value.int .i64 z.kind)) HFX.out) : (wr.drewN n).cell? ⟨ν (s.data.toList.take k ++ [s[k]]), 0, none⟩ = some (.int .i64 x.kind)))
          have HN1 := Aside0.mk (fun n : Nat => ((HTr.out.c1 hLu).trans (congrArg (fun z : Bd => some (Value.string z.name)) HFX.out) : (wr.drewN n).cell? ⟨ν (s.data.toList.take k ++ [s[k]]), 1, none⟩ = some (.string x.name)))
          have HN2 := Aside0.mk (fun n : Nat => ((HTr.out.c2 hLu).trans (congrArg (fun z : Bd => some (Value.string z.keys)) HFX.out) : (wr.drewN n).cell? ⟨ν (s.data.toList.take k ++ [s[k]]), 2, none⟩ = some (.string x.keys)))
          clear hlook hts hLu hva hF hNX
          go_wp2
          have hlk := HLK.out
          go_quiet (fail)
          have hn0 := HN0.out nq
          have hn1 := HN1.out nq
          have hn2 := HN2.out nq
          have hb6 := blk_drewN HB6.out nq
          have e0 : (wr.drewN nq).cell? ⟨w.heap.size + 1, 0, none⟩ = some (.int .i64 ((F (s.data.toList.take (longN F s.data.toList k))).getD Bd.no).kind) := (blk_cell hb6 0).trans rfl
          have e1 : (wr.drewN nq).cell? ⟨w.heap.size + 1, 1, none⟩ = some (.string ((F (s.data.toList.take (longN F s.data.toList k))).getD Bd.no).name) := (blk_cell hb6 1).trans rfl
          have e2 : (wr.drewN nq).cell? ⟨w.heap.size + 1, 2, none⟩ = some (.string ((F (s.data.toList.take (longN F s.data.toList k))).getD Bd.no).keys) := (blk_cell hb6 2).trans rfl
          have f0 := blk_frozen hb6 0
          have f1 := blk_frozen hb6 1
          have f2 := blk_frozen hb6 2
          have HB6' := Aside0.mk hb6
          clear hlk hc3 hb6
          go_wp2
          go_roundw
          case rel =>
            refine ⟨k + 1, by omega, by simp, by rw [HNX.out]; simp, by rw [HTS.out], ⟨by rw [HTS.out]; exact HLu.out⟩, ⟨below_set (below_set (below_set (pw_below_drewN HBW.out nq) (by simp)) (by simp)) (by simp)⟩, ⟨blk_far (blk_far (blk_far HB4.out (p := ⟨w.heap.size + 1, 0, none⟩) (by simp) _) (p := ⟨w.heap.size + 1, 1, none⟩) (by simp) _) (p := ⟨w.heap.size + 1, 2, none⟩) (by simp) _⟩, ⟨?_⟩⟩
            rw [HNX.out, HTS.out, HFF.out]
            exact blk_put (blk_put (blk_put HB6'.out 0 _ rfl) 1 _ rfl) 2 _ rfl
          case measure => simp [intOf]; omega
    · obtain rfl : k = s.size := by omega
      have HE : Aside0 (longN F s.data.toList s.size = longN F s.data.toList s.size) := ⟨rfl⟩
      have hq0 := blk_drewN HB6.out 0
      have r0 : wr.cell? ⟨w.heap.size + 1, 0, none⟩ = some (.int .i64 ((F (s.data.toList.take (longN F s.data.toList s.size))).getD Bd.no).kind) := (blk_cell HB6.out 0).trans rfl
      have r1 : wr.cell? ⟨w.heap.size + 1, 1, none⟩ = some (.string ((F (s.data.toList.take (longN F s.data.toList s.size))).getD Bd.no).name) := (blk_cell HB6.out 1).trans rfl
      have r2 : wr.cell? ⟨w.heap.size + 1, 2, none⟩ = some (.string ((F (s.data.toList.take (longN F s.data.toList s.size))).getD Bd.no).keys) := (blk_cell HB6.out 2).trans rfl
      have p0 : wr.cell? ⟨w.heap.size, 0, none⟩ = some (.int .i64 0) := (blk_cell HB4.out 0).trans rfl
      have p1 : wr.cell? ⟨w.heap.size, 1, none⟩ = some (.string ⟨#[]⟩) := (blk_cell HB4.out 1).trans rfl
      have p2 : wr.cell? ⟨w.heap.size, 2, none⟩ = some (.string ⟨#[]⟩) := (blk_cell HB4.out 2).trans rfl
      have q0 := blk_frozen HB4.out 0
      have q1 := blk_frozen HB4.out 1
      have q2 := blk_frozen HB4.out 2
      clear hq0
      go_wp2
      refine bodyPost_ret (results_ct rfl _ _ w.heap.size 44 #[.int .i64 ((F (s.data.toList.take (longN F s.data.toList s.size))).getD Bd.no).kind, .string ((F (s.data.toList.take (longN F s.data.toList s.size))).getD Bd.no).name, .string ((F (s.data.toList.take (longN F s.data.toList s.size))).getD Bd.no).keys] (0, 0) _ rfl (blk_put (blk_put (blk_put HB4.out 0 _ rfl) 1 _ rfl) 2 _ rfl) Try.underlying44 rfl (by kernel_rfl)) rfl ⟨?_, below_set (below_set (below_set HBW.out (Nat.le_refl _)) (Nat.le_refl _)) (Nat.le_refl _)⟩
      show Ending.returned (.tuple #[((F (s.data.toList.take (longN F s.data.toList s.size))).getD Bd.no).v, .int .i64 ((longN F s.data.toList s.size : Nat) : Int)]) = _
      rfl
end Go.Proofs.Ytcnkgodooignpaa
