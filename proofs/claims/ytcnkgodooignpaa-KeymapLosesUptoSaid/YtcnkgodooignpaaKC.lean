/-
  A keymap in memory: what is asked of it (at, Lookup, Longest, Len).
-/
import Derived.Test.YtcnkgodooignpaaKB
namespace Go.Proofs.Ytcnkgodooignpaa
open Go.RowKit Go.Proofs.YtcnkgodooignpaaW.PrintWords Go.Proofs.YtcnkgodooignpaaW.PrintLast Go.Proofs.YtcnkgodooignpaaW.PrintMore Go.Proofs.Ytcnkgodooignpaa.PAll
set_option linter.unusedVariables false
set_option linter.unusedSimpArgs false
attribute [local go_sem] max2_int min2_int max_two min_two max_three min_three max_four min_four
/-- A beginning of longer ones. -/
def Ext (F : Key) (s : Path) : Prop := ∃ u r, (F (s ++ u :: r)).isSome = true
theorem ext_iff {F : Key} {s : Path} : Ext F s ↔ ∃ u, Lives F (s ++ [u]) := by
  constructor
  · rintro ⟨u, r, h⟩
    exact ⟨u, .inr ⟨r, by rw [List.append_assoc]; exact h⟩⟩
  · rintro ⟨u, h | ⟨r, h⟩⟩
    · simp at h
    · exact ⟨u, r, by rw [List.append_assoc] at h; exact h⟩
theorem lives_iff {F : Key} {s : Path} (h0 : s ≠ []) : Lives F s ↔ (F s).isSome = true ∨ Ext F s := by
  constructor
  · rintro (h | ⟨r, h⟩)
    · exact absurd h h0
    · cases r with
      | nil => rw [List.append_nil] at h; exact .inl h
      | cons u r => exact .inr ⟨u, r, h⟩
  · rintro (h | ⟨u, r, h⟩)
    · exact .inr ⟨[], by rw [List.append_nil]; exact h⟩
    · exact .inr ⟨u :: r, h⟩
open Classical in
/-- What a sequence is: 1: a beginning of others, 2: bound, 3: both. -/
noncomputable def kindOf (F : Key) (s : Path) : Int := (if (F s).isSome then 2 else 0) + (if Ext F s then 1 else 0)
/-- How many children a node has: none, or some. -/
theorem Tr.len {w : World} {own : Nat → Prop} {L : Path → Bool} {ν : Path → Nat} {μ : Path → Option Nat} {f : Path → Bd} (h : Tr w own L ν μ f) {t : Path} (ht : L t = true) :
    ∃ c : Nat, (∀ n ty, (Builtin.len_ #[86] ty #[.map (μ t)]).run Try.prog (w.drewN n) = .ok (.int .i64 (c : Int)) (w.drewN n)) ∧ (c = 0 ↔ ∀ u, L (t ++ [u]) = false) := by
  cases hm : μ t with
  | none =>
    refine ⟨0, fun n ty => Go.Maps.len_nil Try.underlying86 ty, ⟨fun _ => h.leaf t ht hm, fun _ => rfl⟩⟩
  | some b =>
    obtain ⟨c, hM⟩ := h.chd t b ht hm
    refine ⟨c, fun n ty => (hM.drewN n).len Try.underlying86 ty, ⟨fun e u => ?_, fun hu => ?_⟩⟩
    · subst e
      have := hM.none_of_zero (.int .u8 (u.toNat : Int))
      rw [chdOf_at] at this
      cases hL : L (t ++ [u]) with
      | false => rfl
      | true => rw [hL, if_pos rfl] at this; cases this
    · rcases Nat.eq_zero_or_pos c with e | e
      · exact e
      · obtain ⟨l, v, hl, _⟩ := hM.some_of_pos key5 e
        obtain ⟨u, _, hL⟩ := lit_u8 hl
        rw [hu u] at hL
        cases hL
theorem KMx.len {w : World} {own : Nat → Prop} {g : Nat} {F : Key} {c : Nat} {town : Nat → Prop} {L : Path → Bool} {ν : Path → Nat} {μ : Path → Option Nat} {f : Path → Bd} {b : Nat} (h : KMx w own g F c town L ν μ f b) {t : Path} (ht : L t = true) :
    ∃ c : Nat, (∀ n ty, (Builtin.len_ #[86] ty #[.map (μ t)]).run Try.prog (w.drewN n) = .ok (.int .i64 (c : Int)) (w.drewN n)) ∧ (c = 0 ↔ ¬ Ext F t) := by
  obtain ⟨c, h1, h2⟩ := h.tr.len ht
  refine ⟨c, h1, h2.trans ?_⟩
  rw [ext_iff]
  constructor
  · rintro hu ⟨u, hl⟩
    have := hu u
    rw [(h.live _).2 hl] at this
    cases this
  · intro hn u
    cases hL : L (t ++ [u]) with
    | false => rfl
    | true => exact absurd ⟨u, (h.live _).1 hL⟩ hn

/-! ### at -/
/-- The node at a path, or nil. -/
def ndAt (L : Path → Bool) (ν : Path → Nat) (s : Path) : Option Addr := if L s = true then some ⟨ν s, 0, none⟩ else none
theorem ndAt_yes {L : Path → Bool} {ν : Path → Nat} {s : Path} (h : L s = true) : ndAt L ν s = some ⟨ν s, 0, none⟩ := if_pos h
theorem ndAt_no {L : Path → Bool} {ν : Path → Nat} {s : Path} (h : L s = false) : ndAt L ν s = none := if_neg (by rw [h]; decide)
theorem take_all (s : ByteArray) : s.data.toList.take s.size = s.data.toList := by rw [← data_len s, List.take_length]
/-- Where the way has ended, it has ended for good. -/
theorem dead_on {L : Path → Bool} (hd : ∀ (s : Path) (u : UInt8), L (s ++ [u]) = true → L s = true) (s : ByteArray) {k : Nat} (hL : L (s.data.toList.take k) = false) : ∀ j, k ≤ j → j ≤ s.size → L (s.data.toList.take j) = false := by
  intro j hkj hj
  obtain ⟨d, rfl⟩ := Nat.exists_eq_add_of_le hkj
  clear hkj
  induction d with
  | zero => exact hL
  | succ d ih =>
    cases hl : L (s.data.toList.take (k + (d + 1))) with
    | false => rfl
    | true =>
      rw [show k + (d + 1) = (k + d) + 1 by omega, take_snoc s (k + d) (by omega)] at hl
      have := ih (by omega)
      rw [hd _ _ hl] at this
      cases this
set_option maxHeartbeats 1000000 in
theorem at_calls {w : World} {own : Nat → Prop} {g : Nat} {F : Key} {c : Nat} {town : Nat → Prop} {L : Path → Bool} {ν : Path → Nat} {μ : Path → Option Nat} {f : Path → Bd} {b : Nat} (h : KMx w own g F c town L ν μ f b) (s : ByteArray) (hs : s.size ≤ 1000000000000) :
    Calls Try.prog 42 #[.pointer (some ⟨g, 0, none⟩), .string s] w fun e w' => e = .returned (.pointer (ndAt L ν s.data.toList)) ∧ ∃ n, w' = w.drewN n := by
  have g0 : w.cell? ⟨g, 0, none⟩ = some (.pointer (some ⟨ν [], 0, none⟩)) := (blk_cell h.box 0).trans rfl
  have HT := Aside0.mk h.tr
  have HD := Aside0.mk h.tr.down
  clear h
  go_enter Try.func42, Try.ntmps42
  go_wp2
  go_loopw [5, 6] (fun n i wr => ∃ k : Nat, k ≤ s.size ∧ i = .int .i64 (k : Int) ∧ n = .pointer (ndAt L ν (s.data.toList.take k)) ∧ Aside0 (∃ m, wr = w.drewN m)) (fun _ i wr => s.size - (intOf i).toNat)
  case atStart => exact ⟨0, Nat.zero_le _, rfl, by rw [List.take_zero, ndAt_yes HT.out.root], ⟨0, rfl⟩⟩
  case round =>
    obtain ⟨k, hk, rfl, rfl, HM⟩ := hrel
    have HTr : Aside0 (Tr wr town L ν μ f) := ⟨by obtain ⟨m, rfl⟩ := HM.out; exact HT.out.same (fun _ _ _ => rfl)⟩
    cases hL : L (s.data.toList.take k) with
    | false =>
      have HE := Aside0.mk (dead_on HD.out s hL s.size hk (Nat.le_refl _))
      rw [ndAt_no hL]
      clear hL
      go_wp2
      go_ret
      exact ⟨by rw [ndAt_no (by rw [← take_all s]; exact HE.out)]; rfl, HM.out⟩
    | true =>
      have hc3 : wr.cell? ⟨ν (s.data.toList.take k), 3, none⟩ = some (.map (μ (s.data.toList.take k))) := HTr.out.c3 hL
      rw [ndAt_yes hL]
      by_cases hlt : k < s.size
      · have HTS := Aside0.mk (take_snoc s k hlt)
        have HLK := Aside0.mk (HTr.out.look hL s[k] : ∀ n, (Instr.lookup 86 (.map (μ (s.data.toList.take k))) (.int .u8 (s[k].toNat : Int)) false).run Try.prog (wr.drewN n) = .ok (.pointer (ndAt L ν (s.data.toList.take k ++ [s[k]]))) (wr.drewN n))
        clear hL
        go_wp2
        have hlk := HLK.out
        go_quiet (fail)
        clear hlk
        go_wp2
        go_roundw
        case rel => exact ⟨k + 1, by omega, by simp, by rw [HTS.out]; rfl, ⟨by obtain ⟨m, rfl⟩ := HM.out; exact ⟨m + nq, by rw [World.drewN_drewN]⟩⟩⟩
        case measure => simp [intOf]; omega
      · obtain rfl : k = s.size := by omega
        rw [take_all s] at hL hc3 ⊢
        have HE := Aside0.mk hL
        clear hL hc3
        go_wp2
        go_ret
        exact ⟨by rw [ndAt_yes HE.out]; rfl, HM.out⟩

/-! ### Lookup -/
theorem kind_none {F : Key} {s : Path} (h : ¬ Lives F s) : kindOf F s = 0 ∧ F s = none := by
  have h1 := not_lives_none h
  have h2 : ¬ Ext F s := fun ⟨u, r, hr⟩ => h (.inr ⟨u :: r, hr⟩)
  unfold kindOf
  rw [h1, if_neg h2]
  exact ⟨rfl, rfl⟩
set_option maxRecDepth 100000 in
set_option maxHeartbeats 1000000 in
theorem lookup_calls {w : World} {own : Nat → Prop} {g : Nat} {F : Key} {c : Nat} (h : KM w own g F c) (s : ByteArray) (hs : s.size ≤ 1000000000000) :
    Calls Try.prog 16 #[.pointer (some ⟨g, 0, none⟩), .string s] w fun e w' => e = .returned (.tuple #[((F s.data.toList).getD Bd.no).v, .int .i64 (kindOf F s.data.toList)]) ∧ Below w.heap.size w w' := by
  obtain ⟨town, L, ν, μ, f, b, hK0⟩ := h.ex
  have hal := below_alloc (Below.refl w.heap.size w) (.cells #[.int .i64 0, .string ⟨#[]⟩, .string ⟨#[]⟩] 44)
  have hK := hK0.same (w' := w.alloc (.cells #[.int .i64 0, .string ⟨#[]⟩, .string ⟨#[]⟩] 44)) (fun k _ hk => hal.block k hk)
  have hKM : KM (w.alloc (.cells #[.int .i64 0, .string ⟨#[]⟩, .string ⟨#[]⟩] 44)) own g F c := ⟨_, _, _, _, _, _, hK⟩
  have hnew := blk_new w (.cells #[.int .i64 0, .string ⟨#[]⟩, .string ⟨#[]⟩] 44)
  have HNEW := Aside0.mk hnew
  have HAL := Aside0.mk hal
  have HAT := Aside0.mk (at_calls hK s hs)
  cases hL : L s.data.toList with
  | false =>
    have hn := kind_none (fun hl => by rw [(hK.live _).2 hl] at hL; cases hL)
    rw [hn.1, hn.2]
    have hno := ndAt_no (ν := ν) hL
    rw [hno] at HAT
    clear hL hno hn hK hK0 h hnew hal
    go_enter Try.func16, Try.ntmps16
    go_wp2_with (first
      | (go_at_call 38; go_loud (refine (none_calls hKM).mono ?_; rintro e w' ⟨rfl, rfl⟩))
      | (go_at_call 42; go_loud (refine HAT.out.mono ?_; rintro e w' ⟨rfl, m, rfl⟩; have hr0 := blk_drewN HNEW.out m; have hz0 : ((w.alloc (.cells #[.int .i64 0, .string ⟨#[]⟩, .string ⟨#[]⟩] 44)).drewN m).cell? ⟨w.heap.size, 0, none⟩ = some (.int .i64 0) := (blk_cell hr0 0).trans rfl; have hz1 : ((w.alloc (.cells #[.int .i64 0, .string ⟨#[]⟩, .string ⟨#[]⟩] 44)).drewN m).cell? ⟨w.heap.size, 1, none⟩ = some (.string ⟨#[]⟩) := (blk_cell hr0 1).trans rfl; have hz2 : ((w.alloc (.cells #[.int .i64 0, .string ⟨#[]⟩, .string ⟨#[]⟩] 44)).drewN m).cell? ⟨w.heap.size, 2, none⟩ = some (.string ⟨#[]⟩) := (blk_cell hr0 2).trans rfl; have hf0 := blk_frozen hr0 0; have hf1 := blk_frozen hr0 1; have hf2 := blk_frozen hr0 2)))
    refine bodyPost_ret (results_ct rfl _ _ w.heap.size 44 #[.int .i64 0, .string ⟨#[]⟩, .string ⟨#[]⟩] (0, 0) _ rfl (blk_put (blk_put (blk_put hr0 0 _ rfl) 1 _ rfl) 2 _ rfl) Try.underlying44 rfl (by kernel_rfl)) rfl ⟨rfl, below_set (below_set (below_set (pw_below_drewN HAL.out m) (Nat.le_refl _)) (Nat.le_refl _)) (Nat.le_refl _)⟩
  | true =>
    have hva := hK.val _ hL
    obtain ⟨cn, hln, hce⟩ := hK.len hL
    have HLN := Aside0.mk hln
    have HTR := Aside0.mk hK.tr
    have HLL := Aside0.mk hL
    have hye := ndAt_yes (ν := ν) hL
    rw [hye] at HAT
    have hgk := hK.good.kind s.data.toList
    cases hF : F s.data.toList with
    | none =>
      have hx : f s.data.toList = Bd.no := by rw [hva, hF]; rfl
      by_cases hE : Ext F s.data.toList
      · have hko : kindOf F s.data.toList = 1 := by unfold kindOf; rw [hF, if_pos hE]; rfl
        have hc0 : ((cn : Int) == 0) = false := by
          have := fun e => hce.1 e hE
          simp; omega
        rw [hko]
        show Calls _ _ _ _ fun e w' => e = .returned (.tuple #[.agg #[.int .i64 0, .string ⟨#[]⟩, .string ⟨#[]⟩], .int .i64 1]) ∧ Below w.heap.size w w'
        have HFX := Aside0.mk hx
        clear hko hE hx hva hce hln hL hye hK hK0 h hnew hal hF hgk
        go_enter Try.func16, Try.ntmps16
        go_wp2_with (first
          | (go_at_call 38; go_loud (refine (none_calls hKM).mono ?_; rintro e w' ⟨rfl, rfl⟩))
          | (go_at_call 42; go_loud (refine HAT.out.mono ?_; rintro e w' ⟨rfl, m, rfl⟩; have hr0 := blk_drewN HNEW.out m; have hz0 : ((w.alloc (.cells #[.int .i64 0, .string ⟨#[]⟩, .string ⟨#[]⟩] 44)).drewN m).cell? ⟨w.heap.size, 0, none⟩ = some (.int .i64 0) := (blk_cell hr0 0).trans rfl; have hz1 : ((w.alloc (.cells #[.int .i64 0, .string ⟨#[]⟩, .string ⟨#[]⟩] 44)).drewN m).cell? ⟨w.heap.size, 1, none⟩ = some (.string ⟨#[]⟩) := (blk_cell hr0 1).trans rfl; have hz2 : ((w.alloc (.cells #[.int .i64 0, .string ⟨#[]⟩, .string ⟨#[]⟩] 44)).drewN m).cell? ⟨w.heap.size, 2, none⟩ = some (.string ⟨#[]⟩) := (blk_cell hr0 2).trans rfl; have hf0 := blk_frozen hr0 0; have hf1 := blk_frozen hr0 1; have hf2 := blk_frozen hr0 2; have hn0 : ((w.alloc (.cells #[.int .i64 0, .string ⟨#[]⟩, .string ⟨#[]⟩] 44)).drewN m).cell? ⟨ν s.data.toList, 0, none⟩ = some (.int .i64 0) := (HTR.out.c0 HLL.out).trans (congrArg (fun z : Bd => some (Value.int .i64 z.kind)) HFX.out); have hn1 : ((w.alloc (.cells #[.int .i64 0, .string ⟨#[]⟩, .string ⟨#[]⟩] 44)).drewN m).cell? ⟨ν s.data.toList, 1, none⟩ = some (.string ⟨#[]⟩) := (HTR.out.c1 HLL.out).trans (congrArg (fun z : Bd => some (Value.string z.name)) HFX.out); have hn2 : ((w.alloc (.cells #[.int .i64 0, .string ⟨#[]⟩, .string ⟨#[]⟩] 44)).drewN m).cell? ⟨ν s.data.toList, 2, none⟩ = some (.string ⟨#[]⟩) := (HTR.out.c2 HLL.out).trans (congrArg (fun z : Bd => some (Value.string z.keys)) HFX.out); have hn3 : ((w.alloc (.cells #[.int .i64 0, .string ⟨#[]⟩, .string ⟨#[]⟩] 44)).drewN m).cell? ⟨ν s.data.toList, 3, none⟩ = some (.map (μ s.data.toList)) := HTR.out.c3 HLL.out; have hln := HLN.out m)))
        refine bodyPost_ret (results_ct rfl _ _ w.heap.size 44 #[.int .i64 0, .string ⟨#[]⟩, .string ⟨#[]⟩] (0, 0) _ rfl (blk_put (blk_put (blk_put hr0 0 _ rfl) 1 _ rfl) 2 _ rfl) Try.underlying44 rfl (by kernel_rfl)) rfl ⟨rfl, below_set (below_set (below_set (pw_below_drewN HAL.out m) (Nat.le_refl _)) (Nat.le_refl _)) (Nat.le_refl _)⟩
      · have hko : kindOf F s.data.toList = 0 := by unfold kindOf; rw [hF, if_neg hE]; rfl
        obtain rfl : cn = 0 := hce.2 hE
        rw [hko]
        show Calls _ _ _ _ fun e w' => e = .returned (.tuple #[.agg #[.int .i64 0, .string ⟨#[]⟩, .string ⟨#[]⟩], .int .i64 0]) ∧ Below w.heap.size w w'
        have HFX := Aside0.mk hx
        clear hko hE hx hva hce hln hL hye hK hK0 h hnew hal hF hgk
        go_enter Try.func16, Try.ntmps16
        go_wp2_with (first
          | (go_at_call 38; go_loud (refine (none_calls hKM).mono ?_; rintro e w' ⟨rfl, rfl⟩))
          | (go_at_call 42; go_loud (refine HAT.out.mono ?_; rintro e w' ⟨rfl, m, rfl⟩; have hr0 := blk_drewN HNEW.out m; have hz0 : ((w.alloc (.cells #[.int .i64 0, .string ⟨#[]⟩, .string ⟨#[]⟩] 44)).drewN m).cell? ⟨w.heap.size, 0, none⟩ = some (.int .i64 0) := (blk_cell hr0 0).trans rfl; have hz1 : ((w.alloc (.cells #[.int .i64 0, .string ⟨#[]⟩, .string ⟨#[]⟩] 44)).drewN m).cell? ⟨w.heap.size, 1, none⟩ = some (.string ⟨#[]⟩) := (blk_cell hr0 1).trans rfl; have hz2 : ((w.alloc (.cells #[.int .i64 0, .string ⟨#[]⟩, .string ⟨#[]⟩] 44)).drewN m).cell? ⟨w.heap.size, 2, none⟩ = some (.string ⟨#[]⟩) := (blk_cell hr0 2).trans rfl; have hf0 := blk_frozen hr0 0; have hf1 := blk_frozen hr0 1; have hf2 := blk_frozen hr0 2; have hn0 : ((w.alloc (.cells #[.int .i64 0, .string ⟨#[]⟩, .string ⟨#[]⟩] 44)).drewN m).cell? ⟨ν s.data.toList, 0, none⟩ = some (.int .i64 0) := (HTR.out.c0 HLL.out).trans (congrArg (fun z : Bd => some (Value.int .i64 z.kind)) HFX.out); have hn1 : ((w.alloc (.cells #[.int .i64 0, .string ⟨#[]⟩, .string ⟨#[]⟩] 44)).drewN m).cell? ⟨ν s.data.toList, 1, none⟩ = some (.string ⟨#[]⟩) := (HTR.out.c1 HLL.out).trans (congrArg (fun z : Bd => some (Value.string z.name)) HFX.out); have hn2 : ((w.alloc (.cells #[.int .i64 0, .string ⟨#[]⟩, .string ⟨#[]⟩] 44)).drewN m).cell? ⟨ν s.data.toList, 2, none⟩ = some (.string ⟨#[]⟩) := (HTR.out.c2 HLL.out).trans (congrArg (fun z : Bd => some (Value.string z.keys)) HFX.out); have hn3 : ((w.alloc (.cells #[.int .i64 0, .string ⟨#[]⟩, .string ⟨#[]⟩] 44)).drewN m).cell? ⟨ν s.data.toList, 3, none⟩ = some (.map (μ s.data.toList)) := HTR.out.c3 HLL.out; have hln := HLN.out m)))
        refine bodyPost_ret (results_ct rfl _ _ w.heap.size 44 #[.int .i64 0, .string ⟨#[]⟩, .string ⟨#[]⟩] (0, 0) _ rfl (blk_put (blk_put (blk_put hr0 0 _ rfl) 1 _ rfl) 2 _ rfl) Try.underlying44 rfl (by kernel_rfl)) rfl ⟨rfl, below_set (below_set (below_set (pw_below_drewN HAL.out m) (Nat.le_refl _)) (Nat.le_refl _)) (Nat.le_refl _)⟩
    | some x =>
      have hx : f s.data.toList = x := by rw [hva, hF]; rfl
      have hk0 : (x.kind == 0) = false := by simpa using hgk x hF
      by_cases hE : Ext F s.data.toList
      · have hko : kindOf F s.data.toList = 3 := by unfold kindOf; rw [hF, if_pos hE]; rfl
        have hc0 : ((cn : Int) == 0) = false := by
          have := fun e => hce.1 e hE
          simp; omega
        rw [hko]
        show Calls _ _ _ _ fun e w' => e = .returned (.tuple #[.agg #[.int .i64 x.kind, .string x.name, .string x.keys], .int .i64 3]) ∧ Below w.heap.size w w'
        have HFX := Aside0.mk hx
        clear hko hE hx hva hce hln hL hye hK hK0 h hnew hal hF hgk
        go_enter Try.func16, Try.ntmps16
        go_wp2_with (first
          | (go_at_call 38; go_loud (refine (none_calls hKM).mono ?_; rintro e w' ⟨rfl, rfl⟩))
          | (go_at_call 42; go_loud (refine HAT.out.mono ?_; rintro e w' ⟨rfl, m, rfl⟩; have hr0 := blk_drewN HNEW.out m; have hz0 : ((w.alloc (.cells #[.int .i64 0, .string ⟨#[]⟩, .string ⟨#[]⟩] 44)).drewN m).cell? ⟨w.heap.size, 0, none⟩ = some (.int .i64 0) := (blk_cell hr0 0).trans rfl; have hz1 : ((w.alloc (.cells #[.int .i64 0, .string ⟨#[]⟩, .string ⟨#[]⟩] 44)).drewN m).cell? ⟨w.heap.size, 1, none⟩ = some (.string ⟨#[]⟩) := (blk_cell hr0 1).trans rfl; have hz2 : ((w.alloc (.cells #[.int .i64 0, .string ⟨#[]⟩, .string ⟨#[]⟩] 44)).drewN m).cell? ⟨w.heap.size, 2, none⟩ = some (.string ⟨#[]⟩) := (blk_cell hr0 2).trans rfl; have hf0 := blk_frozen hr0 0; have hf1 := blk_frozen hr0 1; have hf2 := blk_frozen hr0 2; have hn0 : ((w.alloc (.cells #[.int .i64 0, .string ⟨#[]⟩, .string ⟨#[]⟩] 44)).drewN m).cell? ⟨ν s.data.toList, 0, none⟩ = some (.int .i64 x.kind) := (HTR.out.c0 HLL.out).trans (congrArg (fun z : Bd => some (Value.int .i64 z.kind)) HFX.out); have hn1 : ((w.alloc (.cells #[.int .i64 0, .string ⟨#[]⟩, .string ⟨#[]⟩] 44)).drewN m).cell? ⟨ν s.data.toList, 1, none⟩ = some (.string x.name) := (HTR.out.c1 HLL.out).trans (congrArg (fun z : Bd => some (Value.string z.name)) HFX.out); have hn2 : ((w.alloc (.cells #[.int .i64 0, .string ⟨#[]⟩, .string ⟨#[]⟩] 44)).drewN m).cell? ⟨ν s.data.toList, 2, none⟩ = some (.string x.keys) := (HTR.out.c2 HLL.out).trans (congrArg (fun z : Bd => some (Value.string z.keys)) HFX.out); have hn3 : ((w.alloc (.cells #[.int .i64 0, .string ⟨#[]⟩, .string ⟨#[]⟩] 44)).drewN m).cell? ⟨ν s.data.toList, 3, none⟩ = some (.map (μ s.data.toList)) := HTR.out.c3 HLL.out; have hln := HLN.out m)))
        refine bodyPost_ret (results_ct rfl _ _ w.heap.size 44 #[.int .i64 x.kind, .string x.name, .string x.keys] (0, 0) _ rfl (blk_put (blk_put (blk_put hr0 0 _ rfl) 1 _ rfl) 2 _ rfl) Try.underlying44 rfl (by kernel_rfl)) rfl ⟨rfl, below_set (below_set (below_set (pw_below_drewN HAL.out m) (Nat.le_refl _)) (Nat.le_refl _)) (Nat.le_refl _)⟩
      · have hko : kindOf F s.data.toList = 2 := by unfold kindOf; rw [hF, if_neg hE]; rfl
        obtain rfl : cn = 0 := hce.2 hE
        rw [hko]
        show Calls _ _ _ _ fun e w' => e = .returned (.tuple #[.agg #[.int .i64 x.kind, .string x.name, .string x.keys], .int .i64 2]) ∧ Below w.heap.size w w'
        have HFX := Aside0.mk hx
        clear hko hE hx hva hce hln hL hye hK hK0 h hnew hal hF hgk
        go_enter Try.func16, Try.ntmps16
        go_wp2_with (first
          | (go_at_call 38; go_loud (refine (none_calls hKM).mono ?_; rintro e w' ⟨rfl, rfl⟩))
          | (go_at_call 42; go_loud (refine HAT.out.mono ?_; rintro e w' ⟨rfl, m, rfl⟩; have hr0 := blk_drewN HNEW.out m; have hz0 : ((w.alloc (.cells #[.int .i64 0, .string ⟨#[]⟩, .string ⟨#[]⟩] 44)).drewN m).cell? ⟨w.heap.size, 0, none⟩ = some (.int .i64 0) := (blk_cell hr0 0).trans rfl; have hz1 : ((w.alloc (.cells #[.int .i64 0, .string ⟨#[]⟩, .string ⟨#[]⟩] 44)).drewN m).cell? ⟨w.heap.size, 1, none⟩ = some (.string ⟨#[]⟩) := (blk_cell hr0 1).trans rfl; have hz2 : ((w.alloc (.cells #[.int .i64 0, .string ⟨#[]⟩, .string ⟨#[]⟩] 44)).drewN m).cell? ⟨w.heap.size, 2, none⟩ = some (.string ⟨#[]⟩) := (blk_cell hr0 2).trans rfl; have hf0 := blk_frozen hr0 0; have hf1 := blk_frozen hr0 1; have hf2 := blk_frozen hr0 2; have hn0 : ((w.alloc (.cells #[.int .i64 0, .string ⟨#[]⟩, .string ⟨#[]⟩] 44)).drewN m).cell? ⟨ν s.data.toList, 0, none⟩ = some (.int .i64 x.kind) := (HTR.out.c0 HLL.out).trans (congrArg (fun z : Bd => some (Value.int .i64 z.kind)) HFX.out); have hn1 : ((w.alloc (.cells #[.int .i64 0, .string ⟨#[]⟩, .string ⟨#[]⟩] 44)).drewN m).cell? ⟨ν s.data.toList, 1, none⟩ = some (.string x.name) := (HTR.out.c1 HLL.out).trans (congrArg (fun z : Bd => some (Value.string z.name)) HFX.out); have hn2 : ((w.alloc (.cells #[.int .i64 0, .string ⟨#[]⟩, .string ⟨#[]⟩] 44)).drewN m).cell? ⟨ν s.data.toList, 2, none⟩ = some (.string x.keys) := (HTR.out.c2 HLL.out).trans (congrArg (fun z : Bd => some (Value.string z.keys)) HFX.out); have hn3 : ((w.alloc (.cells #[.int .i64 0, .string ⟨#[]⟩, .string ⟨#[]⟩] 44)).drewN m).cell? ⟨ν s.data.toList, 3, none⟩ = some (.map (μ s.data.toList)) := HTR.out.c3 HLL.out; have hln := HLN.out m)))
        refine bodyPost_ret (results_ct rfl _ _ w.heap.size 44 #[.int .i64 x.kind, .string x.name, .string x.keys] (0, 0) _ rfl (blk_put (blk_put (blk_put hr0 0 _ rfl) 1 _ rfl) 2 _ rfl) Try.underlying44 rfl (by kernel_rfl)) rfl ⟨rfl, below_set (below_set (below_set (pw_below_drewN HAL.out m) (Nat.le_refl _)) (Nat.le_refl _)) (Nat.le_refl _)⟩
end Go.Proofs.Ytcnkgodooignpaa
