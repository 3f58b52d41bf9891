/-
  A keymap in memory: Bind.
-/
import Derived.Test.YtcnkgodooignpaaKE
namespace Go.Proofs.Ytcnkgodooignpaa
open Go.RowKit Go.WideShapes Go.Proofs.YtcnkgodooignpaaW.PrintWords Go.Proofs.YtcnkgodooignpaaW.PrintLast Go.Proofs.YtcnkgodooignpaaW.PrintMore Go.Proofs.Ytcnkgodooignpaa.PAll
set_option linter.unusedVariables false
set_option linter.unusedSimpArgs false
attribute [local go_sem] max2_int min2_int max_two min_two max_three min_three max_four min_four
/-- May a binding be? -/
def mayB (b : Bd) : Bool := (keymap_may.f 1 b.kind b.name b.keys).getD false
theorem may_f (b : Bd) : keymap_may.f 1 b.kind b.name b.keys = some (mayB b) := by
  unfold mayB
  have : ∃ r, keymap_may.f 1 b.kind b.name b.keys = some r := by
    unfold keymap_may.f
    rw [show (1 : Nat) = 0 + 1 from rfl]
    simp only [keymap_may.j0]
    (repeat' split) <;> exact ⟨_, rfl⟩
  obtain ⟨r, hr⟩ := this
  rw [hr]
  rfl
theorem may_calls (b : Bd) (w : World) : Calls Try.prog 43 #[b.v] w fun e w' => e = .returned (.bool (mayB b)) ∧ Below w.heap.size w w' := keymap_may.calls 1 b.kind b.name b.keys _ w (may_f b)
theorem refmay_f (b : Bd) : lanyardref14_May.f 1 b.kind b.name b.keys = some (mayB b) := by
  rw [← may_f b]
  unfold lanyardref14_May.f keymap_may.f
  rw [show (1 : Nat) = 0 + 1 from rfl]
  simp only [lanyardref14_May.j0, keymap_may.j0]
  by_cases h : b.kind = 0
  · rw [if_pos h, if_pos h, h]
    by_cases hn : b.name.toList = []
    · rw [if_pos hn, hn]; rfl
    · rw [if_neg hn]
      have : (b.name.toList == []) = false := by simpa using hn
      rw [this]
      rfl
  · rw [if_neg h, if_neg h]
theorem refmay_calls (b : Bd) (w : World) : Calls Try.prog 52 #[b.v] w fun e w' => e = .returned (.bool (mayB b)) ∧ Below w.heap.size w w' := lanyardref14_May.calls 1 b.kind b.name b.keys _ w (refmay_f b)
/-- What Bind answers, and what is bound then. -/
def bindE (F : Key) (c : Nat) (s : ByteArray) (x : Bd) : Int :=
  if s.size = 0 ∨ 64 < s.size then 140 else if mayB x = false then 1 else if x.kind = 0 then 0 else if F s.data.toList = none ∧ 4096 ≤ c then 3 else 0
def bindF (F : Key) (c : Nat) (s : ByteArray) (x : Bd) : Key :=
  if bindE F c s x ≠ 0 then F else upd F s.data.toList (if x.kind = 0 then none else some x)
def bindC (F : Key) (c : Nat) (s : ByteArray) (x : Bd) : Nat :=
  if bindE F c s x ≠ 0 then c else if x.kind = 0 then c - (if (F s.data.toList).isSome then 1 else 0) else cntUp (F s.data.toList) c
theorem drop_done {w w2 w' : World} {own town : Nat → Prop} {g c c' b : Nat} {F : Key} {L : Path → Bool} {ν : Path → Nat} {μ : Path → Option Nat} {f : Path → Bd} {s : Path} {e : Ending} (hK : KMx w own g F c town L ν μ f b) (hM2 : Mh Try.prog 9 w2 b (bnd (upd F s none)) c') (hfr2 : Fr (fun k => k = b) w w2) (hs : (F s).isSome = true)
    (hD : DropPost w2 town L ν μ f [] s e w') : ∃ own', KM w' own' g (upd F s none) c' ∧ (∀ k, own' k → own k ∨ w.heap.size ≤ k) ∧ Fr own w w' := by
  obtain ⟨L', ans, rfl, hT, hF, hDr, _⟩ := hD
  rw [List.nil_append] at hT hDr
  have hgb : g ≠ b := hK.mp.ne hK.box
  have hFr : Fr own w w' := Fr.trans (hfr2.mono (N' := own) (fun i _ e => e ▸ hK.ownb)) hF (fun i _ h => hK.ownt i h)
  have hs0 : s ≠ [] := by
    cases hx : F s with
    | none => rw [hx] at hs; cases hs
    | some x => exact hK.good.ne s x hx
  have hdn : ∀ (t s : Path), L (s ++ t) = true → L s = true := by
    intro t
    induction t with
    | nil => intro s h; rwa [List.append_nil] at h
    | cons v t ih => intro s h; exact hK.tr.down s v (ih (s ++ [v]) (by rw [List.append_assoc]; exact h))
  have hal : ∀ q, Alive L (upd f s Bd.no) q ↔ ∃ r, (upd F s none (q ++ r)).isSome = true := by
    intro q
    constructor
    · rintro ⟨t, h1, h2⟩
      refine ⟨t, ?_⟩
      by_cases e : q ++ t = s
      · rw [e, upd_same] at h2
        exact absurd rfl h2
      · rw [upd_other _ _ e] at h2 ⊢
        rw [hK.val _ h1] at h2
        cases hF : F (q ++ t) with
        | none => rw [hF] at h2; exact absurd rfl h2
        | some x => rfl
    · rintro ⟨t, h1⟩
      refine ⟨t, ?_⟩
      by_cases e : q ++ t = s
      · rw [e, upd_same] at h1
        cases h1
      · rw [upd_other _ _ e] at h1 ⊢
        have hl : L (q ++ t) = true := (hK.live _).2 (.inr ⟨[], by rw [List.append_nil]; exact h1⟩)
        refine ⟨hl, ?_⟩
        rw [hK.val _ hl]
        cases hF : F (q ++ t) with
        | none => rw [hF] at h1; cases h1
        | some x => exact hK.good.kind _ x hF
  refine ⟨own, ⟨town, L', ν, μ, _, b, ⟨?_, hT, ?_, hK.owng, hK.ownb, hK.ownt, hK.nb, hK.ng, fun k hk => Nat.lt_of_lt_of_le (hK.olt k hk) hFr.size, ?_, ?_, ?_⟩⟩, fun k hk => .inl hk, hFr⟩
  · exact hF.blk (hfr2.blk hK.box hgb) hK.ng
  · exact hM2.same (hF.block b hM2.lt hK.nb)
  · intro t
    by_cases hw : Way [] s t
    · rw [hDr.on t hw, hal t]
      exact ⟨.inr, fun h => h.elim (fun h => absurd h hw.2.1) id⟩
    · rw [hDr.off t hw, hK.live t]
      have hne : ∀ r, t ≠ [] → t ++ r ≠ s := fun r h0 e => hw ⟨List.nil_prefix, h0, ⟨r, by rw [e]; rfl⟩⟩
      constructor
      · rintro (h | ⟨r, h⟩)
        · exact .inl h
        · by_cases h0 : t = []
          · exact .inl h0
          · exact .inr ⟨r, by rw [upd_other _ _ (hne r h0)]; exact h⟩
      · rintro (h | ⟨r, h⟩)
        · exact .inl h
        · by_cases h0 : t = []
          · exact .inl h0
          · exact .inr ⟨r, by rw [upd_other _ _ (hne r h0)] at h; exact h⟩
  · intro t ht
    by_cases e : t = s
    · rw [e, upd_same, upd_same]; rfl
    · rw [upd_other _ _ e, upd_other _ _ e]
      refine hK.val t ?_
      by_cases hw : Way [] s t
      · obtain ⟨r, h1, _⟩ := (hDr.on t hw).1 ht
        exact hdn r t h1
      · rwa [hDr.off t hw] at ht
  · refine ⟨?_, ?_, ?_⟩
    all_goals
      intro t y hy
      by_cases e : t = s
      · subst e
        rw [upd_same] at hy
        cases hy
      · rw [upd_other _ _ e] at hy
        first | exact hK.good.ne t y hy | exact hK.good.len t y hy | exact hK.good.kind t y hy
/-! ### Bind -/
theorem alive_of {w : World} {own : Nat → Prop} {g : Nat} {F : Key} {c : Nat} {town : Nat → Prop} {L : Path → Bool} {ν : Path → Nat} {μ : Path → Option Nat} {f : Path → Bd} {b : Nat} (h : KMx w own g F c town L ν μ f b) {q : Path} (hq : L q = true) (h0 : q ≠ []) : Alive L f q := by
  rcases (h.live q).1 hq with e | ⟨r, hr⟩
  · exact absurd e h0
  · have hl : L (q ++ r) = true := (h.live _).2 (.inr ⟨[], by rw [List.append_nil]; exact hr⟩)
    refine ⟨r, hl, ?_⟩
    rw [h.val _ hl]
    cases hF : F (q ++ r) with
    | none => rw [hF] at hr; cases hr
    | some x => exact h.good.kind _ x hF
/-- What Bind leaves. -/
def BindPost (w : World) (own : Nat → Prop) (g : Nat) (F : Key) (c : Nat) (s : ByteArray) (x : Bd) (e : Ending) (w' : World) : Prop :=
  e = .returned (.int .i64 (bindE F c s x)) ∧ ∃ own', KM w' own' g (bindF F c s x) (bindC F c s x) ∧ (∀ k, own' k → own k ∨ w.heap.size ≤ k) ∧ Fr own w w'
theorem BindPost.no {w w' : World} {own : Nat → Prop} {g : Nat} {F : Key} {c : Nat} {s : ByteArray} {x : Bd} {e : Ending} {n : Int} (h : KM w own g F c) (hb : Below w.heap.size w w') (he : bindE F c s x = n) (hn : n ≠ 0) (hr : e = .returned (.int .i64 n)) : BindPost w own g F c s x e w' := by
  subst he
  have h1 : bindF F c s x = F := if_pos hn
  have h2 : bindC F c s x = c := if_pos hn
  exact ⟨hr, own, by rw [h1, h2]; exact h.below hb, fun k hk => .inl hk, Fr.of_below hb⟩
theorem BindPost.yes {w w' : World} {own : Nat → Prop} {g : Nat} {F : Key} {c : Nat} {s : ByteArray} {x : Bd} {e : Ending} {F' : Key} {c' : Nat} (he : bindE F c s x = 0) (hF : F' = upd F s.data.toList (if x.kind = 0 then none else some x)) (hc : c' = if x.kind = 0 then c - (if (F s.data.toList).isSome then 1 else 0) else cntUp (F s.data.toList) c)
    (h : ∃ own', KM w' own' g F' c' ∧ (∀ k, own' k → own k ∨ w.heap.size ≤ k) ∧ Fr own w w') (hr : e = .returned (.int .i64 0)) : BindPost w own g F c s x e w' := by
  have h1 : bindF F c s x = F' := by rw [hF]; exact if_neg (by rw [he]; decide)
  have h2 : bindC F c s x = c' := by rw [hc]; exact if_neg (by rw [he]; decide)
  refine ⟨by rw [he]; exact hr, ?_⟩
  rw [h1, h2]
  exact h
set_option maxRecDepth 100000 in
set_option maxHeartbeats 2000000 in
theorem bind_calls {w : World} {own : Nat → Prop} {g : Nat} {F : Key} {c : Nat} (h : KM w own g F c) (hc : c ≤ 1000000000000) (s : ByteArray) (hs : s.size ≤ 1000000000000) (x : Bd) :
    Calls Try.prog 18 #[.pointer (some ⟨g, 0, none⟩), .string s, x.v] w (BindPost w own g F c s x) := by
  have hal := below_alloc (Below.refl w.heap.size w) (.cells #[.int .i64 x.kind, .string x.name, .string x.keys] 44)
  have HAL := Aside0.mk hal
  have H := Aside0.mk h
  have HK1 := Aside0.mk (h.below hal)
  have hnew := Aside0.mk (blk_new w (.cells #[.int .i64 x.kind, .string x.name, .string x.keys] 44))
  clear hal h
  by_cases h0 : s.size = 0
  · have hE : Aside0 (bindE F c s x = 140) := ⟨if_pos (.inl h0)⟩
    have hem := em_true h0
    clear h0
    unfold Bd.v
    go_enter Try.func18, Try.ntmps18
    go_wp2_with (go_at_call 38; go_loud (refine (none_calls HK1.out).mono ?_; rintro e w' ⟨rfl, rfl⟩))
    go_ret
    exact BindPost.no H.out HAL.out hE.out (by decide) rfl
  have hem := em_false (Nat.pos_of_ne_zero h0)
  by_cases h64 : 64 < s.size
  · have hE : Aside0 (bindE F c s x = 140) := ⟨if_pos (.inr h64)⟩
    have h64' : (64 : Int) < (s.size : Int) := by omega
    clear h0 h64
    unfold Bd.v
    go_enter Try.func18, Try.ntmps18
    go_wp2_with (go_at_call 38; go_loud (refine (none_calls HK1.out).mono ?_; rintro e w' ⟨rfl, rfl⟩))
    go_ret
    exact BindPost.no H.out HAL.out hE.out (by decide) rfl
  have hE0 : bindE F c s x = if mayB x = false then 1 else if x.kind = 0 then 0 else if F s.data.toList = none ∧ 4096 ≤ c then 3 else 0 := if_neg (by omega)
  have HP := Aside0.mk (Nat.pos_of_ne_zero h0)
  have H64 := Aside0.mk (Nat.le_of_not_lt h64)
  have h64' : ¬ (64 : Int) < (s.size : Int) := by omega
  have HMC := fun W : World => may_calls x W
  clear h0 h64
  unfold Bd.v at HMC ⊢
  have BX := Aside0.mk (fun (W : World) (hb : Below (w.alloc (.cells #[.int .i64 x.kind, .string x.name, .string x.keys] 44)).heap.size (w.alloc (.cells #[.int .i64 x.kind, .string x.name, .string x.keys] 44)) W) => blk_below hnew.out hb)
  cases hm : mayB x with
  | false =>
    have hE : Aside0 (bindE F c s x = 1) := ⟨by rw [hE0, hm]; rfl⟩
    rw [hm] at HMC
    have HMC' := Aside0.mk HMC
    clear hE0 hm HMC
    have e0 : (w.alloc (.cells #[.int .i64 x.kind, .string x.name, .string x.keys] 44)).cell? ⟨w.heap.size, 0, none⟩ = some (.int .i64 x.kind) := (blk_cell hnew.out 0).trans rfl
    have e1 : (w.alloc (.cells #[.int .i64 x.kind, .string x.name, .string x.keys] 44)).cell? ⟨w.heap.size, 1, none⟩ = some (.string x.name) := (blk_cell hnew.out 1).trans rfl
    have e2 : (w.alloc (.cells #[.int .i64 x.kind, .string x.name, .string x.keys] 44)).cell? ⟨w.heap.size, 2, none⟩ = some (.string x.keys) := (blk_cell hnew.out 2).trans rfl
    go_enter Try.func18, Try.ntmps18
    go_wp2_with (first
      | (go_at_call 38; go_loud (refine (none_calls HK1.out).mono ?_; rintro e w' ⟨rfl, rfl⟩))
      | (go_at_call 43; go_loud (refine (HMC'.out _).mono ?_; rintro e w2 ⟨rfl, hb2⟩)))
    go_ret
    exact BindPost.no H.out (below_step HAL.out hb2) hE.out (by decide) rfl
  | true =>
    have hE1 : bindE F c s x = if x.kind = 0 then 0 else if F s.data.toList = none ∧ 4096 ≤ c then 3 else 0 := by rw [hE0, hm]; rfl
    rw [hm] at HMC
    have HMC' := Aside0.mk HMC
    clear hE0 hm HMC
    have HGK := Aside0.mk (fun (W : World) (hb : Below w.heap.size w W) => (H.out.below hb))
    have e0 : (w.alloc (.cells #[.int .i64 x.kind, .string x.name, .string x.keys] 44)).cell? ⟨w.heap.size, 0, none⟩ = some (.int .i64 x.kind) := (blk_cell hnew.out 0).trans rfl
    have e1 : (w.alloc (.cells #[.int .i64 x.kind, .string x.name, .string x.keys] 44)).cell? ⟨w.heap.size, 1, none⟩ = some (.string x.name) := (blk_cell hnew.out 1).trans rfl
    have e2 : (w.alloc (.cells #[.int .i64 x.kind, .string x.name, .string x.keys] 44)).cell? ⟨w.heap.size, 2, none⟩ = some (.string x.keys) := (blk_cell hnew.out 2).trans rfl
    by_cases hk : x.kind = 0
    · have hk' : (x.kind == 0) = true := by simpa using hk
      have hE : Aside0 (bindE F c s x = 0) := ⟨by rw [hE1, if_pos hk]⟩
      have HKD := Aside0.mk hk
      clear hk hE1
      cases hF : F s.data.toList with
      | none =>
        have HF := Aside0.mk hF
        clear hF
        have HLO := Aside0.mk (fun (W : World) (b : Nat) (hM : Mh Try.prog 9 W b (bnd F) c) => by have h := hM.getOk key9 Try.underlying62 (zero44 W) (keyOf9 s (by have := H64.out; unfold maxLen; omega)); rw [show bnd F (.string s.data.toList) = (F s.data.toList).map Bd.v from rfl, HF.out] at h; exact h : ∀ (W : World) (b : Nat), Mh Try.prog 9 W b (bnd F) c → (Instr.lookup 62 (.map (some b)) (.string s) true).run Try.prog W = .ok (.tuple #[.agg #[.int .i64 0, .string ⟨#[]⟩, .string ⟨#[]⟩], .bool false]) W)
        go_enter Try.func18, Try.ntmps18
        go_wp2_with (first
          | (go_at_call 38; go_loud (refine (none_calls HK1.out).mono ?_; rintro e w' ⟨rfl, rfl⟩))
          | (go_at_call 43; go_loud (refine (HMC'.out _).mono ?_; rintro e w2 ⟨rfl, hb2⟩; have hb12 := below_step HAL.out hb2; have hx2 := blk_below hnew.out hb2; have q0 : w2.cell? ⟨w.heap.size, 0, none⟩ = some (.int .i64 x.kind) := (blk_cell hx2 0).trans rfl; have q1 : w2.cell? ⟨w.heap.size, 1, none⟩ = some (.string x.name) := (blk_cell hx2 1).trans rfl; have q2 : w2.cell? ⟨w.heap.size, 2, none⟩ = some (.string x.keys) := (blk_cell hx2 2).trans rfl; have hK2 := Aside0.mk (H.out.below hb12); obtain ⟨town, L, ν, μ, f, b, hKx⟩ := hK2.out.ex; have g1 : w2.cell? ⟨g, 1, none⟩ = some (.map (some b)) := (blk_cell hKx.box 1).trans rfl; have HKX := Aside0.mk hKx; have hlo := HLO.out w2 b hKx.mp; have hx3 := blk_alloc hx2 (.cells #[.int .i64 0, .string ⟨#[]⟩, .string ⟨#[]⟩] 44); have p0 : (w2.alloc (.cells #[.int .i64 0, .string ⟨#[]⟩, .string ⟨#[]⟩] 44)).cell? ⟨w.heap.size, 0, none⟩ = some (.int .i64 x.kind) := (blk_cell hx3 0).trans rfl; have p1 : (w2.alloc (.cells #[.int .i64 0, .string ⟨#[]⟩, .string ⟨#[]⟩] 44)).cell? ⟨w.heap.size, 1, none⟩ = some (.string x.name) := (blk_cell hx3 1).trans rfl; have p2 : (w2.alloc (.cells #[.int .i64 0, .string ⟨#[]⟩, .string ⟨#[]⟩] 44)).cell? ⟨w.heap.size, 2, none⟩ = some (.string x.keys) := (blk_cell hx3 2).trans rfl; have hgb := blk_alloc hKx.box (.cells #[.int .i64 0, .string ⟨#[]⟩, .string ⟨#[]⟩] 44); have r1 : (w2.alloc (.cells #[.int .i64 0, .string ⟨#[]⟩, .string ⟨#[]⟩] 44)).cell? ⟨g, 1, none⟩ = some (.map (some b)) := (blk_cell hgb 1).trans rfl; clear hKx hx2 hx3 hgb e0 e1 e2)))
        go_ret
        refine BindPost.yes hE.out (F' := F) (c' := c) ?_ ?_ ⟨own, H.out.below (below_alloc hb12 _), fun k hk => .inl hk, Fr.of_below (below_alloc hb12 _)⟩ rfl
        · rw [if_pos HKD.out]
          funext t
          by_cases e : t = s.data.toList
          · rw [e, upd_same, HF.out]
          · rw [upd_other _ _ e]
        · rw [if_pos HKD.out, HF.out]; rfl
      | some y =>
        have HF := Aside0.mk hF
        clear hF
        have HLO := Aside0.mk (fun (W : World) (b : Nat) (hM : Mh Try.prog 9 W b (bnd F) c) => by have h := hM.getOk key9 Try.underlying62 (zero44 W) (keyOf9 s (by have := H64.out; unfold maxLen; omega)); rw [show bnd F (.string s.data.toList) = (F s.data.toList).map Bd.v from rfl, HF.out] at h; exact h : ∀ (W : World) (b : Nat), Mh Try.prog 9 W b (bnd F) c → (Instr.lookup 62 (.map (some b)) (.string s) true).run Try.prog W = .ok (.tuple #[.agg #[.int .i64 y.kind, .string y.name, .string y.keys], .bool true]) W)
        go_enter Try.func18, Try.ntmps18
        go_wp2_with (first
          | (go_at_call 38; go_loud (refine (none_calls HK1.out).mono ?_; rintro e w' ⟨rfl, rfl⟩))
          | (go_at_call 43; go_loud (refine (HMC'.out _).mono ?_; rintro e w2 ⟨rfl, hb2⟩; have hb12 := below_step HAL.out hb2; have hx2 := blk_below hnew.out hb2; have q0 : w2.cell? ⟨w.heap.size, 0, none⟩ = some (.int .i64 x.kind) := (blk_cell hx2 0).trans rfl; have q1 : w2.cell? ⟨w.heap.size, 1, none⟩ = some (.string x.name) := (blk_cell hx2 1).trans rfl; have q2 : w2.cell? ⟨w.heap.size, 2, none⟩ = some (.string x.keys) := (blk_cell hx2 2).trans rfl; have hK2 := Aside0.mk (H.out.below hb12); obtain ⟨town, L, ν, μ, f, b, hKx⟩ := hK2.out.ex; have g1 : w2.cell? ⟨g, 1, none⟩ = some (.map (some b)) := (blk_cell hKx.box 1).trans rfl; have HKX := Aside0.mk hKx; have hlo := HLO.out w2 b hKx.mp; have hx3 := blk_alloc hx2 (.cells #[.int .i64 y.kind, .string y.name, .string y.keys] 44); have p0 : (w2.alloc (.cells #[.int .i64 y.kind, .string y.name, .string y.keys] 44)).cell? ⟨w.heap.size, 0, none⟩ = some (.int .i64 x.kind) := (blk_cell hx3 0).trans rfl; have p1 : (w2.alloc (.cells #[.int .i64 y.kind, .string y.name, .string y.keys] 44)).cell? ⟨w.heap.size, 1, none⟩ = some (.string x.name) := (blk_cell hx3 1).trans rfl; have p2 : (w2.alloc (.cells #[.int .i64 y.kind, .string y.name, .string y.keys] 44)).cell? ⟨w.heap.size, 2, none⟩ = some (.string x.keys) := (blk_cell hx3 2).trans rfl; have hgb := blk_alloc hKx.box (.cells #[.int .i64 y.kind, .string y.name, .string y.keys] 44); have r1 : (w2.alloc (.cells #[.int .i64 y.kind, .string y.name, .string y.keys] 44)).cell? ⟨g, 1, none⟩ = some (.map (some b)) := (blk_cell hgb 1).trans rfl; obtain ⟨W3, hdel, hM3, hg3, hz3⟩ := (hKx.mp.alloc (.cells #[.int .i64 y.kind, .string y.name, .string y.keys] 44)).drop key9 Try.underlying62 (keyOf9 s (by have := H64.out; unfold maxLen; omega)) 0; rw [bnd_del, bnd_isSome] at hM3; have hM3 := Aside0.mk hM3; have hF3 : Aside0 (Fr (fun k => k = b) w2 W3) := ⟨((Fr.refl (fun k => k = b) w2).alloc (.cells #[.int .i64 y.kind, .string y.name, .string y.keys] 44)).grown hg3 (.inl rfl)⟩; have hg0 : W3.cell? ⟨g, 0, none⟩ = some (.pointer (some ⟨ν [], 0, none⟩)) := (blk_cell (hF3.out.blk hKx.box (hKx.mp.ne hKx.box)) 0).trans rfl; have HDC := Aside0.mk (drop_calls s.size s rfl (by have := H64.out; omega) (hKx.tr.same (w' := W3) (fun k hk hl => hF3.out.block k hl (fun e => hKx.nb (e ▸ hk)))) [] ((hKx.live _).2 (.inr ⟨[], by rw [List.append_nil, List.nil_append, HF.out]; rfl⟩)) hKx.tr.root (fun q h1 _ h3 => alive_of hKx h1 h3)); clear hg3 hz3; clear hKx hx2 hx3 hgb e0 e1 e2))
          | (go_at_call 44; go_loud (refine HDC.out.mono ?_; rintro e w4 hD; have HD := Aside0.mk hD; obtain ⟨L5, an5, he5, _⟩ := hD; subst he5)))
        go_ret
        refine BindPost.yes hE.out (F' := upd F s.data.toList none) (c' := c - (if (F s.data.toList).isSome then 1 else 0)) ?_ ?_ ?_ rfl
        · rw [if_pos HKD.out]
        · rw [if_pos HKD.out]
        · obtain ⟨own', h1, h2, h3⟩ := drop_done HKX.out hM3.out hF3.out (by rw [HF.out]; rfl) HD.out
          exact ⟨own', h1, fun k hk => (h2 k hk).imp id (fun h => Nat.le_trans hb12.size h), Fr.trans (Fr.of_below (N := own) hb12) h3 (fun _ _ h => h)⟩
    · have hk' : (x.kind == 0) = false := by simpa using hk
      have HKD := Aside0.mk hk
      cases hF : F s.data.toList with
      | none =>
        have HF := Aside0.mk hF
        by_cases h4 : 4096 ≤ c
        · have hE : Aside0 (bindE F c s x = 3) := ⟨by rw [hE1, if_neg hk, if_pos ⟨hF, h4⟩]⟩
          have h4' : (4096 : Int) ≤ (c : Int) := by omega
          clear hk hE1 hF h4
          have HLO := Aside0.mk (fun (W : World) (b : Nat) (hM : Mh Try.prog 9 W b (bnd F) c) => by have h := hM.getOk key9 Try.underlying62 (zero44 W) (keyOf9 s (by have := H64.out; unfold maxLen; omega)); rw [show bnd F (.string s.data.toList) = (F s.data.toList).map Bd.v from rfl, HF.out] at h; exact h : ∀ (W : World) (b : Nat), Mh Try.prog 9 W b (bnd F) c → (Instr.lookup 62 (.map (some b)) (.string s) true).run Try.prog W = .ok (.tuple #[.agg #[.int .i64 0, .string ⟨#[]⟩, .string ⟨#[]⟩], .bool false]) W)
          go_enter Try.func18, Try.ntmps18
          go_wp2_with (first
            | (go_at_call 38; go_loud (refine (none_calls HK1.out).mono ?_; rintro e w' ⟨rfl, rfl⟩))
            | (go_at_call 43; go_loud (refine (HMC'.out _).mono ?_; rintro e w2 ⟨rfl, hb2⟩; have hb12 := below_step HAL.out hb2; have hx2 := blk_below hnew.out hb2; have q0 : w2.cell? ⟨w.heap.size, 0, none⟩ = some (.int .i64 x.kind) := (blk_cell hx2 0).trans rfl; have q1 : w2.cell? ⟨w.heap.size, 1, none⟩ = some (.string x.name) := (blk_cell hx2 1).trans rfl; have q2 : w2.cell? ⟨w.heap.size, 2, none⟩ = some (.string x.keys) := (blk_cell hx2 2).trans rfl; have hK2 := Aside0.mk (H.out.below hb12); obtain ⟨town, L, ν, μ, f, b, hKx⟩ := hK2.out.ex; have g1 : w2.cell? ⟨g, 1, none⟩ = some (.map (some b)) := (blk_cell hKx.box 1).trans rfl; have HKX := Aside0.mk hKx; have hlo := HLO.out w2 b hKx.mp; have hx3 := blk_alloc hx2 (.cells #[.int .i64 0, .string ⟨#[]⟩, .string ⟨#[]⟩] 44); have p0 : (w2.alloc (.cells #[.int .i64 0, .string ⟨#[]⟩, .string ⟨#[]⟩] 44)).cell? ⟨w.heap.size, 0, none⟩ = some (.int .i64 x.kind) := (blk_cell hx3 0).trans rfl; have p1 : (w2.alloc (.cells #[.int .i64 0, .string ⟨#[]⟩, .string ⟨#[]⟩] 44)).cell? ⟨w.heap.size, 1, none⟩ = some (.string x.name) := (blk_cell hx3 1).trans rfl; have p2 : (w2.alloc (.cells #[.int .i64 0, .string ⟨#[]⟩, .string ⟨#[]⟩] 44)).cell? ⟨w.heap.size, 2, none⟩ = some (.string x.keys) := (blk_cell hx3 2).trans rfl; have hgb := blk_alloc hKx.box (.cells #[.int .i64 0, .string ⟨#[]⟩, .string ⟨#[]⟩] 44); have r1 : (w2.alloc (.cells #[.int .i64 0, .string ⟨#[]⟩, .string ⟨#[]⟩] 44)).cell? ⟨g, 1, none⟩ = some (.map (some b)) := (blk_cell hgb 1).trans rfl; have hln : ∀ ty, (Builtin.len_ #[62] ty #[.map (some b)]).run Try.prog (w2.alloc (.cells #[.int .i64 0, .string ⟨#[]⟩, .string ⟨#[]⟩] 44)) = .ok (.int .i64 (c : Int)) (w2.alloc (.cells #[.int .i64 0, .string ⟨#[]⟩, .string ⟨#[]⟩] 44)) := fun ty => (hKx.mp.alloc (.cells #[.int .i64 0, .string ⟨#[]⟩, .string ⟨#[]⟩] 44)).len Try.underlying62 ty; clear hKx hx2 hx3 hgb e0 e1 e2)))
          go_ret
          exact BindPost.no H.out (below_alloc hb12 _) hE.out (by decide) rfl
        · have hE : Aside0 (bindE F c s x = 0) := ⟨by rw [hE1, if_neg hk, if_neg (fun h => h4 h.2)]⟩
          have h4' : ¬ (4096 : Int) ≤ (c : Int) := by omega
          clear hk hE1 hF h4
          have HLO := Aside0.mk (fun (W : World) (b : Nat) (hM : Mh Try.prog 9 W b (bnd F) c) => by have h := hM.getOk key9 Try.underlying62 (zero44 W) (keyOf9 s (by have := H64.out; unfold maxLen; omega)); rw [show bnd F (.string s.data.toList) = (F s.data.toList).map Bd.v from rfl, HF.out] at h; exact h : ∀ (W : World) (b : Nat), Mh Try.prog 9 W b (bnd F) c → (Instr.lookup 62 (.map (some b)) (.string s) true).run Try.prog W = .ok (.tuple #[.agg #[.int .i64 0, .string ⟨#[]⟩, .string ⟨#[]⟩], .bool false]) W)
          go_enter Try.func18, Try.ntmps18
          go_wp2_with (first
            | (go_at_call 38; go_loud (refine (none_calls HK1.out).mono ?_; rintro e w' ⟨rfl, rfl⟩))
            | (go_at_call 43; go_loud (refine (HMC'.out _).mono ?_; rintro e w2 ⟨rfl, hb2⟩; have hb12 := below_step HAL.out hb2; have hx2 := blk_below hnew.out hb2; have q0 : w2.cell? ⟨w.heap.size, 0, none⟩ = some (.int .i64 x.kind) := (blk_cell hx2 0).trans rfl; have q1 : w2.cell? ⟨w.heap.size, 1, none⟩ = some (.string x.name) := (blk_cell hx2 1).trans rfl; have q2 : w2.cell? ⟨w.heap.size, 2, none⟩ = some (.string x.keys) := (blk_cell hx2 2).trans rfl; have hK2 := Aside0.mk (H.out.below hb12); obtain ⟨town, L, ν, μ, f, b, hKx⟩ := hK2.out.ex; have g1 : w2.cell? ⟨g, 1, none⟩ = some (.map (some b)) := (blk_cell hKx.box 1).trans rfl; have HKX := Aside0.mk hKx; have hlo := HLO.out w2 b hKx.mp; have hx3 := blk_alloc hx2 (.cells #[.int .i64 0, .string ⟨#[]⟩, .string ⟨#[]⟩] 44); have p0 : (w2.alloc (.cells #[.int .i64 0, .string ⟨#[]⟩, .string ⟨#[]⟩] 44)).cell? ⟨w.heap.size, 0, none⟩ = some (.int .i64 x.kind) := (blk_cell hx3 0).trans rfl; have p1 : (w2.alloc (.cells #[.int .i64 0, .string ⟨#[]⟩, .string ⟨#[]⟩] 44)).cell? ⟨w.heap.size, 1, none⟩ = some (.string x.name) := (blk_cell hx3 1).trans rfl; have p2 : (w2.alloc (.cells #[.int .i64 0, .string ⟨#[]⟩, .string ⟨#[]⟩] 44)).cell? ⟨w.heap.size, 2, none⟩ = some (.string x.keys) := (blk_cell hx3 2).trans rfl; have hgb := blk_alloc hKx.box (.cells #[.int .i64 0, .string ⟨#[]⟩, .string ⟨#[]⟩] 44); have r1 : (w2.alloc (.cells #[.int .i64 0, .string ⟨#[]⟩, .string ⟨#[]⟩] 44)).cell? ⟨g, 1, none⟩ = some (.map (some b)) := (blk_cell hgb 1).trans rfl; have hln : ∀ ty, (Builtin.len_ #[62] ty #[.map (some b)]).run Try.prog (w2.alloc (.cells #[.int .i64 0, .string ⟨#[]⟩, .string ⟨#[]⟩] 44)) = .ok (.int .i64 (c : Int)) (w2.alloc (.cells #[.int .i64 0, .string ⟨#[]⟩, .string ⟨#[]⟩] 44)) := fun ty => (hKx.mp.alloc (.cells #[.int .i64 0, .string ⟨#[]⟩, .string ⟨#[]⟩] 44)).len Try.underlying62 ty; clear hKx hx2 hx3 hgb e0 e1 e2))
            | (go_at_call 45; go_loud (refine (put_calls (H.out.below (below_alloc hb12 _)) hc s HP.out H64.out x HKD.out).mono ?_; rintro e w4 ⟨⟨v4, rfl⟩, hP4⟩)))
          go_ret
          refine BindPost.yes hE.out (F' := upd F s.data.toList (some x)) (c' := cntUp (F s.data.toList) c) (by rw [if_neg HKD.out]) (by rw [if_neg HKD.out]) ?_ rfl
          obtain ⟨own', h1, h2, h3⟩ := hP4
          exact ⟨own', h1, fun k hk => (h2 k hk).imp id (fun h => Nat.le_trans (below_alloc hb12 _).size h), Fr.trans (Fr.of_below (N := own) (below_alloc hb12 _)) h3 (fun _ _ h => h)⟩
      | some y =>
        have HF := Aside0.mk hF
        have hE : Aside0 (bindE F c s x = 0) := ⟨by rw [hE1, if_neg hk, if_neg (fun h => by rw [hF] at h; cases h.1)]⟩
        clear hk hE1 hF
        have HLO := Aside0.mk (fun (W : World) (b : Nat) (hM : Mh Try.prog 9 W b (bnd F) c) => by have h := hM.getOk key9 Try.underlying62 (zero44 W) (keyOf9 s (by have := H64.out; unfold maxLen; omega)); rw [show bnd F (.string s.data.toList) = (F s.data.toList).map Bd.v from rfl, HF.out] at h; exact h : ∀ (W : World) (b : Nat), Mh Try.prog 9 W b (bnd F) c → (Instr.lookup 62 (.map (some b)) (.string s) true).run Try.prog W = .ok (.tuple #[.agg #[.int .i64 y.kind, .string y.name, .string y.keys], .bool true]) W)
        go_enter Try.func18, Try.ntmps18
        go_wp2_with (first
          | (go_at_call 38; go_loud (refine (none_calls HK1.out).mono ?_; rintro e w' ⟨rfl, rfl⟩))
          | (go_at_call 43; go_loud (refine (HMC'.out _).mono ?_; rintro e w2 ⟨rfl, hb2⟩; have hb12 := below_step HAL.out hb2; have hx2 := blk_below hnew.out hb2; have q0 : w2.cell? ⟨w.heap.size, 0, none⟩ = some (.int .i64 x.kind) := (blk_cell hx2 0).trans rfl; have q1 : w2.cell? ⟨w.heap.size, 1, none⟩ = some (.string x.name) := (blk_cell hx2 1).trans rfl; have q2 : w2.cell? ⟨w.heap.size, 2, none⟩ = some (.string x.keys) := (blk_cell hx2 2).trans rfl; have hK2 := Aside0.mk (H.out.below hb12); obtain ⟨town, L, ν, μ, f, b, hKx⟩ := hK2.out.ex; have g1 : w2.cell? ⟨g, 1, none⟩ = some (.map (some b)) := (blk_cell hKx.box 1).trans rfl; have HKX := Aside0.mk hKx; have hlo := HLO.out w2 b hKx.mp; have hx3 := blk_alloc hx2 (.cells #[.int .i64 y.kind, .string y.name, .string y.keys] 44); have p0 : (w2.alloc (.cells #[.int .i64 y.kind, .string y.name, .string y.keys] 44)).cell? ⟨w.heap.size, 0, none⟩ = some (.int .i64 x.kind) := (blk_cell hx3 0).trans rfl; have p1 : (w2.alloc (.cells #[.int .i64 y.kind, .string y.name, .string y.keys] 44)).cell? ⟨w.heap.size, 1, none⟩ = some (.string x.name) := (blk_cell hx3 1).trans rfl; have p2 : (w2.alloc (.cells #[.int .i64 y.kind, .string y.name, .string y.keys] 44)).cell? ⟨w.heap.size, 2, none⟩ = some (.string x.keys) := (blk_cell hx3 2).trans rfl; have hgb := blk_alloc hKx.box (.cells #[.int .i64 y.kind, .string y.name, .string y.keys] 44); have r1 : (w2.alloc (.cells #[.int .i64 y.kind, .string y.name, .string y.keys] 44)).cell? ⟨g, 1, none⟩ = some (.map (some b)) := (blk_cell hgb 1).trans rfl; clear hKx hx2 hx3 hgb e0 e1 e2))
          | (go_at_call 45; go_loud (refine (put_calls (H.out.below (below_alloc hb12 _)) hc s HP.out H64.out x HKD.out).mono ?_; rintro e w4 ⟨⟨v4, rfl⟩, hP4⟩)))
        go_ret
        refine BindPost.yes hE.out (F' := upd F s.data.toList (some x)) (c' := cntUp (F s.data.toList) c) (by rw [if_neg HKD.out]) (by rw [if_neg HKD.out]) ?_ rfl
        obtain ⟨own', h1, h2, h3⟩ := hP4
        exact ⟨own', h1, fun k hk => (h2 k hk).imp id (fun h => Nat.le_trans (below_alloc hb12 _).size h), Fr.trans (Fr.of_below (N := own) (below_alloc hb12 _)) h3 (fun _ _ h => h)⟩
end Go.Proofs.Ytcnkgodooignpaa
