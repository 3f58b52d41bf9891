/-
  A keymap in memory: New, put.
-/
import Derived.Test.YtcnkgodooignpaaKA
namespace Go.Proofs.Ytcnkgodooignpaa
open Go.RowKit Go.Proofs.YtcnkgodooignpaaW.PrintWords Go.Proofs.YtcnkgodooignpaaW.PrintLast Go.Proofs.YtcnkgodooignpaaW.PrintMore Go.Proofs.Ytcnkgodooignpaa.PAll
set_option linter.unusedVariables false
set_option linter.unusedSimpArgs false
attribute [local go_sem] max2_int min2_int max_two min_two max_three min_three max_four min_four
theorem new_KM (w : World) : KM (((w.alloc (.cells (Bd.no.row none) 88)).alloc (.map #[] 0)).alloc (.cells #[.pointer (some ⟨w.heap.size, 0, none⟩), .map (some (w.heap.size + 1))] 64)) (fun k => w.heap.size ≤ k ∧ k < w.heap.size + 3) (w.heap.size + 2) (fun _ => none) 0 := by
  have h1 := blk_new w (.cells (Bd.no.row none) 88)
  have h2 := Mh.made Try.prog 9 (w.alloc (.cells (Bd.no.row none) 88))
  have h3 := blk_new ((w.alloc (.cells (Bd.no.row none) 88)).alloc (.map #[] 0)) (.cells #[.pointer (some ⟨w.heap.size, 0, none⟩), .map (some (w.heap.size + 1))] 64)
  simp only [World.size_alloc] at h2 h3
  refine ⟨fun k => k = w.heap.size, fun s => s.isEmpty, fun _ => w.heap.size, fun _ => none, fun _ => Bd.no, w.heap.size + 1, ?_⟩
  refine ⟨h3, ⟨rfl, ?_, ?_, ?_, ?_, ?_, ?_, ?_, ?_⟩, ?_, by omega, by omega, fun k hk => by omega, by omega, by omega, fun k hk => by simp only [World.size_alloc]; omega, ?_, ?_, ⟨?_, ?_, ?_⟩⟩
  · intro s hs
    exact blk_alloc (blk_alloc h1 _) _
  · intro s b hs hb
    cases hb
  · intro s hs hb u
    simp
  · intro s u hs
    simp at hs
  · intro s t hs ht _
    rw [List.isEmpty_iff.1 hs, List.isEmpty_iff.1 ht]
  · intro s t b hs ht hb
    cases hb
  · intro s hs
    rfl
  · intro s b hs hb
    cases hb
  · have e : bnd (fun _ => none) = fun _ => none := by
      funext l
      cases l <;> rfl
    rw [e]
    exact h2.alloc _
  · intro s
    unfold Lives
    simp
  · intro s hs
    rfl
  · intro s x h; cases h
  · intro s x h; cases h
  · intro s x h; cases h
theorem new_calls (w : World) : Calls Try.prog 29 #[] w fun e w' => ∃ g own, e = .returned (.pointer (some ⟨g, 0, none⟩)) ∧ w.heap.size ≤ g ∧ KM w' own g (fun _ => none) 0 ∧ (∀ k, own k → w.heap.size ≤ k) ∧ Below w.heap.size w w' := by
  have HK := Aside0.mk (new_KM w)
  have hmm := @run_makeMap Try.prog
  go_enter Try.func29, Try.ntmps29
  go_wp2
  go_ret
  exact ⟨w.heap.size + 2, _, rfl, by omega, HK.out, fun _ h => h.1, below_alloc (below_alloc (below_alloc (Below.refl _ _) _) _) _⟩

/-! ### put -/
theorem take_snoc (s : ByteArray) (k : Nat) (h : k < s.size) : s.data.toList.take (k + 1) = s.data.toList.take k ++ [s[k]] := by
  rw [List.take_succ_eq_append_getElem (by simpa using h)]; rfl
theorem data_len (s : ByteArray) : s.data.toList.length = s.size := by rw [Array.length_toList]; rfl
def cntUp (o : Option Bd) (c : Nat) : Nat := if o.isSome then c else c + 1
/-- The state of put's loop: k bytes have been gone. -/
structure PutSt (w0 : World) (own0 : Nat → Prop) (town0 : Nat → Prop) (F : Key) (s : Path) (k : Nat) (ν0 : Nat) (wr : World) (town : Nat → Prop) (L : Path → Bool) (ν : Path → Nat) (μ : Path → Option Nat) (f : Path → Bd) : Prop where
  tr : Tr wr town L ν μ f
  own1 : ∀ j, town j → town0 j ∨ w0.heap.size ≤ j
  olt : ∀ j, town j → j < wr.heap.size
  live : ∀ t, L t = true ↔ (Lives F t ∨ t <+: s.take k)
  val : ∀ t, L t = true → f t = (F t).getD Bd.no
  root : ν [] = ν0
  fr : Fr town0 w0 wr
theorem not_lives_none {F : Key} {t : Path} (h : ¬ Lives F t) : F t = none := by
  cases hF : F t with
  | none => rfl
  | some x => exact absurd (.inr ⟨[], by rw [List.append_nil, hF]; rfl⟩) h
theorem lives_down {F : Key} {t : Path} {u : UInt8} (h : Lives F (t ++ [u])) : Lives F t := by
  rcases h with h | ⟨r, h⟩
  · simp at h
  · exact .inr ⟨u :: r, by rw [List.append_assoc] at h; exact h⟩
theorem prefix_take_succ {s t : Path} {k : Nat} {u : UInt8} (h : s.take (k + 1) = s.take k ++ [u]) : t <+: s.take (k + 1) ↔ t <+: s.take k ∨ t = s.take k ++ [u] := by
  rw [h, List.prefix_concat_iff]
  constructor
  · rintro (h | h)
    · exact .inr h
    · exact .inl h
  · rintro (h | h)
    · exact .inr h
    · exact .inl h
theorem Fr.alloc {N : Nat → Prop} {a b : World} (h : Fr N a b) (o : Obj) : Fr N a (b.alloc o) := h.trans (Fr.of_below (N := N) (below_alloc (Below.refl _ _) o)) (fun _ _ h => h)
theorem Fr.grown {N : Nat → Prop} {a b d : World} {i : Nat} (h : Fr N a b) (hg : b.grownBy d (some i)) (hi : N i ∨ a.heap.size ≤ i) : Fr N a d :=
  h.trans (N' := fun k => k = i) (Fr.of_grown hg (fun k hk => (Option.some.inj hk).symm)) (fun k hk e => by
    subst e
    rcases hi with h | h
    · exact h
    · omega)
section
variable {w0 wr : World} {own0 town0 town : Nat → Prop} {F : Key} {s : Path} {k ν0 : Nat} {L : Path → Bool} {ν : Path → Nat} {μ : Path → Option Nat} {f : Path → Bd}
theorem PutSt.here (h : PutSt w0 own0 town0 F s k ν0 wr town L ν μ f) : L (s.take k) = true := (h.live _).2 (.inr (List.prefix_refl _))
theorem PutSt.newMap (h : PutSt w0 own0 town0 F s k ν0 wr town L ν μ f) (hm : μ (s.take k) = none) :
    PutSt w0 own0 town0 F s k ν0 ((wr.alloc (.map #[] 0)).setCell ⟨ν (s.take k), 3, none⟩ (.map (some wr.heap.size))) (fun j => town j ∨ j = wr.heap.size) L ν (upd μ (s.take k) (some wr.heap.size)) f where
  tr := h.tr.newMap h.here hm
  own1 j hj := by
    rcases hj with hj | rfl
    · exact h.own1 j hj
    · exact .inr h.fr.size
  olt j hj := by
    have e : ((wr.alloc (.map #[] 0)).setCell ⟨ν (s.take k), 3, none⟩ (.map (some wr.heap.size))).heap.size = wr.heap.size + 1 := by rw [World.size_setCell, World.size_alloc]
    rw [e]
    rcases hj with hj | rfl
    · have := h.olt j hj; omega
    · omega
  live := h.live
  val := h.val
  root := h.root
  fr := (h.fr.alloc _).set (p := ⟨ν (s.take k), 3, none⟩) (h.own1 _ (h.tr.own1 _ h.here)) _
theorem PutSt.next (h : PutSt w0 own0 town0 F s k ν0 wr town L ν μ f) {u : UInt8} (hs : s.take (k + 1) = s.take k ++ [u]) (hL : L (s.take k ++ [u]) = true) : PutSt w0 own0 town0 F s (k + 1) ν0 wr town L ν μ f :=
by
  have hl : ∀ t, L t = true ↔ (Lives F t ∨ t <+: s.take (k + 1)) := by
    intro t
    rw [h.live, prefix_take_succ hs]
    constructor
    · rintro (e | e)
      · exact .inl e
      · exact .inr (.inl e)
    · rintro (e | e | e)
      · exact .inl e
      · exact .inr e
      · rw [e]
        exact (h.live _).1 hL
  exact { h with live := hl }
theorem PutSt.addChild (h : PutSt w0 own0 town0 F s k ν0 wr town L ν μ f) {u : UInt8} (hs : s.take (k + 1) = s.take k ++ [u]) {b : Nat} (hm : μ (s.take k) = some b) (hu : L (s.take k ++ [u]) = false) {c : Nat} {w2 : World}
    (hM : Mh Try.prog 5 w2 b (putL (chdOf L ν (s.take k)) (.int .u8 (u.toNat : Int)) (.pointer (some ⟨wr.heap.size, 0, none⟩))) c) (hg : (wr.alloc (.cells (Bd.no.row none) 88)).grownBy w2 (some b)) :
    PutSt w0 own0 town0 F s (k + 1) ν0 w2 (fun j => town j ∨ j = wr.heap.size) (upd L (s.take k ++ [u]) true) (upd ν (s.take k ++ [u]) wr.heap.size) (upd μ (s.take k ++ [u]) none) (upd f (s.take k ++ [u]) Bd.no) where
  tr := h.tr.addChild h.here hm hu hM hg
  own1 j hj := by
    rcases hj with hj | rfl
    · exact h.own1 j hj
    · exact .inr h.fr.size
  olt j hj := by
    have := hg.size
    rw [World.size_alloc] at this
    rcases hj with hj | rfl
    · have := h.olt j hj; omega
    · omega
  live t := by
    rw [prefix_take_succ hs]
    by_cases e : t = s.take k ++ [u]
    · subst e
      rw [upd_same]
      simp
    · rw [upd_other _ _ e, h.live]
      constructor
      · rintro (e | e)
        · exact .inl e
        · exact .inr (.inl e)
      · rintro (e1 | e1 | e1)
        · exact .inl e1
        · exact .inr e1
        · exact absurd e1 e
  val t ht := by
    by_cases e : t = s.take k ++ [u]
    · subst e
      have hn : F (s.take k ++ [u]) = none := not_lives_none (fun hl => by
        have := (h.live _).2 (.inl hl)
        rw [hu] at this
        cases this)
      rw [upd_same, hn]
      rfl
    · rw [upd_other _ _ e] at ht ⊢
      exact h.val t ht
  root := by
    rw [upd_other _ _ (by simp)]
    exact h.root
  fr := (h.fr.alloc _).grown hg (h.own1 _ (h.tr.own2 _ _ h.here hm))
end
theorem PutSt.drewN {w0 wr : World} {own0 town0 town : Nat → Prop} {F : Key} {s : Path} {k ν0 : Nat} {L : Path → Bool} {ν : Path → Nat} {μ : Path → Option Nat} {f : Path → Bd} (h : PutSt w0 own0 town0 F s k ν0 wr town L ν μ f) (n : Nat) : PutSt w0 own0 town0 F s k ν0 (wr.drewN n) town L ν μ f :=
  { h with tr := h.tr.same (fun _ _ _ => rfl), fr := h.fr.drewN n }
/-- What a node's map says of a byte. -/
theorem Tr.look {w : World} {own : Nat → Prop} {L : Path → Bool} {ν : Path → Nat} {μ : Path → Option Nat} {f : Path → Bd} (h : Tr w own L ν μ f) {t : Path} (ht : L t = true) (u : UInt8) (n : Nat) :
    (Instr.lookup 86 (.map (μ t)) (.int .u8 (u.toNat : Int)) false).run Try.prog (w.drewN n) = .ok (.pointer (if L (t ++ [u]) = true then some ⟨ν (t ++ [u]), 0, none⟩ else none)) (w.drewN n) := by
  cases hm : μ t with
  | none =>
    rw [nil_get key5 Try.underlying86 (zero61 _) (keyOf5 u), h.leaf t ht hm u]
    rfl
  | some b =>
    obtain ⟨c, hM⟩ := h.chd t b ht hm
    rw [(hM.drewN n).get key5 Try.underlying86 (zero61 _) (keyOf5 u), chdOf_at]
    cases L (t ++ [u]) <;> rfl
/-- The last step of put: the node at the end is bound. -/
theorem put_done {w w2 wr w' : World} {own town town' : Nat → Prop} {g c c' b : Nat} {F : Key} {L L' : Path → Bool} {ν ν' : Path → Nat} {μ μ' : Path → Option Nat} {f f' : Path → Bd} {s : Path} {x : Bd}
    (hK : KMx w own g F c town L ν μ f b) (hM2 : Mh Try.prog 9 w2 b (bnd (upd F s (some x))) c') (hfr2 : Fr (fun k => k = b) w w2)
    (HP : PutSt w2 own town F s s.length (ν []) wr town' L' ν' μ' f') (hbox : w'.heap[ν' s]? = some (.cells (x.row (μ' s)) 88 (0, 0))) (hfr' : Fr (fun k => k = ν' s) wr w') (hlast : ∀ k, k ≠ ν' s → w'.heap[k]? = wr.heap[k]?) (hs0 : s ≠ []) (hs1 : s.length ≤ 64) (hx : x.kind ≠ 0) :
    ∃ own', KM w' own' g (upd F s (some x)) c' ∧ (∀ k, own' k → own k ∨ w.heap.size ≤ k) ∧ Fr own w w' := by
  have hLs : L' s = true := by have h := HP.here; rwa [List.take_length] at h
  have hz := hfr2.size
  have htw : ∀ j, town' j → own j ∨ w.heap.size ≤ j := fun j hj => by
    rcases HP.own1 j hj with h | h
    · exact .inl (hK.ownt j h)
    · exact .inr (by omega)
  have hb' : ¬ town' b := fun hj => by
    rcases HP.own1 b hj with h | h
    · exact hK.nb h
    · have := hK.mp.lt; omega
  have hg' : ¬ town' g := fun hj => by
    rcases HP.own1 g hj with h | h
    · exact hK.ng h
    · have := blk_lt hK.box; omega
  have hνs : town' (ν' s) := HP.tr.own1 s hLs
  have hgb : g ≠ b := hK.mp.ne hK.box
  have hgw : w'.heap[g]? = some (.cells #[.pointer (some ⟨ν [], 0, none⟩), .map (some b)] 64 (0, 0)) :=
    (hlast g (fun e => hg' (e ▸ hνs))).trans (HP.fr.blk (hfr2.blk hK.box hgb) hK.ng)
  have hMw : Mh Try.prog 9 w' b (bnd (upd F s (some x))) c' :=
    (hM2.same (HP.fr.block b hM2.lt hK.nb)).same (hlast b (fun e => hb' (e ▸ hνs)))
  have hT := HP.tr.bind hLs x hbox hlast
  have hFr : Fr own w w' := by
    refine Fr.trans (Fr.trans (hfr2.mono (N' := own) (fun i _ e => e ▸ hK.ownb)) HP.fr (fun i _ h => hK.ownt i h)) hfr' (fun i hi e => ?_)
    subst e
    rcases htw _ hνs with h | h
    · exact h
    · omega
  refine ⟨fun j => own j ∨ town' j, ⟨town', L', ν', μ', upd f' s x, b, ?_⟩, fun k hk => hk.elim .inl (htw k), hFr⟩
  have hliv : ∀ t, Lives (upd F s (some x)) t ↔ Lives F t ∨ t <+: s := by
    intro t
    unfold Lives
    constructor
    · rintro (h | ⟨r, h⟩)
      · exact .inl (.inl h)
      · by_cases e : t ++ r = s
        · exact .inr ⟨r, e⟩
        · rw [upd_other _ _ e] at h
          exact .inl (.inr ⟨r, h⟩)
    · rintro ((h | ⟨r, h⟩) | ⟨r, h⟩)
      · exact .inl h
      · refine .inr ⟨r, ?_⟩
        by_cases e : t ++ r = s
        · rw [e, upd_same]; rfl
        · rw [upd_other _ _ e]; exact h
      · exact .inr ⟨r, by rw [h, upd_same]; rfl⟩
  refine ⟨?_, hT, hMw, .inl hK.owng, .inl hK.ownb, fun k hk => .inr hk, hb', hg', fun k hk => ?_, ?_, ?_, ?_⟩
  · rw [HP.root]; exact hgw
  · rcases hk with hk | hk
    · exact Nat.lt_of_lt_of_le (hK.olt k hk) hFr.size
    · exact Nat.lt_of_lt_of_le (HP.olt k hk) hfr'.size
  · intro t
    rw [HP.live t, hliv t, List.take_length]
  · intro t ht
    by_cases e : t = s
    · subst e
      rw [upd_same, upd_same]
      rfl
    · rw [upd_other _ _ e, upd_other _ _ e]
      exact HP.val t ht
  · refine ⟨?_, ?_, ?_⟩
    all_goals
      intro t y hy
      by_cases e : t = s
      · subst e
        rw [upd_same] at hy
        cases hy
        first | exact hs0 | exact hs1 | exact hx
      · rw [upd_other _ _ e] at hy
        first | exact hK.good.ne t y hy | exact hK.good.len t y hy | exact hK.good.kind t y hy
set_option maxRecDepth 100000 in
set_option maxHeartbeats 1000000 in
theorem put_calls {w : World} {own : Nat → Prop} {g : Nat} {F : Key} {c : Nat} (h : KM w own g F c) (hc : c ≤ 1000000000000) (s : ByteArray) (hs0 : 0 < s.size) (hs1 : s.size ≤ 64) (x : Bd) (hx : x.kind ≠ 0) :
    Calls Try.prog 45 #[.pointer (some ⟨g, 0, none⟩), .string s, x.v] w fun e w' => (∃ v, e = .returned v) ∧ ∃ own', KM w' own' g (upd F s.data.toList (some x)) (cntUp (F s.data.toList) c) ∧ (∀ k, own' k → own k ∨ w.heap.size ≤ k) ∧ Fr own w w' := by
  obtain ⟨town, L, ν, μ, f, b, hK⟩ := h.ex
  have hbw := below_alloc (Below.refl w.heap.size w) (.cells #[.int .i64 x.kind, .string x.name, .string x.keys] 44)
  have hK1 := hK.same (w' := (w.alloc (.cells #[.int .i64 x.kind, .string x.name, .string x.keys] 44)).drew) (fun k _ hk => hbw.block k hk)
  obtain ⟨w2, hst, hM2, hg2, hz2⟩ := hK1.mp.store key9 Try.underlying62 (by unfold maxLen; omega) (keyOf9 s (by unfold maxLen; omega)) x.v
  rw [bnd_put, bnd_isSome] at hM2
  have hM2 : Mh Try.prog 9 w2 b (bnd (upd F s.data.toList (some x))) (cntUp (F s.data.toList) c) := hM2
  have hx0 : w2.heap[w.heap.size]? = some (.cells #[.int .i64 x.kind, .string x.name, .string x.keys] 44 (0, 0)) := blk_grown (w := (w.alloc (.cells #[.int .i64 x.kind, .string x.name, .string x.keys] 44)).drew) (blk_new w _) hg2 (fun e => by have := Option.some.inj e; have := hK.mp.lt; omega)
  have hgg : w.heap[g]? = some (.cells #[.pointer (some ⟨ν [], 0, none⟩), .map (some b)] 64 (0, 0)) := hK.box
  have g1 : (w.alloc (.cells #[.int .i64 x.kind, .string x.name, .string x.keys] 44)).cell? ⟨g, 1, none⟩ = some (.map (some b)) := (blk_cell (blk_alloc hgg _) 1).trans rfl
  have HK := Aside0.mk hK
  have HM2 := Aside0.mk hM2
  have HG2 := Aside0.mk hg2
  have HZ2 := Aside0.mk hz2
  have HX0 := Aside0.mk hx0
  have HGG := Aside0.mk hgg
  simp only [Bd.v] at hst
  have HST := Aside0.mk hst
  clear h hK hK1 hM2 hg2 hz2 hx0 hgg hst hbw
  unfold Bd.v
  go_enter Try.func45, Try.ntmps45
  go_wp2
  have hst := HST.out
  have b0 : (w.alloc (.cells #[.int .i64 x.kind, .string x.name, .string x.keys] 44)).cell? ⟨w.heap.size, 0, none⟩ = some (.int .i64 x.kind) := (blk_cell (blk_new w _) 0).trans rfl
  have b1 : (w.alloc (.cells #[.int .i64 x.kind, .string x.name, .string x.keys] 44)).cell? ⟨w.heap.size, 1, none⟩ = some (.string x.name) := (blk_cell (blk_new w _) 1).trans rfl
  have b2 : (w.alloc (.cells #[.int .i64 x.kind, .string x.name, .string x.keys] 44)).cell? ⟨w.heap.size, 2, none⟩ = some (.string x.keys) := (blk_cell (blk_new w _) 2).trans rfl
  generalize w.alloc (.cells #[.int .i64 x.kind, .string x.name, .string x.keys] 44) = w1 at hst b0 b1 b2 g1 ⊢
  go_region
  have hgw := HK.out.tr
  have hb1 : ¬ town b := HK.out.nb
  have hfr2 : Fr (fun k => k = b) w w2 := (Fr.of_below (N := fun k => k = b) (below_alloc (Below.refl w.heap.size w) (.cells #[.int .i64 x.kind, .string x.name, .string x.keys] 44))).trans (N' := fun k => k = b) ⟨HG2.out.os, HG2.out.tape, HG2.out.output, HG2.out.size, fun i hi hn => HG2.out.block i hi (fun e => hn (Option.some.inj e))⟩ (fun _ _ h => h)
  have htl : ∀ k, town k → k < w.heap.size → w2.heap[k]? = w.heap[k]? := fun k hk hl => hfr2.block k hl (fun e => hb1 (e ▸ hk))
  have HFR2 := Aside0.mk hfr2
  have HS0 : Aside0 (PutSt w2 own town F s.data.toList 0 (ν []) w2 town L ν μ f) := ⟨⟨hgw.same htl, fun j hj => .inl hj, fun j hj => Nat.lt_of_lt_of_le (HK.out.olt j (HK.out.ownt j hj)) hfr2.size, fun t => by
    rw [HK.out.live t, List.take_zero]
    constructor
    · exact .inl
    · rintro (h | h)
      · exact h
      · exact .inl (List.prefix_nil.1 h), HK.out.val, rfl, Fr.refl _ _⟩⟩
  have hg0 : w2.cell? ⟨g, 0, none⟩ = some (.pointer (some ⟨ν [], 0, none⟩)) := (blk_cell (hfr2.blk HGG.out (HK.out.mp.ne HK.out.box)) 0).trans rfl
  have HTL := Aside0.mk htl
  clear hgw hb1 htl hfr2 b0 b1 b2 hst g1
  go_wp2
  go_loopw [6, 20] (fun n i wr => ∃ (k : Nat) (town' : Nat → Prop) (L' : Path → Bool) (ν' : Path → Nat) (μ' : Path → Option Nat) (f' : Path → Bd), i = .int .i64 (k : Int) ∧ k ≤ s.size ∧ n = .pointer (some ⟨ν' (s.data.toList.take k), 0, none⟩) ∧ Aside0 (PutSt w2 own town F s.data.toList k (ν []) wr town' L' ν' μ' f')) (fun _ i wr => s.size - (intOf i).toNat)
  case atStart => exact ⟨0, _, _, _, _, _, rfl, Nat.zero_le _, rfl, HS0⟩
  case round =>
    obtain ⟨k, town', L', ν', μ', f', rfl, hk, rfl, HP⟩ := hrel
    by_cases hlt : k < s.size
    · have hts := take_snoc s k hlt
      have HTS := Aside0.mk hts
      have hfz := HP.out.tr.fz HP.out.here 3
      cases hm : μ' (s.data.toList.take k) with
      | none =>
        have hu := HP.out.tr.leaf _ HP.out.here hm s[k]
        have HN := Aside0.mk (HP.out.newMap hm)
        have hm1 : (upd μ' (s.data.toList.take k) (some wr.heap.size)) (s.data.toList.take k) = some wr.heap.size := upd_same _ _ _
        have hc0 : wr.cell? ⟨ν' (s.data.toList.take k), 3, none⟩ = some (.map none) := by have h := HP.out.tr.c3 HP.out.here; rw [hm] at h; exact h
        have HC3 : Aside0 (((wr.alloc (.map #[] 0)).setCell ⟨ν' (s.data.toList.take k), 3, none⟩ (.map (some wr.heap.size))).cell? ⟨ν' (s.data.toList.take k), 3, none⟩ = some (.map (some wr.heap.size))) := ⟨by have h := HN.out.tr.c3 HN.out.here; rw [hm1] at h; exact h⟩
        have hq := nil86 wr none
        have hmm := @run_makeMap Try.prog
        have hca : (wr.alloc (.map #[] 0)).cell? ⟨ν' (s.data.toList.take k), 3, none⟩ = some (.map none) := by have h := (blk_cell (blk_alloc (HP.out.tr.box _ HP.out.here) (.map #[] 0)) 3).trans rfl; rw [hm] at h; exact h
        have hfa : (wr.alloc (.map #[] 0)).frozen? ⟨ν' (s.data.toList.take k), 3, none⟩ = false := blk_frozen (blk_alloc (HP.out.tr.box _ HP.out.here) (.map #[] 0)) 3
        have HU := Aside0.mk hu
        have HM1 := Aside0.mk hm1
        clear hts hu hm hm1
        go_wp2
        generalize (wr.alloc (.map #[] 0)).setCell ⟨ν' (s.data.toList.take k), 3, none⟩ (.map (some wr.heap.size)) = W1 at HN HC3 ⊢
        have hm1 := HM1.out
        clear HM1
        generalize upd μ' (s.data.toList.take k) (some wr.heap.size) = μ1 at HN hm1
        generalize wr.heap.size = b1 at hm1 HC3 HN
        have hu := HU.out
        have hts := HTS.out
        clear hq hmm hc0 hfz hca hfa
        have hc3 : W1.cell? ⟨ν' (s.data.toList.take k), 3, none⟩ = some (.map (some b1)) := HC3.out
        have HLK := Aside0.mk (fun n => by have h := HN.out.tr.look HN.out.here s[k] n; rw [hm1, hu] at h; exact h : ∀ n, (Instr.lookup 86 (.map (some b1)) (.int .u8 (s[k].toNat : Int)) false).run Try.prog (W1.drewN n) = .ok (.pointer none) (W1.drewN n))
        have hlk := HLK.out
        go_quiet (fail)
        clear hlk hc3 HLK
        have HN2 := Aside0.mk (HN.out.drewN nq)
        have hc4 : (W1.drewN nq).cell? ⟨ν' (s.data.toList.take k), 3, none⟩ = some (.map (some b1)) := HC3.out
        clear HN HC3
        generalize W1.drewN nq = W2 at HN2 hc4 ⊢
        obtain ⟨c1, hM1⟩ := HN2.out.tr.chd _ b1 HN2.out.here hm1
        have hle := hM1.bytes_le key5 Try.underlying5
        have hM1' : Mh Try.prog 5 (W2.alloc (.cells (Bd.no.row none) 88)).drew b1 (chdOf L' ν' (s.data.toList.take k)) c1 := (hM1.alloc _).same rfl
        obtain ⟨W3, hst3, hM3, hg3, hz3⟩ := hM1'.store key5 Try.underlying86 (by unfold maxLen; omega) (keyOf5 s[k]) (.pointer (some ⟨W2.heap.size, 0, none⟩))
        have HQ := Aside0.mk (HN2.out.addChild hts hm1 hu hM3 ⟨hg3.os, hg3.tape, hg3.output, hg3.size, hg3.block⟩)
        have HLC := Aside0.mk (fun n => by have h := HQ.out.tr.look (t := s.data.toList.take k) (by rw [upd_other _ _ (ne_snoc _ _)]; exact HN2.out.here) s[k] n; rw [upd_other _ _ (ne_snoc _ _), hm1, upd_same, upd_same, if_pos rfl] at h; exact h)
        have HCC := Aside0.mk (by have h := HQ.out.tr.c3 (s := s.data.toList.take k) (by rw [upd_other _ _ (ne_snoc _ _)]; exact HN2.out.here); rw [upd_other _ _ (ne_snoc _ _), upd_other _ _ (ne_snoc _ _), hm1] at h; exact h)
        have HUS := Aside0.mk (upd_same ν' (s.data.toList.take k ++ [s[k]]) W2.heap.size)
        simp only [Bd.row, Bd.no] at hst3
        clear hM1 hM1' hM3 hg3 hz3 hle
        have hcA : (W2.alloc (.cells #[.int .i64 0, .string ⟨#[]⟩, .string ⟨#[]⟩, .map none] 88)).cell? ⟨ν' (s.data.toList.take k), 3, none⟩ = some (.map (some b1)) := by have h := (blk_cell (blk_alloc (HN2.out.tr.box _ HN2.out.here) (.cells #[.int .i64 0, .string ⟨#[]⟩, .string ⟨#[]⟩, .map none] 88)) 3).trans rfl; rw [hm1] at h; exact h
        have hmx := hm1
        have HM1 := Aside0.mk hm1
        clear hm1 hts hu hmx
        go_wp2
        go_region
        have hcc := HCC.out
        have hlk := HLC.out
        clear hst3 hcA
        go_wp2
        go_quiet (fail)
        clear hcc hlk
        go_wp2
        go_roundw
        case rel => exact ⟨k + 1, _, _, _, _, _, by simp, by omega, by rw [HTS.out, HUS.out], ⟨(HQ.out).drewN _⟩⟩
        case measure => simp [intOf]; omega
      | some b1 =>
        have hc0 : wr.cell? ⟨ν' (s.data.toList.take k), 3, none⟩ = some (.map (some b1)) := by have h := HP.out.tr.c3 HP.out.here; rw [hm] at h; exact h
        have hq := nil86 wr (some b1)
        have HM1 := Aside0.mk hm
        cases hu : L' (s.data.toList.take k ++ [s[k]]) with
        | false =>
          have HU := Aside0.mk hu
          clear hm hu hts
          go_wp2
          clear hq hfz
          have hm1 := HM1.out
          have hu := HU.out
          have hts := HTS.out
          clear HM1
          obtain ⟨W1, hW1⟩ : ∃ W1, W1 = wr := ⟨_, rfl⟩
          rw [← hW1] at HP hc0 ⊢
          clear hW1
          have HN := HP
          have HC3 := Aside0.mk hc0
          clear hc0 HP
          have hc3 : W1.cell? ⟨ν' (s.data.toList.take k), 3, none⟩ = some (.map (some b1)) := HC3.out
          have HLK := Aside0.mk (fun n => by have h := HN.out.tr.look HN.out.here s[k] n; rw [hm1, hu] at h; exact h : ∀ n, (Instr.lookup 86 (.map (some b1)) (.int .u8 (s[k].toNat : Int)) false).run Try.prog (W1.drewN n) = .ok (.pointer none) (W1.drewN n))
          have hlk := HLK.out
          go_quiet (fail)
          clear hlk hc3 HLK
          have HN2 := Aside0.mk (HN.out.drewN nq)
          have hc4 : (W1.drewN nq).cell? ⟨ν' (s.data.toList.take k), 3, none⟩ = some (.map (some b1)) := HC3.out
          clear HN HC3
          generalize W1.drewN nq = W2 at HN2 hc4 ⊢
          obtain ⟨c1, hM1⟩ := HN2.out.tr.chd _ b1 HN2.out.here hm1
          have hle := hM1.bytes_le key5 Try.underlying5
          have hM1' : Mh Try.prog 5 (W2.alloc (.cells (Bd.no.row none) 88)).drew b1 (chdOf L' ν' (s.data.toList.take k)) c1 := (hM1.alloc _).same rfl
          obtain ⟨W3, hst3, hM3, hg3, hz3⟩ := hM1'.store key5 Try.underlying86 (by unfold maxLen; omega) (keyOf5 s[k]) (.pointer (some ⟨W2.heap.size, 0, none⟩))
          have HQ := Aside0.mk (HN2.out.addChild hts hm1 hu hM3 ⟨hg3.os, hg3.tape, hg3.output, hg3.size, hg3.block⟩)
          have HLC := Aside0.mk (fun n => by have h := HQ.out.tr.look (t := s.data.toList.take k) (by rw [upd_other _ _ (ne_snoc _ _)]; exact HN2.out.here) s[k] n; rw [upd_other _ _ (ne_snoc _ _), hm1, upd_same, upd_same, if_pos rfl] at h; exact h)
          have HCC := Aside0.mk (by have h := HQ.out.tr.c3 (s := s.data.toList.take k) (by rw [upd_other _ _ (ne_snoc _ _)]; exact HN2.out.here); rw [upd_other _ _ (ne_snoc _ _), upd_other _ _ (ne_snoc _ _), hm1] at h; exact h)
          have HUS := Aside0.mk (upd_same ν' (s.data.toList.take k ++ [s[k]]) W2.heap.size)
          simp only [Bd.row, Bd.no] at hst3
          clear hM1 hM1' hM3 hg3 hz3 hle
          have hcA : (W2.alloc (.cells #[.int .i64 0, .string ⟨#[]⟩, .string ⟨#[]⟩, .map none] 88)).cell? ⟨ν' (s.data.toList.take k), 3, none⟩ = some (.map (some b1)) := by have h := (blk_cell (blk_alloc (HN2.out.tr.box _ HN2.out.here) (.cells #[.int .i64 0, .string ⟨#[]⟩, .string ⟨#[]⟩, .map none] 88)) 3).trans rfl; rw [hm1] at h; exact h
          have hmx := hm1
          have HM1 := Aside0.mk hm1
          clear hm1 hts hu hmx
          go_wp2
          go_region
          have hcc := HCC.out
          have hlk := HLC.out
          clear hst3 hcA
          go_wp2
          go_quiet (fail)
          clear hcc hlk
          go_wp2
          go_roundw
          case rel => exact ⟨k + 1, _, _, _, _, _, by simp, by omega, by rw [HTS.out, HUS.out], ⟨(HQ.out).drewN _⟩⟩
          case measure => simp [intOf]; omega
        | true =>
          have HQ := Aside0.mk (HP.out.next hts hu)
          have HLC := Aside0.mk (fun n => by have h := HP.out.tr.look HP.out.here s[k] n; rw [hm, hu, if_pos rfl] at h; exact h : ∀ n, (Instr.lookup 86 (.map (some b1)) (.int .u8 (s[k].toNat : Int)) false).run Try.prog (wr.drewN n) = .ok (.pointer (some ⟨ν' (s.data.toList.take k ++ [s[k]]), 0, none⟩)) (wr.drewN n))
          clear hm hu hts
          go_wp2
          have hlk := HLC.out
          go_quiet (fail)
          clear hlk
          go_wp2
          have HLD := Aside0.mk (fun n => by have h := HLC.out (nq + n); rw [← World.drewN_drewN] at h; exact h : ∀ n, (Instr.lookup 86 (.map (some b1)) (.int .u8 (s[k].toNat : Int)) false).run Try.prog ((wr.drewN nq).drewN n) = .ok (.pointer (some ⟨ν' (s.data.toList.take k ++ [s[k]]), 0, none⟩)) ((wr.drewN nq).drewN n))
          have HQ2 := Aside0.mk (HQ.out.drewN nq)
          have hc2 : (wr.drewN nq).cell? ⟨ν' (s.data.toList.take k), 3, none⟩ = some (.map (some b1)) := hc0
          clear hc0 hq hfz HLC HQ HP HM1
          generalize wr.drewN nq = W5 at HQ2 hc2 HLD ⊢
          have hld := HLD.out
          go_quiet (fail)
          clear hc2 hld
          go_wp2
          go_roundw
          case rel => exact ⟨k + 1, _, _, _, _, _, by simp, by omega, by rw [HTS.out], ⟨(HQ2.out).drewN _⟩⟩
          case measure => simp [intOf]; omega
    · obtain rfl : k = s.size := by omega
      have htk : s.data.toList.take s.size = s.data.toList := by rw [← data_len s, List.take_length]
      have HPL : PutSt w2 own town F s.data.toList s.data.toList.length (ν []) wr town' L' ν' μ' f' := by rw [data_len s]; exact HP.out
      have hLs : L' s.data.toList = true := by have h := HP.out.here; rwa [htk] at h
      have hnx : ¬ town w.heap.size := fun h => Nat.lt_irrefl _ (HK.out.olt _ (HK.out.ownt _ h))
      have hxr := HPL.fr.blk HX0.out hnx
      have hx0 : wr.cell? ⟨w.heap.size, 0, none⟩ = some (.int .i64 x.kind) := (blk_cell hxr 0).trans rfl
      have hx1 : wr.cell? ⟨w.heap.size, 1, none⟩ = some (.string x.name) := (blk_cell hxr 1).trans rfl
      have hx2 : wr.cell? ⟨w.heap.size, 2, none⟩ = some (.string x.keys) := (blk_cell hxr 2).trans rfl
      rw [htk]
      have hb0 := HPL.tr.c0 hLs
      have hb1 := HPL.tr.c1 hLs
      have hb2 := HPL.tr.c2 hLs
      have hf0 := HPL.tr.fz hLs 0
      have hf1 := HPL.tr.fz hLs 1
      have hf2 := HPL.tr.fz hLs 2
      have HPL' := Aside0.mk HPL
      clear HPL htk hxr hnx hLs hlt hk
      go_wp2
      go_end0
      refine ⟨⟨_, rfl⟩, ?_⟩
      have hLs : L' s.data.toList = true := by
        have h := HPL'.out.here
        rwa [List.take_length] at h
      have hbx := HPL'.out.tr.box _ hLs
      exact put_done HK.out HM2.out HFR2.out HPL'.out (blk_put (blk_put (blk_put hbx 0 _ rfl) 1 _ rfl) 2 _ rfl)
        ((((Fr.refl (fun k => k = ν' s.data.toList) wr).set (p := ⟨_, 0, none⟩) (.inl rfl) _).set (p := ⟨_, 1, none⟩) (.inl rfl) _).set (p := ⟨_, 2, none⟩) (.inl rfl) _)
        (fun k hk => ((Below.heap_setCell _ _ _ k hk).trans (Below.heap_setCell _ _ _ k hk)).trans (Below.heap_setCell _ _ _ k hk))
        (fun e => by have h := data_len s; rw [e] at h; simp at h; omega) (by rw [data_len]; exact hs1) hx
end Go.Proofs.Ytcnkgodooignpaa
