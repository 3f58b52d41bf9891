/-
  A keymap in memory: Clone.
-/
import Derived.Test.YtcnkgodooignpaaKF
namespace Go.Proofs.Ytcnkgodooignpaa
open Go.RowKit Go.WideShapes Go.Proofs.YtcnkgodooignpaaW.PrintWords Go.Proofs.YtcnkgodooignpaaW.PrintLast Go.Proofs.YtcnkgodooignpaaW.PrintMore Go.Proofs.Ytcnkgodooignpaa.PAll
set_option linter.unusedVariables false
set_option linter.unusedSimpArgs false
attribute [local go_sem] max2_int min2_int max_two min_two max_three min_three max_four min_four
theorem Mh.count {P : Program} {K : TypeId} {w w' : World} {b b' c c' : Nat} {f : Lit → Option Value} (hK : Go.Maps.Keyed P K) (h : Mh P K w b f c) (h' : Mh P K w' b' f c') : c = c' := by
  obtain ⟨D, h1, h2, h3, h4⟩ := h.ex
  obtain ⟨D', h1', h2', h3', h4'⟩ := h'.ex
  have : D = D' := Go.Maps.ext (h1.canon hK) (h1'.canon hK) (fun k => (h3 k).trans (h3' k).symm) (fun k z hk => by
    rw [h3 k] at hk
    cases hf : f k with
    | none => rw [hf] at hk; cases hk
    | some v => rw [h4 k v z hf, h4' k v z hf])
  rw [← h2, ← h2', this]
theorem ranges_same {H : Type} {P : Program} {k : TypeId} {R : Value → Option (DataW H × List MemPlace)} {w w' : World} {b r n : Nat} {D : DataW H} {left : Lit → Bool} {cnt : Nat} (h : w.ranges P k R b r n D left cnt) (hb : w'.heap[b]? = w.heap[b]?) (hr : w'.heap[r]? = w.heap[r]?) : w'.ranges P k R b r n D left cnt := by
  obtain ⟨es, clock, since, seen, c0, h1, h2, h3, h4, h5, h6⟩ := h
  exact ⟨es, clock, since, seen, c0, hb.trans h1, h2, h3, h4, hr.trans h5, h6⟩
theorem key9_inv {key : Value} {kl : Lit} (h : keyOf Try.prog 9 key = some kl) : ∃ s : ByteArray, key = .string s ∧ kl = .string s.data.toList ∧ s.size ≤ maxLen := by
  cases key <;> simp [keyOf, Try.underlying9, mapKey] at h
  rename_i s
  exact ⟨s, rfl, h.2.symm, h.1⟩
theorem below_of_grown_none {b d : World} {n : Nat} (h : b.grownBy d none) (hn : n ≤ b.heap.size) : Below n b d := ⟨h.os, h.tape, h.output, h.size, fun k hk => h.block k (Nat.lt_of_lt_of_le hk hn) (by simp)⟩
/-- The state of a copy: what is still to come is not there yet. -/
structure CopySt (w wr : World) (F : Key) (c : Nat) (b r : Nat) (D : HD) (g2 : Nat) (left : Lit → Bool) (cnt : Nat) (own' : Nat → Prop) (Fo : Key) (co : Nat) : Prop where
  rg : wr.ranges Try.prog 9 heldR b r c D left cnt
  km : KM wr own' g2 Fo co
  val : ∀ s, Fo s = if left (.string s) = true then none else F s
  sum : co + cnt ≤ c
  new : ∀ k, own' k → w.heap.size ≤ k
  nr : ¬ own' r
  lr : w.heap.size ≤ r
  fr : Below w.heap.size w wr
theorem CopySt.step {w wr w1 w2 : World} {F : Key} {c b r : Nat} {D : HD} {g2 : Nat} {left : Lit → Bool} {cnt cnt1 : Nat} {own' own2 : Nat → Prop} {Fo : Key} {co : Nat} (h : CopySt w wr F c b r D g2 left cnt own' Fo co) {s : Path} {x : Bd} (hx : F s = some x) (hl : left (.string s) = true) (hb : b < w.heap.size)
    (hrg : w1.ranges Try.prog 9 heldR b r c D (fun z => left z && !z.sameKey (.string s)) cnt1) (hlt : cnt1 < cnt) (hg : wr.grownBy w1 (some r)) {W : World} (hW : Below w1.heap.size w1 W) (hkm : KM w2 own2 g2 (upd Fo s (some x)) (cntUp (Fo s) co)) (hown : ∀ k, own2 k → own' k ∨ W.heap.size ≤ k) (hfr : Fr own' W w2) :
    CopySt w w2 F c b r D g2 (fun z => left z && !z.sameKey (.string s)) cnt1 own2 (upd Fo s (some x)) (cntUp (Fo s) co) := by
  have hFo : Fo s = none := by rw [h.val s, if_pos hl]
  have hrlt := hrg.lt
  have hblt : b < w1.heap.size := Nat.lt_of_lt_of_le hb (Nat.le_trans h.fr.size hg.size)
  have hnb : ¬ own' b := fun e => by have := h.new b e; omega
  have hb1 : Below w.heap.size w w1 := h.fr.grown hg h.fr.size (fun k e => by cases e; exact h.lr)
  have hbW : Below w.heap.size w W := below_step hb1 hW
  refine ⟨?_, hkm, ?_, ?_, ?_, ?_, h.lr, ?_⟩
  · exact ranges_same hrg ((hfr.block b (Nat.lt_of_lt_of_le hblt hW.size) hnb).trans (hW.block b hblt)) ((hfr.block r (Nat.lt_of_lt_of_le hrlt hW.size) h.nr).trans (hW.block r hrlt))
  · intro t
    by_cases e : t = s
    · subst e
      have : (left (.string t) && !(Lit.string t).sameKey (.string t)) = false := by rw [WideAt.sameKey_self (by trivial)]; simp
      rw [upd_same, this, hx]
      rfl
    · have : (Lit.string t).sameKey (.string s) = false := Go.Maps.sameKey_ne (fun e' => e (by injection e'))
      rw [upd_other _ _ e, this, h.val t]
      simp
  · rw [hFo]
    have := h.sum
    show co + 1 + cnt1 ≤ c
    omega
  · intro k hk
    rcases hown k hk with e | e
    · exact h.new k e
    · exact Nat.le_trans hbW.size e
  · intro e
    rcases hown r e with e | e
    · exact h.nr e
    · have := hW.size; omega
  · exact hbW.trans (hfr.below (fun k hk => h.new k hk) hbW.size)
theorem copy_entry {F : Key} {D : HD} (hhas : ∀ l, Go.Maps.has D l = (bnd F l).isSome) (hat : ∀ l v z, bnd F l = some v → D.atKey l z = .held v) {s : ByteArray} {v : Value} {kl : Lit} {y : HD × List MemPlace} (hk : keyOf Try.prog 9 (.string s) = some kl) (hv : heldR v = some y) (ha : ∀ zd, D.atKey kl zd = y.1) :
    ∃ x : Bd, F s.data.toList = some x ∧ v = .agg #[.int .i64 x.kind, .string x.name, .string x.keys] ∧ kl = .string s.data.toList := by
  obtain ⟨s', e, rfl, _⟩ := key9_inv hk
  cases e
  have hh := Go.Maps.has_true_of_atKey ha
  rw [hhas, bnd_isSome] at hh
  cases hF : F s.data.toList with
  | none => rw [hF] at hh; cases hh
  | some x =>
    refine ⟨x, rfl, ?_, rfl⟩
    have h1 := hat (.string s.data.toList) x.v .nil (by show (F s.data.toList).map Bd.v = _; rw [hF]; rfl)
    rw [ha .nil, heldR_inv hv] at h1
    injection h1
set_option maxRecDepth 100000 in
set_option maxHeartbeats 2000000 in
theorem clone_calls {w : World} {own : Nat → Prop} {g : Nat} {F : Key} {c : Nat} (h : KM w own g F c) (hc : c ≤ 1000000000) :
    Calls Try.prog 27 #[.pointer (some ⟨g, 0, none⟩)] w fun e w' => ∃ g2 own2, e = .returned (.pointer (some ⟨g2, 0, none⟩)) ∧ w.heap.size ≤ g2 ∧ KM w' own2 g2 F c ∧ (∀ k, own2 k → w.heap.size ≤ k) ∧ Below w.heap.size w w' := by
  obtain ⟨ν0, b, hbox, hM⟩ := h.cells
  obtain ⟨D, hown, hsz, hhas, hat⟩ := hM.ex
  have hblt := hM.lt
  have HOWN := Aside0.mk (fun (W : World) (hb : Below w.heap.size w W) => (⟨⟨D, hown, hsz, hhas, hat⟩⟩ : Mh Try.prog 9 w b (bnd F) c).below hb)
  have HD := Aside0.mk (fun (W : World) (hb : Below w.heap.size w W) => (by obtain ⟨es, clock, h0, h1⟩ := hown; exact ⟨es, clock, (hb.block b hblt).trans h0, h1⟩ : W.ownsMap Try.prog 9 heldR b c D))
  have HH := Aside0.mk hhas
  have HA := Aside0.mk hat
  have HSZ := Aside0.mk hsz
  have HG := Aside0.mk h.good
  have HM := Aside0.mk hM
  have HBX := Aside0.mk hbox
  clear hown hsz hhas hat hM hbox
  go_enter Try.func27, Try.ntmps27
  go_wp2_with (first
    | (go_at_call 38; go_loud (refine (none_calls h).mono ?_; rintro e w' ⟨rfl, rfl⟩))
    | (go_at_call 29; go_loud (refine (new_calls _).mono ?_; rintro e w1 ⟨g2, own1, rfl, hg2, hKM, hown1, hb1⟩; have hKM1 := Aside0.mk hKM; have hOW1 := Aside0.mk hown1; have HB1 := Aside0.mk hb1; have hc1 : w1.cell? ⟨g, 1, none⟩ = some (.map (some b)) := (blk_cell (blk_below HBX.out hb1) 1).trans rfl; have hD1 := HD.out w1 hb1; clear hKM hown1 hb1))
    | (at_range; go_loud (refine wpList_range_own _ rfl _ 62 rfl 9 44 key9 Try.underlying62 heldR b c D rfl hD1 ?_; intro w2 hrg2 hgw2 hsz2)))
  go_frame
  have HS0 : Aside0 (CopySt w w2 F c b w1.heap.size D g2 (Go.Maps.has D) (Go.Maps.size D) own1 (fun _ => none) 0) := ⟨⟨hrg2, hKM1.out.same (fun k _ hk => hgw2.block k hk (by simp)), fun s => by
      rw [HH.out, bnd_isSome]
      cases hF : F s <;> rfl, by rw [HSZ.out]; omega, hOW1.out, fun e => Nat.lt_irrefl _ (hKM1.out.olt _ e), HB1.out.size, HB1.out.trans (below_of_grown_none hgw2 HB1.out.size)⟩⟩
  clear hrg2 hgw2 hsz2 hc1 hD1
  go_loopw [14] (fun _ wr => ∃ (left : Lit → Bool) (cnt : Nat) (own' : Nat → Prop) (Fo : Key) (co : Nat), Aside0 (CopySt w wr F c b w1.heap.size D g2 left cnt own' Fo co)) (fun _ wr => wr.rangeLeft b w1.heap.size)
  case atStart => exact ⟨_, _, _, _, _, HS0⟩
  case round =>
    obtain ⟨left, cnt, own', Fo, co, HS⟩ := hrel
    have hrg := HS.out.rg
    rcases hrg.next key9 0 with ⟨hc0, hl0, hrun⟩ | ⟨key, v, kl, y, w3, cnt3, hkey, hlk, hv, hat, hrun, hrg3, hlt3, hg3, hz3, hen⟩
    · have HC0 := Aside0.mk hc0
      have HL0 := Aside0.mk hl0
      clear hc0 hl0 hrg
      go_wp2
      go_ret
      refine ⟨g2, own', rfl, hg2, ?_, HS.out.new, HS.out.fr⟩
      have hFo : Fo = F := funext fun s => by rw [HS.out.val s, HL0.out (.string s)]; rfl
      have hk := HS.out.km
      rw [hFo] at hk
      obtain ⟨ν1, b1, _, hM1⟩ := hk.cells
      rwa [hM1.count key9 HM.out] at hk
    · obtain ⟨s, rfl, _⟩ := key9_inv hkey
      obtain ⟨x, hFx, rfl, rfl⟩ := copy_entry HH.out HA.out hkey hv hat
      have HFX := Aside0.mk hFx
      have HLK := Aside0.mk hlk
      have HRG := Aside0.mk hrg3
      have HLT := Aside0.mk hlt3
      have HG3 := Aside0.mk hg3
      have HK3 : Aside0 (KM w3 own' g2 Fo co) := ⟨HS.out.km.same (fun k hk hl => hg3.block k hl (fun e => HS.out.nr (by rw [← Option.some.inj e]; exact hk)))⟩
      have hs0 : 0 < s.size := by
        rcases Nat.eq_zero_or_pos s.size with e | e
        · exact absurd (List.eq_nil_of_length_eq_zero (by rw [data_len]; exact e)) (HG.out.ne _ x hFx)
        · exact e
      have hs1 : s.size ≤ 64 := by have := HG.out.len _ x hFx; rwa [data_len] at this
      have hxk := Aside0.mk (HG.out.kind _ x hFx)
      have hb3 := below_alloc (Below.refl w3.heap.size w3) (.cells #[.int .i64 x.kind, .string x.name, .string x.keys] 44)
      have hn3 := blk_new w3 (.cells #[.int .i64 x.kind, .string x.name, .string x.keys] 44)
      have e0 : (w3.alloc (.cells #[.int .i64 x.kind, .string x.name, .string x.keys] 44)).cell? ⟨w3.heap.size, 0, none⟩ = some (.int .i64 x.kind) := (blk_cell hn3 0).trans rfl
      have e1 : (w3.alloc (.cells #[.int .i64 x.kind, .string x.name, .string x.keys] 44)).cell? ⟨w3.heap.size, 1, none⟩ = some (.string x.name) := (blk_cell hn3 1).trans rfl
      have e2 : (w3.alloc (.cells #[.int .i64 x.kind, .string x.name, .string x.keys] 44)).cell? ⟨w3.heap.size, 2, none⟩ = some (.string x.keys) := (blk_cell hn3 2).trans rfl
      have HB3 := Aside0.mk hb3
      have HSM := Aside0.mk HS.out.sum
      clear hFx hlk hrg3 hlt3 hg3 hkey hv hat hrg hz3 hn3 hb3
      go_wp2_with (go_at_call 45; go_loud (refine (put_calls (HK3.out.below HB3.out) (by have := HSM.out; omega) s hs0 hs1 x hxk.out).mono ?_; rintro e w4 ⟨⟨v4, rfl⟩, hP4⟩))
      obtain ⟨own2, h1, h2, h3⟩ := hP4
      have HN := Aside0.mk (HS.out.step HFX.out HLK.out hblt HRG.out HLT.out HG3.out HB3.out h1 h2 h3)
      clear h1 h2 h3
      go_roundw
      case rel => exact ⟨_, _, _, _, _, HN⟩
      case measure => rw [HN.out.rg.left_eq, HS.out.rg.left_eq]; exact HLT.out
end Go.Proofs.Ytcnkgodooignpaa
