/-
  A history in memory: Clone of lines, may, stifled, Add, From.
-/
import Derived.Test.YtbjdjbhmafmnbaaHA
import Derived.IntWalk
namespace Go.Proofs.Ytbjdjbhmafmnbaa
open Go.RowKit Go.Proofs.YtbjdjbhmafmnbaaW.PrintWords Go.Proofs.YtbjdjbhmafmnbaaW.PrintLast Go.Proofs.YtbjdjbhmafmnbaaW.PrintMore Go.Proofs.Ytbjdjbhmafmnbaa.PAll
set_option linter.unusedVariables false
set_option linter.unusedSimpArgs false
attribute [local go_sem] max2_int min2_int max_two min_two max_three min_three max_four min_four

theorem wrapN {a b : Int} (h : a = b) (h0 : -9223372036854775808 ≤ b) (h1 : b ≤ 9223372036854775807) : wrap64 a = b := by
  subst h
  unfold wrap64
  omega
theorem info36 : (Try.prog.info? 36).map (fun i => (i.zero, i.size, i.bytes)) = some (some (.agg #[.string ⟨#[]⟩, .int .i64 0]), 2, 24) := by kernel_rfl

/-! ### may -/
def longB (x : S36) : Bool := decide ((x.f0.size : Int) > 16384)
def negB (x : S36) : Bool := decide (x.f1 < 0)
def mayF (l : List S36) : Int := if l.any longB then 3 else if l.any negB then 1 else 0
theorem rd36_nat (xs : List S36) (i : Nat) (h : i < xs.length) : rd_T36 xs (i : Int) = xs[i] := by
  simp [rd_T36, List.getD, List.getElem?_eq_getElem h]
theorem may_l1 (l : List S36) (hn : l.length ≤ 1000000000000) : ∀ (d k i : Nat), i + d = l.length → d + 1 ≤ k → histlist_may.l1 k l (l.length : Int) (i : Int) = some (if (l.drop i).any negB then 1 else 0) := by
  intro d
  induction d with
  | zero =>
    intro k i hi hk
    obtain ⟨k, rfl⟩ : ∃ m, k = m + 1 := ⟨k - 1, by omega⟩
    simp only [histlist_may.l1]
    rw [if_neg (by omega), List.drop_of_length_le (by omega)]
    rfl
  | succ d ih =>
    intro k i hi hk
    obtain ⟨k, rfl⟩ : ∃ m, k = m + 1 := ⟨k - 1, by omega⟩
    have hlt : i < l.length := by omega
    simp only [histlist_may.l1]
    rw [if_pos (by omega), if_pos (by omega), if_pos (by omega), rd36_nat l i hlt, List.drop_eq_getElem_cons hlt, List.any_cons]
    by_cases c : (l[i]).f1 < 0
    · rw [if_pos c]
      simp [negB, c]
    · rw [if_neg c, wrapN (show (i : Int) + 1 = ((i + 1 : Nat) : Int) by omega) (by omega) (by omega), ih k (i + 1) (by omega) (by omega)]
      simp [negB, c]
theorem may_l0 (l : List S36) (hn : l.length ≤ 1000000000000) : ∀ (d k i : Nat), i + d = l.length → d + l.length + 2 ≤ k → histlist_may.l0 k l l (l.length : Int) (i : Int) = some (if (l.drop i).any longB then 3 else if l.any negB then 1 else 0) := by
  intro d
  induction d with
  | zero =>
    intro k i hi hk
    obtain ⟨k, rfl⟩ : ∃ m, k = m + 1 := ⟨k - 1, by omega⟩
    simp only [histlist_may.l0]
    rw [if_neg (by omega), List.drop_of_length_le (by omega)]
    have := may_l1 l hn l.length k 0 (by omega) (by omega)
    rw [List.drop_zero] at this
    exact this
  | succ d ih =>
    intro k i hi hk
    obtain ⟨k, rfl⟩ : ∃ m, k = m + 1 := ⟨k - 1, by omega⟩
    have hlt : i < l.length := by omega
    simp only [histlist_may.l0]
    rw [if_pos (by omega), if_pos (by omega), if_pos (by omega), rd36_nat l i hlt, List.drop_eq_getElem_cons hlt, List.any_cons]
    by_cases c : ((l[i]).f0.size : Int) > 16384
    · rw [if_pos c]
      simp only [longB, decide_eq_true c, Bool.true_or, if_true]
    · rw [if_neg c, wrapN (show (i : Int) + 1 = ((i + 1 : Nat) : Int) by omega) (by omega) (by omega), ih k (i + 1) (by omega) (by omega)]
      simp only [show longB l[i] = false from decide_eq_false c, Bool.false_or]
theorem may_f (l : List S36) (hn : l.length ≤ 1000000000000) : histlist_may.f 3000000000000 l = some (mayF l) := by
  have := may_l0 l hn l.length 3000000000000 0 (by omega) (by omega)
  rw [List.drop_zero] at this
  exact this
theorem may_calls (A0 : Option Addr) (c0 : Nat) (l0 : List S36) (w : World) (hr0 : Kd.C k36 w A0 l0.length l0) (hc0 : l0.length ≤ c0) (hl : l0.length ≤ 1000000000000) :
    Calls Try.prog 43 #[.slice A0 l0.length c0] w fun e w' => e = .returned (.int .i64 (mayF l0)) ∧ Below w.heap.size w w' :=
  histlist_may.calls 3000000000000 A0 c0 l0 _ w hr0 hc0 (may_f l0 hl)

/-! ### Clone -/
theorem M_of_K36 {w : World} (base : Nat) (ok : Nat → Prop) (x : S36) (cs : List Value) (h : k36.K w x cs) : k36.M w base ok x cs := by
  rw [k36_open h]
  exact k36_mkM _ _ _ _
theorem clone_calls (A0 : Option Addr) (c0 : Nat) (l0 : List S36) (w : World) (hr0 : Kd.C k36 w A0 l0.length l0) (hc0 : l0.length ≤ c0) (hl : l0.length ≤ 1000000000000) :
    Calls Try.prog 45 #[.slice A0 l0.length c0] w fun e w' => ∃ v0_ : Value, e = .returned (v0_) ∧ Kd.R k36 36 w' w.heap.size (fun _ => True) v0_ l0 ∧ Below w.heap.size w w' := by
  have HB0 := Below.refl w.heap.size w
  have hq := run_eql_slice_nil (P := Try.prog) w 28 36 A0 l0.length c0 Try.underlying28
  cases A0 with
  | none =>
    simp only [Option.isNone] at hq
    have hz : l0 = [] := by
      cases l0 with
      | nil => rfl
      | cons a t => obtain ⟨ad, h, _⟩ := hr0.2.2 (by simp); cases h
    subst hz
    simp only [List.length_nil] at hq ⊢
    go_enter Try.func45, Try.ntmps45
    go_wp2
    go_ret
    exact ⟨_, rfl, Kd.R_nil _ _ _ _ _, Below.refl _ _⟩
  | some ad =>
    go_enter Try.func45, Try.ntmps45
    have HO : Kd.R k36 36 (w.alloc (.cells #[] 36)) w.heap.size (fun _ => True) (.slice (some ⟨w.heap.size, 0, none⟩) 0 0) [] :=
      ⟨fun _ _ => trivial, OwnRow.lit w w.heap.size (R := Kd.M k36 _ _ _) (ps := []) (inner := []) ⟨rfl, fun i p h => by simp at h⟩ (Nat.le_refl _) (by simp)⟩
    have HC := Kd.C_alloc hr0 (.cells #[] 36)
    simp only [Option.isNone] at hq
    go_wp2_with ((with_reducible refine gate_builtin (b := .append) (xs := #[.tmp 5, .tmp 6]) rfl ?_); at_builtin; refine Kd.R_append_rows k36 (w0 := w) w.heap.size rfl (.tmp 5) (.tmp 6) 28 36 (.agg #[.string ⟨#[]⟩, .int .i64 0]) 24 rfl Try.underlying28 info36 rfl (by decide) (by omega) _ [] l0 _ _ _ (fun _ => True) (fun _ => False) rfl rfl HO HC (fun x cs h => M_of_K36 _ _ x cs h) (fun _ h => h.elim) (fun _ _ => trivial) (by exact HB0.alloc (Nat.le_refl _) _) (by simp) (by simp; omega) ?_; intro v1 w1 ho hb hg hat)
    go_ret
    exact ⟨_, rfl, ho, hb⟩

theorem clone_at (A0 : Option Addr) (n c0 : Nat) (l0 : List S36) (w : World) (hn : l0.length = n) (hr0 : Kd.C k36 w A0 n l0) (hc0 : n ≤ c0) (hl : n ≤ 1000000000000) :
    Calls Try.prog 45 #[.slice A0 n c0] w fun e w' => ∃ v0_ : Value, e = .returned (v0_) ∧ Kd.R k36 36 w' w.heap.size (fun _ => True) v0_ l0 ∧ Below w.heap.size w w' := by
  subst hn
  exact clone_calls A0 c0 l0 w hr0 hc0 hl

/-! ### stifled -/
def Hs.stifle (h : Hs) : Hs := if h.most < (h.lines.length : Int) then ⟨h.lines.drop ((h.lines.length : Int) - h.most).toNat, h.base + ((h.lines.length : Int) - h.most), h.most⟩ else h
theorem HL.put01 {w2 : World} {B g : Nat} {v v2 : Value} {b m : Int} {ls : List S36} (hbox2 : w2.heap[g]? = some (.cells #[v, .int .i64 b, .int .i64 m] 87 (0, 0))) (hR2 : Kd.R k36 36 w2 B (fun _ => True) v2 ls) (b' : Int) :
    HL ((w2.setCell ⟨g, 0, none⟩ v2).setCell ⟨g, 1, none⟩ (.int .i64 b')) B g v2 ⟨ls, b', m⟩ :=
  have h1 := blk_put hbox2 0 v2 rfl
  ⟨blk_put h1 1 (.int .i64 b') rfl, Kd.R_set (Kd.R_set hR2 hbox2 (by decide) 0 v2) h1 (by decide) 1 _⟩
theorem HL.put0 {w2 : World} {B g : Nat} {v v2 : Value} {b m : Int} {ls : List S36} (hbox2 : w2.heap[g]? = some (.cells #[v, .int .i64 b, .int .i64 m] 87 (0, 0))) (hR2 : Kd.R k36 36 w2 B (fun _ => True) v2 ls) :
    HL (w2.setCell ⟨g, 0, none⟩ v2) B g v2 ⟨ls, b, m⟩ :=
  ⟨blk_put hbox2 0 v2 rfl, Kd.R_set hR2 hbox2 (by decide) 0 v2⟩
/-- Where the lines' slice is then. -/
def Newer (w : World) (v v' : Value) : Prop := ∀ k, v'.ownBlock = some k → v.ownBlock = some k ∨ w.heap.size ≤ k
theorem Newer.refl (w : World) (v : Value) : Newer w v v := fun _ h => .inl h
theorem Newer.of_R {w w1 w2 : World} {v v' : Value} {ok : Nat → Prop} {xs : List S36} (h : Kd.R k36 36 w2 w1.heap.size ok v' xs) (hw : w.heap.size ≤ w1.heap.size) : Newer w v v' := fun k hk => .inr (Nat.le_trans hw (Kd.R_base h k hk))
theorem Newer.of_at {w w1 : World} {v v' : Value} (h : v'.ownBlock = v.ownBlock ∨ ∃ b, v'.ownBlock = some b ∧ w1.heap.size ≤ b) (hw : w.heap.size ≤ w1.heap.size) : Newer w v v' := fun k hk => by
  rcases h with h | ⟨b, h, hb⟩
  · exact .inl (h ▸ hk)
  · rw [h] at hk
    cases hk
    exact .inr (by omega)
theorem Newer.trans {w w1 : World} {a b c : Value} (h : Newer w a b) (k : Newer w1 b c) (hw : w.heap.size ≤ w1.heap.size) : Newer w a c := fun i hi => by
  rcases k i hi with h1 | h1
  · exact h i h1
  · exact .inr (by omega)

theorem wrap_in {x : Int} (h0 : -9223372036854775808 ≤ x) (h1 : x ≤ 9223372036854775807) : IntKind.i64.wrap x = x := IntWalk.i64_in _ ⟨h0, h1⟩

set_option maxRecDepth 100000 in
theorem stifled_no {w : World} {B g : Nat} {v : Value} {q : Hs} (hl : HL w B g v q) (hn0 : q.lines.length ≤ 1000000000000) (hm0 : 0 ≤ q.most) (hm : (q.lines.length : Int) ≤ q.most) (hm1 : q.most ≤ 4096) :
    Calls Try.prog 44 #[.pointer (some ⟨g, 0, none⟩)] w fun e w' => (∃ x, e = .returned x) ∧ ∃ n, w' = w.drewN n := by
  have h0 := hl.c0
  have h2 := hl.c2
  obtain ⟨A, c, hv, _⟩ := hl.slice
  rw [hv] at h0
  clear hv
  have hn : ¬ 0 < (q.lines.length : Int) - q.most := by omega
  have hw := wrap_in (x := (q.lines.length : Int) - q.most) (by omega) (by omega)
  go_enter Try.func44, Try.ntmps44
  go_wp2
  go_quiet (fail)
  go_wp2
  go_end0
  exact ⟨⟨_, rfl⟩, _, rfl⟩

set_option maxRecDepth 100000 in
theorem stifled_yes {w : World} {B g : Nat} {v : Value} {q : Hs} (hl : HL w B g v q) (hn0 : q.lines.length ≤ 1000000000000) (hm0 : 0 ≤ q.most) (hm : q.most < (q.lines.length : Int)) (hB : B ≤ w.heap.size) (hbg : B ≤ g)
    (hb0 : 0 ≤ q.base) (hb1 : q.base ≤ 1000000000000000) :
    Calls Try.prog 44 #[.pointer (some ⟨g, 0, none⟩)] w fun e w' => (∃ x, e = .returned x) ∧ ∃ v', HL w' B g v' q.stifle ∧ Newer w v v' ∧ Fr (fun k => k = g) w w' := by
  have h0 := hl.c0
  have h1 := hl.c1
  have h2 := hl.c2
  obtain ⟨A, c, hv, hc, hC⟩ := hl.slice
  rw [hv] at h0
  have hp : 0 < (q.lines.length : Int) - q.most := by omega
  have hw := wrap_in (x := (q.lines.length : Int) - q.most) (by omega) (by omega)
  have hw2 := wrap_in (x := q.base + ((q.lines.length : Int) - q.most)) (by omega) (by omega)
  have hlen : (q.lines.drop ((q.lines.length : Int) - q.most).toNat).length = q.lines.length - ((q.lines.length : Int) - q.most).toNat := List.length_drop
  have hd := Kd.C_drop (m := ((q.lines.length : Int) - q.most).toNat) hC (by omega) hc
  have hC1 : c = ((q.lines.length : Int) - q.most).toNat → Kd.C k36 w A (q.lines.length - ((q.lines.length : Int) - q.most).toNat) (q.lines.drop ((q.lines.length : Int) - q.most).toNat) := fun e => by have hd := hd; rw [if_pos e, hlen] at hd; exact hd
  have hC2 : c ≠ ((q.lines.length : Int) - q.most).toNat → Kd.C k36 w (A.map (·.add (((q.lines.length : Int) - q.most).toNat * 2))) (q.lines.length - ((q.lines.length : Int) - q.most).toNat) (q.lines.drop ((q.lines.length : Int) - q.most).toNat) := fun e => by have hd := hd; rw [if_neg e, hlen] at hd; exact hd
  have hle : ((q.lines.length : Int) - q.most).toNat ≤ q.lines.length := by omega
  have hbox := hl.box
  have hfz := blk_frozen hl.box 0
  have hfz1 := blk_frozen hl.box 1
  have hst : q.stifle = ⟨q.lines.drop ((q.lines.length : Int) - q.most).toNat, q.base + ((q.lines.length : Int) - q.most), q.most⟩ := if_pos hm
  rw [hst]
  clear hst
  rw [hlen] at hd
  go_enter Try.func44, Try.ntmps44
  go_wp2
  go_quiet (fail)
  go_wp2_with (go_at_call 45; go_loud (refine (clone_at _ _ _ (q.lines.drop ((q.lines.length : Int) - q.most).toNat) _ hlen (Kd.C_drewN (by first | exact hd | exact hC1 (by assumption) | exact hC2 (by assumption)) _) (by omega) (by omega)).mono ?_); rintro e w2 ⟨v2, rfl, hR2, hb2⟩; obtain ⟨A2, c2, rfl⟩ := Kd.R_slice hR2; have hbox2 := blk_below (blk_drewN hbox _) hb2; have hc20 : w2.cell? ⟨g, 0, none⟩ = some v := (blk_cell hbox2 0).trans rfl; have hc21 : w2.cell? ⟨g, 1, none⟩ = some (.int .i64 q.base) := (blk_cell hbox2 1).trans rfl; have hf20 := blk_frozen hbox2 0; have hf21 := blk_frozen hbox2 1)
  all_goals
    go_end0
    have hge : w.heap.size ≤ w2.heap.size := hb2.size
    refine ⟨⟨_, rfl⟩, _, HL.put01 hbox2 (by rw [← hlen]; exact Kd.R_lower hR2 hB) _, Newer.of_R (w := w) (w1 := w) (by rw [← hlen]; exact hR2) (Nat.le_refl _), ?_⟩
    exact ((Fr.of_below (N := fun k => k = g) (below_step (w := w) (pw_below_drewN (Below.refl _ _) _) hb2)).set (p := ⟨g, 0, none⟩) (.inl rfl) _).set (p := ⟨g, 1, none⟩) (.inl rfl) _

theorem Hs.stifle_no {q : Hs} (h : (q.lines.length : Int) ≤ q.most) : q.stifle = q := if_neg (by omega)
theorem stifled_calls {w : World} {B g : Nat} {v : Value} {q : Hs} (hl : HL w B g v q) (hn0 : q.lines.length ≤ 1000000000000) (hm0 : 0 ≤ q.most) (hm1 : q.most ≤ 4096) (hB : B ≤ w.heap.size) (hbg : B ≤ g)
    (hb0 : 0 ≤ q.base) (hb1 : q.base ≤ 1000000000000000) :
    Calls Try.prog 44 #[.pointer (some ⟨g, 0, none⟩)] w fun e w' => (∃ x, e = .returned x) ∧ ∃ v', HL w' B g v' q.stifle ∧ Newer w v v' ∧ Fr (fun k => k = g) w w' := by
  by_cases h : q.most < (q.lines.length : Int)
  · exact stifled_yes hl hn0 hm0 h hB hbg hb0 hb1
  · refine (stifled_no hl hn0 hm0 (by omega) hm1).mono ?_
    rintro e w' ⟨hx, n, rfl⟩
    rw [Hs.stifle_no (by omega)]
    exact ⟨hx, v, hl.below (pw_below_drewN (Below.refl _ _) n), Newer.refl _ _, Fr.of_below (pw_below_drewN (Below.refl _ _) n)⟩

/-! ### Add -/
def Hs.add (q : Hs) (l : List S36) : Hs := Hs.stifle ⟨q.lines ++ l, q.base, q.most⟩
theorem add_bad {w : World} {B g : Nat} {v : Value} {q : Hs} (hl : HL w B g v q) (hq : q.base ≠ 0) (A0 : Option Addr) (c0 : Nat) (l0 : List S36) (hr0 : Kd.C k36 w A0 l0.length l0) (hc0 : l0.length ≤ c0) (hl0 : l0.length ≤ 1000000000000) (hm : mayF l0 ≠ 0) :
    Calls Try.prog 11 #[.pointer (some ⟨g, 0, none⟩), .slice A0 l0.length c0] w fun e w' => e = .returned (.int .i64 (mayF l0)) ∧ Below w.heap.size w w' := by
  have hm1 : (mayF l0 == 0) = false := by simpa using hm
  have hm2 : (mayF l0 != 0) = true := by simpa using hm
  generalize hr : mayF l0 = r at hm hm1 hm2
  have Hr := Aside0.mk hr
  clear hr hm
  go_enter Try.func11, Try.ntmps11
  go_wp2_with (first
    | (go_at_call 42; refine (none_calls hl hq).mono ?_; rintro e w' ⟨rfl, rfl⟩)
    | (go_at_call 43; refine (may_calls A0 c0 l0 _ hr0 hc0 hl0).mono ?_; rintro e w2 ⟨rfl, hb2⟩; rw [Hr.out]))
  go_ret
  exact ⟨rfl, hb2⟩
set_option maxHeartbeats 1000000 in
theorem add_calls {w : World} {B g : Nat} {v : Value} {q : Hs} (hl : HL w B g v q) (A0 : Option Addr) (c0 : Nat) (l0 : List S36) (hr0 : Kd.C k36 w A0 l0.length l0) (hc0 : l0.length ≤ c0) (hm : mayF l0 = 0)
    (hn0 : q.lines.length + l0.length ≤ 1000000000000) (hm0 : 0 ≤ q.most) (hm1 : q.most ≤ 4096) (hB : B ≤ w.heap.size) (hbg : B ≤ g) (hb0 : 0 < q.base) (hb1 : q.base ≤ 1000000000000000) :
    Calls Try.prog 11 #[.pointer (some ⟨g, 0, none⟩), .slice A0 l0.length c0] w fun e w' => e = .returned (.int .i64 0) ∧ ∃ v', HL w' B g v' (q.add l0) ∧ Newer w v v' ∧ Fr (fun k => k = g ∨ some k = v.ownBlock) w w' := by
  have Hm := Aside0.mk hm
  clear hm
  obtain ⟨A, c, rfl, hc, hC⟩ := hl.slice
  have hq : q.base ≠ 0 := by omega
  go_enter Try.func11, Try.ntmps11
  go_wp2_with (first
    | (go_at_call 42; refine (none_calls hl hq).mono ?_; rintro e w' ⟨rfl, rfl⟩)
    | (go_at_call 43; refine (may_calls A0 c0 l0 _ hr0 hc0 (by omega)).mono ?_; rintro e w2 ⟨rfl, hb2⟩; rw [Hm.out]; have hl2 := hl.below hb2; have h20 := hl2.c0; have hf20 := blk_frozen hl2.box 0)
    | ((with_reducible refine gate_builtin (b := .append) (xs := #[.tmp 18, .tmp 19]) rfl ?_); at_builtin; go_loud (refine Kd.R_append_rows k36 (w0 := w2) B rfl (.tmp 18) (.tmp 19) 28 36 (.agg #[.string ⟨#[]⟩, .int .i64 0]) 24 rfl Try.underlying28 info36 rfl (by decide) (by omega) (.slice A q.lines.length c) q.lines l0 _ _ _ (fun _ => True) (fun _ => False) rfl rfl hl2.row (Kd.C_below hr0 hb2) (fun x cs h => M_of_K36 _ _ x cs h) (fun _ h => h.elim) (fun _ _ => trivial) (Below.refl _ _) (by have := hb2.size; omega) (by omega) ?_); intro v3 w3 hR3 hb3 hg3 hat3; have hbox3 := blk_grown hl2.box hg3 hl2.ne; have h30 : w3.cell? ⟨g, 0, none⟩ = some (.slice A q.lines.length c) := (blk_cell hbox3 0).trans rfl; have hf30 := blk_frozen hbox3 0; obtain ⟨A3, c3, rfl⟩ := Kd.R_slice hR3; rw [List.length_append] at hR3)
    | (go_at_call 44; go_loud (refine (stifled_calls (HL.put0 hbox3 hR3) (by simp; omega) hm0 hm1 (by simp; have := hb2.size; have := hg3.size; omega) hbg (by simp; omega) hb1).mono ?_); rintro e w4 ⟨⟨x, rfl⟩, v4, hl4, hn4, hf4⟩))
  go_ret
  refine ⟨rfl, v4, hl4, ?_, ?_⟩
  · rw [List.length_append] at hat3
    exact (Newer.of_at (w := w) hat3 hb2.size).trans hn4 (by rw [World.size_setCell]; have := hb2.size; have := hg3.size; omega)
  · exact Fr.trans (N' := fun k => k = g) (((Fr.of_below (N := fun k => k = g ∨ some k = (Value.slice A q.lines.length c).ownBlock) hb2).trans (Fr.of_grown hg3 (fun k hk => .inr hk.symm)) (fun _ _ h => h)).set (p := ⟨g, 0, none⟩) (.inl (.inl rfl)) _) hf4 (fun _ _ h => .inl h)
end Go.Proofs.Ytbjdjbhmafmnbaa
