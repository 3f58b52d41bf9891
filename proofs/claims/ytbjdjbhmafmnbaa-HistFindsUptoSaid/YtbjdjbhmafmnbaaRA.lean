/-
  The document's history in memory: New, may, cut, Add, From.
-/
import Derived.Test.YtbjdjbhmafmnbaaWA
namespace Go.Proofs.Ytbjdjbhmafmnbaa
open Go.RowKit Go.Proofs.YtbjdjbhmafmnbaaW.PrintWords Go.Proofs.YtbjdjbhmafmnbaaW.PrintLast Go.Proofs.YtbjdjbhmafmnbaaW.PrintMore Go.Proofs.Ytbjdjbhmafmnbaa.PAll
set_option linter.unusedVariables false
set_option linter.unusedSimpArgs false

theorem rmay_l1 (l : List S36) (hn : l.length ≤ 1000000000000) : ∀ (d k i : Nat), i + d = l.length → d + 1 ≤ k → lanyardref10_may.l1 k l (i : Int) = some (if (l.drop i).any negB then 1 else 0) := by
  intro d
  induction d with
  | zero =>
    intro k i hi hk
    obtain ⟨k, rfl⟩ : ∃ m, k = m + 1 := ⟨k - 1, by omega⟩
    simp only [lanyardref10_may.l1]
    rw [if_neg (by omega), List.drop_of_length_le (by omega)]
    rfl
  | succ d ih =>
    intro k i hi hk
    obtain ⟨k, rfl⟩ : ∃ m, k = m + 1 := ⟨k - 1, by omega⟩
    have hlt : i < l.length := by omega
    simp only [lanyardref10_may.l1]
    rw [if_pos (by omega), if_pos (by omega), rd36_nat l i hlt, List.drop_eq_getElem_cons hlt, List.any_cons]
    by_cases c : (l[i]).f1 < 0
    · rw [if_pos c]
      simp [negB, c]
    · rw [if_neg c, wrapN (show (i : Int) + 1 = ((i + 1 : Nat) : Int) by omega) (by omega) (by omega), ih k (i + 1) (by omega) (by omega)]
      simp [negB, c]
theorem rmay_l0 (l : List S36) (hn : l.length ≤ 1000000000000) : ∀ (d k i : Nat), i + d = l.length → d + l.length + 2 ≤ k → lanyardref10_may.l0 k l (i : Int) = some (if (l.drop i).any longB then 3 else if l.any negB then 1 else 0) := by
  intro d
  induction d with
  | zero =>
    intro k i hi hk
    obtain ⟨k, rfl⟩ : ∃ m, k = m + 1 := ⟨k - 1, by omega⟩
    simp only [lanyardref10_may.l0]
    rw [if_neg (by omega), List.drop_of_length_le (by omega)]
    have := rmay_l1 l hn l.length k 0 (by omega) (by omega)
    rw [List.drop_zero] at this
    exact this
  | succ d ih =>
    intro k i hi hk
    obtain ⟨k, rfl⟩ : ∃ m, k = m + 1 := ⟨k - 1, by omega⟩
    have hlt : i < l.length := by omega
    simp only [lanyardref10_may.l0]
    rw [if_pos (by omega), if_pos (by omega), rd36_nat l i hlt, List.drop_eq_getElem_cons hlt, List.any_cons]
    by_cases c : ((l[i]).f0.size : Int) > 16384
    · rw [if_pos c]
      simp only [longB, decide_eq_true c, Bool.true_or, if_true]
    · rw [if_neg c, wrapN (show (i : Int) + 1 = ((i + 1 : Nat) : Int) by omega) (by omega) (by omega), ih k (i + 1) (by omega) (by omega)]
      simp only [show longB l[i] = false from decide_eq_false c, Bool.false_or]
theorem rmay_f (l : List S36) (hn : l.length ≤ 1000000000000) : lanyardref10_may.f 3000000000000 l = some (mayF l) := by
  have := rmay_l0 l hn l.length 3000000000000 0 (by omega) (by omega)
  rw [List.drop_zero] at this
  exact this
theorem rmay_calls (A0 : Option Addr) (c0 : Nat) (l0 : List S36) (w : World) (hr0 : Kd.C k36 w A0 l0.length l0) (hc0 : l0.length ≤ c0) (hl : l0.length ≤ 1000000000000) :
    Calls Try.prog 62 #[.slice A0 l0.length c0] w fun e w' => e = .returned (.int .i64 (mayF l0)) ∧ Below w.heap.size w w' := by
  refine (lanyardref10_may.calls 3000000000000 A0 c0 l0 _ w hr0 hc0 (rmay_f l0 hl)).mono ?_
  rintro e w' ⟨h1, h2⟩
  exact ⟨h1, by first | exact h2 | (obtain ⟨n, rfl⟩ := h2; exact pw_below_drewN (Below.refl _ _) n)⟩

theorem Q_fr {α : Type} {d : Kd α} {e base : Nat} {ok : Nat → Prop} {v : Value} {xs : List α} {N : Nat → Prop} {a b : World} (h : Kd.Q d e a base ok v xs) (hf : Fr N a b) (hN : ∀ k, ok k → ¬ N k) : Kd.Q d e b base ok v xs :=
  Kd.Q_step h (fun k hk hl => hf.block k hl (hN k hk))
theorem Q_one {w : World} {base : Nat} {ok : Nat → Prop} {v : Value} {xs : List S36} (h : Kd.Q k36 36 w base ok v xs) : Kd.Q k36 36 w base (fun k => some k = v.ownBlock) v xs := by
  obtain ⟨_, inner, ho, hr⟩ := h
  refine ⟨fun k hk => hk.symm, inner, ho, hr.imp_ (fun p cs hp => ?_)⟩
  rw [k36_openM hp]
  exact k36_mkM _ _ _ _
/-- The document's history: at block g; its lines' slice is v. -/
structure RL (w : World) (B g : Nat) (v : Value) (h : Hs) : Prop where
  box : w.heap[g]? = some (.cells #[v, .int .i64 h.base, .int .i64 h.most] 81 (0, 0))
  row : Kd.Q k36 36 w B (fun _ => True) v h.lines
theorem RL.below {w w' : World} {B g : Nat} {v : Value} {h : Hs} (hl : RL w B g v h) (hb : Below w.heap.size w w') : RL w' B g v h := ⟨blk_below hl.box hb, Kd.Q_below hl.row hb⟩
theorem RL.drewN {w : World} {B g : Nat} {v : Value} {h : Hs} (hl : RL w B g v h) (n : Nat) : RL (w.drewN n) B g v h := hl.below (pw_below_drewN (Below.refl _ _) n)
theorem RL.fr {w w' : World} {B g : Nat} {v : Value} {h : Hs} {N : Nat → Prop} (hl : RL w B g v h) (hf : Fr N w w') (hg : ¬ N g) (hN : ∀ k, some k = v.ownBlock → ¬ N k) : RL w' B g v h := ⟨hf.blk hl.box hg, Kd.Q_mono (Q_fr (Q_one hl.row) hf hN) (fun _ _ => trivial)⟩
theorem RL.c0 {w : World} {B g : Nat} {v : Value} {h : Hs} (hl : RL w B g v h) : w.cell? ⟨g, 0, none⟩ = some v := (blk_cell hl.box 0).trans rfl
theorem RL.c1 {w : World} {B g : Nat} {v : Value} {h : Hs} (hl : RL w B g v h) : w.cell? ⟨g, 1, none⟩ = some (.int .i64 h.base) := (blk_cell hl.box 1).trans rfl
theorem RL.c2 {w : World} {B g : Nat} {v : Value} {h : Hs} (hl : RL w B g v h) : w.cell? ⟨g, 2, none⟩ = some (.int .i64 h.most) := (blk_cell hl.box 2).trans rfl
theorem RL.put0 {w2 : World} {B g : Nat} {v v2 : Value} {b m : Int} {ls : List S36} (hbox2 : w2.heap[g]? = some (.cells #[v, .int .i64 b, .int .i64 m] 81 (0, 0))) (hR2 : Kd.Q k36 36 w2 B (fun _ => True) v2 ls) :
    RL (w2.setCell ⟨g, 0, none⟩ v2) B g v2 ⟨ls, b, m⟩ := ⟨blk_put hbox2 0 v2 rfl, Kd.Q_set hR2 hbox2 (by decide) 0 v2⟩
theorem RL.put01 {w2 : World} {B g : Nat} {v v2 : Value} {b m : Int} {ls : List S36} (hbox2 : w2.heap[g]? = some (.cells #[v, .int .i64 b, .int .i64 m] 81 (0, 0))) (hR2 : Kd.Q k36 36 w2 B (fun _ => True) v2 ls) (b' : Int) :
    RL ((w2.setCell ⟨g, 0, none⟩ v2).setCell ⟨g, 1, none⟩ (.int .i64 b')) B g v2 ⟨ls, b', m⟩ :=
  have h1 := blk_put hbox2 0 v2 rfl
  ⟨blk_put h1 1 (.int .i64 b') rfl, Kd.Q_set (Kd.Q_set hR2 hbox2 (by decide) 0 v2) h1 (by decide) 1 _⟩

/-! ### New -/
theorem rnew_bad (most : Int) (hm : most < 0 ∨ 4096 < most) (w : World) : Calls Try.prog 33 #[.int .i64 most] w fun e w' => e = .returned (.tuple #[.pointer none, .int .i64 1]) ∧ w = w' := by
  rcases hm with hm | hm
  · go_enter Try.func33, Try.ntmps33
    go_wp2
    go_ret2
    exact ⟨rfl, rfl⟩
  · have h0 : ¬ most < 0 := by omega
    go_enter Try.func33, Try.ntmps33
    go_wp2
    go_ret2
    exact ⟨rfl, rfl⟩
theorem rnew_calls (most : Int) (h0 : 0 ≤ most) (h1 : most ≤ 4096) (w : World) : Calls Try.prog 33 #[.int .i64 most] w fun e w' => ∃ g, e = .returned (.tuple #[.pointer (some ⟨g, 0, none⟩), .int .i64 0]) ∧ w.heap.size ≤ g ∧
    RL w' w.heap.size g (.slice none 0 0) ⟨[], 1, most⟩ ∧ Below w.heap.size w w' := by
  go_enter Try.func33, Try.ntmps33
  go_wp2
  go_ret2
  exact ⟨w.heap.size, rfl, Nat.le_refl _, ⟨blk_new _ _, Kd.Q_nil _ _ _ _ _⟩, (Below.refl _ _).alloc (Nat.le_refl _) _⟩

/-! ### cut -/
/-- A history with k lines less. -/
def Hs.less (q : Hs) (k : Nat) : Hs := ⟨q.lines.drop k, q.base + (k : Int), q.most⟩
theorem Hs.stifle_less (q : Hs) (hm : 0 ≤ q.most) : q.stifle = q.less (q.lines.length - q.most.toNat) := by
  unfold Hs.stifle Hs.less
  split
  · rename_i h
    congr 1
    · congr 1
      omega
    · omega
  · rename_i h
    have : q.lines.length - q.most.toNat = 0 := by omega
    rw [this]
    simp
set_option maxRecDepth 100000 in
set_option maxHeartbeats 1000000 in
theorem rcut_calls {w : World} {B g : Nat} {v : Value} {q : Hs} (hl : RL w B g v q) (hn0 : q.lines.length ≤ 1000000000000) (hm0 : 0 ≤ q.most) (hm1 : q.most ≤ 4096) (hbg : B ≤ g) (hB : B ≤ w.heap.size) (hb0 : 0 ≤ q.base) (hb1 : q.base ≤ 1000000000000000) :
    Calls Try.prog 63 #[.pointer (some ⟨g, 0, none⟩)] w fun e w' => (∃ x, e = .returned x) ∧ ∃ v', RL w' B g v' q.stifle ∧ Newer w v v' ∧ Fr (fun k => k = g) w w' := by
  obtain ⟨m, hm⟩ : ∃ m : Nat, q.most = (m : Int) := ⟨q.most.toNat, by omega⟩
  have hst := Hs.stifle_less q hm0
  rw [hm, Int.toNat_natCast] at hst
  rw [hst]
  clear hst
  obtain ⟨A, c, rfl, hc, hC⟩ := Kd.Q_reads hl.row
  go_enter Try.func63, Try.ntmps63
  go_wp2
  go_loopg [] (q.lines.length - m) (fun kq w' => ∃ (j : Nat) (A1 : Option Addr) (c1 : Nat), j + kq = q.lines.length - m ∧ RL w' B g (.slice A1 (q.lines.length - j) c1) (q.less j) ∧ Newer w (.slice A q.lines.length c) (.slice A1 (q.lines.length - j) c1) ∧ Fr (fun k => k = g) w w')
  case atStart => exact ⟨0, A, c, by omega, by simpa [Hs.less] using hl, Newer.refl _ _, Fr.refl _ _⟩
  case round =>
    obtain ⟨j, A1, c1, hjk, hl1, hnw, hfr⟩ := hrel
    have h0 := hl1.c0
    have h1 := hl1.c1
    have h2 : wr.cell? ⟨g, 2, none⟩ = some (.int .i64 (m : Int)) := by rw [← hm]; exact hl1.c2
    cases gk with
    | zero =>
      have hc1 : decide ((m : Int) < ((q.lines.length - j : Nat) : Int)) = false := by simp; omega
      have hc2 : decide (m < q.lines.length - j) = false := by simp; omega
      have ej : j = q.lines.length - m := by omega
      go_wp2
      go_quiet (fail)
      go_wp2
      go_end0
      subst ej
      exact ⟨⟨_, rfl⟩, _, hl1.drewN _, hnw, hfr.drewN _⟩
    | succ k1 =>
      have hc1 : decide ((m : Int) < ((q.lines.length - j : Nat) : Int)) = true := by simp; omega
      have hc2 : decide (m < q.lines.length - j) = true := by simp; omega
      have hf0 := blk_frozen hl1.box 0
      have hf1 := blk_frozen hl1.box 1
      have hbw := wrap_in (x := q.base + (j : Int) + 1) (by omega) (by omega)
      have hdl : (q.less j).lines.drop 1 = (q.less (j + 1)).lines := by simp [Hs.less]
      have hlj : (q.less j).lines.length = q.lines.length - j := by simp [Hs.less]
      have hd := Kd.Q_drop hl1.row (k := 1) (by omega)
      rw [hdl] at hd
      have hbx := hl1.box
      have hbb : (q.less j).base = q.base + (j : Int) := rfl
      rw [hbb] at h1 hbx
      have hqm : (q.less j).most = q.most := rfl
      rw [hqm] at hbx
      have e1 : (q.lines.length - j : Nat) - 1 = q.lines.length - (j + 1) := by omega
      rw [e1] at hd
      have hwr : B ≤ wr.heap.size := Nat.le_trans hB hfr.size
      have p1 : 1 ≤ q.lines.length - j := by omega
      have p2 : q.lines.length - j ≤ c1 := (Kd.Q_reads' hl1.row).2.1
      clear hl1 hdl hlj hbb hqm
      by_cases hcc : c1 = 1
      · subst hcc
        rw [if_pos rfl] at hd
        have HD := Aside0.mk hd
        have E1 := Aside0.mk e1
        clear hd e1
        go_wp2
        go_quiet (fail)
        go_wp2
        go_roundg k1
        case measure => omega
        case rel =>
          refine ⟨j + 1, A1, 1 - 1, by omega, ?_, ?_, ?_⟩
          · have h := RL.put01 (B := B) (blk_drewN hbx nq) (Kd.Q_drewN HD.out nq) (q.base + (j : Int) + 1)
            have e2 : (⟨(q.less (j + 1)).lines, q.base + (j : Int) + 1, q.most⟩ : Hs) = q.less (j + 1) := by simp [Hs.less]; omega
            rw [e2, ← E1.out] at h
            rw [← E1.out]
            rw [show q.lines.length - j - 1 = 0 by omega] at h ⊢
            exact h
          · exact fun k hk => hnw k (by cases A1 with | none => exact hk | some a => simpa [Value.ownBlock] using hk)
          · exact ((hfr.drewN nq).set (p := ⟨g, 0, none⟩) (.inl rfl) _).set (p := ⟨g, 1, none⟩) (.inl rfl) _
      · rw [if_neg hcc] at hd
        have HD := Aside0.mk hd
        have E1 := Aside0.mk e1
        clear hd e1
        go_wp2
        go_quiet (fail)
        go_wp2
        go_roundg k1
        case measure => omega
        case rel =>
          refine ⟨j + 1, A1.map (·.add (1 * k36.sz)), c1 - 1, by omega, ?_, ?_, ?_⟩
          · have h := RL.put01 (B := B) (blk_drewN hbx nq) (Kd.Q_drewN HD.out nq) (q.base + (j : Int) + 1)
            have e2 : (⟨(q.less (j + 1)).lines, q.base + (j : Int) + 1, q.most⟩ : Hs) = q.less (j + 1) := by simp [Hs.less]; omega
            rw [e2, ← E1.out] at h
            rw [← E1.out]
            exact h
          · exact fun k hk => hnw k (by cases A1 with | none => exact hk | some a => simpa [Value.ownBlock, add_block] using hk)
          · exact ((hfr.drewN nq).set (p := ⟨g, 0, none⟩) (.inl rfl) _).set (p := ⟨g, 1, none⟩) (.inl rfl) _

/-! ### Add -/
theorem radd_bad {w : World} {g : Nat} (A0 : Option Addr) (c0 : Nat) (l0 : List S36) (hr0 : Kd.C k36 w A0 l0.length l0) (hc0 : l0.length ≤ c0) (hl0 : l0.length ≤ 1000000000000) (hm : mayF l0 ≠ 0) :
    Calls Try.prog 50 #[.pointer (some ⟨g, 0, none⟩), .slice A0 l0.length c0] w fun e w' => e = .returned (.int .i64 (mayF l0)) ∧ Below w.heap.size w w' := by
  have hm1 : (mayF l0 == 0) = false := by simpa using hm
  have hm2 : (mayF l0 != 0) = true := by simpa using hm
  generalize hr : mayF l0 = r at hm hm1 hm2
  have Hr := Aside0.mk hr
  clear hr hm
  go_enter Try.func50, Try.ntmps50
  go_wp2_with (go_at_call 62; refine (rmay_calls A0 c0 l0 _ hr0 hc0 hl0).mono ?_; rintro e w2 ⟨rfl, hb2⟩; rw [Hr.out])
  go_ret
  exact ⟨rfl, hb2⟩
set_option maxHeartbeats 1000000 in
theorem radd_calls {w : World} {B g : Nat} {v : Value} {q : Hs} (hl : RL w B g v q) (A0 : Option Addr) (c0 : Nat) (l0 : List S36) (hr0 : Kd.C k36 w A0 l0.length l0) (hc0 : l0.length ≤ c0) (hm : mayF l0 = 0)
    (hn0 : q.lines.length + l0.length ≤ 1000000000000) (hm0 : 0 ≤ q.most) (hm1 : q.most ≤ 4096) (hB : B ≤ w.heap.size) (hbg : B ≤ g) (hb0 : 0 < q.base) (hb1 : q.base ≤ 1000000000000000) :
    Calls Try.prog 50 #[.pointer (some ⟨g, 0, none⟩), .slice A0 l0.length c0] w fun e w' => e = .returned (.int .i64 0) ∧ ∃ v', RL w' B g v' (q.add l0) ∧ (∀ k, v'.ownBlock = some k → w.heap.size ≤ k) ∧ Fr (fun k => k = g) w w' := by
  have Hm := Aside0.mk hm
  clear hm
  obtain ⟨A, c, rfl, hc, hC⟩ := Kd.Q_reads hl.row
  go_enter Try.func50, Try.ntmps50
  go_wp2_with (first
    | (go_at_call 62; refine (rmay_calls A0 c0 l0 _ hr0 hc0 (by omega)).mono ?_; rintro e w2 ⟨rfl, hb2⟩; rw [Hm.out]; have hl2 := hl.below hb2; have h20 := hl2.c0; have hf20 := blk_frozen hl2.box 0)
    | ((with_reducible refine gate_builtin (b := .append) (xs := #[.const (.slice none 0 0), .tmp 15]) rfl ?_); at_builtin; refine Kd.R_append_rows k36 (w0 := w2) w2.heap.size rfl (.const (.slice none 0 0)) (.tmp 15) 28 36 (.agg #[.string ⟨#[]⟩, .int .i64 0]) 24 rfl Try.underlying28 info36 rfl (by decide) (by omega) (.slice none 0 0) [] q.lines _ _ _ (fun _ => True) (fun _ => False) rfl rfl (Kd.R_nil _ _ _ _ _) (Kd.C_below hC hb2) (fun x cs h => M_of_K36 _ _ x cs h) (fun _ h => h.elim) (fun _ _ => trivial) (Below.refl _ _) (Nat.le_refl _) (by simp; omega) ?_; intro v3 w3 hR3 hb3 hg3 hat3; rw [List.nil_append] at hR3; obtain ⟨A3, c3, rfl⟩ := Kd.R_slice hR3)
    | ((with_reducible refine gate_builtin (b := .append) (xs := #[.tmp 16, .tmp 17]) rfl ?_); at_builtin; refine Kd.R_append_rows k36 (w0 := w3) w2.heap.size rfl (.tmp 16) (.tmp 17) 28 36 (.agg #[.string ⟨#[]⟩, .int .i64 0]) 24 rfl Try.underlying28 info36 rfl (by decide) (by omega) (.slice A3 q.lines.length c3) q.lines l0 _ _ _ (fun _ => True) (fun _ => False) rfl rfl hR3 (Kd.C_below (Kd.C_below hr0 hb2) hb3) (fun x cs h => M_of_K36 _ _ x cs h) (fun _ h => h.elim) (fun _ _ => trivial) (Below.refl _ _) hb3.size (by omega) ?_; intro v4 w4 hR4 hb4 hg4 hat4; obtain ⟨A4, c4, rfl⟩ := Kd.R_slice hR4; rw [List.length_append] at hR4; have hl4 := hl2.below (hb3.trans hb4); have h40 := hl4.c0; have hf40 := blk_frozen hl4.box 0)
    | (go_at_call 63; refine (rcut_calls (RL.put0 hl4.box (Kd.Q_of_R (Kd.R_lower hR4 (Nat.le_trans hB hb2.size)))) (by simp; omega) hm0 hm1 hbg (by simp; have := hb2.size; have := hb3.size; have := hb4.size; omega) (by show 0 ≤ q.base; omega) hb1).mono ?_; rintro e w5 ⟨⟨x, rfl⟩, v5, hl5, hn5, hf5⟩))
  go_ret
  refine ⟨rfl, v5, hl5, ?_, ?_⟩
  · intro k hk
    have := hb2.size
    have := hb3.size
    have := hb4.size
    rcases hn5 k hk with h | h
    · have := Kd.R_base hR4 k h
      omega
    · rw [World.size_setCell] at h
      omega
  · exact Fr.trans (N' := fun k => k = g) ((Fr.of_below (N := fun k => k = g) (below_step hb2 (hb3.trans hb4))).set (p := ⟨g, 0, none⟩) (.inl rfl) _) hf5 (fun _ _ h => h)

/-! ### From -/
theorem rfrom_lines (most : Int) (h0 : 0 ≤ most) (h1 : most ≤ 4096) (A0 : Option Addr) (c0 : Nat) (l0 : List S36) (w : World) (hr0 : Kd.C k36 w A0 l0.length l0) (hc0 : l0.length ≤ c0) (hl0 : l0.length ≤ 1000000000000) (hm : mayF l0 ≠ 0) :
    Calls Try.prog 22 #[.int .i64 most, .slice A0 l0.length c0] w fun e w' => e = .returned (.tuple #[.pointer none, .int .i64 (mayF l0)]) ∧ Below w.heap.size w w' := by
  have hm1 : (mayF l0 == 0) = false := by simpa using hm
  have hm2 : (mayF l0 != 0) = true := by simpa using hm
  have Hm := Aside0.mk hm
  have Hr : ∃ r, r = mayF l0 := ⟨_, rfl⟩
  obtain ⟨r, hr⟩ := Hr
  rw [← hr] at hm1 hm2 ⊢
  have HR := Aside0.mk hr
  clear hr hm
  go_enter Try.func22, Try.ntmps22
  go_wp2_with (first
    | (go_at_call 33; refine (rnew_calls most h0 h1 _).mono ?_; rintro e w2 ⟨g, rfl, hg, hl2, hb2⟩)
    | (go_at_call 50; refine (radd_bad A0 c0 l0 (Kd.C_below hr0 hb2) hc0 hl0 Hm.out).mono ?_; rintro e w3 ⟨rfl, hb3⟩; rw [← HR.out]))
  go_ret2
  exact ⟨rfl, below_step hb2 hb3⟩
theorem rfrom_calls (most : Int) (h0 : 0 ≤ most) (h1 : most ≤ 4096) (A0 : Option Addr) (c0 : Nat) (l0 : List S36) (w : World) (hr0 : Kd.C k36 w A0 l0.length l0) (hc0 : l0.length ≤ c0) (hl0 : l0.length ≤ 1000000000000) (hm : mayF l0 = 0) :
    Calls Try.prog 22 #[.int .i64 most, .slice A0 l0.length c0] w fun e w' => ∃ g v, e = .returned (.tuple #[.pointer (some ⟨g, 0, none⟩), .int .i64 0]) ∧ w.heap.size ≤ g ∧ RL w' w.heap.size g v (Hs.add ⟨[], 1, most⟩ l0) ∧ Below w.heap.size w w' := by
  have Hm := Aside0.mk hm
  clear hm
  go_enter Try.func22, Try.ntmps22
  go_wp2_with (first
    | (go_at_call 33; refine (rnew_calls most h0 h1 _).mono ?_; rintro e w2 ⟨g, rfl, hg, hl2, hb2⟩)
    | (go_at_call 50; refine (radd_calls hl2 A0 c0 l0 (Kd.C_below hr0 hb2) hc0 Hm.out (by simpa using hl0) h0 h1 hb2.size hg (show (0 : Int) < 1 by decide) (show (1 : Int) ≤ 1000000000000000 by decide)).mono ?_; rintro e w3 ⟨rfl, v3, hl3, hn3, hf3⟩))
  go_ret2
  exact ⟨g, v3, rfl, hg, hl3, hb2.trans (hf3.below (fun k hk => hk ▸ hg) hb2.size)⟩
end Go.Proofs.Ytbjdjbhmafmnbaa
