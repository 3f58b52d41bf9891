/-
  A trie in memory: drop.
-/
import Derived.Test.YtcnkgodooignpaaKD
import Derived.StillTailTactics
import Derived.Lib.IndexBytes
import Derived.Laws.Closers25
namespace Go.Proofs.Ytcnkgodooignpaa
open Go.RowKit Go.WideShapes Go.Proofs.YtcnkgodooignpaaW.PrintWords Go.Proofs.YtcnkgodooignpaaW.PrintLast Go.Proofs.YtcnkgodooignpaaW.PrintMore Go.Proofs.Ytcnkgodooignpaa.PAll
set_option linter.unusedVariables false
set_option linter.unusedSimpArgs false
attribute [local go_sem] max2_int min2_int max_two min_two max_three min_three max_four min_four
/-- Something is bound at a path or behind it. -/
def Alive (L : Path → Bool) (f : Path → Bd) (q : Path) : Prop := ∃ t, L (q ++ t) = true ∧ (f (q ++ t)).kind ≠ 0
/-- What stands between p and p ++ r, its end too. -/
def Way (p r q : Path) : Prop := p <+: q ∧ q ≠ p ∧ q <+: p ++ r
/-- Nothing more is there than was, and what stands on the way is there where something is bound at it or behind it. -/
structure Dropped (L L' : Path → Bool) (f' : Path → Bd) (p r : Path) : Prop where
  off : ∀ q, ¬ Way p r q → L' q = L q
  on : ∀ q, Way p r q → (L' q = true ↔ Alive L f' q)
theorem way_nil (p q : Path) : ¬ Way p [] q := fun ⟨h1, h2, h3⟩ => by
  rw [List.append_nil] at h3
  exact h2 (List.IsPrefix.eq_of_length_le h3 h1.length_le)
theorem way_cons {p r q : Path} {u : UInt8} : Way p (u :: r) q ↔ q = p ++ [u] ∨ Way (p ++ [u]) r q := by
  have e : p ++ u :: r = (p ++ [u]) ++ r := by rw [List.append_assoc]; rfl
  constructor
  · rintro ⟨⟨a, rfl⟩, h2, h3⟩
    cases a with
    | nil => exact absurd (List.append_nil _) h2
    | cons v a =>
      rw [e] at h3
      have h4 : p ++ [v] <+: p ++ [u] ++ r := by
        refine List.IsPrefix.trans ?_ h3
        exact ⟨a, by rw [List.append_assoc]; rfl⟩
      rw [List.append_assoc] at h4
      have h5 := (List.prefix_append_right_inj p).1 h4
      obtain ⟨b, h5⟩ := h5
      simp only [List.cons_append, List.nil_append, List.cons.injEq] at h5
      obtain ⟨rfl, _⟩ := h5
      by_cases ha : a = []
      · subst ha; exact .inl rfl
      · refine .inr ⟨⟨a, by rw [List.append_assoc]; rfl⟩, fun e2 => ha ?_, h3⟩
        have := congrArg List.length e2
        simp at this
        exact this
  · rintro (rfl | ⟨⟨a, rfl⟩, h2, h3⟩)
    · exact ⟨⟨[u], rfl⟩, Ne.symm (ne_snoc _ _), ⟨r, by rw [e]⟩⟩
    · refine ⟨⟨u :: a, by rw [List.append_assoc]; rfl⟩, fun e2 => ?_, by rw [e]; exact h3⟩
      have := congrArg List.length e2
      simp at this
/-- The child on the way, dropped and looked at: taken away or not. -/
theorem dropped_cons {L L1 : Path → Bool} {f f' : Path → Bd} {p r : Path} {u : UInt8} (hdown : ∀ s v, L (s ++ [v]) = true → L s = true) (hL : L (p ++ [u]) = true) (h : Dropped L L1 f' (p ++ [u]) r) (hf : f' = upd f (p ++ u :: r) Bd.no)
    (halive : ∀ q, L q = true → p <+: q → q ≠ p → Alive L f q) (L2 : Path → Bool) (h2 : ∀ q, q ≠ p ++ [u] → L2 q = L1 q) (h2u : L2 (p ++ [u]) = true ↔ ¬ ((f' (p ++ [u])).kind = 0 ∧ ∀ v, L1 (p ++ [u] ++ [v]) = false)) :
    Dropped L L2 f' p (u :: r) := by
  have hdn : ∀ (t s : Path), L (s ++ t) = true → L s = true := by
    intro t
    induction t with
    | nil => intro s h; rwa [List.append_nil] at h
    | cons v t ih => intro s h; exact hdown s v (ih (s ++ [v]) (by rw [List.append_assoc]; exact h))
  refine ⟨fun q hq => ?_, fun q hq => ?_⟩
  · have hne : q ≠ p ++ [u] := fun e => hq (way_cons.2 (.inl e))
    rw [h2 q hne]
    exact h.off q (fun e => hq (way_cons.2 (.inr e)))
  · rcases way_cons.1 hq with rfl | hw
    · rw [h2u]
      constructor
      · intro hn
        by_cases hk : (f' (p ++ [u])).kind = 0
        · have : ∃ v, L1 (p ++ [u] ++ [v]) = true := by
            refine Classical.byContradiction fun hno => hn ⟨hk, fun v => ?_⟩
            cases hv : L1 (p ++ [u] ++ [v]) with
            | false => rfl
            | true => exact absurd ⟨v, hv⟩ hno
          obtain ⟨v, hv⟩ := this
          by_cases hw : Way (p ++ [u]) r (p ++ [u] ++ [v])
          · obtain ⟨t, h3, h4⟩ := (h.on _ hw).1 hv
            exact ⟨[v] ++ t, by rw [← List.append_assoc]; exact h3, by rw [← List.append_assoc]; exact h4⟩
          · rw [h.off _ hw] at hv
            obtain ⟨t, h3, h4⟩ := halive _ hv ⟨[u] ++ [v], by rw [← List.append_assoc]⟩ (fun e => by have := congrArg List.length e; simp at this)
            refine ⟨[v] ++ t, by rw [← List.append_assoc]; exact h3, ?_⟩
            rw [← List.append_assoc, hf, upd_other _ _ (fun e => hw ⟨⟨[v], rfl⟩, Ne.symm (ne_snoc _ _), ⟨t, by rw [e]; rw [List.append_assoc]; rfl⟩⟩)]
            exact h4
        · exact ⟨[], by rw [List.append_nil]; exact hL, by rw [List.append_nil]; exact hk⟩
      · rintro ⟨t, h3, h4⟩ ⟨h5, h6⟩
        cases t with
        | nil => rw [List.append_nil] at h4; exact h4 h5
        | cons v t =>
          have e : p ++ [u] ++ v :: t = p ++ [u] ++ [v] ++ t := by simp
          rw [e] at h3 h4
          have h7 := h6 v
          by_cases hw : Way (p ++ [u]) r (p ++ [u] ++ [v])
          · rw [(h.on _ hw).2 ⟨t, h3, h4⟩] at h7
            cases h7
          · rw [h.off _ hw, hdn t _ h3] at h7
            cases h7
    · rw [h2 q hw.2.1]
      exact h.on q hw
theorem em_true {s : ByteArray} (h : s.size = 0) : s.toList.isEmpty = true := by
  rw [← decide_eq_emptyBytes s]
  refine decide_eq_true ?_
  apply bytes_inj
  have h0 : s.data.toList = [] := List.eq_nil_of_length_eq_zero (by rw [data_len]; exact h)
  rw [h0]
  rfl
theorem em_false {s : ByteArray} (h : 0 < s.size) : s.toList.isEmpty = false := by
  rw [← decide_eq_emptyBytes s]
  refine decide_eq_false ?_
  rintro rfl
  exact absurd h (by decide)
theorem drop_one (r : ByteArray) : (r.extract 1 r.size).data.toList = r.data.toList.drop 1 := Lib.extract_to_end r 1
theorem cons_of (r : ByteArray) (h : 0 < r.size) : r.data.toList = r[0] :: (r.extract 1 r.size).data.toList := by
  rw [drop_one]
  have : 0 < r.data.toList.length := by rw [data_len]; exact h
  rw [← List.drop_zero (l := r.data.toList), List.drop_eq_getElem_cons this]
  rfl
/-- What drop leaves. -/
def DropPost (w : World) (town : Nat → Prop) (L : Path → Bool) (ν : Path → Nat) (μ : Path → Option Nat) (f : Path → Bd) (p r : Path) (e : Ending) (w' : World) : Prop :=
  ∃ (L' : Path → Bool) (ans : Bool), e = .returned (.bool ans) ∧ Tr w' town L' ν μ (upd f (p ++ r) Bd.no) ∧ Fr town w w' ∧ Dropped L L' (upd f (p ++ r) Bd.no) p r ∧ (ans = true ↔ (upd f (p ++ r) Bd.no p).kind = 0 ∧ ∀ u, L' (p ++ [u]) = false)
theorem DropPost.mk' {w w' : World} {town : Nat → Prop} {L L' : Path → Bool} {ν : Path → Nat} {μ : Path → Option Nat} {f : Path → Bd} {p r : Path} {e : Ending} {ans : Bool} {fk : Int} (he : e = .returned (.bool ans)) (hT : Tr w' town L' ν μ (upd f (p ++ r) Bd.no)) (hF : Fr town w w') (hD : Dropped L L' (upd f (p ++ r) Bd.no) p r)
    (hfk : (upd f (p ++ r) Bd.no p).kind = fk) (ha : ans = true ↔ fk = 0 ∧ ∀ u, L' (p ++ [u]) = false) : DropPost w town L ν μ f p r e w' := ⟨L', ans, he, hT, hF, hD, by rw [hfk]; exact ha⟩
set_option maxRecDepth 100000 in
set_option maxHeartbeats 1000000 in
theorem drop_calls : ∀ (n : Nat) (r : ByteArray) (hr : r.size = n) (hn : n ≤ 1000000) {w : World} {town : Nat → Prop} {L : Path → Bool} {ν : Path → Nat} {μ : Path → Option Nat} {f : Path → Bd} (hT : Tr w town L ν μ f) (p : Path) (hL : L (p ++ r.data.toList) = true) (hLp : L p = true)
    (halive : ∀ q, L q = true → p <+: q → q ≠ p → Alive L f q), Calls Try.prog 44 #[.pointer (some ⟨ν p, 0, none⟩), .string r] w (DropPost w town L ν μ f p r.data.toList) := by
  intro n
  induction n with
  | zero =>
    intro r hr hn w town L ν μ f hT p hL hLp halive
    have hrn : r.data.toList = [] := List.eq_nil_of_length_eq_zero (by rw [data_len]; exact hr)
    rw [hrn]
    have hf0 := hT.fz hLp 0
    have hf1 := hT.fz hLp 1
    have hf2 := hT.fz hLp 2
    have hc0 := hT.c0 hLp
    have hc1 := hT.c1 hLp
    have hc2 := hT.c2 hLp
    have hc3 := hT.c3 hLp
    have HT := Aside0.mk hT
    have HLP := Aside0.mk hLp
    have hbx := hT.box p hLp
    have hbx' := blk_put (blk_put (blk_put hbx 0 (.int .i64 0) rfl) 1 (.string ⟨#[]⟩) rfl) 2 (.string ⟨#[]⟩) rfl
    have HT' : Aside0 (Tr (((w.setCell ⟨ν p, 0, none⟩ (.int .i64 0)).setCell ⟨ν p, 1, none⟩ (.string ⟨#[]⟩)).setCell ⟨ν p, 2, none⟩ (.string ⟨#[]⟩)) town L ν μ (upd f p Bd.no)) := ⟨hT.bind hLp Bd.no hbx' (fun k hk => ((Below.heap_setCell _ _ _ k hk).trans (Below.heap_setCell _ _ _ k hk)).trans (Below.heap_setCell _ _ _ k hk))⟩
    obtain ⟨cn, hln, hce⟩ := HT'.out.len hLp
    have hln0 := hln 0
    have HCE := Aside0.mk hce
    have HFR := Aside0.mk ((((Fr.refl town w).set (p := ⟨ν p, 0, none⟩) (.inl (hT.own1 p hLp)) (.int .i64 0)).set (p := ⟨ν p, 1, none⟩) (.inl (hT.own1 p hLp)) (.string ⟨#[]⟩)).set (p := ⟨ν p, 2, none⟩) (.inl (hT.own1 p hLp)) (.string ⟨#[]⟩))
    have hd0 : (((w.setCell ⟨ν p, 0, none⟩ (.int .i64 0)).setCell ⟨ν p, 1, none⟩ (.string ⟨#[]⟩)).setCell ⟨ν p, 2, none⟩ (.string ⟨#[]⟩)).cell? ⟨ν p, 0, none⟩ = some (.int .i64 0) := (blk_cell hbx' 0).trans rfl
    have hd3 : (((w.setCell ⟨ν p, 0, none⟩ (.int .i64 0)).setCell ⟨ν p, 1, none⟩ (.string ⟨#[]⟩)).setCell ⟨ν p, 2, none⟩ (.string ⟨#[]⟩)).cell? ⟨ν p, 3, none⟩ = some (.map (μ p)) := (blk_cell hbx' 3).trans rfl
    have hln1 : ∀ ty, (Builtin.len_ #[86] ty #[.map (μ p)]).run Try.prog (((w.setCell ⟨ν p, 0, none⟩ (.int .i64 0)).setCell ⟨ν p, 1, none⟩ (.string ⟨#[]⟩)).setCell ⟨ν p, 2, none⟩ (.string ⟨#[]⟩)) = .ok (.int .i64 (cn : Int)) (((w.setCell ⟨ν p, 0, none⟩ (.int .i64 0)).setCell ⟨ν p, 1, none⟩ (.string ⟨#[]⟩)).setCell ⟨ν p, 2, none⟩ (.string ⟨#[]⟩)) := hln0
    have hem := em_true hr
    clear hT hL hLp halive hbx hbx' hln hln0 hce hrn hr
    go_enter Try.func44, Try.ntmps44
    go_wp2
    go_ret
    refine ⟨L, ((cn : Int) == 0), rfl, by rw [List.append_nil]; exact HT'.out, HFR.out, ⟨fun q _ => rfl, fun q hq => absurd hq (way_nil p q)⟩, ?_⟩
    rw [List.append_nil, upd_same]
    constructor
    · intro h
      exact ⟨rfl, HCE.out.1 (by simpa using h)⟩
    · rintro ⟨_, h⟩
      have := HCE.out.2 h
      simp [this]
  | succ n ih =>
    intro r hr hn w town L ν μ f hT p hL hLp halive
    have hpos : 0 < r.size := by omega
    have hcons := cons_of r hpos
    rw [hcons] at hL ⊢
    have hLu : L (p ++ [r[0]]) = true := by
      have hdn : ∀ (t s : Path), L (s ++ t) = true → L s = true := by
        intro t
        induction t with
        | nil => intro s h; rwa [List.append_nil] at h
        | cons v t ih => intro s h; exact hT.down s v (ih (s ++ [v]) (by rw [List.append_assoc]; exact h))
      exact hdn (r.extract 1 r.size).data.toList _ (by rw [List.append_assoc]; exact hL)
    have hsz : (r.extract 1 r.size).size = n := by rw [← data_len, drop_one, List.length_drop, data_len]; omega
    have HLU := Aside0.mk hLu
    have HIH := Aside0.mk (fun (W : World) (hW : Tr W town L ν μ f) => ih (r.extract 1 r.size) hsz (by omega) hW (p ++ [r[0]]) (by rw [List.append_assoc]; exact hL) hLu (fun q h1 h2 h3 => halive q h1 (List.IsPrefix.trans ⟨[r[0]], rfl⟩ h2) (fun e => by
      subst e
      have := h2.length_le
      simp at this
      omega)))
    have hc3 := hT.c3 hLp
    have hlk : (Instr.lookup 86 (.map (μ p)) (.int .u8 (r[0].toNat : Int)) false).run Try.prog w.drew = .ok (.pointer (some ⟨ν (p ++ [r[0]]), 0, none⟩)) w.drew := by
      have h := hT.look hLp r[0] 1
      rw [hLu, if_pos rfl] at h
      exact h
    have HT := Aside0.mk hT
    have HLP := Aside0.mk hLp
    have HAL := Aside0.mk halive
    have hem := em_false hpos
    have hsz1 : 1 ≤ r.size := hpos
    have hsz2 : (1 : Int) ≤ (r.size : Int) := by omega
    have hsz3 : decide ((r.size : Int) < 1) = false := by rw [decide_eq_false_iff_not]; omega
    clear hT hL hLp hLu halive ih hcons hr hsz
    go_enter Try.func44, Try.ntmps44
    go_wp2
    go_still_tail 9, (by kernel_rfl)
    change wpList _ _ _ _ _ w.drew
    have HT2 : Aside0 (Tr w.drew town L ν μ f) := ⟨HT.out.same (fun _ _ _ => rfl)⟩
    have HFD : Aside0 (Fr town w w.drew) := ⟨Fr.drewN (Fr.refl town w) 1⟩
    clear hlk hc3
    generalize w.drew = W at HT2 HFD ⊢
    go_wp2_with fail
    refine (HIH.out _ HT2.out).mono ?_
    rintro e W1 ⟨L1, b1, rfl, hT1, hF1, hD1, hA1⟩
    rw [show p ++ [r[0]] ++ (r.extract 1 r.size).data.toList = p ++ r[0] :: (r.extract 1 r.size).data.toList by rw [List.append_assoc]; rfl] at hT1 hD1 hA1
    have HW1 := Aside0.mk hT1
    have HF1 := Aside0.mk hF1
    have HD1 := Aside0.mk hD1
    have HA1 := Aside0.mk hA1
    have hL1 : L1 p = true := (hD1.off p (fun hw => by have := hw.1.length_le; simp at this; omega)).trans HLP.out
    have HL1 := Aside0.mk hL1
    have hc0 := hT1.c0 hL1
    have hc3 := hT1.c3 hL1
    obtain ⟨b, hm⟩ : ∃ b, μ p = some b := by
      cases hm : μ p with
      | some b => exact ⟨b, rfl⟩
      | none =>
        have := HT.out.leaf p HLP.out hm r[0]
        rw [HLU.out] at this
        cases this
    have HM := Aside0.mk hm
    have hup : upd f (p ++ r[0] :: (r.extract 1 r.size).data.toList) Bd.no p = f p := upd_other _ _ (fun e => by
      have := congrArg List.length e
      simp at this)
    rw [hup] at hc0
    have HUP := Aside0.mk hup
    obtain ⟨fk, hfk⟩ : ∃ fk, fk = (f p).kind := ⟨_, rfl⟩
    rw [← hfk] at hc0
    have HFK := Aside0.mk hfk
    clear hup hfk
    cases b1
    · obtain ⟨cn, hln, hce⟩ := hT1.len hL1
      have hln0 : ∀ ty, (Builtin.len_ #[86] ty #[.map (μ p)]).run Try.prog W1 = .ok (.int .i64 (cn : Int)) W1 := hln 0
      have HCE := Aside0.mk hce
      have HQ : Aside0 (L1 (p ++ [r[0]]) = true ↔ ¬ ((upd f (p ++ r[0] :: (r.extract 1 r.size).data.toList) Bd.no (p ++ [r[0]])).kind = 0 ∧ ∀ v, L1 (p ++ [r[0]] ++ [v]) = false)) := ⟨by
        constructor
        · intro _ h
          have := hA1.2 h
          cases this
        · intro _
          exact (hD1.off _ (fun hw => hw.2.1 rfl)).trans HLU.out⟩
      clear hT1 hF1 hD1 hA1 hL1 hm hln hce
      by_cases hk : fk = 0
      · have hk' : (fk == 0) = true := by simpa using hk
        clear hk
        go_wp2
        go_ret
        refine DropPost.mk' (ans := ((cn : Int) == 0)) rfl HW1.out ((HFD.out.trans HF1.out (fun _ _ h => h))) (dropped_cons HT.out.down HLU.out HD1.out rfl HAL.out L1 (fun _ _ => rfl) HQ.out) (fk := fk) (by rw [HUP.out, HFK.out]) ?_
        constructor
        · intro h
          exact ⟨by simpa using hk', HCE.out.1 (by simpa using h)⟩
        · rintro ⟨_, h⟩
          have := HCE.out.2 h
          simp [this]
      · have hk' : (fk == 0) = false := by simpa using hk
        have HKN := Aside0.mk hk
        clear hk
        go_wp2
        go_ret
        refine DropPost.mk' (ans := false) rfl HW1.out ((HFD.out.trans HF1.out (fun _ _ h => h))) (dropped_cons HT.out.down HLU.out HD1.out rfl HAL.out L1 (fun _ _ => rfl) HQ.out) (fk := fk) (by rw [HUP.out, HFK.out]) ?_
        constructor
        · intro h; cases h
        · rintro ⟨h, _⟩
          exact absurd h HKN.out
    · obtain ⟨c1, hM1⟩ := hT1.chd p b hL1 hm
      have hLU1 : L1 (p ++ [r[0]]) = true := (hD1.off _ (fun hw => hw.2.1 rfl)).trans HLU.out
      obtain ⟨W2, hdel, hM2, hg2, hz2⟩ := (hM1.drewN 1).drop key5 Try.underlying86 (keyOf5 r[0]) 0
      have hT2 := (hT1.same (w' := W1.drewN 1) (fun _ _ _ => rfl)).delChild hL1 hm (hA1.1 rfl).2 hM2 hg2
      have hdel' : (Builtin.delete_ #[86, 5] 0 #[.map (μ p), .int .u8 (r[0].toNat : Int)]).run Try.prog W1.drew = .ok (.tuple #[]) W2 := by rw [hm]; exact hdel
      have HW2 := Aside0.mk hT2
      have hL2 : upd L1 (p ++ [r[0]]) false p = true := by rw [upd_other _ _ (ne_snoc _ _)]; exact hL1
      obtain ⟨cn, hln, hce⟩ := hT2.len hL2
      have hln0 : ∀ ty, (Builtin.len_ #[86] ty #[.map (μ p)]).run Try.prog W2 = .ok (.int .i64 (cn : Int)) W2 := hln 0
      have HCE := Aside0.mk hce
      have hd0 := hT2.c0 hL2
      have hd3 := hT2.c3 hL2
      rw [HUP.out, ← HFK.out] at hd0
      have HF2 : Aside0 (Fr town W1 W2) := ⟨(Fr.drewN (Fr.refl town W1) 1).grown hg2 (.inl (hT1.own2 p b hL1 hm))⟩
      have HQ : Aside0 (upd L1 (p ++ [r[0]]) false (p ++ [r[0]]) = true ↔ ¬ ((upd f (p ++ r[0] :: (r.extract 1 r.size).data.toList) Bd.no (p ++ [r[0]])).kind = 0 ∧ ∀ v, L1 (p ++ [r[0]] ++ [v]) = false)) := ⟨by
        rw [upd_same]
        constructor
        · intro h; cases h
        · intro h
          exact absurd (hA1.1 rfl) h⟩
      clear hT1 hF1 hD1 hA1 hL1 hm hln hce hM1 hM2 hg2 hz2 hT2 hL2 hdel hLU1
      go_wp2
      go_region
      clear hdel' hc0 hc3
      by_cases hk : fk = 0
      · have hk' : (fk == 0) = true := by simpa using hk
        clear hk
        go_wp2
        go_ret
        refine DropPost.mk' (ans := ((cn : Int) == 0)) rfl HW2.out ((HFD.out.trans HF1.out (fun _ _ h => h)).trans HF2.out (fun _ _ h => h)) (dropped_cons HT.out.down HLU.out HD1.out rfl HAL.out (upd L1 (p ++ [r[0]]) false) (fun q hq => upd_other _ _ hq) HQ.out) (fk := fk) (by rw [HUP.out, HFK.out]) ?_
        constructor
        · intro h
          exact ⟨by simpa using hk', HCE.out.1 (by simpa using h)⟩
        · rintro ⟨_, h⟩
          have := HCE.out.2 h
          simp [this]
      · have hk' : (fk == 0) = false := by simpa using hk
        have HKN := Aside0.mk hk
        clear hk
        go_wp2
        go_ret
        refine DropPost.mk' (ans := false) rfl HW2.out ((HFD.out.trans HF1.out (fun _ _ h => h)).trans HF2.out (fun _ _ h => h)) (dropped_cons HT.out.down HLU.out HD1.out rfl HAL.out (upd L1 (p ++ [r[0]]) false) (fun q hq => upd_other _ _ hq) HQ.out) (fk := fk) (by rw [HUP.out, HFK.out]) ?_
        constructor
        · intro h; cases h
        · rintro ⟨h, _⟩
          exact absurd h HKN.out
end Go.Proofs.Ytcnkgodooignpaa
