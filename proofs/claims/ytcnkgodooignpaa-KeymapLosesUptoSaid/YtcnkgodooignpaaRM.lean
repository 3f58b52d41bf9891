/-
  The document's keymap in memory: find.
-/
import Derived.Test.YtcnkgodooignpaaRL
import Derived.WalkLawsBesides
namespace Go.Proofs.Ytcnkgodooignpaa
open Go.RowKit Go.WideShapes Go.Proofs.YtcnkgodooignpaaW.PrintWords Go.Proofs.YtcnkgodooignpaaW.PrintLast Go.Proofs.YtcnkgodooignpaaW.PrintMore Go.Proofs.Ytcnkgodooignpaa.PAll
set_option linter.unusedVariables false
set_option linter.unusedSimpArgs false
attribute [local go_sem] max2_int min2_int max_two min_two max_three min_three max_four min_four
/-- The document's keymap lies at block g; its slice is v. -/
structure RM (w : World) (base g : Nat) (v : Value) (L : List S84) : Prop where
  box : w.heap[g]? = some (.cells #[v] 79 (0, 0))
  row : Kd.R k84 84 w base (fun _ => True) v L
theorem R84_one {w : World} {base : Nat} {ok : Nat → Prop} {v : Value} {xs : List S84} (h : Kd.R k84 84 w base ok v xs) : Kd.R k84 84 w base (fun k => some k = v.ownBlock) v xs := by
  obtain ⟨_, inner, ho, hr⟩ := h
  refine ⟨fun k hk => hk.symm, inner, ho, hr.imp_ (fun p cs hp => ?_)⟩
  rw [k84_openM hp]
  exact k84_mkM _ _ _ _
theorem R84_fr {w w' : World} {base : Nat} {ok : Nat → Prop} {v : Value} {xs : List S84} {N : Nat → Prop} (h : Kd.R k84 84 w base ok v xs) (hf : Fr N w w') (hN : ∀ k, some k = v.ownBlock → ¬ N k) : Kd.R k84 84 w' base (fun _ => True) v xs :=
  Kd.R_mono (R_fr (R84_one h) hf hN) (fun _ _ => trivial)
theorem RM.below {w w' : World} {base g : Nat} {v : Value} {L : List S84} (h : RM w base g v L) (hb : Below w.heap.size w w') : RM w' base g v L := ⟨blk_below h.box hb, Kd.R_below h.row hb⟩
theorem RM.fr {w w' : World} {base g : Nat} {v : Value} {L : List S84} {N : Nat → Prop} (h : RM w base g v L) (hf : Fr N w w') (hg : ¬ N g) (hN : ∀ k, some k = v.ownBlock → ¬ N k) : RM w' base g v L := ⟨hf.blk h.box hg, R84_fr h.row hf hN⟩
theorem rd84_nat (xs : List S84) (i : Nat) (h : i < xs.length) : rd_T84 xs (i : Int) = xs[i] := by
  simp [rd_T84, List.getD, List.getElem?_eq_getElem h]
def ltS (a b : ByteArray) : Bool := Op.bytesLess a.toList b.toList
/-- How many sequences are below this one; whether it is there. -/
def findN (L : List S84) (s : ByteArray) : Nat := (L.takeWhile fun x => ltS x.f0 s).length
def findB (L : List S84) (s : ByteArray) : Bool := (L[findN L s]?).any fun x => x.f0.toList == s.toList
theorem findN_le (L : List S84) (s : ByteArray) : findN L s ≤ L.length := by
  unfold findN
  exact (List.takeWhile_prefix _).length_le
theorem findN_eq : ∀ (L : List S84) (s : ByteArray) (k : Nat), k ≤ L.length → (∀ (i : Nat) (h : i < L.length), i < k → ltS L[i].f0 s = true) → (∀ h : k < L.length, ltS L[k].f0 s = false) → findN L s = k
  | [], s, k, hk, _, _ => by
    have : k = 0 := by simpa using hk
    subst this
    rfl
  | x :: L, s, 0, _, _, h2 => by
    have := h2 (by simp)
    simp only [List.getElem_cons_zero] at this
    unfold findN
    rw [List.takeWhile_cons, this]
    rfl
  | x :: L, s, k + 1, hk, h1, h2 => by
    have h0 := h1 0 (by simp) (by omega)
    simp only [List.getElem_cons_zero] at h0
    have ih := findN_eq L s k (by simpa using hk) (fun i h hi => by have := h1 (i + 1) (by simp; omega) (by omega); simpa using this) (fun h => by have := h2 (by simp; omega); simpa using this)
    unfold findN at ih ⊢
    rw [List.takeWhile_cons, h0]
    simp [ih]
theorem findB_end {L : List S84} {s : ByteArray} (h : findN L s = L.length) : findB L s = false := by
  unfold findB
  rw [h, List.getElem?_eq_none (Nat.le_refl _)]
  rfl
theorem findB_at {L : List S84} {s : ByteArray} {k : Nat} (hk : k < L.length) (h : findN L s = k) : findB L s = (L[k].f0.toList == s.toList) := by
  unfold findB
  rw [h, List.getElem?_eq_getElem hk]
  rfl
set_option maxHeartbeats 1000000 in
theorem find_calls {w : World} {base g : Nat} {v : Value} {L : List S84} (h : RM w base g v L) (hn : L.length ≤ 1000000000) (s : ByteArray) :
    Calls Try.prog 53 #[.pointer (some ⟨g, 0, none⟩), .string s] w fun e w' => e = .returned (.tuple #[.int .i64 ((findN L s : Nat) : Int), .bool (findB L s)]) ∧ ∃ n, w' = w.drewN n := by
  have c0 : w.cell? ⟨g, 0, none⟩ = some v := (blk_cell h.box 0).trans rfl
  obtain ⟨A, cp, rfl, hcp, hC⟩ := Kd.R_reads h.row
  clear h
  go_enter Try.func53, Try.ntmps53
  go_wp2
  go_loopw [6] (fun i wr => ∃ k : Nat, k ≤ L.length ∧ i = .int .i64 (k : Int) ∧ Aside0 (∀ (i : Nat) (h : i < L.length), i < k → ltS L[i].f0 s = true) ∧ wr = w) (fun i wr => L.length - (intOf i).toNat)
  case atStart => exact ⟨0, Nat.zero_le _, rfl, ⟨fun _ _ h => by omega⟩, rfl⟩
  case round =>
    obtain ⟨k, hk, rfl, HB, rfl⟩ := hrel
    by_cases hlt : k < L.length
    · obtain ⟨ad, rfl, hx0, hx1, hx2, hx3⟩ := at_T84 hC (k : Int) (by omega) (by omega)
      rw [rd84_nat _ _ hlt, Int.toNat_natCast] at hx0 hx1 hx2 hx3
      have HLT := Aside0.mk hlt
      cases hl : ltS L[k].f0 s with
      | true =>
        have HB2 := Aside0.mk (fun (i : Nat) (h : i < L.length) (hi : i < k + 1) => (by
          rcases Nat.lt_or_ge i k with h1 | h1
          · exact HB.out i h h1
          · have : i = k := by omega
            subst this
            exact hl : ltS L[i].f0 s = true))
        have hl' : Op.bytesLess L[k].f0.toList s.toList = true := hl
        clear hl
        generalize L[k] = x at hx0 hx1 hx2 hx3 hl'
        go_wp2
        go_roundw
        case rel => exact ⟨k + 1, by omega, by simp, HB2, trivial⟩
        case measure => simp [intOf]; omega
      | false =>
        have HN := Aside0.mk (findN_eq L s k hk HB.out (fun _ => hl))
        have HE := Aside0.mk (findB_at hlt HN.out)
        have hl' : Op.bytesLess L[k].f0.toList s.toList = false := hl
        have hd : decide (k < L.length) = true := decide_eq_true hlt
        have hi0 : (0 : Int) ≤ (k : Int) := by omega
        have hi1 : (k : Int) < (L.length : Int) := by omega
        clear hl
        generalize L[k] = x at hx0 hx1 hx2 hx3 hl' HE
        go_wp2
        go_quiet (fail)
        go_wp2
        go_ret2
        exact ⟨by rw [HN.out, HE.out]; rfl, nq, rfl⟩
    · obtain rfl : k = L.length := by omega
      have HN := Aside0.mk (findN_eq L s L.length hk HB.out (fun h => absurd h (Nat.lt_irrefl _)))
      have HE := Aside0.mk (findB_end HN.out)
      have hd : decide (L.length < L.length) = false := by simp
      clear hlt
      go_wp2
      go_quiet (fail)
      go_wp2
      go_ret2
      exact ⟨by rw [HN.out, HE.out]; rfl, nq, rfl⟩
end Go.Proofs.Ytcnkgodooignpaa
